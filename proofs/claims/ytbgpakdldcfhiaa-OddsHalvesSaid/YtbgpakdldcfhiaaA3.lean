/- Plain functions, and the calls that give them. -/
import Derived.Test.YtbgpakdldcfhiaaA2
set_option linter.all false
set_option linter.unusedVariables false
set_option linter.unnecessarySimpa false
set_option linter.unusedSimpArgs false
namespace Go.V
open Go Go.Proofs
/-! rejoinder/odds.run -/
def odds_run_l0 (N : Nat) (aProps : Int) (aGuard : List Int) (aNodes : List Nd) : Nat → (List (List Int)) → Int → Option (List (List Int))
  | 0, _, _ => none
  | m104 + 1, x65, x68 =>
    if x68 < (((List.length aGuard) : Nat) : Int) then
      ask (idx x68 (List.length aGuard)) <|
      Option.bind (guard_Table N aProps aNodes (List.getD aGuard (Int.toNat x68) 0)) fun r116 =>
      ask (List.length x65 + List.length ([r116.1] : List (List Int)) ≤ 1000000000) <|
      ask (in64 (x68 + 1)) <|
      odds_run_l0 N aProps aGuard aNodes m104 (x65 ++ ([r116.1] : List (List Int))) (x68 + 1)
    else
      some x65
def odds_run_j4 (N : Nat) (aAccept : List Bool) (out : Bool) (x105 : List (List Int)) (x618 : Int) (x747 : Int) : Option Bool :=
    if out = true then
      ask (idx (List.getD (List.getD x105 (Int.toNat x618) []) (Int.toNat x747) 0) (List.length aAccept)) <|
      some (List.getD aAccept (Int.toNat (List.getD (List.getD x105 (Int.toNat x618) []) (Int.toNat x747) 0)) false)
    else
      some false
def odds_run_l3 (N : Nat) (aAccept : List Bool) (out : Bool) (r22 : List Nat) (x105 : List (List Int)) (now352 : List Nat) (x618 : Int) : Nat → (List Nat) → Nat → Int → Option ((List Nat) × Nat)
  | 0, _, _, _ => none
  | m780 + 1, next745, taken746, x747 =>
    if x747 < (((List.length (List.getD x105 (Int.toNat x618) [])) : Nat) : Int) then
      ask (idx x747 (List.length (List.getD x105 (Int.toNat x618) []))) <|
      ask (idx x747 (List.length r22)) <|
      Option.bind (fMul (List.getD now352 (Int.toNat x618) 0) (List.getD r22 (Int.toNat x747) 0)) fun f794 =>
      Option.bind (odds_run_j4 N aAccept out x105 x618 x747) fun x802 =>
      if x802 = true then
        Option.bind (fAdd taken746 f794) fun f813 =>
        ask (in64 (x747 + 1)) <|
        odds_run_l3 N aAccept out r22 x105 now352 x618 m780 next745 f813 (x747 + 1)
      else
        ask (idx (List.getD (List.getD x105 (Int.toNat x618) []) (Int.toNat x747) 0) (List.length next745)) <|
        Option.bind (fAdd (List.getD next745 (Int.toNat (List.getD (List.getD x105 (Int.toNat x618) []) (Int.toNat x747) 0)) 0) f794) fun f820 =>
        ask (in64 (x747 + 1)) <|
        odds_run_l3 N aAccept out r22 x105 now352 x618 m780 (List.set next745 (Int.toNat (List.getD (List.getD x105 (Int.toNat x618) []) (Int.toNat x747) 0)) f820) taken746 (x747 + 1)
    else
      some (next745, taken746)
def odds_run_l2 (N : Nat) (aAccept : List Bool) (out : Bool) (r22 : List Nat) (x105 : List (List Int)) (now352 : List Nat) : Nat → (List Nat) → Nat → Int → Option ((List Nat) × Nat)
  | 0, _, _, _ => none
  | m698 + 1, next616, taken617, x618 =>
    if x618 < (((List.length now352) : Nat) : Int) then
      ask (idx x618 (List.length now352)) <|
      ask (idx x618 (List.length x105)) <|
      Option.bind (odds_run_l3 N aAccept out r22 x105 now352 x618 N next616 taken617 0) fun x781 =>
      ask (in64 (x618 + 1)) <|
      odds_run_l2 N aAccept out r22 x105 now352 m698 x781.1 x781.2 (x618 + 1)
    else
      some (next616, taken617)
def odds_run_l1 (N : Nat) (aAccept : List Bool) (n : Int) (out : Bool) (r22 : List Nat) (x105 : List (List Int)) : Nat → (List Nat) → (List Nat) → Nat → Int → Option ((List Nat) × Nat)
  | 0, _, _, _, _ => none
  | m529 + 1, now352, next355, taken357, x358 =>
    if x358 < n then
      Option.bind (odds_run_l2 N aAccept out r22 x105 now352 N (List.replicate (List.length next355) (0 : Nat)) taken357 0) fun x699 =>
      ask (in64 (x358 + 1)) <|
      odds_run_l1 N aAccept n out r22 x105 m529 x699.1 now352 x699.2 (x358 + 1)
    else
      some (now352, taken357)
def odds_run (N : Nat) (aProps : Int) (aAccept : List Bool) (aGuard : List Int) (aNodes : List Nd) (p : List Nat) (n : Int) (out : Bool) : Option ((List Nat) × Nat) :=
  Option.bind (odds_letters N p) fun r22 =>
  Option.bind (odds_run_l0 N aProps aGuard aNodes N [] 0) fun x105 =>
  ask (0 ≤ (((List.length aAccept) : Nat) : Int) ∧ (((List.length aAccept) : Nat) : Int) ≤ 1000000000) <|
  ask (idx (0 : Int) (List.length (List.replicate (Int.toNat (((List.length aAccept) : Nat) : Int)) (0 : Nat)))) <|
  Option.bind (odds_run_l1 N aAccept n out r22 x105 N (List.set (List.replicate (Int.toNat (((List.length aAccept) : Nat) : Int)) (0 : Nat)) (Int.toNat (0 : Int)) 4607182418800017408) (List.replicate (Int.toNat (((List.length aAccept) : Nat) : Int)) (0 : Nat)) 0 0) fun x530 =>
  some (x530.1, x530.2)
set_option maxRecDepth 100000 in
set_option maxHeartbeats 4000000 in
theorem odds_run_calls {N : Nat} {S Fa : Nat → Prop} {w0 : World} {r : (List Nat) × Nat} (A1 : Option Addr) (c2 : Nat) (A5 : Option Addr) (c6 : Nat) (A9 : Option Addr) (c10 : Nat) (A13 : Option Addr) (c14 : Nat) (aProps : Int) (aAccept : List Bool) (aGuard : List Int) (aNodes : List Nd) (p : List Nat) (n : Int) (out : Bool) (hk3 : List.length aAccept ≤ c2) (hk7 : List.length aGuard ≤ c6) (hk11 : List.length aNodes ≤ c10) (hk15 : List.length p ≤ c14) (H : Hp S Fa w0 w0 [.ro false cBool A1 aAccept, .ro false (cInt .i64) A5 aGuard, .ro false cNode A9 aNodes, .ro false cFl A13 p]) (hP : odds_run N aProps aAccept aGuard aNodes p n out = some r) :
    Calls Try.prog 22 #[.agg #[.int .i64 aProps, .slice A1 (List.length aAccept) c2, .slice A5 (List.length aGuard) c6, .slice A9 (List.length aNodes) c10], .slice A13 (List.length p) c14, .int .i64 n, .bool out] w0 fun e w' => ∃ v, e = .returned v ∧ ∃ (A831 : Option Addr) (c832 : Nat), v = .tuple #[.slice A831 (List.length r.1) c832, .float .f64 r.2] ∧ Hp S Fa w0 w' [.row true cFl 33 A831 c832 r.1] := by
 refine enterV (n := 111) Try.func22 rfl rfl rfl ?_
 intro a E
 replace E := E.pick [(0, .agg #[.int .i64 aProps, .slice A1 (List.length aAccept) c2, .slice A5 (List.length aGuard) c6, .slice A9 (List.length aNodes) c10]), (1, .slice A13 (List.length p) c14), (2, .int .i64 n), (3, .bool out)] ⟨rfl, rfl, rfl, rfl, trivial⟩
 rw [odds_run] at hP
 refine wp_seq ?_
 refine wp_region_lit ?_
 refine h_box H E rfl rfl rfl ?_
 intro w18 g17 a hc19 hg21 H_ E_
 replace E := E_ _ rfl; clear E_
 replace H := H_; clear H_; try dsimp only [setn, addE, goneL] at H
 refine vr tbok 2 [] [(1, .slice A13 (List.length p) c14), (2, .int .i64 n), (3, .bool out), (4, .pointer (some ⟨g17, 0, none⟩))] [] E (by kernel_rfl) trivial ?_
 clear E; intro a E
 refine wpList_nil ?_
 refine th_n ?_
 refine wp_seq ?_
 refine wp_region_lit ?_
 refine vr tbok 1 [] [(2, .int .i64 n), (3, .bool out), (4, .pointer (some ⟨g17, 0, none⟩)), (24, .slice A13 (List.length p) c14)] [] E (by kernel_rfl) trivial ?_
 clear E; intro a E
 obtain ⟨r22, h23, hP⟩ := bind_inv hP
 obtain ⟨Fa24, Hc25, hb26⟩ := H.call [] [(3, false)] rfl rfl trivial
 refine e_call E rfl rfl Try.func25 rfl rfl rfl (odds_letters_calls A13 c14 p hk15 Hc25 h23) ?_
 rintro v27 w28 a ⟨A31, c32, rfl, HR29⟩ E_
 replace E := E_ _ rfl; clear E_
 obtain ⟨H_, hc30⟩ := hb26 _ _ HR29 rfl
 replace H := H_; clear H_; try dsimp only [setn, addE, goneL] at H
 refine vr tbok 1 [] [(2, .int .i64 n), (3, .bool out), (4, .pointer (some ⟨g17, 0, none⟩)), (10, .slice A31 (List.length r22) c32)] [] E (by kernel_rfl) trivial ?_
 clear E; intro a E
 refine wpList_nil ?_
 refine th_n ?_
 refine wp_seq ?_
 refine wp_region_lit ?_
 refine vr tbok 1 [] [(2, .int .i64 n), (3, .bool out), (4, .pointer (some ⟨g17, 0, none⟩)), (10, .slice A31 (List.length r22) c32), (11, .slice none 0 0)] [] E (by kernel_rfl) trivial ?_
 clear E; intro a E
 refine wpList_nil ?_
 refine th_n ?_
 refine wp_seq ?_
 refine wp_seq ?_
 refine wp_region_lit ?_
 refine vr tbok 4 [.slice A5 (List.length aGuard) c6] [(2, .int .i64 n), (3, .bool out), (4, .pointer (some ⟨g17, 0, none⟩)), (10, .slice A31 (List.length r22) c32), (11, .slice none 0 0), (27, .slice A5 (List.length aGuard) c6), (28, .int .i64 (((List.length aGuard) : Nat) : Int)), (29, .int .i64 0)] [World.cell? w28 ⟨g17, 2, none⟩ = some (.slice A5 (List.length aGuard) c6)] E (by kernel_rfl) ((H.box 4 rfl).cell (j := 2) rfl) ?_
 clear E; intro a E
 refine wpList_nil ?_
 refine th_n ?_
 refine wp_block ?_
 obtain ⟨x105, hL106, hK107⟩ := bind_inv hP
 clear hP
 replace H := H.nilrow (cSl (cInt .i64)) 23; try dsimp only [setn, addE, goneL] at H
 refine loop_cut (fun i_ a w_ => (i_ = 0 ∧ ∃ (x111 : List (List Int)), ∃ (A102 : Option Addr) (c103 : Nat), Fr a 111 [(2, .int .i64 n), (3, .bool out), (4, .pointer (some ⟨g17, 0, none⟩)), (10, .slice A31 (List.length r22) c32), (11, .slice A102 (List.length x111) c103)] ∧ Hp S Fa w0 w_ [.ro false cBool A1 aAccept, .ro false (cInt .i64) A5 aGuard, .ro false cNode A9 aNodes, .box g17 26 [.int .i64 aProps, .slice A1 (List.length aAccept) c2, .slice A5 (List.length aGuard) c6, .slice A9 (List.length aNodes) c10], .row true cFl 33 A31 c32 r22, .row true (cSl (cInt .i64)) 23 A102 c103 x111] ∧ x105 = x111)) ?_ ?_
 ·
  refine loopV (fun m110 a w109 => ∃ (x65 : List (List Int)) (x68 : Int), ∃ (A66 : Option Addr) (c67 : Nat), Fr a 111 [(2, .int .i64 n), (3, .bool out), (4, .pointer (some ⟨g17, 0, none⟩)), (10, .slice A31 (List.length r22) c32), (11, .slice A66 (List.length x65) c67), (27, .slice A5 (List.length aGuard) c6), (28, .int .i64 (((List.length aGuard) : Nat) : Int)), (29, .int .i64 x68)] ∧ Hp S Fa w0 w109 [.ro false cBool A1 aAccept, .ro false (cInt .i64) A5 aGuard, .ro false cNode A9 aNodes, .box g17 26 [.int .i64 aProps, .slice A1 (List.length aAccept) c2, .slice A5 (List.length aGuard) c6, .slice A9 (List.length aNodes) c10], .row true cFl 33 A31 c32 r22, .row true (cSl (cInt .i64)) 23 A66 c67 x65] ∧ odds_run_l0 N aProps aGuard aNodes m110 x65 x68 = some x105) N ?_ ?_
  ·
   exact ⟨[], 0, none, 0, E.pick _ ⟨rfl, rfl, rfl, rfl, rfl, rfl, rfl, rfl, trivial⟩, H.sel [0, 1, 2, 4, 5, 6] rfl, hL106⟩
  clear E H hL106; intro m110 a w109 hI_
  obtain ⟨x65, x68, A66, c67, E, H, hP⟩ := hI_
  obtain ⟨m104, rfl⟩ : ∃ q_, m110 = q_ + 1 := by cases m110 with | zero => rw [odds_run_l0] at hP; cases hP | succ q_ => exact ⟨q_, rfl⟩
  rw [odds_run_l0] at hP
  refine wp_seq ?_
  refine wp_region_lit ?_
  refine vr tbok 1 [] [(2, .int .i64 n), (3, .bool out), (4, .pointer (some ⟨g17, 0, none⟩)), (10, .slice A31 (List.length r22) c32), (11, .slice A66 (List.length x65) c67), (27, .slice A5 (List.length aGuard) c6), (28, .int .i64 (((List.length aGuard) : Nat) : Int)), (29, .int .i64 x68), (30, .bool (decide (x68 < (((List.length aGuard) : Nat) : Int))))] [] E (by kernel_rfl) trivial ?_
  clear E; intro a E
  refine wpList_nil ?_
  refine th_n ?_
  refine wp_seq ?_
  refine E.cases (t := 30) rfl (fun hb_ E_ => ?_) (fun hb_ E_ => ?_)
  ·
   replace E := E_; clear E_
   have h112 : x68 < (((List.length aGuard) : Nat) : Int) := of_decide_eq_true hb_
   clear hb_; replace hP := ite_t h112 hP
   refine c_true E rfl ?_
   refine wp_skip ?_
   refine th_n ?_
   refine wp_seq ?_
   refine wp_block ?_
   refine wp_seq ?_
   refine wp_region_lit ?_
   obtain ⟨g113, hP⟩ := ask_inv hP
   obtain ⟨b114, o115, e_b114⟩ := (H.rd 1 rds_ro).addr (idx_pos g113)
   subst e_b114
   refine vr tbok 3 [.int .i64 (List.getD aGuard (Int.toNat x68) 0)] [(2, .int .i64 n), (3, .bool out), (4, .pointer (some ⟨g17, 0, none⟩)), (10, .slice A31 (List.length r22) c32), (11, .slice A66 (List.length x65) c67), (13, .int .i64 (List.getD aGuard (Int.toNat x68) 0)), (27, .slice (some ⟨b114, o115, none⟩) (List.length aGuard) c6), (28, .int .i64 (((List.length aGuard) : Nat) : Int)), (29, .int .i64 x68)] [0 ≤ x68 ∧ x68 < (((List.length aGuard) : Nat) : Int), World.cell? w109 ⟨b114, o115 + (Int.toNat x68) * 1, none⟩ = some (.int .i64 (List.getD aGuard (Int.toNat x68) 0))] E (by kernel_rfl) ⟨g113, Rds.at1 (H.rd 1 rds_ro) 0 g113⟩ ?_
   clear E; intro a E
   refine wpList_nil ?_
   refine th_n ?_
   refine wp_seq ?_
   refine wp_region_lit ?_
   refine vr tbok 5 [.int .i64 aProps, .slice A9 (List.length aNodes) c10] [(2, .int .i64 n), (3, .bool out), (4, .pointer (some ⟨g17, 0, none⟩)), (10, .slice A31 (List.length r22) c32), (11, .slice A66 (List.length x65) c67), (27, .slice (some ⟨b114, o115, none⟩) (List.length aGuard) c6), (28, .int .i64 (((List.length aGuard) : Nat) : Int)), (29, .int .i64 x68), (35, .int .i64 aProps), (37, .slice A9 (List.length aNodes) c10), (38, .int .i64 (List.getD aGuard (Int.toNat x68) 0))] [World.cell? w109 ⟨g17, 0, none⟩ = some (.int .i64 aProps), World.cell? w109 ⟨g17, 3, none⟩ = some (.slice A9 (List.length aNodes) c10)] E (by kernel_rfl) ⟨(H.box 3 rfl).cell (j := 0) rfl, (H.box 3 rfl).cell (j := 3) rfl⟩ ?_
   clear E; intro a E
   obtain ⟨r116, h117, hP⟩ := bind_inv hP
   obtain ⟨Fa118, Hc119, hb120⟩ := H.call [] [(2, false)] rfl rfl trivial
   refine e_call E rfl rfl Try.func31 rfl rfl rfl (guard_Table_calls A9 c10 aProps aNodes (List.getD aGuard (Int.toNat x68) 0) hk11 Hc119 h117) ?_
   rintro v121 w122 a ⟨A125, c126, rfl, HR123⟩ E_
   replace E := E_ _ rfl; clear E_
   obtain ⟨H_, hc124⟩ := hb120 _ _ HR123 rfl
   replace H := H_; clear H_; try dsimp only [setn, addE, goneL] at H
   refine vr tbok 5 [] [(2, .int .i64 n), (3, .bool out), (4, .pointer (some ⟨g17, 0, none⟩)), (10, .slice A31 (List.length r22) c32), (11, .slice A66 (List.length x65) c67), (14, .slice A125 (List.length r116.1) c126), (27, .slice (some ⟨b114, o115, none⟩) (List.length aGuard) c6), (28, .int .i64 (((List.length aGuard) : Nat) : Int)), (29, .int .i64 x68)] [] E (by kernel_rfl) trivial ?_
   clear E; intro a E
   refine wpList_nil ?_
   refine th_n ?_
   refine wp_region_lit ?_
   refine vr tbok 2 [] [(2, .int .i64 n), (3, .bool out), (4, .pointer (some ⟨g17, 0, none⟩)), (10, .slice A31 (List.length r22) c32), (27, .slice (some ⟨b114, o115, none⟩) (List.length aGuard) c6), (28, .int .i64 (((List.length aGuard) : Nat) : Int)), (29, .int .i64 x68), (42, .slice A66 (List.length x65) c67), (43, .slice A125 (List.length r116.1) c126)] [] E (by kernel_rfl) trivial ?_
   clear E; intro a E
   refine h_buildSlice (ps := [(0, .slice A125 (List.length r116.1) c126)]) (cs := [.slice A125 (List.length r116.1) c126]) H E rfl rfl tbok rfl rfl (by kernel_rfl) ?_
   intro w129 g128 a hc130 hg132 H_ E_
   replace E := E_ _ rfl; clear E_
   replace H := H_; clear H_; try dsimp only [setn, addE, goneL] at H
   have hk133 := H.rcap 6 rfl
   replace H := H.frz 6 rfl; try dsimp only [setn, addE, goneL] at H
   obtain ⟨g134, hP⟩ := ask_inv hP
   refine h_append (cSl (cInt .i64)) (xs := x65) (ys := ([r116.1] : List (List Int))) ([] : List Int) H 5 rfl E rfl rfl tbok rfl rfl rfl rfl rfl (fun _ _ => kSl_nil) rfl rfl (fun _ HF_ => HF_.srcB 7 rfl ⟨_, _, rfl, ⟨_, _, rfl, hk133, (HF_.roC 6 rfl)⟩, rfl⟩) g134 ?_
   intro w135 A136 c137 a hc138 hA139 H_ E_
   replace E := E_ _ rfl; clear E_
   replace H := H_; clear H_; try dsimp only [setn, addE, goneL] at H
   refine vr tbok 1 [] [(2, .int .i64 n), (3, .bool out), (4, .pointer (some ⟨g17, 0, none⟩)), (10, .slice A31 (List.length r22) c32), (11, .slice A136 (List.length (x65 ++ ([r116.1] : List (List Int)))) c137), (27, .slice (some ⟨b114, o115, none⟩) (List.length aGuard) c6), (28, .int .i64 (((List.length aGuard) : Nat) : Int)), (29, .int .i64 x68)] [] E (by kernel_rfl) trivial ?_
   clear E; intro a E
   refine wpList_nil ?_
   refine bl_n ?_
   refine th_n ?_
   refine wp_region_lit ?_
   obtain ⟨g140, hP⟩ := ask_inv hP
   refine vr tbok 2 [.int .i64 (x68 + 1)] [(2, .int .i64 n), (3, .bool out), (4, .pointer (some ⟨g17, 0, none⟩)), (10, .slice A31 (List.length r22) c32), (11, .slice A136 (List.length (x65 ++ ([r116.1] : List (List Int)))) c137), (27, .slice (some ⟨b114, o115, none⟩) (List.length aGuard) c6), (28, .int .i64 (((List.length aGuard) : Nat) : Int)), (29, .int .i64 (x68 + 1))] [IntKind.i64.wrap (x68 + 1) = x68 + 1] E (by kernel_rfl) (wrap_in g140) ?_
   clear E; intro a E
   refine wpList_nil ?_
   exact th_n ⟨m104, Nat.lt_succ_self _, x65 ++ ([r116.1] : List (List Int)), x68 + 1, A136, c137, E.pick _ ⟨rfl, rfl, rfl, rfl, rfl, rfl, rfl, rfl, trivial⟩, H.sel [0, 1, 2, 3, 4, 5] rfl, hP⟩
  replace E := E_; clear E_
  have h141 : ¬ (x68 < (((List.length aGuard) : Nat) : Int)) := of_decide_eq_false hb_
  clear hb_; replace hP := ite_f h141 hP
  refine c_false E rfl ?_
  refine wp_exit ?_
  refine th_exit ?_
  have hx_ := Option.some.inj hP
  refine th_exit (.inl ⟨0, rfl, ?_⟩)
  exact ⟨rfl, x65, A66, c67, E.pick _ ⟨rfl, rfl, rfl, rfl, rfl, trivial⟩, H.sel [0, 1, 2, 3, 4, 5] rfl, hx_.symm⟩
 clear E H hL106; intro i_ a w109 hM_
 obtain ⟨rfl, x111, A102, c103, E, H, hx_⟩ := hM_
 subst hx_; have hP := hK107; clear hK107
 refine bl_hit ?_
 refine th_n ?_
 refine wp_seq ?_
 obtain ⟨g142, hP⟩ := ask_inv hP
 refine meet_cut (fun a w157 => ∃ (A154 : Option Addr) (A156 : Option Addr), Fr a 111 [(2, .int .i64 n), (3, .bool out), (4, .pointer (some ⟨g17, 0, none⟩)), (10, .slice A31 (List.length r22) c32), (11, .slice A102 (List.length x105) c103), (16, .slice A154 (List.length (List.replicate (Int.toNat (((List.length aAccept) : Nat) : Int)) (0 : Nat))) (Int.toNat (((List.length aAccept) : Nat) : Int))), (17, .slice A156 (List.length (List.replicate (Int.toNat (((List.length aAccept) : Nat) : Int)) (0 : Nat))) (Int.toNat (((List.length aAccept) : Nat) : Int)))] ∧ Hp S Fa w0 w157 [.ro false cBool A1 aAccept, .ro false (cInt .i64) A5 aGuard, .ro false cNode A9 aNodes, .box g17 26 [.int .i64 aProps, .slice A1 (List.length aAccept) c2, .slice A5 (List.length aGuard) c6, .slice A9 (List.length aNodes) c10], .row true cFl 33 A31 c32 r22, .row true (cSl (cInt .i64)) 23 A102 c103 x105, .rowx true cFl 33 A154 (Int.toNat (((List.length aAccept) : Nat) : Int)) (List.replicate (Int.toNat (((List.length aAccept) : Nat) : Int)) (0 : Nat)) (List.replicate (Int.toNat (((List.length aAccept) : Nat) : Int) - Int.toNat (((List.length aAccept) : Nat) : Int)) (0 : Nat)), .rowx true cFl 33 A156 (Int.toNat (((List.length aAccept) : Nat) : Int)) (List.replicate (Int.toNat (((List.length aAccept) : Nat) : Int)) (0 : Nat)) (List.replicate (Int.toNat (((List.length aAccept) : Nat) : Int) - Int.toNat (((List.length aAccept) : Nat) : Int)) (0 : Nat))]) ?_ ?_
 ·
  have HR161 := H
  refine dr_start (S := fun w_ => Chg (atL []) w109 w_) (by kernel_rfl) ?_
  intro w158 hc159
  have HS160 : Chg (atL []) w109 w158 := hc159.mono (fun _ _ h_ => h_.elim)
  replace H := H.ext hc159
  refine dr tbok (by kernel_rfl) [0, 1, 2, 4, 5, 6] [.slice A1 (List.length aAccept) c2, .slice A1 (List.length aAccept) c2] [(2, .int .i64 n), (3, .bool out), (4, .pointer (some ⟨g17, 0, none⟩)), (10, .slice A31 (List.length r22) c32), (11, .slice A102 (List.length x105) c103), (49, .int .i64 (((List.length aAccept) : Nat) : Int)), (53, .int .i64 (((List.length aAccept) : Nat) : Int))] (fun w_ => [World.cell? w_ ⟨g17, 1, none⟩ = some (.slice A1 (List.length aAccept) c2), World.cell? w_ ⟨g17, 1, none⟩ = some (.slice A1 (List.length aAccept) c2)]) 4 E (fun _ _ => by kernel_rfl) (fun w_ hS_ => ⟨(HR161.boxk [] hS_ 3 rfl rfl).cell (j := 1) rfl, (HR161.boxk [] hS_ 3 rfl rfl).cell (j := 1) rfl⟩) (by kernel_rfl) HS160 ?_
  clear E; intro a E
  refine wpAnyH_all (rs := [3, 7]) (by kernel_rfl) (by simp) ?_
  refine all2 ?_ ?_
  ·
   refine wpOp_of_list rfl ?_
   refine h_make cFl (0 : Nat) H E rfl rfl tbok rfl rfl rfl rfl ⟨g142.1, Int.le_refl _, g142.2⟩ rfl rfl rfl (fun _ _ => rfl) ?_
   intro w163 g162 a hc164 hg166 H_ E_
   replace E := E_ _ rfl; clear E_
   have hin167 : ∀ q_, q_ < w109.heap.size → At (some ⟨g162, 0, none⟩) q_ → (atL []) q_ := fun q_ h1_ h2_ => by have hs_ := HS160.size; have h4_ : q_ = g162 := At.of_g h2_; exfalso; omega
   replace HS160 := HS160.ext hc164
   replace H := H_; clear H_; try dsimp only [setn, addE, goneL] at H
   refine wpList_nil ?_
   refine th_n ⟨HS160, ?_⟩
   refine dr tbok (by kernel_rfl) [8] [] [(2, .int .i64 n), (3, .bool out), (4, .pointer (some ⟨g17, 0, none⟩)), (10, .slice A31 (List.length r22) c32), (11, .slice A102 (List.length x105) c103), (16, .slice (some ⟨g162, 0, none⟩) (List.length (List.replicate (Int.toNat (((List.length aAccept) : Nat) : Int)) (0 : Nat))) (Int.toNat (((List.length aAccept) : Nat) : Int))), (53, .int .i64 (((List.length aAccept) : Nat) : Int))] (fun w_ => []) 2 E (fun _ _ => by kernel_rfl) (fun w_ hS_ => trivial) (by kernel_rfl) HS160 ?_
   clear E; intro a E
   refine wpAnyH_all (rs := [7]) (by kernel_rfl) (by simp) ?_
   refine all1 ?_
   refine wpOp_of_list rfl ?_
   refine h_make cFl (0 : Nat) H E rfl rfl tbok rfl rfl rfl rfl ⟨g142.1, Int.le_refl _, g142.2⟩ rfl rfl rfl (fun _ _ => rfl) ?_
   intro w169 g168 a hc170 hg172 H_ E_
   replace E := E_ _ rfl; clear E_
   have hin173 : ∀ q_, q_ < w109.heap.size → At (some ⟨g168, 0, none⟩) q_ → (atL []) q_ := fun q_ h1_ h2_ => by have hs_ := HS160.size; have h4_ : q_ = g168 := At.of_g h2_; exfalso; omega
   replace HS160 := HS160.ext hc170
   replace H := H_; clear H_; try dsimp only [setn, addE, goneL] at H
   refine wpList_nil ?_
   refine th_n ⟨HS160, ?_⟩
   refine dr tbok (by kernel_rfl) [9] [] [(2, .int .i64 n), (3, .bool out), (4, .pointer (some ⟨g17, 0, none⟩)), (10, .slice A31 (List.length r22) c32), (11, .slice A102 (List.length x105) c103), (16, .slice (some ⟨g162, 0, none⟩) (List.length (List.replicate (Int.toNat (((List.length aAccept) : Nat) : Int)) (0 : Nat))) (Int.toNat (((List.length aAccept) : Nat) : Int))), (17, .slice (some ⟨g168, 0, none⟩) (List.length (List.replicate (Int.toNat (((List.length aAccept) : Nat) : Int)) (0 : Nat))) (Int.toNat (((List.length aAccept) : Nat) : Int)))] (fun w_ => []) 0 E (fun _ _ => by kernel_rfl) (fun w_ hS_ => trivial) (by kernel_rfl) HS160 ?_
   clear E; intro a E
   refine dr_done (by kernel_rfl) ?_
   exact .inl ⟨rfl, (some ⟨g162, 0, none⟩), (some ⟨g168, 0, none⟩), E.pick _ ⟨rfl, rfl, rfl, rfl, rfl, rfl, rfl, trivial⟩, H.sel [0, 1, 2, 3, 4, 5, 6, 7] rfl⟩
  refine wpOp_of_list rfl ?_
  refine h_make cFl (0 : Nat) H E rfl rfl tbok rfl rfl rfl rfl ⟨g142.1, Int.le_refl _, g142.2⟩ rfl rfl rfl (fun _ _ => rfl) ?_
  intro w175 g174 a hc176 hg178 H_ E_
  replace E := E_ _ rfl; clear E_
  have hin179 : ∀ q_, q_ < w109.heap.size → At (some ⟨g174, 0, none⟩) q_ → (atL []) q_ := fun q_ h1_ h2_ => by have hs_ := HS160.size; have h4_ : q_ = g174 := At.of_g h2_; exfalso; omega
  replace HS160 := HS160.ext hc176
  replace H := H_; clear H_; try dsimp only [setn, addE, goneL] at H
  refine wpList_nil ?_
  refine th_n ⟨HS160, ?_⟩
  refine wpAnyH_all (rs := [3]) (by kernel_rfl) (by simp) ?_
  refine all1 ?_
  refine wpOp_of_list rfl ?_
  refine h_make cFl (0 : Nat) H E rfl rfl tbok rfl rfl rfl rfl ⟨g142.1, Int.le_refl _, g142.2⟩ rfl rfl rfl (fun _ _ => rfl) ?_
  intro w181 g180 a hc182 hg184 H_ E_
  replace E := E_ _ rfl; clear E_
  have hin185 : ∀ q_, q_ < w109.heap.size → At (some ⟨g180, 0, none⟩) q_ → (atL []) q_ := fun q_ h1_ h2_ => by have hs_ := HS160.size; have h4_ : q_ = g180 := At.of_g h2_; exfalso; omega
  replace HS160 := HS160.ext hc182
  replace H := H_; clear H_; try dsimp only [setn, addE, goneL] at H
  refine wpList_nil ?_
  refine th_n ⟨HS160, ?_⟩
  refine dr tbok (by kernel_rfl) [8, 9] [] [(2, .int .i64 n), (3, .bool out), (4, .pointer (some ⟨g17, 0, none⟩)), (10, .slice A31 (List.length r22) c32), (11, .slice A102 (List.length x105) c103), (16, .slice (some ⟨g180, 0, none⟩) (List.length (List.replicate (Int.toNat (((List.length aAccept) : Nat) : Int)) (0 : Nat))) (Int.toNat (((List.length aAccept) : Nat) : Int))), (17, .slice (some ⟨g174, 0, none⟩) (List.length (List.replicate (Int.toNat (((List.length aAccept) : Nat) : Int)) (0 : Nat))) (Int.toNat (((List.length aAccept) : Nat) : Int)))] (fun w_ => []) 0 E (fun _ _ => by kernel_rfl) (fun w_ hS_ => trivial) (by kernel_rfl) HS160 ?_
  clear E; intro a E
  refine dr_done (by kernel_rfl) ?_
  exact .inl ⟨rfl, (some ⟨g180, 0, none⟩), (some ⟨g174, 0, none⟩), E.pick _ ⟨rfl, rfl, rfl, rfl, rfl, rfl, rfl, trivial⟩, H.sel [0, 1, 2, 3, 4, 5, 7, 6] rfl⟩
 clear E H; rintro a w157 ⟨A154, A156, E, H⟩
 refine th_n ?_
 refine wp_seq ?_
 refine wp_region_lit ?_
 obtain ⟨g186, hP⟩ := ask_inv hP
 obtain ⟨b187, e_b187⟩ := H.raddrx 6 rfl (idx_pos g186)
 subst e_b187
 refine vr tbok 2 [] [(2, .int .i64 n), (3, .bool out), (4, .pointer (some ⟨g17, 0, none⟩)), (10, .slice A31 (List.length r22) c32), (11, .slice A102 (List.length x105) c103), (16, .slice (some ⟨b187, 0, none⟩) (List.length (List.replicate (Int.toNat (((List.length aAccept) : Nat) : Int)) (0 : Nat))) (Int.toNat (((List.length aAccept) : Nat) : Int))), (17, .slice A156 (List.length (List.replicate (Int.toNat (((List.length aAccept) : Nat) : Int)) (0 : Nat))) (Int.toNat (((List.length aAccept) : Nat) : Int))), (56, .pointer (some ⟨b187, 0 + (Int.toNat (0 : Int)) * 1, none⟩))] [0 ≤ (0 : Int) ∧ (0 : Int) < (((List.length (List.replicate (Int.toNat (((List.length aAccept) : Nat) : Int)) (0 : Nat))) : Nat) : Int)] E (by kernel_rfl) (g186) ?_
 clear E; intro a E
 refine h_setx (g := b187) (i := (0 : Int)) 4607182418800017408 H 6 rfl E rfl rfl rfl rfl tbok rfl (fun _ HF_ => rfl) rfl g186 rfl ?_
 clear E; intro w189 a hc190 H_ E
 replace H := H_; clear H_; try dsimp only [setn, addE, goneL] at H
 have hn191 : (List.length (List.replicate (Int.toNat (((List.length aAccept) : Nat) : Int)) (0 : Nat))) = (List.length (List.set (List.replicate (Int.toNat (((List.length aAccept) : Nat) : Int)) (0 : Nat)) (Int.toNat (0 : Int)) 4607182418800017408)) := by simp only [List.length_set]
 replace E := E.same (t := 16) (u := .slice (some ⟨b187, 0, none⟩) (List.length (List.set (List.replicate (Int.toNat (((List.length aAccept) : Nat) : Int)) (0 : Nat)) (Int.toNat (0 : Int)) 4607182418800017408)) (Int.toNat (((List.length aAccept) : Nat) : Int))) rfl (congrArg (fun n_ => Value.slice (some ⟨b187, 0, none⟩) n_ (Int.toNat (((List.length aAccept) : Nat) : Int))) hn191)
 refine wpList_nil ?_
 refine th_n ?_
 refine wp_seq ?_
 refine wp_region_lit ?_
 refine vr tbok 1 [] [(2, .int .i64 n), (3, .bool out), (4, .pointer (some ⟨g17, 0, none⟩)), (10, .slice A31 (List.length r22) c32), (11, .slice A102 (List.length x105) c103), (16, .slice (some ⟨b187, 0, none⟩) (List.length (List.set (List.replicate (Int.toNat (((List.length aAccept) : Nat) : Int)) (0 : Nat)) (Int.toNat (0 : Int)) 4607182418800017408)) (Int.toNat (((List.length aAccept) : Nat) : Int))), (17, .slice A156 (List.length (List.replicate (Int.toNat (((List.length aAccept) : Nat) : Int)) (0 : Nat))) (Int.toNat (((List.length aAccept) : Nat) : Int))), (18, .float .f64 0)] [] E (by kernel_rfl) trivial ?_
 clear E; intro a E
 refine wpList_nil ?_
 refine th_n ?_
 refine wp_seq ?_
 refine wp_seq ?_
 refine wp_region_lit ?_
 refine vr tbok 2 [] [(3, .bool out), (4, .pointer (some ⟨g17, 0, none⟩)), (10, .slice A31 (List.length r22) c32), (11, .slice A102 (List.length x105) c103), (16, .slice (some ⟨b187, 0, none⟩) (List.length (List.set (List.replicate (Int.toNat (((List.length aAccept) : Nat) : Int)) (0 : Nat)) (Int.toNat (0 : Int)) 4607182418800017408)) (Int.toNat (((List.length aAccept) : Nat) : Int))), (17, .slice A156 (List.length (List.replicate (Int.toNat (((List.length aAccept) : Nat) : Int)) (0 : Nat))) (Int.toNat (((List.length aAccept) : Nat) : Int))), (18, .float .f64 0), (57, .int .i64 n), (58, .int .i64 0)] [] E (by kernel_rfl) trivial ?_
 clear E; intro a E
 refine wpList_nil ?_
 refine th_n ?_
 refine wp_block ?_
 obtain ⟨x530, hL531, hK532⟩ := bind_inv hP
 clear hP
 refine loop_cut (fun i_ a w_ => (i_ = 2 ∧ ∃ (x535 : (List Nat) × Nat), ∃ (A527 : Option Addr), Fr a 111 [(16, .slice A527 (List.length x535.1) (Int.toNat (((List.length aAccept) : Nat) : Int))), (18, .float .f64 x535.2)] ∧ Hp S Fa w0 w_ [.rowx true cFl 33 A527 (Int.toNat (((List.length aAccept) : Nat) : Int)) x535.1 (List.replicate (Int.toNat (((List.length aAccept) : Nat) : Int) - Int.toNat (((List.length aAccept) : Nat) : Int)) (0 : Nat))] ∧ x530 = x535)) ?_ ?_
 ·
  refine loopV (fun m534 a w533 => ∃ (now352 : List Nat) (next355 : List Nat) (taken357 : Nat) (x358 : Int), ∃ (A353 : Option Addr) (A356 : Option Addr), Fr a 111 [(3, .bool out), (4, .pointer (some ⟨g17, 0, none⟩)), (10, .slice A31 (List.length r22) c32), (11, .slice A102 (List.length x105) c103), (16, .slice A353 (List.length now352) (Int.toNat (((List.length aAccept) : Nat) : Int))), (17, .slice A356 (List.length next355) (Int.toNat (((List.length aAccept) : Nat) : Int))), (18, .float .f64 taken357), (57, .int .i64 n), (58, .int .i64 x358)] ∧ Hp S Fa w0 w533 [.ro false cBool A1 aAccept, .ro false (cInt .i64) A5 aGuard, .ro false cNode A9 aNodes, .box g17 26 [.int .i64 aProps, .slice A1 (List.length aAccept) c2, .slice A5 (List.length aGuard) c6, .slice A9 (List.length aNodes) c10], .row true cFl 33 A31 c32 r22, .row true (cSl (cInt .i64)) 23 A102 c103 x105, .rowx true cFl 33 A353 (Int.toNat (((List.length aAccept) : Nat) : Int)) now352 (List.replicate (Int.toNat (((List.length aAccept) : Nat) : Int) - Int.toNat (((List.length aAccept) : Nat) : Int)) (0 : Nat)), .rowx true cFl 33 A356 (Int.toNat (((List.length aAccept) : Nat) : Int)) next355 (List.replicate (Int.toNat (((List.length aAccept) : Nat) : Int) - Int.toNat (((List.length aAccept) : Nat) : Int)) (0 : Nat))] ∧ odds_run_l1 N aAccept n out r22 x105 m534 now352 next355 taken357 x358 = some x530) N ?_ ?_
  ·
   exact ⟨List.set (List.replicate (Int.toNat (((List.length aAccept) : Nat) : Int)) (0 : Nat)) (Int.toNat (0 : Int)) 4607182418800017408, List.replicate (Int.toNat (((List.length aAccept) : Nat) : Int)) (0 : Nat), 0, 0, (some ⟨b187, 0, none⟩), A156, E.pick _ ⟨rfl, rfl, rfl, rfl, rfl, rfl, rfl, rfl, rfl, trivial⟩, H.sel [0, 1, 2, 3, 4, 5, 6, 7] rfl, hL531⟩
  clear E H hL531; intro m534 a w533 hI_
  obtain ⟨now352, next355, taken357, x358, A353, A356, E, H, hP⟩ := hI_
  obtain ⟨m529, rfl⟩ : ∃ q_, m534 = q_ + 1 := by cases m534 with | zero => rw [odds_run_l1] at hP; cases hP | succ q_ => exact ⟨q_, rfl⟩
  rw [odds_run_l1] at hP
  refine wp_seq ?_
  refine wp_region_lit ?_
  refine vr tbok 1 [] [(3, .bool out), (4, .pointer (some ⟨g17, 0, none⟩)), (10, .slice A31 (List.length r22) c32), (11, .slice A102 (List.length x105) c103), (16, .slice A353 (List.length now352) (Int.toNat (((List.length aAccept) : Nat) : Int))), (17, .slice A356 (List.length next355) (Int.toNat (((List.length aAccept) : Nat) : Int))), (18, .float .f64 taken357), (57, .int .i64 n), (58, .int .i64 x358), (59, .bool (decide (x358 < n)))] [] E (by kernel_rfl) trivial ?_
  clear E; intro a E
  refine wpList_nil ?_
  refine th_n ?_
  refine wp_seq ?_
  refine E.cases (t := 59) rfl (fun hb_ E_ => ?_) (fun hb_ E_ => ?_)
  ·
   replace E := E_; clear E_
   have h536 : x358 < n := of_decide_eq_true hb_
   clear hb_; replace hP := ite_t h536 hP
   refine c_true E rfl ?_
   refine wp_skip ?_
   refine th_n ?_
   refine wp_seq ?_
   refine wp_block ?_
   refine wp_seq ?_
   refine wp_region_lit ?_
   refine vr tbok 1 [] [(3, .bool out), (4, .pointer (some ⟨g17, 0, none⟩)), (10, .slice A31 (List.length r22) c32), (11, .slice A102 (List.length x105) c103), (16, .slice A353 (List.length now352) (Int.toNat (((List.length aAccept) : Nat) : Int))), (17, .slice A356 (List.length next355) (Int.toNat (((List.length aAccept) : Nat) : Int))), (18, .float .f64 taken357), (57, .int .i64 n), (58, .int .i64 x358), (60, .slice A356 (List.length next355) (Int.toNat (((List.length aAccept) : Nat) : Int)))] [] E (by kernel_rfl) trivial ?_
   clear E; intro a E
   refine h_clearAx (d := cFl) (xs := next355) (0 : Nat) H 7 rfl E rfl rfl tbok rfl rfl rfl (fun _ _ => rfl) rfl ?_
   clear E; intro w537 a hc538 H_ E
   replace H := H_; clear H_; try dsimp only [setn, addE, goneL] at H
   have hn539 : (List.length next355) = (List.length (List.replicate (List.length next355) (0 : Nat))) := by simp only [List.length_replicate]
   replace E := E.same (t := 17) (u := .slice A356 (List.length (List.replicate (List.length next355) (0 : Nat))) (Int.toNat (((List.length aAccept) : Nat) : Int))) rfl (congrArg (fun n_ => Value.slice A356 n_ (Int.toNat (((List.length aAccept) : Nat) : Int))) hn539)
   replace E := E.same (t := 60) (u := .slice A356 (List.length (List.replicate (List.length next355) (0 : Nat))) (Int.toNat (((List.length aAccept) : Nat) : Int))) rfl (congrArg (fun n_ => Value.slice A356 n_ (Int.toNat (((List.length aAccept) : Nat) : Int))) hn539)
   refine wpList_nil ?_
   refine th_n ?_
   refine wp_seq ?_
   refine wp_seq ?_
   refine wp_region_lit ?_
   refine vr tbok 3 [] [(3, .bool out), (4, .pointer (some ⟨g17, 0, none⟩)), (10, .slice A31 (List.length r22) c32), (11, .slice A102 (List.length x105) c103), (16, .slice A353 (List.length now352) (Int.toNat (((List.length aAccept) : Nat) : Int))), (17, .slice A356 (List.length (List.replicate (List.length next355) (0 : Nat))) (Int.toNat (((List.length aAccept) : Nat) : Int))), (18, .float .f64 taken357), (57, .int .i64 n), (58, .int .i64 x358), (61, .slice A353 (List.length now352) (Int.toNat (((List.length aAccept) : Nat) : Int))), (62, .int .i64 (((List.length now352) : Nat) : Int)), (63, .int .i64 0)] [] E (by kernel_rfl) trivial ?_
   clear E; intro a E
   refine wpList_nil ?_
   refine th_n ?_
   refine wp_block ?_
   obtain ⟨x699, hL700, hK701⟩ := bind_inv hP
   clear hP
   refine loop_cut (fun i_ a w_ => (i_ = 4 ∧ ∃ (x704 : (List Nat) × Nat), Fr a 111 [(3, .bool out), (4, .pointer (some ⟨g17, 0, none⟩)), (10, .slice A31 (List.length r22) c32), (11, .slice A102 (List.length x105) c103), (16, .slice A353 (List.length now352) (Int.toNat (((List.length aAccept) : Nat) : Int))), (17, .slice A356 (List.length x704.1) (Int.toNat (((List.length aAccept) : Nat) : Int))), (18, .float .f64 x704.2), (57, .int .i64 n), (58, .int .i64 x358)] ∧ Hp S Fa w0 w_ [.ro false cBool A1 aAccept, .ro false (cInt .i64) A5 aGuard, .ro false cNode A9 aNodes, .box g17 26 [.int .i64 aProps, .slice A1 (List.length aAccept) c2, .slice A5 (List.length aGuard) c6, .slice A9 (List.length aNodes) c10], .row true cFl 33 A31 c32 r22, .row true (cSl (cInt .i64)) 23 A102 c103 x105, .rowx true cFl 33 A353 (Int.toNat (((List.length aAccept) : Nat) : Int)) now352 (List.replicate (Int.toNat (((List.length aAccept) : Nat) : Int) - Int.toNat (((List.length aAccept) : Nat) : Int)) (0 : Nat)), .rowx true cFl 33 A356 (Int.toNat (((List.length aAccept) : Nat) : Int)) x704.1 (List.replicate (Int.toNat (((List.length aAccept) : Nat) : Int) - Int.toNat (((List.length aAccept) : Nat) : Int)) (0 : Nat))] ∧ x699 = x704)) ?_ ?_
   ·
    refine loopV (fun m703 a w702 => ∃ (next616 : List Nat) (taken617 : Nat) (x618 : Int), Fr a 111 [(3, .bool out), (4, .pointer (some ⟨g17, 0, none⟩)), (10, .slice A31 (List.length r22) c32), (11, .slice A102 (List.length x105) c103), (16, .slice A353 (List.length now352) (Int.toNat (((List.length aAccept) : Nat) : Int))), (17, .slice A356 (List.length next616) (Int.toNat (((List.length aAccept) : Nat) : Int))), (18, .float .f64 taken617), (57, .int .i64 n), (58, .int .i64 x358), (61, .slice A353 (List.length now352) (Int.toNat (((List.length aAccept) : Nat) : Int))), (62, .int .i64 (((List.length now352) : Nat) : Int)), (63, .int .i64 x618)] ∧ Hp S Fa w0 w702 [.ro false cBool A1 aAccept, .ro false (cInt .i64) A5 aGuard, .ro false cNode A9 aNodes, .box g17 26 [.int .i64 aProps, .slice A1 (List.length aAccept) c2, .slice A5 (List.length aGuard) c6, .slice A9 (List.length aNodes) c10], .row true cFl 33 A31 c32 r22, .row true (cSl (cInt .i64)) 23 A102 c103 x105, .rowx true cFl 33 A353 (Int.toNat (((List.length aAccept) : Nat) : Int)) now352 (List.replicate (Int.toNat (((List.length aAccept) : Nat) : Int) - Int.toNat (((List.length aAccept) : Nat) : Int)) (0 : Nat)), .rowx true cFl 33 A356 (Int.toNat (((List.length aAccept) : Nat) : Int)) next616 (List.replicate (Int.toNat (((List.length aAccept) : Nat) : Int) - Int.toNat (((List.length aAccept) : Nat) : Int)) (0 : Nat))] ∧ odds_run_l2 N aAccept out r22 x105 now352 m703 next616 taken617 x618 = some x699) N ?_ ?_
    ·
     exact ⟨List.replicate (List.length next355) (0 : Nat), taken357, 0, E.pick _ ⟨rfl, rfl, rfl, rfl, rfl, rfl, rfl, rfl, rfl, rfl, rfl, rfl, trivial⟩, H.sel [0, 1, 2, 3, 4, 5, 6, 7] rfl, hL700⟩
    clear E H hL700; intro m703 a w702 hI_
    obtain ⟨next616, taken617, x618, E, H, hP⟩ := hI_
    obtain ⟨m698, rfl⟩ : ∃ q_, m703 = q_ + 1 := by cases m703 with | zero => rw [odds_run_l2] at hP; cases hP | succ q_ => exact ⟨q_, rfl⟩
    rw [odds_run_l2] at hP
    refine wp_seq ?_
    refine wp_region_lit ?_
    refine vr tbok 1 [] [(3, .bool out), (4, .pointer (some ⟨g17, 0, none⟩)), (10, .slice A31 (List.length r22) c32), (11, .slice A102 (List.length x105) c103), (16, .slice A353 (List.length now352) (Int.toNat (((List.length aAccept) : Nat) : Int))), (17, .slice A356 (List.length next616) (Int.toNat (((List.length aAccept) : Nat) : Int))), (18, .float .f64 taken617), (57, .int .i64 n), (58, .int .i64 x358), (61, .slice A353 (List.length now352) (Int.toNat (((List.length aAccept) : Nat) : Int))), (62, .int .i64 (((List.length now352) : Nat) : Int)), (63, .int .i64 x618), (64, .bool (decide (x618 < (((List.length now352) : Nat) : Int))))] [] E (by kernel_rfl) trivial ?_
    clear E; intro a E
    refine wpList_nil ?_
    refine th_n ?_
    refine wp_seq ?_
    refine E.cases (t := 64) rfl (fun hb_ E_ => ?_) (fun hb_ E_ => ?_)
    ·
     replace E := E_; clear E_
     have h705 : x618 < (((List.length now352) : Nat) : Int) := of_decide_eq_true hb_
     clear hb_; replace hP := ite_t h705 hP
     refine c_true E rfl ?_
     refine wp_skip ?_
     refine th_n ?_
     refine wp_seq ?_
     refine wp_block ?_
     refine wp_seq ?_
     refine wp_region_lit ?_
     obtain ⟨g706, hP⟩ := ask_inv hP
     obtain ⟨b707, e_b707⟩ := H.raddrx 6 rfl (idx_pos g706)
     subst e_b707
     refine vr tbok 5 [.float .f64 (List.getD now352 (Int.toNat x618) 0)] [(3, .bool out), (4, .pointer (some ⟨g17, 0, none⟩)), (10, .slice A31 (List.length r22) c32), (11, .slice A102 (List.length x105) c103), (16, .slice (some ⟨b707, 0, none⟩) (List.length now352) (Int.toNat (((List.length aAccept) : Nat) : Int))), (17, .slice A356 (List.length next616) (Int.toNat (((List.length aAccept) : Nat) : Int))), (18, .float .f64 taken617), (19, .int .i64 x618), (20, .float .f64 (List.getD now352 (Int.toNat x618) 0)), (57, .int .i64 n), (58, .int .i64 x358), (61, .slice (some ⟨b707, 0, none⟩) (List.length now352) (Int.toNat (((List.length aAccept) : Nat) : Int))), (62, .int .i64 (((List.length now352) : Nat) : Int)), (63, .int .i64 x618)] [0 ≤ x618 ∧ x618 < (((List.length now352) : Nat) : Int), World.cell? w702 ⟨b707, 0 + (Int.toNat x618) * 1, none⟩ = some (.float .f64 (List.getD now352 (Int.toNat x618) 0))] E (by kernel_rfl) ⟨g706, Rds.at1 (H.rd 6 rds_rowx) 0 g706⟩ ?_
     clear E; intro a E
     refine wpList_nil ?_
     refine th_n ?_
     refine wp_seq ?_
     refine wp_region_lit ?_
     obtain ⟨g709, hP⟩ := ask_inv hP
     obtain ⟨b710, e_b710⟩ := H.raddr 5 rfl (idx_pos g709)
     subst e_b710
     obtain ⟨A712, c713, hl714, hk715, H⟩ := H.subSl 5 true (el_row rfl) g709
     try dsimp only [addE] at H
     refine vr tbok 6 [.slice A712 (List.length (List.getD x105 (Int.toNat x618) [])) c713] [(3, .bool out), (4, .pointer (some ⟨g17, 0, none⟩)), (10, .slice A31 (List.length r22) c32), (11, .slice (some ⟨b710, 0, none⟩) (List.length x105) c103), (16, .slice (some ⟨b707, 0, none⟩) (List.length now352) (Int.toNat (((List.length aAccept) : Nat) : Int))), (17, .slice A356 (List.length next616) (Int.toNat (((List.length aAccept) : Nat) : Int))), (18, .float .f64 taken617), (20, .float .f64 (List.getD now352 (Int.toNat x618) 0)), (57, .int .i64 n), (58, .int .i64 x358), (61, .slice (some ⟨b707, 0, none⟩) (List.length now352) (Int.toNat (((List.length aAccept) : Nat) : Int))), (62, .int .i64 (((List.length now352) : Nat) : Int)), (63, .int .i64 x618), (71, .slice A712 (List.length (List.getD x105 (Int.toNat x618) [])) c713), (72, .int .i64 (((List.length (List.getD x105 (Int.toNat x618) [])) : Nat) : Int)), (73, .int .i64 0)] [0 ≤ x618 ∧ x618 < (((List.length x105) : Nat) : Int), World.cell? w702 ⟨b710, 0 + (Int.toNat x618) * 1, none⟩ = some (.slice A712 (List.length (List.getD x105 (Int.toNat x618) [])) c713)] E (by kernel_rfl) ⟨g709, hl714⟩ ?_
     clear E; intro a E
     refine wpList_nil ?_
     refine th_n ?_
     refine wp_block ?_
     obtain ⟨x781, hL782, hK783⟩ := bind_inv hP
     clear hP
     refine loop_cut (fun i_ a w_ => (i_ = 6 ∧ ∃ (x786 : (List Nat) × Nat), Fr a 111 [(3, .bool out), (4, .pointer (some ⟨g17, 0, none⟩)), (10, .slice A31 (List.length r22) c32), (11, .slice (some ⟨b710, 0, none⟩) (List.length x105) c103), (16, .slice (some ⟨b707, 0, none⟩) (List.length now352) (Int.toNat (((List.length aAccept) : Nat) : Int))), (17, .slice A356 (List.length x786.1) (Int.toNat (((List.length aAccept) : Nat) : Int))), (18, .float .f64 x786.2), (57, .int .i64 n), (58, .int .i64 x358), (61, .slice (some ⟨b707, 0, none⟩) (List.length now352) (Int.toNat (((List.length aAccept) : Nat) : Int))), (62, .int .i64 (((List.length now352) : Nat) : Int)), (63, .int .i64 x618)] ∧ Hp S Fa w0 w_ [.ro false cBool A1 aAccept, .ro false (cInt .i64) A5 aGuard, .ro false cNode A9 aNodes, .box g17 26 [.int .i64 aProps, .slice A1 (List.length aAccept) c2, .slice A5 (List.length aGuard) c6, .slice A9 (List.length aNodes) c10], .row true cFl 33 A31 c32 r22, .row true (cSl (cInt .i64)) 23 (some ⟨b710, 0, none⟩) c103 x105, .rowx true cFl 33 (some ⟨b707, 0, none⟩) (Int.toNat (((List.length aAccept) : Nat) : Int)) now352 (List.replicate (Int.toNat (((List.length aAccept) : Nat) : Int) - Int.toNat (((List.length aAccept) : Nat) : Int)) (0 : Nat)), .rowx true cFl 33 A356 (Int.toNat (((List.length aAccept) : Nat) : Int)) x786.1 (List.replicate (Int.toNat (((List.length aAccept) : Nat) : Int) - Int.toNat (((List.length aAccept) : Nat) : Int)) (0 : Nat))] ∧ x781 = x786)) ?_ ?_
     ·
      refine loopV (fun m785 a w784 => ∃ (next745 : List Nat) (taken746 : Nat) (x747 : Int), Fr a 111 [(3, .bool out), (4, .pointer (some ⟨g17, 0, none⟩)), (10, .slice A31 (List.length r22) c32), (11, .slice (some ⟨b710, 0, none⟩) (List.length x105) c103), (16, .slice (some ⟨b707, 0, none⟩) (List.length now352) (Int.toNat (((List.length aAccept) : Nat) : Int))), (17, .slice A356 (List.length next745) (Int.toNat (((List.length aAccept) : Nat) : Int))), (18, .float .f64 taken746), (20, .float .f64 (List.getD now352 (Int.toNat x618) 0)), (57, .int .i64 n), (58, .int .i64 x358), (61, .slice (some ⟨b707, 0, none⟩) (List.length now352) (Int.toNat (((List.length aAccept) : Nat) : Int))), (62, .int .i64 (((List.length now352) : Nat) : Int)), (63, .int .i64 x618), (71, .slice A712 (List.length (List.getD x105 (Int.toNat x618) [])) c713), (72, .int .i64 (((List.length (List.getD x105 (Int.toNat x618) [])) : Nat) : Int)), (73, .int .i64 x747)] ∧ Hp S Fa w0 w784 [.ro false cBool A1 aAccept, .ro false (cInt .i64) A5 aGuard, .ro false cNode A9 aNodes, .box g17 26 [.int .i64 aProps, .slice A1 (List.length aAccept) c2, .slice A5 (List.length aGuard) c6, .slice A9 (List.length aNodes) c10], .row true cFl 33 A31 c32 r22, .row true (cSl (cInt .i64)) 23 (some ⟨b710, 0, none⟩) c103 x105, .rowx true cFl 33 (some ⟨b707, 0, none⟩) (Int.toNat (((List.length aAccept) : Nat) : Int)) now352 (List.replicate (Int.toNat (((List.length aAccept) : Nat) : Int) - Int.toNat (((List.length aAccept) : Nat) : Int)) (0 : Nat)), .rowx true cFl 33 A356 (Int.toNat (((List.length aAccept) : Nat) : Int)) next745 (List.replicate (Int.toNat (((List.length aAccept) : Nat) : Int) - Int.toNat (((List.length aAccept) : Nat) : Int)) (0 : Nat)), .ro true (cInt .i64) A712 (List.getD x105 (Int.toNat x618) [])] ∧ odds_run_l3 N aAccept out r22 x105 now352 x618 m785 next745 taken746 x747 = some x781) N ?_ ?_
      ·
       exact ⟨next616, taken617, 0, E.pick _ ⟨rfl, rfl, rfl, rfl, rfl, rfl, rfl, rfl, rfl, rfl, rfl, rfl, rfl, rfl, rfl, rfl, trivial⟩, H.sel [0, 1, 2, 3, 4, 5, 6, 7, 8] rfl, hL782⟩
      clear E H hL782; intro m785 a w784 hI_
      obtain ⟨next745, taken746, x747, E, H, hP⟩ := hI_
      obtain ⟨m780, rfl⟩ : ∃ q_, m785 = q_ + 1 := by cases m785 with | zero => rw [odds_run_l3] at hP; cases hP | succ q_ => exact ⟨q_, rfl⟩
      rw [odds_run_l3] at hP
      refine wp_seq ?_
      refine wp_region_lit ?_
      refine vr tbok 1 [] [(3, .bool out), (4, .pointer (some ⟨g17, 0, none⟩)), (10, .slice A31 (List.length r22) c32), (11, .slice (some ⟨b710, 0, none⟩) (List.length x105) c103), (16, .slice (some ⟨b707, 0, none⟩) (List.length now352) (Int.toNat (((List.length aAccept) : Nat) : Int))), (17, .slice A356 (List.length next745) (Int.toNat (((List.length aAccept) : Nat) : Int))), (18, .float .f64 taken746), (20, .float .f64 (List.getD now352 (Int.toNat x618) 0)), (57, .int .i64 n), (58, .int .i64 x358), (61, .slice (some ⟨b707, 0, none⟩) (List.length now352) (Int.toNat (((List.length aAccept) : Nat) : Int))), (62, .int .i64 (((List.length now352) : Nat) : Int)), (63, .int .i64 x618), (71, .slice A712 (List.length (List.getD x105 (Int.toNat x618) [])) c713), (72, .int .i64 (((List.length (List.getD x105 (Int.toNat x618) [])) : Nat) : Int)), (73, .int .i64 x747), (74, .bool (decide (x747 < (((List.length (List.getD x105 (Int.toNat x618) [])) : Nat) : Int))))] [] E (by kernel_rfl) trivial ?_
      clear E; intro a E
      refine wpList_nil ?_
      refine th_n ?_
      refine wp_seq ?_
      refine E.cases (t := 74) rfl (fun hb_ E_ => ?_) (fun hb_ E_ => ?_)
      ·
       replace E := E_; clear E_
       have h787 : x747 < (((List.length (List.getD x105 (Int.toNat x618) [])) : Nat) : Int) := of_decide_eq_true hb_
       clear hb_; replace hP := ite_t h787 hP
       refine c_true E rfl ?_
       refine wp_skip ?_
       refine th_n ?_
       refine wp_seq ?_
       refine wp_block ?_
       refine wp_seq ?_
       refine wp_region_lit ?_
       obtain ⟨g788, hP⟩ := ask_inv hP
       obtain ⟨b789, o790, e_b789⟩ := (H.rd 8 rds_ro).addr (idx_pos g788)
       subst e_b789
       refine vr tbok 5 [.int .i64 (List.getD (List.getD x105 (Int.toNat x618) []) (Int.toNat x747) 0)] [(3, .bool out), (4, .pointer (some ⟨g17, 0, none⟩)), (10, .slice A31 (List.length r22) c32), (11, .slice (some ⟨b710, 0, none⟩) (List.length x105) c103), (16, .slice (some ⟨b707, 0, none⟩) (List.length now352) (Int.toNat (((List.length aAccept) : Nat) : Int))), (17, .slice A356 (List.length next745) (Int.toNat (((List.length aAccept) : Nat) : Int))), (18, .float .f64 taken746), (20, .float .f64 (List.getD now352 (Int.toNat x618) 0)), (21, .int .i64 x747), (22, .int .i64 (List.getD (List.getD x105 (Int.toNat x618) []) (Int.toNat x747) 0)), (57, .int .i64 n), (58, .int .i64 x358), (61, .slice (some ⟨b707, 0, none⟩) (List.length now352) (Int.toNat (((List.length aAccept) : Nat) : Int))), (62, .int .i64 (((List.length now352) : Nat) : Int)), (63, .int .i64 x618), (71, .slice (some ⟨b789, o790, none⟩) (List.length (List.getD x105 (Int.toNat x618) [])) c713), (72, .int .i64 (((List.length (List.getD x105 (Int.toNat x618) [])) : Nat) : Int)), (73, .int .i64 x747)] [0 ≤ x747 ∧ x747 < (((List.length (List.getD x105 (Int.toNat x618) [])) : Nat) : Int), World.cell? w784 ⟨b789, o790 + (Int.toNat x747) * 1, none⟩ = some (.int .i64 (List.getD (List.getD x105 (Int.toNat x618) []) (Int.toNat x747) 0))] E (by kernel_rfl) ⟨g788, Rds.at1 (H.rd 8 rds_ro) 0 g788⟩ ?_
       clear E; intro a E
       refine wpList_nil ?_
       refine th_n ?_
       refine wp_seq ?_
       refine wp_region_lit ?_
       obtain ⟨g791, hP⟩ := ask_inv hP
       obtain ⟨b792, e_b792⟩ := H.raddr 4 rfl (idx_pos g791)
       subst e_b792
       obtain ⟨f794, h795, hP⟩ := bind_inv hP
       refine vr tbok 7 [.float .f64 (List.getD r22 (Int.toNat x747) 0), .float .f64 f794] [(3, .bool out), (4, .pointer (some ⟨g17, 0, none⟩)), (10, .slice (some ⟨b792, 0, none⟩) (List.length r22) c32), (11, .slice (some ⟨b710, 0, none⟩) (List.length x105) c103), (16, .slice (some ⟨b707, 0, none⟩) (List.length now352) (Int.toNat (((List.length aAccept) : Nat) : Int))), (17, .slice A356 (List.length next745) (Int.toNat (((List.length aAccept) : Nat) : Int))), (18, .float .f64 taken746), (20, .float .f64 (List.getD now352 (Int.toNat x618) 0)), (22, .int .i64 (List.getD (List.getD x105 (Int.toNat x618) []) (Int.toNat x747) 0)), (23, .float .f64 f794), (57, .int .i64 n), (58, .int .i64 x358), (61, .slice (some ⟨b707, 0, none⟩) (List.length now352) (Int.toNat (((List.length aAccept) : Nat) : Int))), (62, .int .i64 (((List.length now352) : Nat) : Int)), (63, .int .i64 x618), (71, .slice (some ⟨b789, o790, none⟩) (List.length (List.getD x105 (Int.toNat x618) [])) c713), (72, .int .i64 (((List.length (List.getD x105 (Int.toNat x618) [])) : Nat) : Int)), (73, .int .i64 x747)] [0 ≤ x747 ∧ x747 < (((List.length r22) : Nat) : Int), World.cell? w784 ⟨b792, 0 + (Int.toNat x747) * 1, none⟩ = some (.float .f64 (List.getD r22 (Int.toNat x747) 0)), fMul (List.getD now352 (Int.toNat x618) 0) (List.getD r22 (Int.toNat x747) 0) = some f794] E (by kernel_rfl) ⟨g791, Rds.at1 (H.rd 4 rds_row) 0 g791, h795⟩ ?_
       clear E; intro a E
       refine wpList_nil ?_
       refine th_n ?_
       refine wp_seq ?_
       obtain ⟨x802, h803, hK804⟩ := bind_inv hP
       clear hP
       refine meet_cut (fun a w806 => ∃ (x805 : Bool), Fr a 111 [(3, .bool out), (4, .pointer (some ⟨g17, 0, none⟩)), (10, .slice (some ⟨b792, 0, none⟩) (List.length r22) c32), (11, .slice (some ⟨b710, 0, none⟩) (List.length x105) c103), (16, .slice (some ⟨b707, 0, none⟩) (List.length now352) (Int.toNat (((List.length aAccept) : Nat) : Int))), (17, .slice A356 (List.length next745) (Int.toNat (((List.length aAccept) : Nat) : Int))), (18, .float .f64 taken746), (20, .float .f64 (List.getD now352 (Int.toNat x618) 0)), (22, .int .i64 (List.getD (List.getD x105 (Int.toNat x618) []) (Int.toNat x747) 0)), (23, .float .f64 f794), (57, .int .i64 n), (58, .int .i64 x358), (61, .slice (some ⟨b707, 0, none⟩) (List.length now352) (Int.toNat (((List.length aAccept) : Nat) : Int))), (62, .int .i64 (((List.length now352) : Nat) : Int)), (63, .int .i64 x618), (71, .slice (some ⟨b789, o790, none⟩) (List.length (List.getD x105 (Int.toNat x618) [])) c713), (72, .int .i64 (((List.length (List.getD x105 (Int.toNat x618) [])) : Nat) : Int)), (73, .int .i64 x747), (91, .bool x805)] ∧ Hp S Fa w0 w806 [.ro false cBool A1 aAccept, .ro false (cInt .i64) A5 aGuard, .ro false cNode A9 aNodes, .box g17 26 [.int .i64 aProps, .slice A1 (List.length aAccept) c2, .slice A5 (List.length aGuard) c6, .slice A9 (List.length aNodes) c10], .row true cFl 33 (some ⟨b792, 0, none⟩) c32 r22, .row true (cSl (cInt .i64)) 23 (some ⟨b710, 0, none⟩) c103 x105, .rowx true cFl 33 (some ⟨b707, 0, none⟩) (Int.toNat (((List.length aAccept) : Nat) : Int)) now352 (List.replicate (Int.toNat (((List.length aAccept) : Nat) : Int) - Int.toNat (((List.length aAccept) : Nat) : Int)) (0 : Nat)), .rowx true cFl 33 A356 (Int.toNat (((List.length aAccept) : Nat) : Int)) next745 (List.replicate (Int.toNat (((List.length aAccept) : Nat) : Int) - Int.toNat (((List.length aAccept) : Nat) : Int)) (0 : Nat)), .ro true (cInt .i64) (some ⟨b789, o790, none⟩) (List.getD x105 (Int.toNat x618) [])] ∧ x802 = x805) ?_ ?_
       ·
        have hP := h803; clear h803; rw [odds_run_j4] at hP
        refine wp_region_lit ?_
        refine vr tbok 2 [] [(3, .bool out), (4, .pointer (some ⟨g17, 0, none⟩)), (10, .slice (some ⟨b792, 0, none⟩) (List.length r22) c32), (11, .slice (some ⟨b710, 0, none⟩) (List.length x105) c103), (16, .slice (some ⟨b707, 0, none⟩) (List.length now352) (Int.toNat (((List.length aAccept) : Nat) : Int))), (17, .slice A356 (List.length next745) (Int.toNat (((List.length aAccept) : Nat) : Int))), (18, .float .f64 taken746), (20, .float .f64 (List.getD now352 (Int.toNat x618) 0)), (22, .int .i64 (List.getD (List.getD x105 (Int.toNat x618) []) (Int.toNat x747) 0)), (23, .float .f64 f794), (57, .int .i64 n), (58, .int .i64 x358), (61, .slice (some ⟨b707, 0, none⟩) (List.length now352) (Int.toNat (((List.length aAccept) : Nat) : Int))), (62, .int .i64 (((List.length now352) : Nat) : Int)), (63, .int .i64 x618), (71, .slice (some ⟨b789, o790, none⟩) (List.length (List.getD x105 (Int.toNat x618) [])) c713), (72, .int .i64 (((List.length (List.getD x105 (Int.toNat x618) [])) : Nat) : Int)), (73, .int .i64 x747), (85, .bool out)] [] E (by kernel_rfl) trivial ?_
        clear E; intro a E
        refine E.cases (t := 85) rfl (fun hb_ E_ => ?_) (fun hb_ E_ => ?_)
        ·
         replace E := E_; clear E_
         have h807 : out = true := hb_
         clear hb_; replace hP := ite_t h807 hP
         obtain ⟨g808, hP⟩ := ask_inv hP
         obtain ⟨b809, o810, e_b809⟩ := (H.rd 0 rds_ro).addr (idx_pos g808)
         subst e_b809
         refine vr tbok 6 [.slice (some ⟨b809, o810, none⟩) (List.length aAccept) c2, .bool (List.getD aAccept (Int.toNat (List.getD (List.getD x105 (Int.toNat x618) []) (Int.toNat x747) 0)) false)] [(3, .bool out), (4, .pointer (some ⟨g17, 0, none⟩)), (10, .slice (some ⟨b792, 0, none⟩) (List.length r22) c32), (11, .slice (some ⟨b710, 0, none⟩) (List.length x105) c103), (16, .slice (some ⟨b707, 0, none⟩) (List.length now352) (Int.toNat (((List.length aAccept) : Nat) : Int))), (17, .slice A356 (List.length next745) (Int.toNat (((List.length aAccept) : Nat) : Int))), (18, .float .f64 taken746), (20, .float .f64 (List.getD now352 (Int.toNat x618) 0)), (22, .int .i64 (List.getD (List.getD x105 (Int.toNat x618) []) (Int.toNat x747) 0)), (23, .float .f64 f794), (57, .int .i64 n), (58, .int .i64 x358), (61, .slice (some ⟨b707, 0, none⟩) (List.length now352) (Int.toNat (((List.length aAccept) : Nat) : Int))), (62, .int .i64 (((List.length now352) : Nat) : Int)), (63, .int .i64 x618), (71, .slice (some ⟨b789, o790, none⟩) (List.length (List.getD x105 (Int.toNat x618) [])) c713), (72, .int .i64 (((List.length (List.getD x105 (Int.toNat x618) [])) : Nat) : Int)), (73, .int .i64 x747), (91, .bool (List.getD aAccept (Int.toNat (List.getD (List.getD x105 (Int.toNat x618) []) (Int.toNat x747) 0)) false))] [World.cell? w784 ⟨g17, 1, none⟩ = some (.slice (some ⟨b809, o810, none⟩) (List.length aAccept) c2), 0 ≤ (List.getD (List.getD x105 (Int.toNat x618) []) (Int.toNat x747) 0) ∧ (List.getD (List.getD x105 (Int.toNat x618) []) (Int.toNat x747) 0) < (((List.length aAccept) : Nat) : Int), World.cell? w784 ⟨b809, o810 + (Int.toNat (List.getD (List.getD x105 (Int.toNat x618) []) (Int.toNat x747) 0)) * 1, none⟩ = some (.bool (List.getD aAccept (Int.toNat (List.getD (List.getD x105 (Int.toNat x618) []) (Int.toNat x747) 0)) false))] E (by kernel_rfl) ⟨(H.box 3 rfl).cell (j := 1) rfl, g808, Rds.at1 (H.rd 0 rds_ro) false g808⟩ ?_
         clear E; intro a E
         refine wpList_nil ?_
         have hx_ := Option.some.inj hP
         exact .inl ⟨rfl, (List.getD aAccept (Int.toNat (List.getD (List.getD x105 (Int.toNat x618) []) (Int.toNat x747) 0)) false), E.pick _ ⟨rfl, rfl, rfl, rfl, rfl, rfl, rfl, rfl, rfl, rfl, rfl, rfl, rfl, rfl, rfl, rfl, rfl, rfl, rfl, trivial⟩, H.sel [0, 1, 2, 3, 4, 5, 6, 7, 8] rfl, hx_.symm⟩
        replace E := E_; clear E_
        have h811 : ¬ (out = true) := (ne_true_of_eq_false hb_)
        clear hb_; replace hP := ite_f h811 hP
        refine vr tbok 6 [] [(3, .bool out), (4, .pointer (some ⟨g17, 0, none⟩)), (10, .slice (some ⟨b792, 0, none⟩) (List.length r22) c32), (11, .slice (some ⟨b710, 0, none⟩) (List.length x105) c103), (16, .slice (some ⟨b707, 0, none⟩) (List.length now352) (Int.toNat (((List.length aAccept) : Nat) : Int))), (17, .slice A356 (List.length next745) (Int.toNat (((List.length aAccept) : Nat) : Int))), (18, .float .f64 taken746), (20, .float .f64 (List.getD now352 (Int.toNat x618) 0)), (22, .int .i64 (List.getD (List.getD x105 (Int.toNat x618) []) (Int.toNat x747) 0)), (23, .float .f64 f794), (57, .int .i64 n), (58, .int .i64 x358), (61, .slice (some ⟨b707, 0, none⟩) (List.length now352) (Int.toNat (((List.length aAccept) : Nat) : Int))), (62, .int .i64 (((List.length now352) : Nat) : Int)), (63, .int .i64 x618), (71, .slice (some ⟨b789, o790, none⟩) (List.length (List.getD x105 (Int.toNat x618) [])) c713), (72, .int .i64 (((List.length (List.getD x105 (Int.toNat x618) [])) : Nat) : Int)), (73, .int .i64 x747), (91, .bool false)] [] E (by kernel_rfl) trivial ?_
        clear E; intro a E
        refine wpList_nil ?_
        have hx_ := Option.some.inj hP
        exact .inl ⟨rfl, false, E.pick _ ⟨rfl, rfl, rfl, rfl, rfl, rfl, rfl, rfl, rfl, rfl, rfl, rfl, rfl, rfl, rfl, rfl, rfl, rfl, rfl, trivial⟩, H.sel [0, 1, 2, 3, 4, 5, 6, 7, 8] rfl, hx_.symm⟩
       clear E H h803; rintro a w806 ⟨x805, E, H, hx_⟩
       subst hx_; have hP := hK804; clear hK804
       refine th_n ?_
       refine E.cases (t := 91) rfl (fun hb_ E_ => ?_) (fun hb_ E_ => ?_)
       ·
        replace E := E_; clear E_
        have h812 : x802 = true := hb_
        clear hb_; replace hP := ite_t h812 hP
        refine c_true E rfl ?_
        refine wp_region_lit ?_
        obtain ⟨f813, h814, hP⟩ := bind_inv hP
        refine vr tbok 4 [.float .f64 f813] [(3, .bool out), (4, .pointer (some ⟨g17, 0, none⟩)), (10, .slice (some ⟨b792, 0, none⟩) (List.length r22) c32), (11, .slice (some ⟨b710, 0, none⟩) (List.length x105) c103), (16, .slice (some ⟨b707, 0, none⟩) (List.length now352) (Int.toNat (((List.length aAccept) : Nat) : Int))), (17, .slice A356 (List.length next745) (Int.toNat (((List.length aAccept) : Nat) : Int))), (18, .float .f64 f813), (20, .float .f64 (List.getD now352 (Int.toNat x618) 0)), (57, .int .i64 n), (58, .int .i64 x358), (61, .slice (some ⟨b707, 0, none⟩) (List.length now352) (Int.toNat (((List.length aAccept) : Nat) : Int))), (62, .int .i64 (((List.length now352) : Nat) : Int)), (63, .int .i64 x618), (71, .slice (some ⟨b789, o790, none⟩) (List.length (List.getD x105 (Int.toNat x618) [])) c713), (72, .int .i64 (((List.length (List.getD x105 (Int.toNat x618) [])) : Nat) : Int)), (73, .int .i64 x747)] [fAdd taken746 f794 = some f813] E (by kernel_rfl) (h814) ?_
        clear E; intro a E
        refine wpList_nil ?_
        refine bl_n ?_
        refine th_n ?_
        refine wp_region_lit ?_
        obtain ⟨g815, hP⟩ := ask_inv hP
        refine vr tbok 2 [.int .i64 (x747 + 1)] [(3, .bool out), (4, .pointer (some ⟨g17, 0, none⟩)), (10, .slice (some ⟨b792, 0, none⟩) (List.length r22) c32), (11, .slice (some ⟨b710, 0, none⟩) (List.length x105) c103), (16, .slice (some ⟨b707, 0, none⟩) (List.length now352) (Int.toNat (((List.length aAccept) : Nat) : Int))), (17, .slice A356 (List.length next745) (Int.toNat (((List.length aAccept) : Nat) : Int))), (18, .float .f64 f813), (20, .float .f64 (List.getD now352 (Int.toNat x618) 0)), (57, .int .i64 n), (58, .int .i64 x358), (61, .slice (some ⟨b707, 0, none⟩) (List.length now352) (Int.toNat (((List.length aAccept) : Nat) : Int))), (62, .int .i64 (((List.length now352) : Nat) : Int)), (63, .int .i64 x618), (71, .slice (some ⟨b789, o790, none⟩) (List.length (List.getD x105 (Int.toNat x618) [])) c713), (72, .int .i64 (((List.length (List.getD x105 (Int.toNat x618) [])) : Nat) : Int)), (73, .int .i64 (x747 + 1))] [IntKind.i64.wrap (x747 + 1) = x747 + 1] E (by kernel_rfl) (wrap_in g815) ?_
        clear E; intro a E
        refine wpList_nil ?_
        exact th_n ⟨m780, Nat.lt_succ_self _, next745, f813, x747 + 1, E.pick _ ⟨rfl, rfl, rfl, rfl, rfl, rfl, rfl, rfl, rfl, rfl, rfl, rfl, rfl, rfl, rfl, rfl, trivial⟩, H.sel [0, 1, 2, 3, 4, 5, 6, 7, 8] rfl, hP⟩
       replace E := E_; clear E_
       have h816 : ¬ (x802 = true) := (ne_true_of_eq_false hb_)
       clear hb_; replace hP := ite_f h816 hP
       refine c_false E rfl ?_
       refine wp_region_lit ?_
       obtain ⟨g817, hP⟩ := ask_inv hP
       obtain ⟨b818, e_b818⟩ := H.raddrx 7 rfl (idx_pos g817)
       subst e_b818
       obtain ⟨f820, h821, hP⟩ := bind_inv hP
       refine vr tbok 9 [.float .f64 (List.getD next745 (Int.toNat (List.getD (List.getD x105 (Int.toNat x618) []) (Int.toNat x747) 0)) 0), .float .f64 f820] [(3, .bool out), (4, .pointer (some ⟨g17, 0, none⟩)), (10, .slice (some ⟨b792, 0, none⟩) (List.length r22) c32), (11, .slice (some ⟨b710, 0, none⟩) (List.length x105) c103), (16, .slice (some ⟨b707, 0, none⟩) (List.length now352) (Int.toNat (((List.length aAccept) : Nat) : Int))), (17, .slice (some ⟨b818, 0, none⟩) (List.length next745) (Int.toNat (((List.length aAccept) : Nat) : Int))), (18, .float .f64 taken746), (20, .float .f64 (List.getD now352 (Int.toNat x618) 0)), (57, .int .i64 n), (58, .int .i64 x358), (61, .slice (some ⟨b707, 0, none⟩) (List.length now352) (Int.toNat (((List.length aAccept) : Nat) : Int))), (62, .int .i64 (((List.length now352) : Nat) : Int)), (63, .int .i64 x618), (71, .slice (some ⟨b789, o790, none⟩) (List.length (List.getD x105 (Int.toNat x618) [])) c713), (72, .int .i64 (((List.length (List.getD x105 (Int.toNat x618) [])) : Nat) : Int)), (73, .int .i64 x747), (102, .float .f64 f820), (103, .pointer (some ⟨b818, 0 + (Int.toNat (List.getD (List.getD x105 (Int.toNat x618) []) (Int.toNat x747) 0)) * 1, none⟩))] [0 ≤ (List.getD (List.getD x105 (Int.toNat x618) []) (Int.toNat x747) 0) ∧ (List.getD (List.getD x105 (Int.toNat x618) []) (Int.toNat x747) 0) < (((List.length next745) : Nat) : Int), World.cell? w806 ⟨b818, 0 + (Int.toNat (List.getD (List.getD x105 (Int.toNat x618) []) (Int.toNat x747) 0)) * 1, none⟩ = some (.float .f64 (List.getD next745 (Int.toNat (List.getD (List.getD x105 (Int.toNat x618) []) (Int.toNat x747) 0)) 0)), fAdd (List.getD next745 (Int.toNat (List.getD (List.getD x105 (Int.toNat x618) []) (Int.toNat x747) 0)) 0) f794 = some f820, 0 ≤ (List.getD (List.getD x105 (Int.toNat x618) []) (Int.toNat x747) 0) ∧ (List.getD (List.getD x105 (Int.toNat x618) []) (Int.toNat x747) 0) < (((List.length next745) : Nat) : Int)] E (by kernel_rfl) ⟨g817, Rds.at1 (H.rd 7 rds_rowx) 0 g817, h821, g817⟩ ?_
       clear E; intro a E
       refine h_setx (g := b818) (i := (List.getD (List.getD x105 (Int.toNat x618) []) (Int.toNat x747) 0)) f820 H 7 rfl E rfl rfl rfl rfl tbok rfl (fun _ HF_ => rfl) rfl g817 rfl ?_
       clear E; intro w822 a hc823 H_ E
       replace H := H_; clear H_; try dsimp only [setn, addE, goneL] at H
       have hn824 : (List.length next745) = (List.length (List.set next745 (Int.toNat (List.getD (List.getD x105 (Int.toNat x618) []) (Int.toNat x747) 0)) f820)) := by simp only [List.length_set]
       replace E := E.same (t := 17) (u := .slice (some ⟨b818, 0, none⟩) (List.length (List.set next745 (Int.toNat (List.getD (List.getD x105 (Int.toNat x618) []) (Int.toNat x747) 0)) f820)) (Int.toNat (((List.length aAccept) : Nat) : Int))) rfl (congrArg (fun n_ => Value.slice (some ⟨b818, 0, none⟩) n_ (Int.toNat (((List.length aAccept) : Nat) : Int))) hn824)
       refine wpList_nil ?_
       refine bl_n ?_
       refine th_n ?_
       refine wp_region_lit ?_
       obtain ⟨g825, hP⟩ := ask_inv hP
       refine vr tbok 2 [.int .i64 (x747 + 1)] [(3, .bool out), (4, .pointer (some ⟨g17, 0, none⟩)), (10, .slice (some ⟨b792, 0, none⟩) (List.length r22) c32), (11, .slice (some ⟨b710, 0, none⟩) (List.length x105) c103), (16, .slice (some ⟨b707, 0, none⟩) (List.length now352) (Int.toNat (((List.length aAccept) : Nat) : Int))), (17, .slice (some ⟨b818, 0, none⟩) (List.length (List.set next745 (Int.toNat (List.getD (List.getD x105 (Int.toNat x618) []) (Int.toNat x747) 0)) f820)) (Int.toNat (((List.length aAccept) : Nat) : Int))), (18, .float .f64 taken746), (20, .float .f64 (List.getD now352 (Int.toNat x618) 0)), (57, .int .i64 n), (58, .int .i64 x358), (61, .slice (some ⟨b707, 0, none⟩) (List.length now352) (Int.toNat (((List.length aAccept) : Nat) : Int))), (62, .int .i64 (((List.length now352) : Nat) : Int)), (63, .int .i64 x618), (71, .slice (some ⟨b789, o790, none⟩) (List.length (List.getD x105 (Int.toNat x618) [])) c713), (72, .int .i64 (((List.length (List.getD x105 (Int.toNat x618) [])) : Nat) : Int)), (73, .int .i64 (x747 + 1))] [IntKind.i64.wrap (x747 + 1) = x747 + 1] E (by kernel_rfl) (wrap_in g825) ?_
       clear E; intro a E
       refine wpList_nil ?_
       exact th_n ⟨m780, Nat.lt_succ_self _, List.set next745 (Int.toNat (List.getD (List.getD x105 (Int.toNat x618) []) (Int.toNat x747) 0)) f820, taken746, x747 + 1, E.pick _ ⟨rfl, rfl, rfl, rfl, rfl, rfl, rfl, rfl, rfl, rfl, rfl, rfl, rfl, rfl, rfl, rfl, trivial⟩, H.sel [0, 1, 2, 3, 4, 5, 6, 7, 8] rfl, hP⟩
      replace E := E_; clear E_
      have h826 : ¬ (x747 < (((List.length (List.getD x105 (Int.toNat x618) [])) : Nat) : Int)) := of_decide_eq_false hb_
      clear hb_; replace hP := ite_f h826 hP
      refine c_false E rfl ?_
      refine wp_exit ?_
      refine th_exit ?_
      have hx_ := Option.some.inj hP
      refine th_exit (.inl ⟨6, rfl, ?_⟩)
      exact ⟨rfl, (next745, taken746), E.pick _ ⟨rfl, rfl, rfl, rfl, rfl, rfl, rfl, rfl, rfl, rfl, rfl, rfl, trivial⟩, H.sel [0, 1, 2, 3, 4, 5, 6, 7] rfl, hx_.symm⟩
     clear E H hL782; intro i_ a w784 hM_
     obtain ⟨rfl, x786, E, H, hx_⟩ := hM_
     subst hx_; have hP := hK783; clear hK783
     refine bl_hit ?_
     refine bl_n ?_
     refine th_n ?_
     refine wp_region_lit ?_
     obtain ⟨g827, hP⟩ := ask_inv hP
     refine vr tbok 2 [.int .i64 (x618 + 1)] [(3, .bool out), (4, .pointer (some ⟨g17, 0, none⟩)), (10, .slice A31 (List.length r22) c32), (11, .slice (some ⟨b710, 0, none⟩) (List.length x105) c103), (16, .slice (some ⟨b707, 0, none⟩) (List.length now352) (Int.toNat (((List.length aAccept) : Nat) : Int))), (17, .slice A356 (List.length x781.1) (Int.toNat (((List.length aAccept) : Nat) : Int))), (18, .float .f64 x781.2), (57, .int .i64 n), (58, .int .i64 x358), (61, .slice (some ⟨b707, 0, none⟩) (List.length now352) (Int.toNat (((List.length aAccept) : Nat) : Int))), (62, .int .i64 (((List.length now352) : Nat) : Int)), (63, .int .i64 (x618 + 1))] [IntKind.i64.wrap (x618 + 1) = x618 + 1] E (by kernel_rfl) (wrap_in g827) ?_
     clear E; intro a E
     refine wpList_nil ?_
     exact th_n ⟨m698, Nat.lt_succ_self _, x781.1, x781.2, x618 + 1, E.pick _ ⟨rfl, rfl, rfl, rfl, rfl, rfl, rfl, rfl, rfl, rfl, rfl, rfl, trivial⟩, H.sel [0, 1, 2, 3, 4, 5, 6, 7] rfl, hP⟩
    replace E := E_; clear E_
    have h828 : ¬ (x618 < (((List.length now352) : Nat) : Int)) := of_decide_eq_false hb_
    clear hb_; replace hP := ite_f h828 hP
    refine c_false E rfl ?_
    refine wp_exit ?_
    refine th_exit ?_
    have hx_ := Option.some.inj hP
    refine th_exit (.inl ⟨4, rfl, ?_⟩)
    exact ⟨rfl, (next616, taken617), E.pick _ ⟨rfl, rfl, rfl, rfl, rfl, rfl, rfl, rfl, rfl, trivial⟩, H.sel [0, 1, 2, 3, 4, 5, 6, 7] rfl, hx_.symm⟩
   clear E H hL700; intro i_ a w702 hM_
   obtain ⟨rfl, x704, E, H, hx_⟩ := hM_
   subst hx_; have hP := hK701; clear hK701
   refine bl_hit ?_
   refine th_n ?_
   refine wp_region_lit ?_
   refine vr tbok 4 [] [(3, .bool out), (4, .pointer (some ⟨g17, 0, none⟩)), (10, .slice A31 (List.length r22) c32), (11, .slice A102 (List.length x105) c103), (16, .slice A356 (List.length x699.1) (Int.toNat (((List.length aAccept) : Nat) : Int))), (17, .slice A353 (List.length now352) (Int.toNat (((List.length aAccept) : Nat) : Int))), (18, .float .f64 x699.2), (57, .int .i64 n), (58, .int .i64 x358)] [] E (by kernel_rfl) trivial ?_
   clear E; intro a E
   refine wpList_nil ?_
   refine bl_n ?_
   refine th_n ?_
   refine wp_region_lit ?_
   obtain ⟨g829, hP⟩ := ask_inv hP
   refine vr tbok 2 [.int .i64 (x358 + 1)] [(3, .bool out), (4, .pointer (some ⟨g17, 0, none⟩)), (10, .slice A31 (List.length r22) c32), (11, .slice A102 (List.length x105) c103), (16, .slice A356 (List.length x699.1) (Int.toNat (((List.length aAccept) : Nat) : Int))), (17, .slice A353 (List.length now352) (Int.toNat (((List.length aAccept) : Nat) : Int))), (18, .float .f64 x699.2), (57, .int .i64 n), (58, .int .i64 (x358 + 1))] [IntKind.i64.wrap (x358 + 1) = x358 + 1] E (by kernel_rfl) (wrap_in g829) ?_
   clear E; intro a E
   refine wpList_nil ?_
   exact th_n ⟨m529, Nat.lt_succ_self _, x699.1, now352, x699.2, x358 + 1, A356, A353, E.pick _ ⟨rfl, rfl, rfl, rfl, rfl, rfl, rfl, rfl, rfl, trivial⟩, H.sel [0, 1, 2, 3, 4, 5, 7, 6] rfl, hP⟩
  replace E := E_; clear E_
  have h830 : ¬ (x358 < n) := of_decide_eq_false hb_
  clear hb_; replace hP := ite_f h830 hP
  refine c_false E rfl ?_
  refine wp_exit ?_
  refine th_exit ?_
  have hx_ := Option.some.inj hP
  refine th_exit (.inl ⟨2, rfl, ?_⟩)
  exact ⟨rfl, (now352, taken357), A353, E.pick _ ⟨rfl, rfl, trivial⟩, H.sel [6] rfl, hx_.symm⟩
 clear E H hL531; intro i_ a w533 hM_
 obtain ⟨rfl, x535, A527, E, H, hx_⟩ := hM_
 subst hx_; have hP := hK532; clear hK532
 refine bl_hit ?_
 refine th_n ?_
 refine wp_seq ?_
 refine wp_region_lit ?_
 refine vr tbok 4 [] [(8, .slice A527 (List.length x530.1) (Int.toNat (((List.length aAccept) : Nat) : Int))), (9, .float .f64 x530.2)] [] E (by kernel_rfl) trivial ?_
 clear E; intro a E
 refine wpList_nil ?_
 refine th_n ?_
 refine wp_ret ?_
 replace H := H.rowx 0 rfl; try dsimp only [setn, addE, goneL] at H
 obtain rfl := Option.some.inj hP
 refine ret2 E rfl rfl rfl ?_
 exact ⟨_, rfl, A527, (Int.toNat (((List.length aAccept) : Nat) : Int)), rfl, H.sel [0] rfl⟩

end Go.V
