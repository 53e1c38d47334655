/- Plain functions, and the calls that give them. -/
import Derived.Test.YtokfobioklmiaaaA6
set_option linter.all false
set_option linter.unusedVariables false
set_option linter.unnecessarySimpa false
set_option linter.unusedSimpArgs false
namespace Go.V
open Go Go.Proofs
/-! rejoinder/rejoinderref14.Next -/
def ref14_Next (N : Nat) (aProps : Int) (aAccept : List Bool) (aGuard : List Int) (aNodes : List Nd) (q : Int) (ll : Int) : Option Int :=
  ask (idx q (List.length aGuard)) <|
  Option.bind (ref14_Go N aNodes (List.getD aGuard (Int.toNat q) 0) ll) fun r21 =>
  some r21.1
set_option maxRecDepth 100000 in
set_option maxHeartbeats 4000000 in
theorem ref14_Next_calls {N : Nat} {S Fa : Nat → Prop} {w0 : World} {r : Int} (A1 : Option Addr) (c2 : Nat) (A5 : Option Addr) (c6 : Nat) (A9 : Option Addr) (c10 : Nat) (aProps : Int) (aAccept : List Bool) (aGuard : List Int) (aNodes : List Nd) (q : Int) (ll : Int) (hk3 : List.length aAccept ≤ c2) (hk7 : List.length aGuard ≤ c6) (hk11 : List.length aNodes ≤ c10) (H : Hp S Fa w0 w0 [.ro false cBool A1 aAccept, .ro false (cInt .i64) A5 aGuard, .ro false cNode A9 aNodes]) (hP : ref14_Next N aProps aAccept aGuard aNodes q ll = some r) :
    Calls Try.prog 51 #[.agg #[.int .i64 aProps, .slice A1 (List.length aAccept) c2, .slice A5 (List.length aGuard) c6, .slice A9 (List.length aNodes) c10], .int .i64 q, .int .u8 ll] w0 fun e w' => ∃ v, e = .returned v ∧ v = .int .i64 r ∧ Hp S Fa w0 w' [] := by
 refine enterV (n := 22) Try.func51 rfl rfl rfl ?_
 intro a E
 replace E := E.pick [(0, .agg #[.int .i64 aProps, .slice A1 (List.length aAccept) c2, .slice A5 (List.length aGuard) c6, .slice A9 (List.length aNodes) c10]), (1, .int .i64 q), (2, .int .u8 ll)] ⟨rfl, rfl, rfl, trivial⟩
 rw [ref14_Next] at hP
 refine wp_seq ?_
 refine wp_region_lit ?_
 refine h_box H E rfl rfl rfl ?_
 intro w14 g13 a hc15 hg17 H_ E_
 replace E := E_ _ rfl; clear E_
 replace H := H_; clear H_; try dsimp only [setn, addE, goneL] at H
 refine vn tbok 1 [] [] [] E (by kernel_rfl) (by kernel_rfl) trivial ?_
 clear E; intro a E
 refine wpList_nil ?_
 refine th_n ?_
 refine wp_seq ?_
 obtain ⟨g18, hP⟩ := ask_inv hP
 obtain ⟨b19, o20, e_b19⟩ := (H.rd 1 rds_ro).addr (idx_pos g18)
 subst e_b19
 obtain ⟨r21, h22, hP⟩ := bind_inv hP
 have HR33 := H
 refine dr_start (S := fun w_ => Chg (atL []) w14 w_) (by kernel_rfl) ?_
 intro w30 hc31
 have HS32 : Chg (atL []) w14 w30 := hc31.mono (fun _ _ h_ => h_.elim)
 replace H := H.ext hc31
 refine dn tbok (by kernel_rfl) [0, 1, 2, 3, 4, 5, 6, 7] [.slice A9 (List.length aNodes) c10, .slice (some ⟨b19, o20, none⟩) (List.length aGuard) c6, .int .i64 (List.getD aGuard (Int.toNat q) 0)] [(11, .slice A9 (List.length aNodes) c10), (16, .int .i64 (List.getD aGuard (Int.toNat q) 0)), (17, .int .u8 ll)] (fun w_ => [World.cell? w_ ⟨g13, 3, none⟩ = some (.slice A9 (List.length aNodes) c10), World.cell? w_ ⟨g13, 2, none⟩ = some (.slice (some ⟨b19, o20, none⟩) (List.length aGuard) c6), 0 ≤ q ∧ q < (((List.length aGuard) : Nat) : Int), World.cell? w_ ⟨b19, o20 + (Int.toNat q) * 1, none⟩ = some (.int .i64 (List.getD aGuard (Int.toNat q) 0))]) 6 E (fun _ _ => by kernel_rfl) (by kernel_rfl) (fun w_ hS_ => ⟨(HR33.boxk [] hS_ 3 rfl rfl).cell (j := 3) rfl, (HR33.boxk [] hS_ 3 rfl rfl).cell (j := 2) rfl, g18, Rds.at1 (HR33.rdk [] hS_ 1 rds_ro rfl) 0 g18⟩) (by kernel_rfl) HS32 ?_
 clear E; intro a E
 refine wpAnyH_all (rs := [8]) (by kernel_rfl) (by simp) ?_
 refine all1 ?_
 refine wpOp_of_list rfl ?_
 obtain ⟨Fa34, Hc35, hb36⟩ := H.call [] [(2, false)] rfl rfl trivial
 refine e_call E rfl rfl Try.func54 rfl rfl rfl (ref14_Go_calls A9 c10 aNodes (List.getD aGuard (Int.toNat q) 0) ll hk11 Hc35 h22) ?_
 rintro v37 w38 a ⟨rfl, HR39⟩ E_
 replace E := E_ _ rfl; clear E_
 obtain ⟨H_, hc40⟩ := hb36 _ _ HR39 rfl
 replace HS32 := HS32.ext (callS_ext hc40)
 replace H := H_; clear H_; try dsimp only [setn, addE, goneL] at H
 refine wpList_nil ?_
 refine th_n ⟨HS32, ?_⟩
 refine dn tbok (by kernel_rfl) [9, 10, 11, 12, 13] [] [(7, .int .i64 r21.1)] (fun w_ => []) 0 E (fun _ _ => by kernel_rfl) (by kernel_rfl) (fun w_ hS_ => trivial) (by kernel_rfl) HS32 ?_
 clear E; intro a E
 refine dr_done (by kernel_rfl) ?_
 clear HS32 HR33
 refine th_n ?_
 refine wp_seq ?_
 refine wp_region_lit ?_
 refine vn tbok 2 [] [(6, .int .i64 r21.1)] [] E (by kernel_rfl) (by kernel_rfl) trivial ?_
 clear E; intro a E
 refine wpList_nil ?_
 refine th_n ?_
 refine wp_ret ?_
 obtain rfl := Option.some.inj hP
 refine ret1 E rfl rfl ?_
 exact ⟨_, rfl, rfl, H.sel [] rfl⟩

/-! rejoinder/rejoinderref22.Rows -/
def ref22_Rows_l1 (N : Nat) (aProps : Int) (aAccept : List Bool) (aGuard : List Int) (aNodes : List Nd) (q : Int) (r23 : List Int) (r35 : List Int) (i205 : Int) : Nat → (List Int) → Int → Option (List Int)
  | 0, _, _ => none
  | m465 + 1, row404, k407 =>
    if k407 < (((List.length r35) : Nat) : Int) then
      ask (idx i205 (List.length r23)) <|
      ask (idx k407 (List.length r35)) <|
      Option.bind (ref14_Next N aProps aAccept aGuard aNodes q (orV .u8 (List.getD r23 (Int.toNat i205) 0) (List.getD r35 (Int.toNat k407) 0))) fun r480 =>
      ask (List.length row404 + List.length ([r480] : List Int) ≤ 1000000000) <|
      ask (in64 (k407 + 1)) <|
      ref22_Rows_l1 N aProps aAccept aGuard aNodes q r23 r35 i205 m465 (row404 ++ ([r480] : List Int)) (k407 + 1)
    else
      some row404
def ref22_Rows_l0 (N : Nat) (aProps : Int) (aAccept : List Bool) (aGuard : List Int) (aNodes : List Nd) (q : Int) (r23 : List Int) (r35 : List Int) : Nat → (List (List Int)) → Int → Option (List (List Int))
  | 0, _, _ => none
  | m341 + 1, out202, i205 =>
    if i205 < (((List.length r23) : Nat) : Int) then
      Option.bind (ref22_Rows_l1 N aProps aAccept aGuard aNodes q r23 r35 i205 N [] 0) fun x466 =>
      ask (List.length out202 + List.length ([x466] : List (List Int)) ≤ 1000000000) <|
      ask (in64 (i205 + 1)) <|
      ref22_Rows_l0 N aProps aAccept aGuard aNodes q r23 r35 m341 (out202 ++ ([x466] : List (List Int))) (i205 + 1)
    else
      some out202
def ref22_Rows (N : Nat) (aProps : Int) (aAccept : List Bool) (aGuard : List Int) (aNodes : List Nd) (s : Int × Int) (q : Int) : Option (List (List Int)) :=
  Option.bind (ref22_Moves N s.1) fun r23 =>
  Option.bind (ref22_Moves N s.2) fun r35 =>
  Option.bind (ref22_Rows_l0 N aProps aAccept aGuard aNodes q r23 r35 N [] 0) fun x342 =>
  some x342
set_option maxRecDepth 100000 in
set_option maxHeartbeats 4000000 in
theorem ref22_Rows_calls {N : Nat} {S Fa : Nat → Prop} {w0 : World} {r : List (List Int)} (A1 : Option Addr) (c2 : Nat) (A5 : Option Addr) (c6 : Nat) (A9 : Option Addr) (c10 : Nat) (aProps : Int) (aAccept : List Bool) (aGuard : List Int) (aNodes : List Nd) (s : Int × Int) (q : Int) (hk3 : List.length aAccept ≤ c2) (hk7 : List.length aGuard ≤ c6) (hk11 : List.length aNodes ≤ c10) (H : Hp S Fa w0 w0 [.ro false cBool A1 aAccept, .ro false (cInt .i64) A5 aGuard, .ro false cNode A9 aNodes]) (hP : ref22_Rows N aProps aAccept aGuard aNodes s q = some r) :
    Calls Try.prog 46 #[.agg #[.int .i64 aProps, .slice A1 (List.length aAccept) c2, .slice A5 (List.length aGuard) c6, .slice A9 (List.length aNodes) c10], .agg #[.int .u8 s.1, .int .u8 s.2], .int .i64 q] w0 fun e w' => ∃ v, e = .returned v ∧ ∃ (A539 : Option Addr) (c540 : Nat), v = .slice A539 (List.length r) c540 ∧ Hp S Fa w0 w' [.row true (cSl (cInt .i64)) 23 A539 c540 r] := by
 refine enterV (n := 51) Try.func46 rfl rfl rfl ?_
 intro a E
 replace E := E.pick [(0, .agg #[.int .i64 aProps, .slice A1 (List.length aAccept) c2, .slice A5 (List.length aGuard) c6, .slice A9 (List.length aNodes) c10]), (1, .agg #[.int .u8 s.1, .int .u8 s.2]), (2, .int .i64 q)] ⟨rfl, rfl, rfl, trivial⟩
 rw [ref22_Rows] at hP
 refine wp_seq ?_
 refine wp_region_lit ?_
 refine h_box H E rfl rfl rfl ?_
 intro w14 g13 a hc15 hg17 H_ E_
 replace E := E_ _ rfl; clear E_
 replace H := H_; clear H_; try dsimp only [setn, addE, goneL] at H
 refine h_box H E rfl rfl rfl ?_
 intro w19 g18 a hc20 hg22 H_ E_
 replace E := E_ _ rfl; clear E_
 replace H := H_; clear H_; try dsimp only [setn, addE, goneL] at H
 refine vn tbok 1 [] [] [] E (by kernel_rfl) (by kernel_rfl) trivial ?_
 clear E; intro a E
 refine wpList_nil ?_
 refine th_n ?_
 refine wp_seq ?_
 obtain ⟨r23, h24, hP⟩ := bind_inv hP
 obtain ⟨r35, h36, hP⟩ := bind_inv hP
 have HR50 := H
 refine dr_start (S := fun w_ => Chg (atL []) w19 w_) (by kernel_rfl) ?_
 intro w47 hc48
 have HS49 : Chg (atL []) w19 w47 := hc48.mono (fun _ _ h_ => h_.elim)
 replace H := H.ext hc48
 refine dn tbok (by kernel_rfl) [0, 1, 3, 4] [.int .u8 s.1, .int .u8 s.2] [(14, .int .u8 s.1), (17, .int .u8 s.2)] (fun w_ => [World.cell? w_ ⟨g18, 0, none⟩ = some (.int .u8 s.1), World.cell? w_ ⟨g18, 1, none⟩ = some (.int .u8 s.2)]) 4 E (fun _ _ => by kernel_rfl) (by kernel_rfl) (fun w_ hS_ => ⟨(HR50.boxk [] hS_ 4 rfl rfl).cell (j := 0) rfl, (HR50.boxk [] hS_ 4 rfl rfl).cell (j := 1) rfl⟩) (by kernel_rfl) HS49 ?_
 clear E; intro a E
 refine wpAnyH_all (rs := [2]) (by kernel_rfl) (by simp) ?_
 refine all1 ?_
 refine wpOp_of_list rfl ?_
 obtain ⟨Fa51, Hc52, hb53⟩ := H.call [] [] rfl rfl trivial
 refine e_call E rfl rfl Try.func50 rfl rfl rfl (ref22_Moves_calls  s.1  Hc52 h24) ?_
 rintro v54 w55 a ⟨A58, c59, rfl, HR56⟩ E_
 replace E := E_ _ rfl; clear E_
 obtain ⟨H_, hc57⟩ := hb53 _ _ HR56 rfl
 replace HS49 := HS49.ext (callS_ext hc57)
 replace H := H_; clear H_; try dsimp only [setn, addE, goneL] at H
 refine wpList_nil ?_
 refine th_n ⟨HS49, ?_⟩
 refine wpAnyH_all (rs := [5]) (by kernel_rfl) (by simp) ?_
 refine all1 ?_
 refine wpOp_of_list rfl ?_
 obtain ⟨Fa61, Hc62, hb63⟩ := H.call [] [] rfl rfl trivial
 refine e_call E rfl rfl Try.func50 rfl rfl rfl (ref22_Moves_calls  s.2  Hc62 h36) ?_
 rintro v64 w65 a ⟨A68, c69, rfl, HR66⟩ E_
 replace E := E_ _ rfl; clear E_
 obtain ⟨H_, hc67⟩ := hb63 _ _ HR66 rfl
 replace HS49 := HS49.ext (callS_ext hc67)
 replace H := H_; clear H_; try dsimp only [setn, addE, goneL] at H
 refine wpList_nil ?_
 refine th_n ⟨HS49, ?_⟩
 refine dn tbok (by kernel_rfl) [6, 7] [] [(7, .slice A58 (List.length r23) c59), (8, .slice A68 (List.length r35) c69)] (fun w_ => []) 0 E (fun _ _ => by kernel_rfl) (by kernel_rfl) (fun w_ hS_ => trivial) (by kernel_rfl) HS49 ?_
 clear E; intro a E
 refine dr_done (by kernel_rfl) ?_
 clear HS49 HR50
 refine th_n ?_
 refine wp_seq ?_
 refine wp_region_lit ?_
 refine vn tbok 1 [] [(9, .slice none 0 0)] [] E (by kernel_rfl) (by kernel_rfl) trivial ?_
 clear E; intro a E
 refine wpList_nil ?_
 refine th_n ?_
 refine wp_seq ?_
 refine wp_seq ?_
 refine wp_region_lit ?_
 refine vn tbok 1 [] [(10, .int .i64 0)] [] E (by kernel_rfl) (by kernel_rfl) trivial ?_
 clear E; intro a E
 refine wpList_nil ?_
 refine th_n ?_
 refine wp_block ?_
 obtain ⟨x342, hL343, hK344⟩ := bind_inv hP
 clear hP
 replace H := H.nilrow (cSl (cInt .i64)) 23; try dsimp only [setn, addE, goneL] at H
 refine loop_cut (fun i_ a w_ => (i_ = 0 ∧ ∃ (x348 : List (List Int)), ∃ (A339 : Option Addr) (c340 : Nat), Fr a 51 [(9, .slice A339 (List.length x348) c340)] ∧ Hp S Fa w0 w_ [.row true (cSl (cInt .i64)) 23 A339 c340 x348] ∧ x342 = x348)) ?_ ?_
 ·
  refine loopV (fun m347 a w346 => ∃ (out202 : List (List Int)) (i205 : Int), ∃ (A203 : Option Addr) (c204 : Nat), Fr a 51 [(2, .int .i64 q), (3, .pointer (some ⟨g13, 0, none⟩)), (7, .slice A58 (List.length r23) c59), (8, .slice A68 (List.length r35) c69), (9, .slice A203 (List.length out202) c204), (10, .int .i64 i205)] ∧ Hp S Fa w0 w346 [.ro false cBool A1 aAccept, .ro false (cInt .i64) A5 aGuard, .ro false cNode A9 aNodes, .box g13 26 [.int .i64 aProps, .slice A1 (List.length aAccept) c2, .slice A5 (List.length aGuard) c6, .slice A9 (List.length aNodes) c10], .row true (cInt .u8) 27 A58 c59 r23, .row true (cInt .u8) 27 A68 c69 r35, .row true (cSl (cInt .i64)) 23 A203 c204 out202] ∧ ref22_Rows_l0 N aProps aAccept aGuard aNodes q r23 r35 m347 out202 i205 = some x342) N ?_ ?_
  ·
   exact ⟨[], 0, none, 0, E.pick _ ⟨rfl, rfl, rfl, rfl, rfl, rfl, trivial⟩, H.sel [0, 1, 2, 3, 5, 6, 7] rfl, hL343⟩
  clear E H hL343; intro m347 a w346 hI_
  obtain ⟨out202, i205, A203, c204, E, H, hP⟩ := hI_
  obtain ⟨m341, rfl⟩ : ∃ q_, m347 = q_ + 1 := by cases m347 with | zero => rw [ref22_Rows_l0] at hP; cases hP | succ q_ => exact ⟨q_, rfl⟩
  rw [ref22_Rows_l0] at hP
  refine wp_seq ?_
  refine wp_seq ?_
  refine wp_region_lit ?_
  refine vn tbok 4 [] [(22, .bool (decide (i205 < (((List.length r23) : Nat) : Int))))] [] E (by kernel_rfl) (by kernel_rfl) trivial ?_
  clear E; intro a E
  refine wpList_nil ?_
  refine th_n ?_
  refine E.cases (t := 22) rfl (fun hb_ E_ => ?_) (fun hb_ E_ => ?_)
  ·
   replace E := E_; clear E_
   have h349 : i205 < (((List.length r23) : Nat) : Int) := of_decide_eq_true hb_
   clear hb_; replace hP := ite_t h349 hP
   refine c_true E rfl ?_
   refine wp_skip ?_
   refine th_n ?_
   refine wp_seq ?_
   refine wp_block ?_
   refine wp_seq ?_
   refine wp_region_lit ?_
   refine vn tbok 1 [] [(11, .slice none 0 0)] [] E (by kernel_rfl) (by kernel_rfl) trivial ?_
   clear E; intro a E
   refine wpList_nil ?_
   refine th_n ?_
   refine wp_seq ?_
   refine wp_seq ?_
   refine wp_region_lit ?_
   refine vn tbok 1 [] [(12, .int .i64 0)] [] E (by kernel_rfl) (by kernel_rfl) trivial ?_
   clear E; intro a E
   refine wpList_nil ?_
   refine th_n ?_
   refine wp_block ?_
   obtain ⟨x466, hL467, hK468⟩ := bind_inv hP
   clear hP
   replace H := H.nilrow (cInt .i64) 3; try dsimp only [setn, addE, goneL] at H
   refine loop_cut (fun i_ a w_ => (i_ = 2 ∧ ∃ (x472 : List Int), ∃ (A463 : Option Addr) (c464 : Nat), Fr a 51 [(2, .int .i64 q), (3, .pointer (some ⟨g13, 0, none⟩)), (7, .slice A58 (List.length r23) c59), (8, .slice A68 (List.length r35) c69), (9, .slice A203 (List.length out202) c204), (10, .int .i64 i205), (11, .slice A463 (List.length x472) c464)] ∧ Hp S Fa w0 w_ [.ro false cBool A1 aAccept, .ro false (cInt .i64) A5 aGuard, .ro false cNode A9 aNodes, .box g13 26 [.int .i64 aProps, .slice A1 (List.length aAccept) c2, .slice A5 (List.length aGuard) c6, .slice A9 (List.length aNodes) c10], .row true (cInt .u8) 27 A58 c59 r23, .row true (cInt .u8) 27 A68 c69 r35, .row true (cSl (cInt .i64)) 23 A203 c204 out202, .row true (cInt .i64) 3 A463 c464 x472] ∧ x466 = x472)) ?_ ?_
   ·
    refine loopV (fun m471 a w470 => ∃ (row404 : List Int) (k407 : Int), ∃ (A405 : Option Addr) (c406 : Nat), Fr a 51 [(2, .int .i64 q), (3, .pointer (some ⟨g13, 0, none⟩)), (7, .slice A58 (List.length r23) c59), (8, .slice A68 (List.length r35) c69), (9, .slice A203 (List.length out202) c204), (10, .int .i64 i205), (11, .slice A405 (List.length row404) c406), (12, .int .i64 k407)] ∧ Hp S Fa w0 w470 [.ro false cBool A1 aAccept, .ro false (cInt .i64) A5 aGuard, .ro false cNode A9 aNodes, .box g13 26 [.int .i64 aProps, .slice A1 (List.length aAccept) c2, .slice A5 (List.length aGuard) c6, .slice A9 (List.length aNodes) c10], .row true (cInt .u8) 27 A58 c59 r23, .row true (cInt .u8) 27 A68 c69 r35, .row true (cSl (cInt .i64)) 23 A203 c204 out202, .row true (cInt .i64) 3 A405 c406 row404] ∧ ref22_Rows_l1 N aProps aAccept aGuard aNodes q r23 r35 i205 m471 row404 k407 = some x466) N ?_ ?_
    ·
     exact ⟨[], 0, none, 0, E.pick _ ⟨rfl, rfl, rfl, rfl, rfl, rfl, rfl, rfl, trivial⟩, H.sel [0, 1, 2, 3, 4, 5, 6, 7] rfl, hL467⟩
    clear E H hL467; intro m471 a w470 hI_
    obtain ⟨row404, k407, A405, c406, E, H, hP⟩ := hI_
    obtain ⟨m465, rfl⟩ : ∃ q_, m471 = q_ + 1 := by cases m471 with | zero => rw [ref22_Rows_l1] at hP; cases hP | succ q_ => exact ⟨q_, rfl⟩
    rw [ref22_Rows_l1] at hP
    refine wp_seq ?_
    refine wp_seq ?_
    refine wp_region_lit ?_
    refine vn tbok 4 [] [(28, .bool (decide (k407 < (((List.length r35) : Nat) : Int))))] [] E (by kernel_rfl) (by kernel_rfl) trivial ?_
    clear E; intro a E
    refine wpList_nil ?_
    refine th_n ?_
    refine E.cases (t := 28) rfl (fun hb_ E_ => ?_) (fun hb_ E_ => ?_)
    ·
     replace E := E_; clear E_
     have h473 : k407 < (((List.length r35) : Nat) : Int) := of_decide_eq_true hb_
     clear hb_; replace hP := ite_t h473 hP
     refine c_true E rfl ?_
     refine wp_skip ?_
     refine th_n ?_
     refine wp_seq ?_
     refine wp_block ?_
     obtain ⟨g474, hP⟩ := ask_inv hP
     obtain ⟨b475, e_b475⟩ := H.raddr 4 rfl (idx_pos g474)
     subst e_b475
     obtain ⟨g477, hP⟩ := ask_inv hP
     obtain ⟨b478, e_b478⟩ := H.raddr 5 rfl (idx_pos g477)
     subst e_b478
     obtain ⟨r480, h481, hP⟩ := bind_inv hP
     obtain ⟨g494, hP⟩ := ask_inv hP
     have HR503 := H
     refine dr_start (S := fun w_ => Chg (atL [.row true (cInt .i64) 3 A405 c406 row404]) w470 w_) (by kernel_rfl) ?_
     intro w500 hc501
     have HS502 : Chg (atL [.row true (cInt .i64) 3 A405 c406 row404]) w470 w500 := hc501.mono (fun _ _ h_ => h_.elim)
     replace H := H.ext hc501
     refine dn tbok (by kernel_rfl) [0, 1, 2, 3, 4, 5, 6, 7, 8, 9, 10, 11] [.agg #[.int .i64 aProps, .slice A1 (List.length aAccept) c2, .slice A5 (List.length aGuard) c6, .slice A9 (List.length aNodes) c10], .int .u8 (List.getD r23 (Int.toNat i205) 0), .int .u8 (List.getD r35 (Int.toNat k407) 0), .int .u8 (orV .u8 (List.getD r23 (Int.toNat i205) 0) (List.getD r35 (Int.toNat k407) 0))] [(31, .slice A405 (List.length row404) c406), (32, .agg #[.int .i64 aProps, .slice A1 (List.length aAccept) c2, .slice A5 (List.length aGuard) c6, .slice A9 (List.length aNodes) c10]), (33, .int .i64 q), (42, .int .u8 (orV .u8 (List.getD r23 (Int.toNat i205) 0) (List.getD r35 (Int.toNat k407) 0)))] (fun w_ => [cellsAt w_ g13 (0) [.int .i64 aProps, .slice A1 (List.length aAccept) c2, .slice A5 (List.length aGuard) c6, .slice A9 (List.length aNodes) c10], 0 ≤ i205 ∧ i205 < (((List.length r23) : Nat) : Int), World.cell? w_ ⟨b475, 0 + (Int.toNat i205) * 1, none⟩ = some (.int .u8 (List.getD r23 (Int.toNat i205) 0)), 0 ≤ k407 ∧ k407 < (((List.length r35) : Nat) : Int), World.cell? w_ ⟨b478, 0 + (Int.toNat k407) * 1, none⟩ = some (.int .u8 (List.getD r35 (Int.toNat k407) 0)), IntKind.u8.wrap (BitVec.ofInt (IntKind.bits .u8) (List.getD r23 (Int.toNat i205) 0) ||| BitVec.ofInt (IntKind.bits .u8) (List.getD r35 (Int.toNat k407) 0)).toNat = orV .u8 (List.getD r23 (Int.toNat i205) 0) (List.getD r35 (Int.toNat k407) 0)]) 4 E (fun _ _ => by kernel_rfl) (by kernel_rfl) (fun w_ hS_ => ⟨(HR503.boxk [7] hS_ 3 rfl rfl).sub 0 _ rfl, g474, Rds.at1 (HR503.rdk [7] hS_ 4 rds_row rfl) 0 g474, g477, Rds.at1 (HR503.rdk [7] hS_ 5 rds_row rfl) 0 g477, rfl⟩) (by kernel_rfl) HS502 ?_
     clear E; intro a E
     refine wpAnyH_all (rs := [12]) (by kernel_rfl) (by simp) ?_
     refine all1 ?_
     refine wpOp_of_list rfl ?_
     obtain ⟨Fa504, Hc505, hb506⟩ := H.call [] [(0, false), (1, false), (2, false)] rfl rfl trivial
     refine e_call E rfl rfl Try.func51 rfl rfl rfl (ref14_Next_calls A1 c2 A5 c6 A9 c10 aProps aAccept aGuard aNodes q (orV .u8 (List.getD r23 (Int.toNat i205) 0) (List.getD r35 (Int.toNat k407) 0)) hk3 hk7 hk11 Hc505 h481) ?_
     rintro v507 w508 a ⟨rfl, HR509⟩ E_
     replace E := E_ _ rfl; clear E_
     obtain ⟨H_, hc510⟩ := hb506 _ _ HR509 rfl
     replace HS502 := HS502.ext (callS_ext hc510)
     replace H := H_; clear H_; try dsimp only [setn, addE, goneL] at H
     refine wpList_nil ?_
     refine th_n ⟨HS502, ?_⟩
     refine wpAnyH_all (rs := [13]) (by kernel_rfl) (by simp) ?_
     refine all1 ?_
     refine wpOp_of_list rfl ?_
     refine h_buildSlice (ps := [(0, .int .i64 r480)]) (cs := [.int .i64 r480]) H E rfl rfl tbok rfl rfl (by kernel_rfl) ?_
     intro w512 g511 a hc513 hg515 H_ E_
     replace E := E_ _ rfl; clear E_
     have hin516 : ∀ q_, q_ < w470.heap.size → q_ = g511 → (atL [.row true (cInt .i64) 3 A405 c406 row404]) q_ := fun q_ h1_ h2_ => by have hs_ := HS502.size; have h4_ : q_ = g511 := h2_; exfalso; omega
     replace HS502 := HS502.ext hc513
     replace H := H_; clear H_; try dsimp only [setn, addE, goneL] at H
     refine wpList_nil ?_
     refine th_n ⟨HS502, ?_⟩
     refine wpAnyH_all (rs := [14]) (by kernel_rfl) (by simp) ?_
     refine all1 ?_
     refine wpOp_of_list rfl ?_
     refine h_append (cInt .i64) (xs := row404) (ys := ([r480] : List Int)) (0 : Int) H 7 rfl E rfl rfl tbok rfl rfl rfl rfl rfl (fun _ _ => rfl) rfl rfl (fun _ HF_ => HF_.srcB 8 rfl (⟨_, _, rfl, rfl, rfl⟩)) g494 ?_
     intro w517 A518 c519 a hc520 hA521 H_ E_
     replace E := E_ _ rfl; clear E_
     have hin522 : ∀ q_, q_ < w470.heap.size → At A518 q_ → (atL [.row true (cInt .i64) 3 A405 c406 row404]) q_ := fun q_ h1_ h2_ => (hA521 q_ h2_).elim ((fun _ _ h_ => Or.inl h_) q_ h1_) (fun h3_ => by have hs_ := HS502.size; exfalso; omega)
     replace HS502 := HS502.trans hc520 (fun k_ hk_ h_ => (fun _ _ h_ => Or.inl h_) k_ hk_ h_)
     replace H := H_; clear H_; try dsimp only [setn, addE, goneL] at H
     refine wpList_nil ?_
     refine th_n ⟨HS502, ?_⟩
     refine dn tbok (by kernel_rfl) [15] [] [(11, .slice A518 (List.length (row404 ++ ([r480] : List Int))) c519)] (fun w_ => []) 0 E (fun _ _ => by kernel_rfl) (by kernel_rfl) (fun w_ hS_ => trivial) (by kernel_rfl) HS502 ?_
     clear E; intro a E
     refine dr_done (by kernel_rfl) ?_
     clear HS502 HR503
     refine bl_n ?_
     refine th_n ?_
     refine wp_region_lit ?_
     obtain ⟨g523, hP⟩ := ask_inv hP
     refine vn tbok 3 [.int .i64 (k407 + 1)] [(12, .int .i64 (k407 + 1))] [IntKind.i64.wrap (k407 + 1) = k407 + 1] E (by kernel_rfl) (by kernel_rfl) (wrap_in g523) ?_
     clear E; intro a E
     refine wpList_nil ?_
     exact th_n ⟨m465, Nat.lt_succ_self _, row404 ++ ([r480] : List Int), k407 + 1, A518, c519, E.pick _ ⟨rfl, rfl, rfl, rfl, rfl, rfl, rfl, rfl, trivial⟩, H.sel [0, 1, 2, 3, 4, 5, 6, 7] rfl, hP⟩
    replace E := E_; clear E_
    have h524 : ¬ (k407 < (((List.length r35) : Nat) : Int)) := of_decide_eq_false hb_
    clear hb_; replace hP := ite_f h524 hP
    refine c_false E rfl ?_
    refine wp_exit ?_
    refine th_exit ?_
    have hx_ := Option.some.inj hP
    refine th_exit (.inl ⟨2, rfl, ?_⟩)
    exact ⟨rfl, row404, A405, c406, E.pick _ ⟨rfl, rfl, rfl, rfl, rfl, rfl, rfl, trivial⟩, H.sel [0, 1, 2, 3, 4, 5, 6, 7] rfl, hx_.symm⟩
   clear E H hL467; intro i_ a w470 hM_
   obtain ⟨rfl, x472, A463, c464, E, H, hx_⟩ := hM_
   subst hx_; have hP := hK468; clear hK468
   refine bl_hit ?_
   refine th_n ?_
   refine wp_region_lit ?_
   refine vn tbok 2 [] [(46, .slice A203 (List.length out202) c204), (47, .slice A463 (List.length x466) c464)] [] E (by kernel_rfl) (by kernel_rfl) trivial ?_
   clear E; intro a E
   refine h_buildSlice (ps := [(0, .slice A463 (List.length x466) c464)]) (cs := [.slice A463 (List.length x466) c464]) H E rfl rfl tbok rfl rfl (by kernel_rfl) ?_
   intro w526 g525 a hc527 hg529 H_ E_
   replace E := E_ _ rfl; clear E_
   replace H := H_; clear H_; try dsimp only [setn, addE, goneL] at H
   have hk530 := H.rcap 7 rfl
   replace H := H.frz 7 rfl; try dsimp only [setn, addE, goneL] at H
   obtain ⟨g531, hP⟩ := ask_inv hP
   refine h_append (cSl (cInt .i64)) (xs := out202) (ys := ([x466] : List (List Int))) ([] : List Int) H 6 rfl E rfl rfl tbok rfl rfl rfl rfl rfl (fun _ _ => kSl_nil) rfl rfl (fun _ HF_ => HF_.srcB 8 rfl ⟨_, _, rfl, ⟨_, _, rfl, hk530, (HF_.roC 7 rfl)⟩, rfl⟩) g531 ?_
   intro w532 A533 c534 a hc535 hA536 H_ E_
   replace E := E_ _ rfl; clear E_
   replace H := H_; clear H_; try dsimp only [setn, addE, goneL] at H
   refine vn tbok 1 [] [(9, .slice A533 (List.length (out202 ++ ([x466] : List (List Int)))) c534)] [] E (by kernel_rfl) (by kernel_rfl) trivial ?_
   clear E; intro a E
   refine wpList_nil ?_
   refine bl_n ?_
   refine th_n ?_
   refine wp_region_lit ?_
   obtain ⟨g537, hP⟩ := ask_inv hP
   refine vn tbok 3 [.int .i64 (i205 + 1)] [(10, .int .i64 (i205 + 1))] [IntKind.i64.wrap (i205 + 1) = i205 + 1] E (by kernel_rfl) (by kernel_rfl) (wrap_in g537) ?_
   clear E; intro a E
   refine wpList_nil ?_
   exact th_n ⟨m341, Nat.lt_succ_self _, out202 ++ ([x466] : List (List Int)), i205 + 1, A533, c534, E.pick _ ⟨rfl, rfl, rfl, rfl, rfl, rfl, trivial⟩, H.sel [0, 1, 2, 3, 4, 5, 6] rfl, hP⟩
  replace E := E_; clear E_
  have h538 : ¬ (i205 < (((List.length r23) : Nat) : Int)) := of_decide_eq_false hb_
  clear hb_; replace hP := ite_f h538 hP
  refine c_false E rfl ?_
  refine wp_exit ?_
  refine th_exit ?_
  have hx_ := Option.some.inj hP
  refine th_exit (.inl ⟨0, rfl, ?_⟩)
  exact ⟨rfl, out202, A203, c204, E.pick _ ⟨rfl, trivial⟩, H.sel [6] rfl, hx_.symm⟩
 clear E H hL343; intro i_ a w346 hM_
 obtain ⟨rfl, x348, A339, c340, E, H, hx_⟩ := hM_
 subst hx_; have hP := hK344; clear hK344
 refine bl_hit ?_
 refine th_n ?_
 refine wp_seq ?_
 refine wp_region_lit ?_
 refine vn tbok 2 [] [(6, .slice A339 (List.length x342) c340)] [] E (by kernel_rfl) (by kernel_rfl) trivial ?_
 clear E; intro a E
 refine wpList_nil ?_
 refine th_n ?_
 refine wp_ret ?_
 obtain rfl := Option.some.inj hP
 refine ret1 E rfl rfl ?_
 exact ⟨_, rfl, A339, c340, rfl, H.sel [0] rfl⟩

/-! rejoinder/rejoinderref23.before -/
def ref23_before_l1 (N : Nat) (won : List Bool) (r27 : List (List Int)) (i92 : Int) : Nat → Bool → Int → Option Bool
  | 0, _, _ => none
  | m204 + 1, some176, k177 =>
    ask (idx i92 (List.length r27)) <|
    if k177 < (((List.length (List.getD r27 (Int.toNat i92) [])) : Nat) : Int) then
      if some176 = true then
        ask (in64 (k177 + 1)) <|
        ref23_before_l1 N won r27 i92 m204 true (k177 + 1)
      else
        ask (idx k177 (List.length (List.getD r27 (Int.toNat i92) []))) <|
        ask (idx (List.getD (List.getD r27 (Int.toNat i92) []) (Int.toNat k177) 0) (List.length won)) <|
        ask (in64 (k177 + 1)) <|
        ref23_before_l1 N won r27 i92 m204 (List.getD won (Int.toNat (List.getD (List.getD r27 (Int.toNat i92) []) (Int.toNat k177) 0)) false) (k177 + 1)
    else
      some some176
def ref23_before_l0 (N : Nat) (won : List Bool) (r27 : List (List Int)) : Nat → Int → Option (Unit ⊕ Bool)
  | 0, _ => none
  | m147 + 1, i92 =>
    if i92 < (((List.length r27) : Nat) : Int) then
      Option.bind (ref23_before_l1 N won r27 i92 N false 0) fun x205 =>
      if x205 = true then
        ask (in64 (i92 + 1)) <|
        ref23_before_l0 N won r27 m147 (i92 + 1)
      else
        some (Sum.inr false)
    else
      some (Sum.inl ())
def ref23_before (N : Nat) (aProps : Int) (aAccept : List Bool) (aGuard : List Int) (aNodes : List Nd) (s : Int × Int) (won : List Bool) (q : Int) : Option Bool :=
  Option.bind (ref22_Rows N aProps aAccept aGuard aNodes (s.1, s.2) q) fun r27 =>
  Option.bind (ref23_before_l0 N won r27 N 0) fun x148 =>
  Sum.elim (fun x153 =>
    some true)
   (fun x240 =>
    some x240) x148
set_option maxRecDepth 100000 in
set_option maxHeartbeats 4000000 in
theorem ref23_before_calls {N : Nat} {S Fa : Nat → Prop} {w0 : World} {r : Bool} (A1 : Option Addr) (c2 : Nat) (A5 : Option Addr) (c6 : Nat) (A9 : Option Addr) (c10 : Nat) (A13 : Option Addr) (c14 : Nat) (aProps : Int) (aAccept : List Bool) (aGuard : List Int) (aNodes : List Nd) (s : Int × Int) (won : List Bool) (q : Int) (hk3 : List.length aAccept ≤ c2) (hk7 : List.length aGuard ≤ c6) (hk11 : List.length aNodes ≤ c10) (hk15 : List.length won ≤ c14) (H : Hp S Fa w0 w0 [.ro false cBool A1 aAccept, .ro false (cInt .i64) A5 aGuard, .ro false cNode A9 aNodes, .ro false cBool A13 won]) (hP : ref23_before N aProps aAccept aGuard aNodes s won q = some r) :
    Calls Try.prog 35 #[.agg #[.int .i64 aProps, .slice A1 (List.length aAccept) c2, .slice A5 (List.length aGuard) c6, .slice A9 (List.length aNodes) c10], .agg #[.int .u8 s.1, .int .u8 s.2], .slice A13 (List.length won) c14, .int .i64 q] w0 fun e w' => ∃ v, e = .returned v ∧ v = .bool r ∧ Hp S Fa w0 w' [] := by
 refine enterV (n := 47) Try.func35 rfl rfl rfl ?_
 intro a E
 replace E := E.pick [(0, .agg #[.int .i64 aProps, .slice A1 (List.length aAccept) c2, .slice A5 (List.length aGuard) c6, .slice A9 (List.length aNodes) c10]), (1, .agg #[.int .u8 s.1, .int .u8 s.2]), (2, .slice A13 (List.length won) c14), (3, .int .i64 q)] ⟨rfl, rfl, rfl, rfl, trivial⟩
 rw [ref23_before] at hP
 refine wp_seq ?_
 refine wp_region_lit ?_
 refine h_box H E rfl rfl rfl ?_
 intro w18 g17 a hc19 hg21 H_ E_
 replace E := E_ _ rfl; clear E_
 replace H := H_; clear H_; try dsimp only [setn, addE, goneL] at H
 refine h_box H E rfl rfl rfl ?_
 intro w23 g22 a hc24 hg26 H_ E_
 replace E := E_ _ rfl; clear E_
 replace H := H_; clear H_; try dsimp only [setn, addE, goneL] at H
 refine vn tbok 1 [] [] [] E (by kernel_rfl) (by kernel_rfl) trivial ?_
 clear E; intro a E
 refine wpList_nil ?_
 refine th_n ?_
 refine wp_seq ?_
 refine wp_region_lit ?_
 refine vn tbok 3 [.agg #[.int .i64 aProps, .slice A1 (List.length aAccept) c2, .slice A5 (List.length aGuard) c6, .slice A9 (List.length aNodes) c10], .agg #[.int .u8 s.1, .int .u8 s.2]] [(13, .agg #[.int .i64 aProps, .slice A1 (List.length aAccept) c2, .slice A5 (List.length aGuard) c6, .slice A9 (List.length aNodes) c10]), (14, .agg #[.int .u8 s.1, .int .u8 s.2]), (15, .int .i64 q)] [cellsAt w23 g17 (0) [.int .i64 aProps, .slice A1 (List.length aAccept) c2, .slice A5 (List.length aGuard) c6, .slice A9 (List.length aNodes) c10], cellsAt w23 g22 (0) [.int .u8 s.1, .int .u8 s.2]] E (by kernel_rfl) (by kernel_rfl) ⟨(H.box 4 rfl).sub 0 _ rfl, (H.box 5 rfl).sub 0 _ rfl⟩ ?_
 clear E; intro a E
 obtain ⟨r27, h28, hP⟩ := bind_inv hP
 obtain ⟨Fa29, Hc30, hb31⟩ := H.call [] [(0, false), (1, false), (2, false)] rfl rfl trivial
 refine e_call E rfl rfl Try.func46 rfl rfl rfl (ref22_Rows_calls A1 c2 A5 c6 A9 c10 aProps aAccept aGuard aNodes (s.1, s.2) q hk3 hk7 hk11 Hc30 h28) ?_
 rintro v32 w33 a ⟨A36, c37, rfl, HR34⟩ E_
 replace E := E_ _ rfl; clear E_
 obtain ⟨H_, hc35⟩ := hb31 _ _ HR34 rfl
 replace H := H_; clear H_; try dsimp only [setn, addE, goneL] at H
 refine vn tbok 1 [] [(9, .slice A36 (List.length r27) c37)] [] E (by kernel_rfl) (by kernel_rfl) trivial ?_
 clear E; intro a E
 refine wpList_nil ?_
 refine th_n ?_
 refine wp_seq ?_
 refine wp_seq ?_
 refine wp_region_lit ?_
 refine vn tbok 1 [] [(10, .int .i64 0)] [] E (by kernel_rfl) (by kernel_rfl) trivial ?_
 clear E; intro a E
 refine wpList_nil ?_
 refine th_n ?_
 refine wp_block ?_
 obtain ⟨x148, hL149, hK150⟩ := bind_inv hP
 clear hP
 refine loop_cut (fun i_ a w_ => (i_ = 0 ∧ ∃ (x153 : Unit), Fr a 47 [] ∧ Hp S Fa w0 w_ [] ∧ x148 = Sum.inl x153)) ?_ ?_
 ·
  refine loopV (fun m152 a w151 => ∃ (i92 : Int), Fr a 47 [(2, .slice A13 (List.length won) c14), (9, .slice A36 (List.length r27) c37), (10, .int .i64 i92)] ∧ Hp S Fa w0 w151 [.ro false cBool A13 won, .row true (cSl (cInt .i64)) 23 A36 c37 r27] ∧ ref23_before_l0 N won r27 m152 i92 = some x148) N ?_ ?_
  ·
   exact ⟨0, E.pick _ ⟨rfl, rfl, rfl, trivial⟩, H.sel [3, 6] rfl, hL149⟩
  clear E H hL149; intro m152 a w151 hI_
  obtain ⟨i92, E, H, hP⟩ := hI_
  obtain ⟨m147, rfl⟩ : ∃ q_, m152 = q_ + 1 := by cases m152 with | zero => rw [ref23_before_l0] at hP; cases hP | succ q_ => exact ⟨q_, rfl⟩
  rw [ref23_before_l0] at hP
  refine wp_seq ?_
  refine wp_seq ?_
  refine wp_region_lit ?_
  refine vn tbok 4 [] [(20, .bool (decide (i92 < (((List.length r27) : Nat) : Int))))] [] E (by kernel_rfl) (by kernel_rfl) trivial ?_
  clear E; intro a E
  refine wpList_nil ?_
  refine th_n ?_
  refine E.cases (t := 20) rfl (fun hb_ E_ => ?_) (fun hb_ E_ => ?_)
  ·
   replace E := E_; clear E_
   have h154 : i92 < (((List.length r27) : Nat) : Int) := of_decide_eq_true hb_
   clear hb_; replace hP := ite_t h154 hP
   refine c_true E rfl ?_
   refine wp_skip ?_
   refine th_n ?_
   refine wp_seq ?_
   refine wp_block ?_
   refine wp_seq ?_
   refine wp_region_lit ?_
   refine vn tbok 1 [] [(11, .bool false)] [] E (by kernel_rfl) (by kernel_rfl) trivial ?_
   clear E; intro a E
   refine wpList_nil ?_
   refine th_n ?_
   refine wp_seq ?_
   refine wp_seq ?_
   refine wp_region_lit ?_
   refine vn tbok 1 [] [(12, .int .i64 0)] [] E (by kernel_rfl) (by kernel_rfl) trivial ?_
   clear E; intro a E
   refine wpList_nil ?_
   refine th_n ?_
   refine wp_block ?_
   obtain ⟨x205, hL206, hK207⟩ := bind_inv hP
   clear hP
   refine loop_cut (fun i_ a w_ => (i_ = 2 ∧ ∃ (x210 : Bool), Fr a 47 [(2, .slice A13 (List.length won) c14), (9, .slice A36 (List.length r27) c37), (10, .int .i64 i92), (11, .bool x210)] ∧ Hp S Fa w0 w_ [.ro false cBool A13 won, .row true (cSl (cInt .i64)) 23 A36 c37 r27] ∧ x205 = x210)) ?_ ?_
   ·
    refine loopV (fun m209 a w208 => ∃ (some176 : Bool) (k177 : Int), Fr a 47 [(2, .slice A13 (List.length won) c14), (9, .slice A36 (List.length r27) c37), (10, .int .i64 i92), (11, .bool some176), (12, .int .i64 k177)] ∧ Hp S Fa w0 w208 [.ro false cBool A13 won, .row true (cSl (cInt .i64)) 23 A36 c37 r27] ∧ ref23_before_l1 N won r27 i92 m209 some176 k177 = some x205) N ?_ ?_
    ·
     exact ⟨false, 0, E.pick _ ⟨rfl, rfl, rfl, rfl, rfl, trivial⟩, H.sel [0, 1] rfl, hL206⟩
    clear E H hL206; intro m209 a w208 hI_
    obtain ⟨some176, k177, E, H, hP⟩ := hI_
    obtain ⟨m204, rfl⟩ : ∃ q_, m209 = q_ + 1 := by cases m209 with | zero => rw [ref23_before_l1] at hP; cases hP | succ q_ => exact ⟨q_, rfl⟩
    rw [ref23_before_l1] at hP
    refine wp_seq ?_
    refine wp_seq ?_
    refine wp_region_lit ?_
    obtain ⟨g211, hP⟩ := ask_inv hP
    obtain ⟨b212, e_b212⟩ := H.raddr 1 rfl (idx_pos g211)
    subst e_b212
    obtain ⟨A214, c215, hl216, hk217, H⟩ := H.subSl 1 true (el_row rfl) g211
    try dsimp only [addE] at H
    refine vn tbok 7 [.slice A214 (List.length (List.getD r27 (Int.toNat i92) [])) c215] [(29, .bool (decide (k177 < (((List.length (List.getD r27 (Int.toNat i92) [])) : Nat) : Int))))] [0 ≤ i92 ∧ i92 < (((List.length r27) : Nat) : Int), World.cell? w208 ⟨b212, 0 + (Int.toNat i92) * 1, none⟩ = some (.slice A214 (List.length (List.getD r27 (Int.toNat i92) [])) c215)] E (by kernel_rfl) (by kernel_rfl) ⟨g211, hl216⟩ ?_
    clear E; intro a E
    refine wpList_nil ?_
    refine th_n ?_
    refine E.cases (t := 29) rfl (fun hb_ E_ => ?_) (fun hb_ E_ => ?_)
    ·
     replace E := E_; clear E_
     have h219 : k177 < (((List.length (List.getD r27 (Int.toNat i92) [])) : Nat) : Int) := of_decide_eq_true hb_
     clear hb_; replace hP := ite_t h219 hP
     refine c_true E rfl ?_
     refine wp_skip ?_
     refine th_n ?_
     refine wp_seq ?_
     refine wp_block ?_
     refine wp_region_lit ?_
     refine vn tbok 2 [] [(33, .bool some176)] [] E (by kernel_rfl) (by kernel_rfl) trivial ?_
     clear E; intro a E
     refine E.cases (t := 33) rfl (fun hb_ E_ => ?_) (fun hb_ E_ => ?_)
     ·
      replace E := E_; clear E_
      have h220 : some176 = true := hb_
      clear hb_; replace hP := ite_t h220 hP
      refine vn tbok 12 [] [(11, .bool true)] [] E (by kernel_rfl) (by kernel_rfl) trivial ?_
      clear E; intro a E
      refine wpList_nil ?_
      refine bl_n ?_
      refine th_n ?_
      refine wp_region_lit ?_
      obtain ⟨g221, hP⟩ := ask_inv hP
      refine vn tbok 3 [.int .i64 (k177 + 1)] [(12, .int .i64 (k177 + 1))] [IntKind.i64.wrap (k177 + 1) = k177 + 1] E (by kernel_rfl) (by kernel_rfl) (wrap_in g221) ?_
      clear E; intro a E
      refine wpList_nil ?_
      exact th_n ⟨m204, Nat.lt_succ_self _, true, k177 + 1, E.pick _ ⟨rfl, rfl, rfl, rfl, rfl, trivial⟩, H.sel [0, 1] rfl, hP⟩
     replace E := E_; clear E_
     have h222 : ¬ (some176 = true) := (ne_true_of_eq_false hb_)
     clear hb_; replace hP := ite_f h222 hP
     obtain ⟨A223, c224, hl225, hk226, H⟩ := H.subSl 1 true (el_row rfl) g211
     try dsimp only [addE] at H
     obtain ⟨g228, hP⟩ := ask_inv hP
     obtain ⟨b229, o230, e_b229⟩ := (H.rd 3 rds_ro).addr (idx_pos g228)
     subst e_b229
     obtain ⟨g231, hP⟩ := ask_inv hP
     obtain ⟨b232, o233, e_b232⟩ := (H.rd 0 rds_ro).addr (idx_pos g231)
     subst e_b232
     refine vn tbok 12 [.slice (some ⟨b229, o230, none⟩) (List.length (List.getD r27 (Int.toNat i92) [])) c224, .int .i64 (List.getD (List.getD r27 (Int.toNat i92) []) (Int.toNat k177) 0), .bool (List.getD won (Int.toNat (List.getD (List.getD r27 (Int.toNat i92) []) (Int.toNat k177) 0)) false)] [(11, .bool (List.getD won (Int.toNat (List.getD (List.getD r27 (Int.toNat i92) []) (Int.toNat k177) 0)) false))] [0 ≤ i92 ∧ i92 < (((List.length r27) : Nat) : Int), World.cell? w208 ⟨b212, 0 + (Int.toNat i92) * 1, none⟩ = some (.slice (some ⟨b229, o230, none⟩) (List.length (List.getD r27 (Int.toNat i92) [])) c224), 0 ≤ k177 ∧ k177 < (((List.length (List.getD r27 (Int.toNat i92) [])) : Nat) : Int), World.cell? w208 ⟨b229, o230 + (Int.toNat k177) * 1, none⟩ = some (.int .i64 (List.getD (List.getD r27 (Int.toNat i92) []) (Int.toNat k177) 0)), 0 ≤ (List.getD (List.getD r27 (Int.toNat i92) []) (Int.toNat k177) 0) ∧ (List.getD (List.getD r27 (Int.toNat i92) []) (Int.toNat k177) 0) < (((List.length won) : Nat) : Int), World.cell? w208 ⟨b232, o233 + (Int.toNat (List.getD (List.getD r27 (Int.toNat i92) []) (Int.toNat k177) 0)) * 1, none⟩ = some (.bool (List.getD won (Int.toNat (List.getD (List.getD r27 (Int.toNat i92) []) (Int.toNat k177) 0)) false))] E (by kernel_rfl) (by kernel_rfl) ⟨g211, hl225, g228, Rds.at1 (H.rd 3 rds_ro) 0 g228, g231, Rds.at1 (H.rd 0 rds_ro) false g231⟩ ?_
     clear E; intro a E
     refine wpList_nil ?_
     refine bl_n ?_
     refine th_n ?_
     refine wp_region_lit ?_
     obtain ⟨g234, hP⟩ := ask_inv hP
     refine vn tbok 3 [.int .i64 (k177 + 1)] [(12, .int .i64 (k177 + 1))] [IntKind.i64.wrap (k177 + 1) = k177 + 1] E (by kernel_rfl) (by kernel_rfl) (wrap_in g234) ?_
     clear E; intro a E
     refine wpList_nil ?_
     exact th_n ⟨m204, Nat.lt_succ_self _, (List.getD won (Int.toNat (List.getD (List.getD r27 (Int.toNat i92) []) (Int.toNat k177) 0)) false), k177 + 1, E.pick _ ⟨rfl, rfl, rfl, rfl, rfl, trivial⟩, H.sel [0, 1] rfl, hP⟩
    replace E := E_; clear E_
    have h235 : ¬ (k177 < (((List.length (List.getD r27 (Int.toNat i92) [])) : Nat) : Int)) := of_decide_eq_false hb_
    clear hb_; replace hP := ite_f h235 hP
    refine c_false E rfl ?_
    refine wp_exit ?_
    refine th_exit ?_
    have hx_ := Option.some.inj hP
    refine th_exit (.inl ⟨2, rfl, ?_⟩)
    exact ⟨rfl, some176, E.pick _ ⟨rfl, rfl, rfl, rfl, trivial⟩, H.sel [0, 1] rfl, hx_.symm⟩
   clear E H hL206; intro i_ a w208 hM_
   obtain ⟨rfl, x210, E, H, hx_⟩ := hM_
   subst hx_; have hP := hK207; clear hK207
   refine bl_hit ?_
   refine th_n ?_
   refine wp_seq ?_
   refine wp_region_lit ?_
   refine vn tbok 2 [] [(46, .bool (!x205))] [] E (by kernel_rfl) (by kernel_rfl) trivial ?_
   clear E; intro a E
   refine wpList_nil ?_
   refine th_n ?_
   refine E.cases (t := 46) rfl (fun hb_ E_ => ?_) (fun hb_ E_ => ?_)
   ·
    replace E := E_; clear E_
    have h236 : ¬ (x205 = true) := (ne_true_of_eq_false (not_t hb_))
    clear hb_; replace hP := ite_f h236 hP
    refine c_true E rfl ?_
    refine wp_seq ?_
    refine wp_region_lit ?_
    refine vn tbok 1 [] [(8, .bool false)] [] E (by kernel_rfl) (by kernel_rfl) trivial ?_
    clear E; intro a E
    refine wpList_nil ?_
    refine th_n ?_
    refine wp_ret ?_
    refine bl_ret ?_
    refine th_ret ?_
    refine th_ret ?_
    refine .inr ⟨rfl, ?_⟩
    refine bl_ret ?_
    refine th_ret ?_
    have hx_ := Option.some.inj hP; subst hx_
    have hP : some (false) = some r := hK150
    obtain rfl := Option.some.inj hP
    refine ret1 E rfl rfl ?_
    exact ⟨_, rfl, rfl, H.sel [] rfl⟩
   replace E := E_; clear E_
   have h237 : x205 = true := (not_f hb_)
   clear hb_; replace hP := ite_t h237 hP
   refine c_false E rfl ?_
   refine wp_skip ?_
   refine bl_n ?_
   refine th_n ?_
   refine wp_region_lit ?_
   obtain ⟨g238, hP⟩ := ask_inv hP
   refine vn tbok 3 [.int .i64 (i92 + 1)] [(10, .int .i64 (i92 + 1))] [IntKind.i64.wrap (i92 + 1) = i92 + 1] E (by kernel_rfl) (by kernel_rfl) (wrap_in g238) ?_
   clear E; intro a E
   refine wpList_nil ?_
   exact th_n ⟨m147, Nat.lt_succ_self _, i92 + 1, E.pick _ ⟨rfl, rfl, rfl, trivial⟩, H.sel [0, 1] rfl, hP⟩
  replace E := E_; clear E_
  have h239 : ¬ (i92 < (((List.length r27) : Nat) : Int)) := of_decide_eq_false hb_
  clear hb_; replace hP := ite_f h239 hP
  refine c_false E rfl ?_
  refine wp_exit ?_
  refine th_exit ?_
  have hx_ := Option.some.inj hP
  refine th_exit (.inl ⟨0, rfl, ?_⟩)
  exact ⟨rfl, (), E.pick _ trivial, H.sel [] rfl, hx_.symm⟩
 clear E H hL149; intro i_ a w151 hM_
 obtain ⟨rfl, x153, E, H, hx_⟩ := hM_
 subst hx_; have hP := elim_l hK150
 clear hK150
 refine bl_hit ?_
 refine th_n ?_
 refine wp_seq ?_
 refine wp_region_lit ?_
 refine vn tbok 1 [] [(8, .bool true)] [] E (by kernel_rfl) (by kernel_rfl) trivial ?_
 clear E; intro a E
 refine wpList_nil ?_
 refine th_n ?_
 refine wp_ret ?_
 obtain rfl := Option.some.inj hP
 refine ret1 E rfl rfl ?_
 exact ⟨_, rfl, rfl, H.sel [] rfl⟩

/-! rejoinder/rejoinderref23.Step -/
def ref23_Step_l0 (N : Nat) (aProps : Int) (aAccept : List Bool) (aGuard : List Int) (aNodes : List Nd) (s : Int × Int) (won : List Bool) : Nat → (List Bool) → Int → Option (List Bool)
  | 0, _, _ => none
  | m98 + 1, out66, q69 =>
    if q69 < (((List.length won) : Nat) : Int) then
      Option.bind (ref23_before N aProps aAccept aGuard aNodes (s.1, s.2) won q69) fun r107 =>
      ask (List.length out66 + List.length ([r107] : List Bool) ≤ 1000000000) <|
      ask (in64 (q69 + 1)) <|
      ref23_Step_l0 N aProps aAccept aGuard aNodes s won m98 (out66 ++ ([r107] : List Bool)) (q69 + 1)
    else
      some out66
def ref23_Step (N : Nat) (aProps : Int) (aAccept : List Bool) (aGuard : List Int) (aNodes : List Nd) (s : Int × Int) (won : List Bool) : Option ((List Bool) × Int) :=
  Option.bind (ref22_Check N aProps aAccept aGuard aNodes (s.1, s.2)) fun r27 =>
  if (r27 : Int) = 0 then
    if ((((List.length won) : Nat) : Int) : Int) = (((List.length aAccept) : Nat) : Int) then
      Option.bind (ref23_Step_l0 N aProps aAccept aGuard aNodes s won N [] 0) fun x99 =>
      some (x99, 0)
    else
      some ([], 2)
  else
    some ([], r27)
set_option maxRecDepth 100000 in
set_option maxHeartbeats 4000000 in
theorem ref23_Step_calls {N : Nat} {S Fa : Nat → Prop} {w0 : World} {r : (List Bool) × Int} (A1 : Option Addr) (c2 : Nat) (A5 : Option Addr) (c6 : Nat) (A9 : Option Addr) (c10 : Nat) (A13 : Option Addr) (c14 : Nat) (aProps : Int) (aAccept : List Bool) (aGuard : List Int) (aNodes : List Nd) (s : Int × Int) (won : List Bool) (hk3 : List.length aAccept ≤ c2) (hk7 : List.length aGuard ≤ c6) (hk11 : List.length aNodes ≤ c10) (hk15 : List.length won ≤ c14) (H : Hp S Fa w0 w0 [.ro false cBool A1 aAccept, .ro false (cInt .i64) A5 aGuard, .ro false cNode A9 aNodes, .ro false cBool A13 won]) (hP : ref23_Step N aProps aAccept aGuard aNodes s won = some r) :
    Calls Try.prog 21 #[.agg #[.int .i64 aProps, .slice A1 (List.length aAccept) c2, .slice A5 (List.length aGuard) c6, .slice A9 (List.length aNodes) c10], .agg #[.int .u8 s.1, .int .u8 s.2], .slice A13 (List.length won) c14] w0 fun e w' => ∃ v, e = .returned v ∧ ∃ (A129 : Option Addr) (c130 : Nat), v = .tuple #[.slice A129 (List.length r.1) c130, .int .i64 r.2] ∧ Hp S Fa w0 w' [.row true cBool 4 A129 c130 r.1] := by
 refine enterV (n := 38) Try.func21 rfl rfl rfl ?_
 intro a E
 replace E := E.pick [(0, .agg #[.int .i64 aProps, .slice A1 (List.length aAccept) c2, .slice A5 (List.length aGuard) c6, .slice A9 (List.length aNodes) c10]), (1, .agg #[.int .u8 s.1, .int .u8 s.2]), (2, .slice A13 (List.length won) c14)] ⟨rfl, rfl, rfl, trivial⟩
 rw [ref23_Step] at hP
 refine wp_seq ?_
 refine wp_region_lit ?_
 refine h_box H E rfl rfl rfl ?_
 intro w18 g17 a hc19 hg21 H_ E_
 replace E := E_ _ rfl; clear E_
 replace H := H_; clear H_; try dsimp only [setn, addE, goneL] at H
 refine h_box H E rfl rfl rfl ?_
 intro w23 g22 a hc24 hg26 H_ E_
 replace E := E_ _ rfl; clear E_
 replace H := H_; clear H_; try dsimp only [setn, addE, goneL] at H
 refine vn tbok 2 [] [] [] E (by kernel_rfl) (by kernel_rfl) trivial ?_
 clear E; intro a E
 refine wpList_nil ?_
 refine th_n ?_
 refine wp_seq ?_
 refine wp_region_lit ?_
 refine vn tbok 2 [.agg #[.int .i64 aProps, .slice A1 (List.length aAccept) c2, .slice A5 (List.length aGuard) c6, .slice A9 (List.length aNodes) c10], .agg #[.int .u8 s.1, .int .u8 s.2]] [(11, .agg #[.int .i64 aProps, .slice A1 (List.length aAccept) c2, .slice A5 (List.length aGuard) c6, .slice A9 (List.length aNodes) c10]), (12, .agg #[.int .u8 s.1, .int .u8 s.2])] [cellsAt w23 g17 (0) [.int .i64 aProps, .slice A1 (List.length aAccept) c2, .slice A5 (List.length aGuard) c6, .slice A9 (List.length aNodes) c10], cellsAt w23 g22 (0) [.int .u8 s.1, .int .u8 s.2]] E (by kernel_rfl) (by kernel_rfl) ⟨(H.box 4 rfl).sub 0 _ rfl, (H.box 5 rfl).sub 0 _ rfl⟩ ?_
 clear E; intro a E
 obtain ⟨r27, h28, hP⟩ := bind_inv hP
 obtain ⟨Fa29, Hc30, hb31⟩ := H.call [] [(0, false), (1, false), (2, false)] rfl rfl trivial
 refine e_call E rfl rfl Try.func34 rfl rfl rfl (ref22_Check_calls A1 c2 A5 c6 A9 c10 aProps aAccept aGuard aNodes (s.1, s.2) hk3 hk7 hk11 Hc30 h28) ?_
 rintro v32 w33 a ⟨rfl, HR34⟩ E_
 replace E := E_ _ rfl; clear E_
 obtain ⟨H_, hc35⟩ := hb31 _ _ HR34 rfl
 replace H := H_; clear H_; try dsimp only [setn, addE, goneL] at H
 refine vn tbok 1 [] [(8, .int .i64 r27)] [] E (by kernel_rfl) (by kernel_rfl) trivial ?_
 clear E; intro a E
 refine wpList_nil ?_
 refine th_n ?_
 refine wp_seq ?_
 refine wp_seq ?_
 refine wp_region_lit ?_
 refine vn tbok 2 [] [(15, .bool ((r27 : Int) != 0))] [] E (by kernel_rfl) (by kernel_rfl) trivial ?_
 clear E; intro a E
 refine wpList_nil ?_
 refine th_n ?_
 refine E.cases (t := 15) rfl (fun hb_ E_ => ?_) (fun hb_ E_ => ?_)
 ·
  replace E := E_; clear E_
  have h36 : ¬ ((r27 : Int) = 0) := bne_iff_ne.1 hb_
  clear hb_; replace hP := ite_f h36 hP
  refine c_true E rfl ?_
  refine wp_seq ?_
  refine wp_region_lit ?_
  refine vn tbok 3 [] [(6, .slice none 0 0), (7, .int .i64 r27)] [] E (by kernel_rfl) (by kernel_rfl) trivial ?_
  clear E; intro a E
  refine wpList_nil ?_
  refine th_n ?_
  refine wp_ret ?_
  refine th_ret ?_
  replace H := H.nilrow cBool 4; try dsimp only [setn, addE, goneL] at H
  obtain rfl := Option.some.inj hP
  refine ret2 E rfl rfl rfl ?_
  exact ⟨_, rfl, none, 0, rfl, H.sel [6] rfl⟩
 replace E := E_; clear E_
 have h38 : (r27 : Int) = 0 := bne_eq_false_iff_eq.1 hb_
 clear hb_; replace hP := ite_t h38 hP
 refine c_false E rfl ?_
 refine wp_skip ?_
 refine th_n ?_
 refine wp_seq ?_
 refine wp_seq ?_
 refine wp_region_lit ?_
 refine vn tbok 6 [.slice A1 (List.length aAccept) c2] [(22, .bool (((((List.length won) : Nat) : Int) : Int) != (((List.length aAccept) : Nat) : Int)))] [World.cell? w33 ⟨g17, 1, none⟩ = some (.slice A1 (List.length aAccept) c2)] E (by kernel_rfl) (by kernel_rfl) ((H.box 4 rfl).cell (j := 1) rfl) ?_
 clear E; intro a E
 refine wpList_nil ?_
 refine th_n ?_
 refine E.cases (t := 22) rfl (fun hb_ E_ => ?_) (fun hb_ E_ => ?_)
 ·
  replace E := E_; clear E_
  have h39 : ¬ (((((List.length won) : Nat) : Int) : Int) = (((List.length aAccept) : Nat) : Int)) := bne_iff_ne.1 hb_
  clear hb_; replace hP := ite_f h39 hP
  refine c_true E rfl ?_
  refine wp_seq ?_
  refine wp_region_lit ?_
  refine vn tbok 2 [] [(6, .slice none 0 0), (7, .int .i64 2)] [] E (by kernel_rfl) (by kernel_rfl) trivial ?_
  clear E; intro a E
  refine wpList_nil ?_
  refine th_n ?_
  refine wp_ret ?_
  refine th_ret ?_
  replace H := H.nilrow cBool 4; try dsimp only [setn, addE, goneL] at H
  obtain rfl := Option.some.inj hP
  refine ret2 E rfl rfl rfl ?_
  exact ⟨_, rfl, none, 0, rfl, H.sel [6] rfl⟩
 replace E := E_; clear E_
 have h41 : ((((List.length won) : Nat) : Int) : Int) = (((List.length aAccept) : Nat) : Int) := bne_eq_false_iff_eq.1 hb_
 clear hb_; replace hP := ite_t h41 hP
 refine c_false E rfl ?_
 refine wp_skip ?_
 refine th_n ?_
 refine wp_seq ?_
 refine wp_region_lit ?_
 refine vn tbok 1 [] [(9, .slice none 0 0)] [] E (by kernel_rfl) (by kernel_rfl) trivial ?_
 clear E; intro a E
 refine wpList_nil ?_
 refine th_n ?_
 refine wp_seq ?_
 refine wp_seq ?_
 refine wp_region_lit ?_
 refine vn tbok 1 [] [(10, .int .i64 0)] [] E (by kernel_rfl) (by kernel_rfl) trivial ?_
 clear E; intro a E
 refine wpList_nil ?_
 refine th_n ?_
 refine wp_block ?_
 obtain ⟨x99, hL100, hK101⟩ := bind_inv hP
 clear hP
 replace H := H.nilrow cBool 4; try dsimp only [setn, addE, goneL] at H
 refine loop_cut (fun i_ a w_ => (i_ = 0 ∧ ∃ (x105 : List Bool), ∃ (A96 : Option Addr) (c97 : Nat), Fr a 38 [(9, .slice A96 (List.length x105) c97)] ∧ Hp S Fa w0 w_ [.row true cBool 4 A96 c97 x105] ∧ x99 = x105)) ?_ ?_
 ·
  refine loopV (fun m104 a w103 => ∃ (out66 : List Bool) (q69 : Int), ∃ (A67 : Option Addr) (c68 : Nat), Fr a 38 [(2, .slice A13 (List.length won) c14), (3, .pointer (some ⟨g17, 0, none⟩)), (4, .pointer (some ⟨g22, 0, none⟩)), (9, .slice A67 (List.length out66) c68), (10, .int .i64 q69)] ∧ Hp S Fa w0 w103 [.ro false cBool A13 won, .ro false cBool A1 aAccept, .ro false (cInt .i64) A5 aGuard, .ro false cNode A9 aNodes, .box g17 26 [.int .i64 aProps, .slice A1 (List.length aAccept) c2, .slice A5 (List.length aGuard) c6, .slice A9 (List.length aNodes) c10], .box g22 29 [.int .u8 s.1, .int .u8 s.2], .row true cBool 4 A67 c68 out66] ∧ ref23_Step_l0 N aProps aAccept aGuard aNodes s won m104 out66 q69 = some x99) N ?_ ?_
  ·
   exact ⟨[], 0, none, 0, E.pick _ ⟨rfl, rfl, rfl, rfl, rfl, trivial⟩, H.sel [3, 0, 1, 2, 4, 5, 6] rfl, hL100⟩
  clear E H hL100; intro m104 a w103 hI_
  obtain ⟨out66, q69, A67, c68, E, H, hP⟩ := hI_
  obtain ⟨m98, rfl⟩ : ∃ q_, m104 = q_ + 1 := by cases m104 with | zero => rw [ref23_Step_l0] at hP; cases hP | succ q_ => exact ⟨q_, rfl⟩
  rw [ref23_Step_l0] at hP
  refine wp_seq ?_
  refine wp_seq ?_
  refine wp_region_lit ?_
  refine vn tbok 4 [] [(26, .bool (decide (q69 < (((List.length won) : Nat) : Int))))] [] E (by kernel_rfl) (by kernel_rfl) trivial ?_
  clear E; intro a E
  refine wpList_nil ?_
  refine th_n ?_
  refine E.cases (t := 26) rfl (fun hb_ E_ => ?_) (fun hb_ E_ => ?_)
  ·
   replace E := E_; clear E_
   have h106 : q69 < (((List.length won) : Nat) : Int) := of_decide_eq_true hb_
   clear hb_; replace hP := ite_t h106 hP
   refine c_true E rfl ?_
   refine wp_skip ?_
   refine th_n ?_
   refine wp_seq ?_
   refine wp_block ?_
   refine wp_region_lit ?_
   refine vn tbok 5 [.agg #[.int .i64 aProps, .slice A1 (List.length aAccept) c2, .slice A5 (List.length aGuard) c6, .slice A9 (List.length aNodes) c10], .agg #[.int .u8 s.1, .int .u8 s.2]] [(29, .slice A67 (List.length out66) c68), (30, .agg #[.int .i64 aProps, .slice A1 (List.length aAccept) c2, .slice A5 (List.length aGuard) c6, .slice A9 (List.length aNodes) c10]), (31, .agg #[.int .u8 s.1, .int .u8 s.2]), (32, .slice A13 (List.length won) c14), (33, .int .i64 q69)] [cellsAt w103 g17 (0) [.int .i64 aProps, .slice A1 (List.length aAccept) c2, .slice A5 (List.length aGuard) c6, .slice A9 (List.length aNodes) c10], cellsAt w103 g22 (0) [.int .u8 s.1, .int .u8 s.2]] E (by kernel_rfl) (by kernel_rfl) ⟨(H.box 4 rfl).sub 0 _ rfl, (H.box 5 rfl).sub 0 _ rfl⟩ ?_
   clear E; intro a E
   obtain ⟨r107, h108, hP⟩ := bind_inv hP
   obtain ⟨Fa109, Hc110, hb111⟩ := H.call [] [(1, false), (2, false), (3, false), (0, false)] rfl rfl trivial
   refine e_call E rfl rfl Try.func35 rfl rfl rfl (ref23_before_calls A1 c2 A5 c6 A9 c10 A13 c14 aProps aAccept aGuard aNodes (s.1, s.2) won q69 hk3 hk7 hk11 hk15 Hc110 h108) ?_
   rintro v112 w113 a ⟨rfl, HR114⟩ E_
   replace E := E_ _ rfl; clear E_
   obtain ⟨H_, hc115⟩ := hb111 _ _ HR114 rfl
   replace H := H_; clear H_; try dsimp only [setn, addE, goneL] at H
   refine h_buildSlice (ps := [(0, .bool r107)]) (cs := [.bool r107]) H E rfl rfl tbok rfl rfl (by kernel_rfl) ?_
   intro w117 g116 a hc118 hg120 H_ E_
   replace E := E_ _ rfl; clear E_
   replace H := H_; clear H_; try dsimp only [setn, addE, goneL] at H
   obtain ⟨g121, hP⟩ := ask_inv hP
   refine h_append cBool (xs := out66) (ys := ([r107] : List Bool)) (false : Bool) H 6 rfl E rfl rfl tbok rfl rfl rfl rfl rfl (fun _ _ => rfl) rfl rfl (fun _ HF_ => HF_.srcB 7 rfl (⟨_, _, rfl, rfl, rfl⟩)) g121 ?_
   intro w122 A123 c124 a hc125 hA126 H_ E_
   replace E := E_ _ rfl; clear E_
   replace H := H_; clear H_; try dsimp only [setn, addE, goneL] at H
   refine vn tbok 1 [] [(9, .slice A123 (List.length (out66 ++ ([r107] : List Bool))) c124)] [] E (by kernel_rfl) (by kernel_rfl) trivial ?_
   clear E; intro a E
   refine wpList_nil ?_
   refine bl_n ?_
   refine th_n ?_
   refine wp_region_lit ?_
   obtain ⟨g127, hP⟩ := ask_inv hP
   refine vn tbok 3 [.int .i64 (q69 + 1)] [(10, .int .i64 (q69 + 1))] [IntKind.i64.wrap (q69 + 1) = q69 + 1] E (by kernel_rfl) (by kernel_rfl) (wrap_in g127) ?_
   clear E; intro a E
   refine wpList_nil ?_
   exact th_n ⟨m98, Nat.lt_succ_self _, out66 ++ ([r107] : List Bool), q69 + 1, A123, c124, E.pick _ ⟨rfl, rfl, rfl, rfl, rfl, trivial⟩, H.sel [0, 1, 2, 3, 4, 5, 6] rfl, hP⟩
  replace E := E_; clear E_
  have h128 : ¬ (q69 < (((List.length won) : Nat) : Int)) := of_decide_eq_false hb_
  clear hb_; replace hP := ite_f h128 hP
  refine c_false E rfl ?_
  refine wp_exit ?_
  refine th_exit ?_
  have hx_ := Option.some.inj hP
  refine th_exit (.inl ⟨0, rfl, ?_⟩)
  exact ⟨rfl, out66, A67, c68, E.pick _ ⟨rfl, trivial⟩, H.sel [6] rfl, hx_.symm⟩
 clear E H hL100; intro i_ a w103 hM_
 obtain ⟨rfl, x105, A96, c97, E, H, hx_⟩ := hM_
 subst hx_; have hP := hK101; clear hK101
 refine bl_hit ?_
 refine th_n ?_
 refine wp_seq ?_
 refine wp_region_lit ?_
 refine vn tbok 3 [] [(6, .slice A96 (List.length x99) c97), (7, .int .i64 0)] [] E (by kernel_rfl) (by kernel_rfl) trivial ?_
 clear E; intro a E
 refine wpList_nil ?_
 refine th_n ?_
 refine wp_ret ?_
 obtain rfl := Option.some.inj hP
 refine ret2 E rfl rfl rfl ?_
 exact ⟨_, rfl, A96, c97, rfl, H.sel [0] rfl⟩

/-! rejoinder/rejoinderref23.Ranks -/
def ref23_Ranks_l0 (N : Nat) (aAccept : List Bool) : Nat → (List Int) → (List Bool) → Int → Option ((List Int) × (List Bool))
  | 0, _, _, _ => none
  | m85 + 1, ranks62, won63, q64 =>
    if q64 < (((List.length ranks62) : Nat) : Int) then
      ask (idx q64 (List.length aAccept)) <|
      ask (idx q64 (List.length won63)) <|
      ask (idx q64 (List.length (List.set won63 (Int.toNat q64) (List.getD aAccept (Int.toNat q64) false)))) <|
      if (List.getD (List.set won63 (Int.toNat q64) (List.getD aAccept (Int.toNat q64) false)) (Int.toNat q64) false) = true then
        ask (in64 (q64 + 1)) <|
        ref23_Ranks_l0 N aAccept m85 ranks62 (List.set won63 (Int.toNat q64) (List.getD aAccept (Int.toNat q64) false)) (q64 + 1)
      else
        ask (idx q64 (List.length ranks62)) <|
        ask (in64 (q64 + 1)) <|
        ref23_Ranks_l0 N aAccept m85 (List.set ranks62 (Int.toNat q64) (-1)) (List.set won63 (Int.toNat q64) (List.getD aAccept (Int.toNat q64) false)) (q64 + 1)
    else
      some (ranks62, won63)
def ref23_Ranks_l2 (N : Nat) (won177 : List Bool) (k178 : Int) (r255 : (List Bool) × Int) : Nat → (List Int) → Int → Option (List Int)
  | 0, _, _ => none
  | m301 + 1, ranks281, q282 =>
    if q282 < (((List.length ranks281) : Nat) : Int) then
      ask (idx q282 (List.length r255.1)) <|
      if (List.getD r255.1 (Int.toNat q282) false) = true then
        ask (idx q282 (List.length won177)) <|
        if (List.getD won177 (Int.toNat q282) false) = true then
          ask (in64 (q282 + 1)) <|
          ref23_Ranks_l2 N won177 k178 r255 m301 ranks281 (q282 + 1)
        else
          ask (idx q282 (List.length ranks281)) <|
          ask (in64 (q282 + 1)) <|
          ref23_Ranks_l2 N won177 k178 r255 m301 (List.set ranks281 (Int.toNat q282) k178) (q282 + 1)
      else
        ask (in64 (q282 + 1)) <|
        ref23_Ranks_l2 N won177 k178 r255 m301 ranks281 (q282 + 1)
    else
      some ranks281
def ref23_Ranks_l3 (N : Nat) (x302 : List Int) : Nat → (List Bool) → Int → Option (List Bool)
  | 0, _, _ => none
  | m343 + 1, won332, q333 =>
    if q333 < (((List.length x302) : Nat) : Int) then
      ask (idx q333 (List.length x302)) <|
      ask (idx q333 (List.length won332)) <|
      ask (in64 (q333 + 1)) <|
      ref23_Ranks_l3 N x302 m343 (List.set won332 (Int.toNat q333) (decide (0 ≤ (List.getD x302 (Int.toNat q333) 0)))) (q333 + 1)
    else
      some won332
def ref23_Ranks_l1 (N : Nat) (aProps : Int) (aAccept : List Bool) (aGuard : List Int) (aNodes : List Nd) (s : Int × Int) : Nat → (List Int) → (List Bool) → Int → Option (List Int)
  | 0, _, _, _ => none
  | m247 + 1, ranks176, won177, k178 =>
    if k178 ≤ (((List.length ranks176) : Nat) : Int) then
      Option.bind (ref23_Step N aProps aAccept aGuard aNodes (s.1, s.2) won177) fun r255 =>
      Option.bind (ref23_Ranks_l2 N won177 k178 r255 N ranks176 0) fun x302 =>
      Option.bind (ref23_Ranks_l3 N x302 N won177 0) fun x344 =>
      ask (in64 (k178 + 1)) <|
      ref23_Ranks_l1 N aProps aAccept aGuard aNodes s m247 x302 x344 (k178 + 1)
    else
      some ranks176
def ref23_Ranks (N : Nat) (aProps : Int) (aAccept : List Bool) (aGuard : List Int) (aNodes : List Nd) (s : Int × Int) : Option ((List Int) × Int) :=
  Option.bind (ref22_Check N aProps aAccept aGuard aNodes (s.1, s.2)) fun r23 =>
  if (r23 : Int) = 0 then
    ask (0 ≤ (((List.length aAccept) : Nat) : Int) ∧ (((List.length aAccept) : Nat) : Int) ≤ 1000000000) <|
    Option.bind (ref23_Ranks_l0 N aAccept N (List.replicate (Int.toNat (((List.length aAccept) : Nat) : Int)) (0 : Int)) (List.replicate (Int.toNat (((List.length aAccept) : Nat) : Int)) (false : Bool)) 0) fun x86 =>
    Option.bind (ref23_Ranks_l1 N aProps aAccept aGuard aNodes s N x86.1 x86.2 1) fun x248 =>
    some (x248, 0)
  else
    some ([], r23)
set_option maxRecDepth 100000 in
set_option maxHeartbeats 4000000 in
theorem ref23_Ranks_calls {N : Nat} {S Fa : Nat → Prop} {w0 : World} {r : (List Int) × Int} (A1 : Option Addr) (c2 : Nat) (A5 : Option Addr) (c6 : Nat) (A9 : Option Addr) (c10 : Nat) (aProps : Int) (aAccept : List Bool) (aGuard : List Int) (aNodes : List Nd) (s : Int × Int) (hk3 : List.length aAccept ≤ c2) (hk7 : List.length aGuard ≤ c6) (hk11 : List.length aNodes ≤ c10) (H : Hp S Fa w0 w0 [.ro false cBool A1 aAccept, .ro false (cInt .i64) A5 aGuard, .ro false cNode A9 aNodes]) (hP : ref23_Ranks N aProps aAccept aGuard aNodes s = some r) :
    Calls Try.prog 18 #[.agg #[.int .i64 aProps, .slice A1 (List.length aAccept) c2, .slice A5 (List.length aGuard) c6, .slice A9 (List.length aNodes) c10], .agg #[.int .u8 s.1, .int .u8 s.2]] w0 fun e w' => ∃ v, e = .returned v ∧ ∃ (A360 : Option Addr) (c361 : Nat), v = .tuple #[.slice A360 (List.length r.1) c361, .int .i64 r.2] ∧ Hp S Fa w0 w' [.row true (cInt .i64) 3 A360 c361 r.1] := by
 refine enterV (n := 100) Try.func18 rfl rfl rfl ?_
 intro a E
 replace E := E.pick [(0, .agg #[.int .i64 aProps, .slice A1 (List.length aAccept) c2, .slice A5 (List.length aGuard) c6, .slice A9 (List.length aNodes) c10]), (1, .agg #[.int .u8 s.1, .int .u8 s.2])] ⟨rfl, rfl, trivial⟩
 rw [ref23_Ranks] at hP
 refine wp_seq ?_
 refine wp_region_lit ?_
 refine h_box H E rfl rfl rfl ?_
 intro w14 g13 a hc15 hg17 H_ E_
 replace E := E_ _ rfl; clear E_
 replace H := H_; clear H_; try dsimp only [setn, addE, goneL] at H
 refine h_box H E rfl rfl rfl ?_
 intro w19 g18 a hc20 hg22 H_ E_
 replace E := E_ _ rfl; clear E_
 replace H := H_; clear H_; try dsimp only [setn, addE, goneL] at H
 refine vn tbok 2 [] [] [] E (by kernel_rfl) (by kernel_rfl) trivial ?_
 clear E; intro a E
 refine wpList_nil ?_
 refine th_n ?_
 refine wp_seq ?_
 refine wp_region_lit ?_
 refine vn tbok 2 [.agg #[.int .i64 aProps, .slice A1 (List.length aAccept) c2, .slice A5 (List.length aGuard) c6, .slice A9 (List.length aNodes) c10], .agg #[.int .u8 s.1, .int .u8 s.2]] [(15, .agg #[.int .i64 aProps, .slice A1 (List.length aAccept) c2, .slice A5 (List.length aGuard) c6, .slice A9 (List.length aNodes) c10]), (16, .agg #[.int .u8 s.1, .int .u8 s.2])] [cellsAt w19 g13 (0) [.int .i64 aProps, .slice A1 (List.length aAccept) c2, .slice A5 (List.length aGuard) c6, .slice A9 (List.length aNodes) c10], cellsAt w19 g18 (0) [.int .u8 s.1, .int .u8 s.2]] E (by kernel_rfl) (by kernel_rfl) ⟨(H.box 3 rfl).sub 0 _ rfl, (H.box 4 rfl).sub 0 _ rfl⟩ ?_
 clear E; intro a E
 obtain ⟨r23, h24, hP⟩ := bind_inv hP
 obtain ⟨Fa25, Hc26, hb27⟩ := H.call [] [(0, false), (1, false), (2, false)] rfl rfl trivial
 refine e_call E rfl rfl Try.func34 rfl rfl rfl (ref22_Check_calls A1 c2 A5 c6 A9 c10 aProps aAccept aGuard aNodes (s.1, s.2) hk3 hk7 hk11 Hc26 h24) ?_
 rintro v28 w29 a ⟨rfl, HR30⟩ E_
 replace E := E_ _ rfl; clear E_
 obtain ⟨H_, hc31⟩ := hb27 _ _ HR30 rfl
 replace H := H_; clear H_; try dsimp only [setn, addE, goneL] at H
 refine vn tbok 1 [] [(6, .int .i64 r23)] [] E (by kernel_rfl) (by kernel_rfl) trivial ?_
 clear E; intro a E
 refine wpList_nil ?_
 refine th_n ?_
 refine wp_seq ?_
 refine wp_seq ?_
 refine wp_region_lit ?_
 refine vn tbok 2 [] [(19, .bool ((r23 : Int) != 0))] [] E (by kernel_rfl) (by kernel_rfl) trivial ?_
 clear E; intro a E
 refine wpList_nil ?_
 refine th_n ?_
 refine E.cases (t := 19) rfl (fun hb_ E_ => ?_) (fun hb_ E_ => ?_)
 ·
  replace E := E_; clear E_
  have h32 : ¬ ((r23 : Int) = 0) := bne_iff_ne.1 hb_
  clear hb_; replace hP := ite_f h32 hP
  refine c_true E rfl ?_
  refine wp_seq ?_
  refine wp_region_lit ?_
  refine vn tbok 3 [] [(4, .slice none 0 0), (5, .int .i64 r23)] [] E (by kernel_rfl) (by kernel_rfl) trivial ?_
  clear E; intro a E
  refine wpList_nil ?_
  refine th_n ?_
  refine wp_ret ?_
  refine th_ret ?_
  replace H := H.nilrow (cInt .i64) 3; try dsimp only [setn, addE, goneL] at H
  obtain rfl := Option.some.inj hP
  refine ret2 E rfl rfl rfl ?_
  exact ⟨_, rfl, none, 0, rfl, H.sel [5] rfl⟩
 replace E := E_; clear E_
 have h34 : (r23 : Int) = 0 := bne_eq_false_iff_eq.1 hb_
 clear hb_; replace hP := ite_t h34 hP
 refine c_false E rfl ?_
 refine wp_skip ?_
 refine th_n ?_
 refine wp_seq ?_
 refine wp_region_lit ?_
 refine vn tbok 3 [.slice A1 (List.length aAccept) c2] [(23, .int .i64 (((List.length aAccept) : Nat) : Int))] [World.cell? w29 ⟨g13, 1, none⟩ = some (.slice A1 (List.length aAccept) c2)] E (by kernel_rfl) (by kernel_rfl) ((H.box 3 rfl).cell (j := 1) rfl) ?_
 clear E; intro a E
 obtain ⟨g35, hP⟩ := ask_inv hP
 refine h_make (cInt .i64) (0 : Int) H E rfl rfl tbok rfl rfl rfl rfl ⟨g35.1, Int.le_refl _, g35.2⟩ rfl rfl rfl (fun _ _ => rfl) ?_
 intro w37 g36 a hc38 hg40 H_ E_
 replace E := E_ _ rfl; clear E_
 replace H := H_; clear H_; try dsimp only [setn, addE, goneL] at H
 refine vn tbok 1 [] [(7, .slice (some ⟨g36, 0, none⟩) (List.length (List.replicate (Int.toNat (((List.length aAccept) : Nat) : Int)) (0 : Int))) (Int.toNat (((List.length aAccept) : Nat) : Int)))] [] E (by kernel_rfl) (by kernel_rfl) trivial ?_
 clear E; intro a E
 refine wpList_nil ?_
 refine th_n ?_
 refine wp_seq ?_
 refine wp_region_lit ?_
 refine vn tbok 3 [.slice A1 (List.length aAccept) c2] [(27, .int .i64 (((List.length aAccept) : Nat) : Int))] [World.cell? w37 ⟨g13, 1, none⟩ = some (.slice A1 (List.length aAccept) c2)] E (by kernel_rfl) (by kernel_rfl) ((H.box 3 rfl).cell (j := 1) rfl) ?_
 clear E; intro a E
 refine h_make cBool (false : Bool) H E rfl rfl tbok rfl rfl rfl rfl ⟨g35.1, Int.le_refl _, g35.2⟩ rfl rfl rfl (fun _ _ => rfl) ?_
 intro w42 g41 a hc43 hg45 H_ E_
 replace E := E_ _ rfl; clear E_
 replace H := H_; clear H_; try dsimp only [setn, addE, goneL] at H
 refine vn tbok 1 [] [(8, .slice (some ⟨g41, 0, none⟩) (List.length (List.replicate (Int.toNat (((List.length aAccept) : Nat) : Int)) (false : Bool))) (Int.toNat (((List.length aAccept) : Nat) : Int)))] [] E (by kernel_rfl) (by kernel_rfl) trivial ?_
 clear E; intro a E
 refine wpList_nil ?_
 refine th_n ?_
 refine wp_seq ?_
 refine wp_seq ?_
 refine wp_region_lit ?_
 refine vn tbok 1 [] [(9, .int .i64 0)] [] E (by kernel_rfl) (by kernel_rfl) trivial ?_
 clear E; intro a E
 refine wpList_nil ?_
 refine th_n ?_
 refine wp_block ?_
 obtain ⟨x86, hL87, hK88⟩ := bind_inv hP
 clear hP
 refine loop_cut (fun i_ a w_ => (i_ = 0 ∧ ∃ (x91 : (List Int) × (List Bool)), Fr a 100 [(2, .pointer (some ⟨g13, 0, none⟩)), (3, .pointer (some ⟨g18, 0, none⟩)), (7, .slice (some ⟨g36, 0, none⟩) (List.length x91.1) (Int.toNat (((List.length aAccept) : Nat) : Int))), (8, .slice (some ⟨g41, 0, none⟩) (List.length x91.2) (Int.toNat (((List.length aAccept) : Nat) : Int)))] ∧ Hp S Fa w0 w_ [.ro false cBool A1 aAccept, .ro false (cInt .i64) A5 aGuard, .ro false cNode A9 aNodes, .box g13 26 [.int .i64 aProps, .slice A1 (List.length aAccept) c2, .slice A5 (List.length aGuard) c6, .slice A9 (List.length aNodes) c10], .box g18 29 [.int .u8 s.1, .int .u8 s.2], .rowx true (cInt .i64) 3 (some ⟨g36, 0, none⟩) (Int.toNat (((List.length aAccept) : Nat) : Int)) x91.1 (List.replicate (Int.toNat (((List.length aAccept) : Nat) : Int) - Int.toNat (((List.length aAccept) : Nat) : Int)) (0 : Int)), .rowx true cBool 4 (some ⟨g41, 0, none⟩) (Int.toNat (((List.length aAccept) : Nat) : Int)) x91.2 (List.replicate (Int.toNat (((List.length aAccept) : Nat) : Int) - Int.toNat (((List.length aAccept) : Nat) : Int)) (false : Bool))] ∧ x86 = x91)) ?_ ?_
 ·
  refine loopV (fun m90 a w89 => ∃ (ranks62 : List Int) (won63 : List Bool) (q64 : Int), Fr a 100 [(2, .pointer (some ⟨g13, 0, none⟩)), (3, .pointer (some ⟨g18, 0, none⟩)), (7, .slice (some ⟨g36, 0, none⟩) (List.length ranks62) (Int.toNat (((List.length aAccept) : Nat) : Int))), (8, .slice (some ⟨g41, 0, none⟩) (List.length won63) (Int.toNat (((List.length aAccept) : Nat) : Int))), (9, .int .i64 q64)] ∧ Hp S Fa w0 w89 [.ro false cBool A1 aAccept, .ro false (cInt .i64) A5 aGuard, .ro false cNode A9 aNodes, .box g13 26 [.int .i64 aProps, .slice A1 (List.length aAccept) c2, .slice A5 (List.length aGuard) c6, .slice A9 (List.length aNodes) c10], .box g18 29 [.int .u8 s.1, .int .u8 s.2], .rowx true (cInt .i64) 3 (some ⟨g36, 0, none⟩) (Int.toNat (((List.length aAccept) : Nat) : Int)) ranks62 (List.replicate (Int.toNat (((List.length aAccept) : Nat) : Int) - Int.toNat (((List.length aAccept) : Nat) : Int)) (0 : Int)), .rowx true cBool 4 (some ⟨g41, 0, none⟩) (Int.toNat (((List.length aAccept) : Nat) : Int)) won63 (List.replicate (Int.toNat (((List.length aAccept) : Nat) : Int) - Int.toNat (((List.length aAccept) : Nat) : Int)) (false : Bool))] ∧ ref23_Ranks_l0 N aAccept m90 ranks62 won63 q64 = some x86) N ?_ ?_
  ·
   exact ⟨List.replicate (Int.toNat (((List.length aAccept) : Nat) : Int)) (0 : Int), List.replicate (Int.toNat (((List.length aAccept) : Nat) : Int)) (false : Bool), 0, E.pick _ ⟨rfl, rfl, rfl, rfl, rfl, trivial⟩, H.sel [0, 1, 2, 3, 4, 5, 6] rfl, hL87⟩
  clear E H hL87; intro m90 a w89 hI_
  obtain ⟨ranks62, won63, q64, E, H, hP⟩ := hI_
  obtain ⟨m85, rfl⟩ : ∃ q_, m90 = q_ + 1 := by cases m90 with | zero => rw [ref23_Ranks_l0] at hP; cases hP | succ q_ => exact ⟨q_, rfl⟩
  rw [ref23_Ranks_l0] at hP
  refine wp_seq ?_
  refine wp_seq ?_
  refine wp_region_lit ?_
  refine vn tbok 4 [] [(32, .bool (decide (q64 < (((List.length ranks62) : Nat) : Int))))] [] E (by kernel_rfl) (by kernel_rfl) trivial ?_
  clear E; intro a E
  refine wpList_nil ?_
  refine th_n ?_
  refine E.cases (t := 32) rfl (fun hb_ E_ => ?_) (fun hb_ E_ => ?_)
  ·
   replace E := E_; clear E_
   have h92 : q64 < (((List.length ranks62) : Nat) : Int) := of_decide_eq_true hb_
   clear hb_; replace hP := ite_t h92 hP
   refine c_true E rfl ?_
   refine wp_skip ?_
   refine th_n ?_
   refine wp_seq ?_
   refine wp_block ?_
   refine wp_seq ?_
   refine wp_region_lit ?_
   obtain ⟨g93, hP⟩ := ask_inv hP
   obtain ⟨b94, o95, e_b94⟩ := (H.rd 0 rds_ro).addr (idx_pos g93)
   subst e_b94
   obtain ⟨g96, hP⟩ := ask_inv hP
   refine vn tbok 8 [.slice (some ⟨b94, o95, none⟩) (List.length aAccept) c2, .bool (List.getD aAccept (Int.toNat q64) false)] [(41, .bool (List.getD aAccept (Int.toNat q64) false)), (42, .pointer (some ⟨g41, 0 + (Int.toNat q64) * 1, none⟩))] [World.cell? w89 ⟨g13, 1, none⟩ = some (.slice (some ⟨b94, o95, none⟩) (List.length aAccept) c2), 0 ≤ q64 ∧ q64 < (((List.length aAccept) : Nat) : Int), World.cell? w89 ⟨b94, o95 + (Int.toNat q64) * 1, none⟩ = some (.bool (List.getD aAccept (Int.toNat q64) false)), 0 ≤ q64 ∧ q64 < (((List.length won63) : Nat) : Int)] E (by kernel_rfl) (by kernel_rfl) ⟨(H.box 3 rfl).cell (j := 1) rfl, g93, Rds.at1 (H.rd 0 rds_ro) false g93, g96⟩ ?_
   clear E; intro a E
   refine h_setx (g := g41) (i := q64) (List.getD aAccept (Int.toNat q64) false) H 6 rfl E rfl rfl rfl rfl tbok rfl (fun _ HF_ => rfl) rfl g96 rfl ?_
   clear E; intro w97 a hc98 H_ E
   replace H := H_; clear H_; try dsimp only [setn, addE, goneL] at H
   have hn99 : (List.length won63) = (List.length (List.set won63 (Int.toNat q64) (List.getD aAccept (Int.toNat q64) false))) := by simp only [List.length_set]
   replace E := E.same (t := 8) (u := .slice (some ⟨g41, 0, none⟩) (List.length (List.set won63 (Int.toNat q64) (List.getD aAccept (Int.toNat q64) false))) (Int.toNat (((List.length aAccept) : Nat) : Int))) rfl (congrArg (fun n_ => Value.slice (some ⟨g41, 0, none⟩) n_ (Int.toNat (((List.length aAccept) : Nat) : Int))) hn99)
   refine wpList_nil ?_
   refine th_n ?_
   refine wp_seq ?_
   refine wp_region_lit ?_
   obtain ⟨g100, hP⟩ := ask_inv hP
   refine vn tbok 5 [.bool (List.getD (List.set won63 (Int.toNat q64) (List.getD aAccept (Int.toNat q64) false)) (Int.toNat q64) false)] [(47, .bool (!(List.getD (List.set won63 (Int.toNat q64) (List.getD aAccept (Int.toNat q64) false)) (Int.toNat q64) false)))] [0 ≤ q64 ∧ q64 < (((List.length (List.set won63 (Int.toNat q64) (List.getD aAccept (Int.toNat q64) false))) : Nat) : Int), World.cell? w97 ⟨g41, 0 + (Int.toNat q64) * 1, none⟩ = some (.bool (List.getD (List.set won63 (Int.toNat q64) (List.getD aAccept (Int.toNat q64) false)) (Int.toNat q64) false))] E (by kernel_rfl) (by kernel_rfl) ⟨g100, Rds.at1 (H.rd 6 rds_rowx) false g100⟩ ?_
   clear E; intro a E
   refine wpList_nil ?_
   refine th_n ?_
   refine E.cases (t := 47) rfl (fun hb_ E_ => ?_) (fun hb_ E_ => ?_)
   ·
    replace E := E_; clear E_
    have h101 : ¬ ((List.getD (List.set won63 (Int.toNat q64) (List.getD aAccept (Int.toNat q64) false)) (Int.toNat q64) false) = true) := (ne_true_of_eq_false (not_t hb_))
    clear hb_; replace hP := ite_f h101 hP
    refine c_true E rfl ?_
    refine wp_region_lit ?_
    obtain ⟨g102, hP⟩ := ask_inv hP
    refine vn tbok 3 [] [(50, .pointer (some ⟨g36, 0 + (Int.toNat q64) * 1, none⟩))] [0 ≤ q64 ∧ q64 < (((List.length ranks62) : Nat) : Int)] E (by kernel_rfl) (by kernel_rfl) (g102) ?_
    clear E; intro a E
    refine h_setx (g := g36) (i := q64) (-1) H 5 rfl E rfl rfl rfl rfl tbok rfl (fun _ HF_ => rfl) rfl g102 rfl ?_
    clear E; intro w103 a hc104 H_ E
    replace H := H_; clear H_; try dsimp only [setn, addE, goneL] at H
    have hn105 : (List.length ranks62) = (List.length (List.set ranks62 (Int.toNat q64) (-1))) := by simp only [List.length_set]
    replace E := E.same (t := 7) (u := .slice (some ⟨g36, 0, none⟩) (List.length (List.set ranks62 (Int.toNat q64) (-1))) (Int.toNat (((List.length aAccept) : Nat) : Int))) rfl (congrArg (fun n_ => Value.slice (some ⟨g36, 0, none⟩) n_ (Int.toNat (((List.length aAccept) : Nat) : Int))) hn105)
    refine wpList_nil ?_
    refine bl_n ?_
    refine th_n ?_
    refine wp_region_lit ?_
    obtain ⟨g106, hP⟩ := ask_inv hP
    refine vn tbok 3 [.int .i64 (q64 + 1)] [(9, .int .i64 (q64 + 1))] [IntKind.i64.wrap (q64 + 1) = q64 + 1] E (by kernel_rfl) (by kernel_rfl) (wrap_in g106) ?_
    clear E; intro a E
    refine wpList_nil ?_
    exact th_n ⟨m85, Nat.lt_succ_self _, List.set ranks62 (Int.toNat q64) (-1), List.set won63 (Int.toNat q64) (List.getD aAccept (Int.toNat q64) false), q64 + 1, E.pick _ ⟨rfl, rfl, rfl, rfl, rfl, trivial⟩, H.sel [0, 1, 2, 3, 4, 5, 6] rfl, hP⟩
   replace E := E_; clear E_
   have h107 : (List.getD (List.set won63 (Int.toNat q64) (List.getD aAccept (Int.toNat q64) false)) (Int.toNat q64) false) = true := (not_f hb_)
   clear hb_; replace hP := ite_t h107 hP
   refine c_false E rfl ?_
   refine wp_skip ?_
   refine bl_n ?_
   refine th_n ?_
   refine wp_region_lit ?_
   obtain ⟨g108, hP⟩ := ask_inv hP
   refine vn tbok 3 [.int .i64 (q64 + 1)] [(9, .int .i64 (q64 + 1))] [IntKind.i64.wrap (q64 + 1) = q64 + 1] E (by kernel_rfl) (by kernel_rfl) (wrap_in g108) ?_
   clear E; intro a E
   refine wpList_nil ?_
   exact th_n ⟨m85, Nat.lt_succ_self _, ranks62, List.set won63 (Int.toNat q64) (List.getD aAccept (Int.toNat q64) false), q64 + 1, E.pick _ ⟨rfl, rfl, rfl, rfl, rfl, trivial⟩, H.sel [0, 1, 2, 3, 4, 5, 6] rfl, hP⟩
  replace E := E_; clear E_
  have h109 : ¬ (q64 < (((List.length ranks62) : Nat) : Int)) := of_decide_eq_false hb_
  clear hb_; replace hP := ite_f h109 hP
  refine c_false E rfl ?_
  refine wp_exit ?_
  refine th_exit ?_
  have hx_ := Option.some.inj hP
  refine th_exit (.inl ⟨0, rfl, ?_⟩)
  exact ⟨rfl, (ranks62, won63), E.pick _ ⟨rfl, rfl, rfl, rfl, trivial⟩, H.sel [0, 1, 2, 3, 4, 5, 6] rfl, hx_.symm⟩
 clear E H hL87; intro i_ a w89 hM_
 obtain ⟨rfl, x91, E, H, hx_⟩ := hM_
 subst hx_; have hP := hK88; clear hK88
 refine bl_hit ?_
 refine th_n ?_
 refine wp_seq ?_
 refine wp_seq ?_
 refine wp_region_lit ?_
 refine vn tbok 1 [] [(10, .int .i64 1)] [] E (by kernel_rfl) (by kernel_rfl) trivial ?_
 clear E; intro a E
 refine wpList_nil ?_
 refine th_n ?_
 refine wp_block ?_
 obtain ⟨x248, hL249, hK250⟩ := bind_inv hP
 clear hP
 refine loop_cut (fun i_ a w_ => (i_ = 2 ∧ ∃ (x253 : List Int), Fr a 100 [(7, .slice (some ⟨g36, 0, none⟩) (List.length x253) (Int.toNat (((List.length aAccept) : Nat) : Int)))] ∧ Hp S Fa w0 w_ [.rowx true (cInt .i64) 3 (some ⟨g36, 0, none⟩) (Int.toNat (((List.length aAccept) : Nat) : Int)) x253 (List.replicate (Int.toNat (((List.length aAccept) : Nat) : Int) - Int.toNat (((List.length aAccept) : Nat) : Int)) (0 : Int))] ∧ x248 = x253)) ?_ ?_
 ·
  refine loopV (fun m252 a w251 => ∃ (ranks176 : List Int) (won177 : List Bool) (k178 : Int), Fr a 100 [(2, .pointer (some ⟨g13, 0, none⟩)), (3, .pointer (some ⟨g18, 0, none⟩)), (7, .slice (some ⟨g36, 0, none⟩) (List.length ranks176) (Int.toNat (((List.length aAccept) : Nat) : Int))), (8, .slice (some ⟨g41, 0, none⟩) (List.length won177) (Int.toNat (((List.length aAccept) : Nat) : Int))), (10, .int .i64 k178)] ∧ Hp S Fa w0 w251 [.ro false cBool A1 aAccept, .ro false (cInt .i64) A5 aGuard, .ro false cNode A9 aNodes, .box g13 26 [.int .i64 aProps, .slice A1 (List.length aAccept) c2, .slice A5 (List.length aGuard) c6, .slice A9 (List.length aNodes) c10], .box g18 29 [.int .u8 s.1, .int .u8 s.2], .rowx true (cInt .i64) 3 (some ⟨g36, 0, none⟩) (Int.toNat (((List.length aAccept) : Nat) : Int)) ranks176 (List.replicate (Int.toNat (((List.length aAccept) : Nat) : Int) - Int.toNat (((List.length aAccept) : Nat) : Int)) (0 : Int)), .rowx true cBool 4 (some ⟨g41, 0, none⟩) (Int.toNat (((List.length aAccept) : Nat) : Int)) won177 (List.replicate (Int.toNat (((List.length aAccept) : Nat) : Int) - Int.toNat (((List.length aAccept) : Nat) : Int)) (false : Bool))] ∧ ref23_Ranks_l1 N aProps aAccept aGuard aNodes s m252 ranks176 won177 k178 = some x248) N ?_ ?_
  ·
   exact ⟨x86.1, x86.2, 1, E.pick _ ⟨rfl, rfl, rfl, rfl, rfl, trivial⟩, H.sel [0, 1, 2, 3, 4, 5, 6] rfl, hL249⟩
  clear E H hL249; intro m252 a w251 hI_
  obtain ⟨ranks176, won177, k178, E, H, hP⟩ := hI_
  obtain ⟨m247, rfl⟩ : ∃ q_, m252 = q_ + 1 := by cases m252 with | zero => rw [ref23_Ranks_l1] at hP; cases hP | succ q_ => exact ⟨q_, rfl⟩
  rw [ref23_Ranks_l1] at hP
  refine wp_seq ?_
  refine wp_seq ?_
  refine wp_region_lit ?_
  refine vn tbok 4 [] [(54, .bool (decide (k178 ≤ (((List.length ranks176) : Nat) : Int))))] [] E (by kernel_rfl) (by kernel_rfl) trivial ?_
  clear E; intro a E
  refine wpList_nil ?_
  refine th_n ?_
  refine E.cases (t := 54) rfl (fun hb_ E_ => ?_) (fun hb_ E_ => ?_)
  ·
   replace E := E_; clear E_
   have h254 : k178 ≤ (((List.length ranks176) : Nat) : Int) := of_decide_eq_true hb_
   clear hb_; replace hP := ite_t h254 hP
   refine c_true E rfl ?_
   refine wp_skip ?_
   refine th_n ?_
   refine wp_seq ?_
   refine wp_block ?_
   refine wp_seq ?_
   refine wp_region_lit ?_
   refine vn tbok 3 [.agg #[.int .i64 aProps, .slice A1 (List.length aAccept) c2, .slice A5 (List.length aGuard) c6, .slice A9 (List.length aNodes) c10], .agg #[.int .u8 s.1, .int .u8 s.2]] [(58, .agg #[.int .i64 aProps, .slice A1 (List.length aAccept) c2, .slice A5 (List.length aGuard) c6, .slice A9 (List.length aNodes) c10]), (59, .agg #[.int .u8 s.1, .int .u8 s.2]), (60, .slice (some ⟨g41, 0, none⟩) (List.length won177) (Int.toNat (((List.length aAccept) : Nat) : Int)))] [cellsAt w251 g13 (0) [.int .i64 aProps, .slice A1 (List.length aAccept) c2, .slice A5 (List.length aGuard) c6, .slice A9 (List.length aNodes) c10], cellsAt w251 g18 (0) [.int .u8 s.1, .int .u8 s.2]] E (by kernel_rfl) (by kernel_rfl) ⟨(H.box 3 rfl).sub 0 _ rfl, (H.box 4 rfl).sub 0 _ rfl⟩ ?_
   clear E; intro a E
   obtain ⟨r255, h256, hP⟩ := bind_inv hP
   obtain ⟨Fa257, Hc258, hb259⟩ := H.call [] [(0, false), (1, false), (2, false), (6, false)] rfl rfl trivial
   refine e_call E rfl rfl Try.func21 rfl rfl rfl (ref23_Step_calls A1 c2 A5 c6 A9 c10 (some ⟨g41, 0, none⟩) (Int.toNat (((List.length aAccept) : Nat) : Int)) aProps aAccept aGuard aNodes (s.1, s.2) won177 hk3 hk7 hk11 (H.rcapx 6 rfl) Hc258 h256) ?_
   rintro v260 w261 a ⟨A264, c265, rfl, HR262⟩ E_
   replace E := E_ _ rfl; clear E_
   obtain ⟨H_, hc263⟩ := hb259 _ _ HR262 rfl
   replace H := H_; clear H_; try dsimp only [setn, addE, goneL] at H
   refine vn tbok 5 [] [(11, .slice A264 (List.length r255.1) c265)] [] E (by kernel_rfl) (by kernel_rfl) trivial ?_
   clear E; intro a E
   refine wpList_nil ?_
   refine th_n ?_
   refine wp_seq ?_
   refine wp_seq ?_
   refine wp_region_lit ?_
   refine vn tbok 1 [] [(13, .int .i64 0)] [] E (by kernel_rfl) (by kernel_rfl) trivial ?_
   clear E; intro a E
   refine wpList_nil ?_
   refine th_n ?_
   refine wp_block ?_
   obtain ⟨x302, hL303, hK304⟩ := bind_inv hP
   clear hP
   refine loop_cut (fun i_ a w_ => (i_ = 4 ∧ ∃ (x307 : List Int), Fr a 100 [(2, .pointer (some ⟨g13, 0, none⟩)), (3, .pointer (some ⟨g18, 0, none⟩)), (7, .slice (some ⟨g36, 0, none⟩) (List.length x307) (Int.toNat (((List.length aAccept) : Nat) : Int))), (8, .slice (some ⟨g41, 0, none⟩) (List.length won177) (Int.toNat (((List.length aAccept) : Nat) : Int))), (10, .int .i64 k178)] ∧ Hp S Fa w0 w_ [.ro false cBool A1 aAccept, .ro false (cInt .i64) A5 aGuard, .ro false cNode A9 aNodes, .box g13 26 [.int .i64 aProps, .slice A1 (List.length aAccept) c2, .slice A5 (List.length aGuard) c6, .slice A9 (List.length aNodes) c10], .box g18 29 [.int .u8 s.1, .int .u8 s.2], .rowx true (cInt .i64) 3 (some ⟨g36, 0, none⟩) (Int.toNat (((List.length aAccept) : Nat) : Int)) x307 (List.replicate (Int.toNat (((List.length aAccept) : Nat) : Int) - Int.toNat (((List.length aAccept) : Nat) : Int)) (0 : Int)), .rowx true cBool 4 (some ⟨g41, 0, none⟩) (Int.toNat (((List.length aAccept) : Nat) : Int)) won177 (List.replicate (Int.toNat (((List.length aAccept) : Nat) : Int) - Int.toNat (((List.length aAccept) : Nat) : Int)) (false : Bool))] ∧ x302 = x307)) ?_ ?_
   ·
    refine loopV (fun m306 a w305 => ∃ (ranks281 : List Int) (q282 : Int), Fr a 100 [(2, .pointer (some ⟨g13, 0, none⟩)), (3, .pointer (some ⟨g18, 0, none⟩)), (7, .slice (some ⟨g36, 0, none⟩) (List.length ranks281) (Int.toNat (((List.length aAccept) : Nat) : Int))), (8, .slice (some ⟨g41, 0, none⟩) (List.length won177) (Int.toNat (((List.length aAccept) : Nat) : Int))), (10, .int .i64 k178), (11, .slice A264 (List.length r255.1) c265), (13, .int .i64 q282)] ∧ Hp S Fa w0 w305 [.ro false cBool A1 aAccept, .ro false (cInt .i64) A5 aGuard, .ro false cNode A9 aNodes, .box g13 26 [.int .i64 aProps, .slice A1 (List.length aAccept) c2, .slice A5 (List.length aGuard) c6, .slice A9 (List.length aNodes) c10], .box g18 29 [.int .u8 s.1, .int .u8 s.2], .rowx true (cInt .i64) 3 (some ⟨g36, 0, none⟩) (Int.toNat (((List.length aAccept) : Nat) : Int)) ranks281 (List.replicate (Int.toNat (((List.length aAccept) : Nat) : Int) - Int.toNat (((List.length aAccept) : Nat) : Int)) (0 : Int)), .rowx true cBool 4 (some ⟨g41, 0, none⟩) (Int.toNat (((List.length aAccept) : Nat) : Int)) won177 (List.replicate (Int.toNat (((List.length aAccept) : Nat) : Int) - Int.toNat (((List.length aAccept) : Nat) : Int)) (false : Bool)), .row true cBool 4 A264 c265 r255.1] ∧ ref23_Ranks_l2 N won177 k178 r255 m306 ranks281 q282 = some x302) N ?_ ?_
    ·
     exact ⟨ranks176, 0, E.pick _ ⟨rfl, rfl, rfl, rfl, rfl, rfl, rfl, trivial⟩, H.sel [0, 1, 2, 3, 4, 5, 6, 7] rfl, hL303⟩
    clear E H hL303; intro m306 a w305 hI_
    obtain ⟨ranks281, q282, E, H, hP⟩ := hI_
    obtain ⟨m301, rfl⟩ : ∃ q_, m306 = q_ + 1 := by cases m306 with | zero => rw [ref23_Ranks_l2] at hP; cases hP | succ q_ => exact ⟨q_, rfl⟩
    rw [ref23_Ranks_l2] at hP
    refine wp_seq ?_
    refine wp_seq ?_
    refine wp_region_lit ?_
    refine vn tbok 4 [] [(67, .bool (decide (q282 < (((List.length ranks281) : Nat) : Int))))] [] E (by kernel_rfl) (by kernel_rfl) trivial ?_
    clear E; intro a E
    refine wpList_nil ?_
    refine th_n ?_
    refine E.cases (t := 67) rfl (fun hb_ E_ => ?_) (fun hb_ E_ => ?_)
    ·
     replace E := E_; clear E_
     have h308 : q282 < (((List.length ranks281) : Nat) : Int) := of_decide_eq_true hb_
     clear hb_; replace hP := ite_t h308 hP
     refine c_true E rfl ?_
     refine wp_skip ?_
     refine th_n ?_
     refine wp_seq ?_
     refine wp_block ?_
     refine wp_seq ?_
     refine wp_region_lit ?_
     obtain ⟨g309, hP⟩ := ask_inv hP
     obtain ⟨b310, e_b310⟩ := H.raddr 7 rfl (idx_pos g309)
     subst e_b310
     refine vn tbok 5 [.bool (List.getD r255.1 (Int.toNat q282) false)] [(74, .bool (List.getD r255.1 (Int.toNat q282) false))] [0 ≤ q282 ∧ q282 < (((List.length r255.1) : Nat) : Int), World.cell? w305 ⟨b310, 0 + (Int.toNat q282) * 1, none⟩ = some (.bool (List.getD r255.1 (Int.toNat q282) false))] E (by kernel_rfl) (by kernel_rfl) ⟨g309, Rds.at1 (H.rd 7 rds_row) false g309⟩ ?_
     clear E; intro a E
     refine E.cases (t := 74) rfl (fun hb_ E_ => ?_) (fun hb_ E_ => ?_)
     ·
      replace E := E_; clear E_
      have h312 : (List.getD r255.1 (Int.toNat q282) false) = true := hb_
      clear hb_; replace hP := ite_t h312 hP
      obtain ⟨g313, hP⟩ := ask_inv hP
      refine vn tbok 6 [.bool (List.getD won177 (Int.toNat q282) false)] [(80, .bool (!(List.getD won177 (Int.toNat q282) false)))] [0 ≤ q282 ∧ q282 < (((List.length won177) : Nat) : Int), World.cell? w305 ⟨g41, 0 + (Int.toNat q282) * 1, none⟩ = some (.bool (List.getD won177 (Int.toNat q282) false))] E (by kernel_rfl) (by kernel_rfl) ⟨g313, Rds.at1 (H.rd 6 rds_rowx) false g313⟩ ?_
      clear E; intro a E
      refine wpList_nil ?_
      refine th_n ?_
      refine E.cases (t := 80) rfl (fun hb_ E_ => ?_) (fun hb_ E_ => ?_)
      ·
       replace E := E_; clear E_
       have h314 : ¬ ((List.getD won177 (Int.toNat q282) false) = true) := (ne_true_of_eq_false (not_t hb_))
       clear hb_; replace hP := ite_f h314 hP
       refine c_true E rfl ?_
       refine wp_region_lit ?_
       obtain ⟨g315, hP⟩ := ask_inv hP
       refine vn tbok 4 [] [(83, .int .i64 k178), (84, .pointer (some ⟨g36, 0 + (Int.toNat q282) * 1, none⟩))] [0 ≤ q282 ∧ q282 < (((List.length ranks281) : Nat) : Int)] E (by kernel_rfl) (by kernel_rfl) (g315) ?_
       clear E; intro a E
       refine h_setx (g := g36) (i := q282) k178 H 5 rfl E rfl rfl rfl rfl tbok rfl (fun _ HF_ => rfl) rfl g315 rfl ?_
       clear E; intro w316 a hc317 H_ E
       replace H := H_; clear H_; try dsimp only [setn, addE, goneL] at H
       have hn318 : (List.length ranks281) = (List.length (List.set ranks281 (Int.toNat q282) k178)) := by simp only [List.length_set]
       replace E := E.same (t := 7) (u := .slice (some ⟨g36, 0, none⟩) (List.length (List.set ranks281 (Int.toNat q282) k178)) (Int.toNat (((List.length aAccept) : Nat) : Int))) rfl (congrArg (fun n_ => Value.slice (some ⟨g36, 0, none⟩) n_ (Int.toNat (((List.length aAccept) : Nat) : Int))) hn318)
       refine wpList_nil ?_
       refine bl_n ?_
       refine th_n ?_
       refine wp_region_lit ?_
       obtain ⟨g319, hP⟩ := ask_inv hP
       refine vn tbok 3 [.int .i64 (q282 + 1)] [(13, .int .i64 (q282 + 1))] [IntKind.i64.wrap (q282 + 1) = q282 + 1] E (by kernel_rfl) (by kernel_rfl) (wrap_in g319) ?_
       clear E; intro a E
       refine wpList_nil ?_
       exact th_n ⟨m301, Nat.lt_succ_self _, List.set ranks281 (Int.toNat q282) k178, q282 + 1, E.pick _ ⟨rfl, rfl, rfl, rfl, rfl, rfl, rfl, trivial⟩, H.sel [0, 1, 2, 3, 4, 5, 6, 7] rfl, hP⟩
      replace E := E_; clear E_
      have h320 : (List.getD won177 (Int.toNat q282) false) = true := (not_f hb_)
      clear hb_; replace hP := ite_t h320 hP
      refine c_false E rfl ?_
      refine wp_skip ?_
      refine bl_n ?_
      refine th_n ?_
      refine wp_region_lit ?_
      obtain ⟨g321, hP⟩ := ask_inv hP
      refine vn tbok 3 [.int .i64 (q282 + 1)] [(13, .int .i64 (q282 + 1))] [IntKind.i64.wrap (q282 + 1) = q282 + 1] E (by kernel_rfl) (by kernel_rfl) (wrap_in g321) ?_
      clear E; intro a E
      refine wpList_nil ?_
      exact th_n ⟨m301, Nat.lt_succ_self _, ranks281, q282 + 1, E.pick _ ⟨rfl, rfl, rfl, rfl, rfl, rfl, rfl, trivial⟩, H.sel [0, 1, 2, 3, 4, 5, 6, 7] rfl, hP⟩
     replace E := E_; clear E_
     have h322 : ¬ ((List.getD r255.1 (Int.toNat q282) false) = true) := (ne_true_of_eq_false hb_)
     clear hb_; replace hP := ite_f h322 hP
     refine vn tbok 6 [] [(80, .bool false)] [] E (by kernel_rfl) (by kernel_rfl) trivial ?_
     clear E; intro a E
     refine wpList_nil ?_
     refine th_n ?_
     refine c_false E rfl ?_
     refine wp_skip ?_
     refine bl_n ?_
     refine th_n ?_
     refine wp_region_lit ?_
     obtain ⟨g323, hP⟩ := ask_inv hP
     refine vn tbok 3 [.int .i64 (q282 + 1)] [(13, .int .i64 (q282 + 1))] [IntKind.i64.wrap (q282 + 1) = q282 + 1] E (by kernel_rfl) (by kernel_rfl) (wrap_in g323) ?_
     clear E; intro a E
     refine wpList_nil ?_
     exact th_n ⟨m301, Nat.lt_succ_self _, ranks281, q282 + 1, E.pick _ ⟨rfl, rfl, rfl, rfl, rfl, rfl, rfl, trivial⟩, H.sel [0, 1, 2, 3, 4, 5, 6, 7] rfl, hP⟩
    replace E := E_; clear E_
    have h324 : ¬ (q282 < (((List.length ranks281) : Nat) : Int)) := of_decide_eq_false hb_
    clear hb_; replace hP := ite_f h324 hP
    refine c_false E rfl ?_
    refine wp_exit ?_
    refine th_exit ?_
    have hx_ := Option.some.inj hP
    refine th_exit (.inl ⟨4, rfl, ?_⟩)
    exact ⟨rfl, ranks281, E.pick _ ⟨rfl, rfl, rfl, rfl, rfl, trivial⟩, H.sel [0, 1, 2, 3, 4, 5, 6] rfl, hx_.symm⟩
   clear E H hL303; intro i_ a w305 hM_
   obtain ⟨rfl, x307, E, H, hx_⟩ := hM_
   subst hx_; have hP := hK304; clear hK304
   refine bl_hit ?_
   refine th_n ?_
   refine wp_seq ?_
   refine wp_region_lit ?_
   refine vn tbok 1 [] [(14, .int .i64 0)] [] E (by kernel_rfl) (by kernel_rfl) trivial ?_
   clear E; intro a E
   refine wpList_nil ?_
   refine th_n ?_
   refine wp_block ?_
   obtain ⟨x344, hL345, hK346⟩ := bind_inv hP
   clear hP
   refine loop_cut (fun i_ a w_ => (i_ = 6 ∧ ∃ (x349 : List Bool), Fr a 100 [(2, .pointer (some ⟨g13, 0, none⟩)), (3, .pointer (some ⟨g18, 0, none⟩)), (7, .slice (some ⟨g36, 0, none⟩) (List.length x302) (Int.toNat (((List.length aAccept) : Nat) : Int))), (8, .slice (some ⟨g41, 0, none⟩) (List.length x349) (Int.toNat (((List.length aAccept) : Nat) : Int))), (10, .int .i64 k178)] ∧ Hp S Fa w0 w_ [.ro false cBool A1 aAccept, .ro false (cInt .i64) A5 aGuard, .ro false cNode A9 aNodes, .box g13 26 [.int .i64 aProps, .slice A1 (List.length aAccept) c2, .slice A5 (List.length aGuard) c6, .slice A9 (List.length aNodes) c10], .box g18 29 [.int .u8 s.1, .int .u8 s.2], .rowx true (cInt .i64) 3 (some ⟨g36, 0, none⟩) (Int.toNat (((List.length aAccept) : Nat) : Int)) x302 (List.replicate (Int.toNat (((List.length aAccept) : Nat) : Int) - Int.toNat (((List.length aAccept) : Nat) : Int)) (0 : Int)), .rowx true cBool 4 (some ⟨g41, 0, none⟩) (Int.toNat (((List.length aAccept) : Nat) : Int)) x349 (List.replicate (Int.toNat (((List.length aAccept) : Nat) : Int) - Int.toNat (((List.length aAccept) : Nat) : Int)) (false : Bool))] ∧ x344 = x349)) ?_ ?_
   ·
    refine loopV (fun m348 a w347 => ∃ (won332 : List Bool) (q333 : Int), Fr a 100 [(2, .pointer (some ⟨g13, 0, none⟩)), (3, .pointer (some ⟨g18, 0, none⟩)), (7, .slice (some ⟨g36, 0, none⟩) (List.length x302) (Int.toNat (((List.length aAccept) : Nat) : Int))), (8, .slice (some ⟨g41, 0, none⟩) (List.length won332) (Int.toNat (((List.length aAccept) : Nat) : Int))), (10, .int .i64 k178), (14, .int .i64 q333)] ∧ Hp S Fa w0 w347 [.ro false cBool A1 aAccept, .ro false (cInt .i64) A5 aGuard, .ro false cNode A9 aNodes, .box g13 26 [.int .i64 aProps, .slice A1 (List.length aAccept) c2, .slice A5 (List.length aGuard) c6, .slice A9 (List.length aNodes) c10], .box g18 29 [.int .u8 s.1, .int .u8 s.2], .rowx true (cInt .i64) 3 (some ⟨g36, 0, none⟩) (Int.toNat (((List.length aAccept) : Nat) : Int)) x302 (List.replicate (Int.toNat (((List.length aAccept) : Nat) : Int) - Int.toNat (((List.length aAccept) : Nat) : Int)) (0 : Int)), .rowx true cBool 4 (some ⟨g41, 0, none⟩) (Int.toNat (((List.length aAccept) : Nat) : Int)) won332 (List.replicate (Int.toNat (((List.length aAccept) : Nat) : Int) - Int.toNat (((List.length aAccept) : Nat) : Int)) (false : Bool))] ∧ ref23_Ranks_l3 N x302 m348 won332 q333 = some x344) N ?_ ?_
    ·
     exact ⟨won177, 0, E.pick _ ⟨rfl, rfl, rfl, rfl, rfl, rfl, trivial⟩, H.sel [0, 1, 2, 3, 4, 5, 6] rfl, hL345⟩
    clear E H hL345; intro m348 a w347 hI_
    obtain ⟨won332, q333, E, H, hP⟩ := hI_
    obtain ⟨m343, rfl⟩ : ∃ q_, m348 = q_ + 1 := by cases m348 with | zero => rw [ref23_Ranks_l3] at hP; cases hP | succ q_ => exact ⟨q_, rfl⟩
    rw [ref23_Ranks_l3] at hP
    refine wp_seq ?_
    refine wp_seq ?_
    refine wp_region_lit ?_
    refine vn tbok 4 [] [(88, .bool (decide (q333 < (((List.length x302) : Nat) : Int))))] [] E (by kernel_rfl) (by kernel_rfl) trivial ?_
    clear E; intro a E
    refine wpList_nil ?_
    refine th_n ?_
    refine E.cases (t := 88) rfl (fun hb_ E_ => ?_) (fun hb_ E_ => ?_)
    ·
     replace E := E_; clear E_
     have h350 : q333 < (((List.length x302) : Nat) : Int) := of_decide_eq_true hb_
     clear hb_; replace hP := ite_t h350 hP
     refine c_true E rfl ?_
     refine wp_skip ?_
     refine th_n ?_
     refine wp_seq ?_
     refine wp_block ?_
     refine wp_region_lit ?_
     obtain ⟨g351, hP⟩ := ask_inv hP
     obtain ⟨g352, hP⟩ := ask_inv hP
     refine vn tbok 8 [.int .i64 (List.getD x302 (Int.toNat q333) 0)] [(97, .bool (decide (0 ≤ (List.getD x302 (Int.toNat q333) 0)))), (98, .pointer (some ⟨g41, 0 + (Int.toNat q333) * 1, none⟩))] [0 ≤ q333 ∧ q333 < (((List.length x302) : Nat) : Int), World.cell? w347 ⟨g36, 0 + (Int.toNat q333) * 1, none⟩ = some (.int .i64 (List.getD x302 (Int.toNat q333) 0)), 0 ≤ q333 ∧ q333 < (((List.length won332) : Nat) : Int)] E (by kernel_rfl) (by kernel_rfl) ⟨g351, Rds.at1 (H.rd 5 rds_rowx) 0 g351, g352⟩ ?_
     clear E; intro a E
     refine h_setx (g := g41) (i := q333) (decide (0 ≤ (List.getD x302 (Int.toNat q333) 0))) H 6 rfl E rfl rfl rfl rfl tbok rfl (fun _ HF_ => rfl) rfl g352 rfl ?_
     clear E; intro w353 a hc354 H_ E
     replace H := H_; clear H_; try dsimp only [setn, addE, goneL] at H
     have hn355 : (List.length won332) = (List.length (List.set won332 (Int.toNat q333) (decide (0 ≤ (List.getD x302 (Int.toNat q333) 0))))) := by simp only [List.length_set]
     replace E := E.same (t := 8) (u := .slice (some ⟨g41, 0, none⟩) (List.length (List.set won332 (Int.toNat q333) (decide (0 ≤ (List.getD x302 (Int.toNat q333) 0))))) (Int.toNat (((List.length aAccept) : Nat) : Int))) rfl (congrArg (fun n_ => Value.slice (some ⟨g41, 0, none⟩) n_ (Int.toNat (((List.length aAccept) : Nat) : Int))) hn355)
     refine wpList_nil ?_
     refine bl_n ?_
     refine th_n ?_
     refine wp_region_lit ?_
     obtain ⟨g356, hP⟩ := ask_inv hP
     refine vn tbok 3 [.int .i64 (q333 + 1)] [(14, .int .i64 (q333 + 1))] [IntKind.i64.wrap (q333 + 1) = q333 + 1] E (by kernel_rfl) (by kernel_rfl) (wrap_in g356) ?_
     clear E; intro a E
     refine wpList_nil ?_
     exact th_n ⟨m343, Nat.lt_succ_self _, List.set won332 (Int.toNat q333) (decide (0 ≤ (List.getD x302 (Int.toNat q333) 0))), q333 + 1, E.pick _ ⟨rfl, rfl, rfl, rfl, rfl, rfl, trivial⟩, H.sel [0, 1, 2, 3, 4, 5, 6] rfl, hP⟩
    replace E := E_; clear E_
    have h357 : ¬ (q333 < (((List.length x302) : Nat) : Int)) := of_decide_eq_false hb_
    clear hb_; replace hP := ite_f h357 hP
    refine c_false E rfl ?_
    refine wp_exit ?_
    refine th_exit ?_
    have hx_ := Option.some.inj hP
    refine th_exit (.inl ⟨6, rfl, ?_⟩)
    exact ⟨rfl, won332, E.pick _ ⟨rfl, rfl, rfl, rfl, rfl, trivial⟩, H.sel [0, 1, 2, 3, 4, 5, 6] rfl, hx_.symm⟩
   clear E H hL345; intro i_ a w347 hM_
   obtain ⟨rfl, x349, E, H, hx_⟩ := hM_
   subst hx_; have hP := hK346; clear hK346
   refine bl_hit ?_
   refine bl_n ?_
   refine th_n ?_
   refine wp_region_lit ?_
   obtain ⟨g358, hP⟩ := ask_inv hP
   refine vn tbok 3 [.int .i64 (k178 + 1)] [(10, .int .i64 (k178 + 1))] [IntKind.i64.wrap (k178 + 1) = k178 + 1] E (by kernel_rfl) (by kernel_rfl) (wrap_in g358) ?_
   clear E; intro a E
   refine wpList_nil ?_
   exact th_n ⟨m247, Nat.lt_succ_self _, x302, x344, k178 + 1, E.pick _ ⟨rfl, rfl, rfl, rfl, rfl, trivial⟩, H.sel [0, 1, 2, 3, 4, 5, 6] rfl, hP⟩
  replace E := E_; clear E_
  have h359 : ¬ (k178 ≤ (((List.length ranks176) : Nat) : Int)) := of_decide_eq_false hb_
  clear hb_; replace hP := ite_f h359 hP
  refine c_false E rfl ?_
  refine wp_exit ?_
  refine th_exit ?_
  have hx_ := Option.some.inj hP
  refine th_exit (.inl ⟨2, rfl, ?_⟩)
  exact ⟨rfl, ranks176, E.pick _ ⟨rfl, trivial⟩, H.sel [5] rfl, hx_.symm⟩
 clear E H hL249; intro i_ a w251 hM_
 obtain ⟨rfl, x253, E, H, hx_⟩ := hM_
 subst hx_; have hP := hK250; clear hK250
 refine bl_hit ?_
 refine th_n ?_
 refine wp_seq ?_
 refine wp_region_lit ?_
 refine vn tbok 3 [] [(4, .slice (some ⟨g36, 0, none⟩) (List.length x248) (Int.toNat (((List.length aAccept) : Nat) : Int))), (5, .int .i64 0)] [] E (by kernel_rfl) (by kernel_rfl) trivial ?_
 clear E; intro a E
 refine wpList_nil ?_
 refine th_n ?_
 refine wp_ret ?_
 replace H := H.rowx 0 rfl; try dsimp only [setn, addE, goneL] at H
 obtain rfl := Option.some.inj hP
 refine ret2 E rfl rfl rfl ?_
 exact ⟨_, rfl, (some ⟨g36, 0, none⟩), (Int.toNat (((List.length aAccept) : Nat) : Int)), rfl, H.sel [0] rfl⟩

end Go.V
