/- Plain functions, and the calls that give them. -/
import Derived.Test.YtflangjkfaalkaaA4
set_option linter.all false
set_option linter.unusedVariables false
set_option linter.unnecessarySimpa false
set_option linter.unusedSimpArgs false
namespace Go.V
open Go Go.Proofs
/-! rejoinder/attract.rows -/
def attract_rows_l0 (N : Nat) (aProps : Int) (aAccept : List Bool) (aGuard : List Int) (aNodes : List Nd) (s : Int × Int) : Nat → (List (List (List Int))) → Int → Option ((List (List (List Int))) ⊕ ((List (List (List Int))) × Int))
  | 0, _, _ => none
  | m103 + 1, out65, x68 =>
    if x68 < (((List.length aAccept) : Nat) : Int) then
      Option.bind (board_Goes N aProps aAccept aGuard aNodes (s.1, s.2) x68) fun r112 =>
      if (r112.2 : Int) = 0 then
        ask (List.length out65 + List.length ([r112.1] : List (List (List Int))) ≤ 1000000000) <|
        ask (in64 (x68 + 1)) <|
        attract_rows_l0 N aProps aAccept aGuard aNodes s m103 (out65 ++ ([r112.1] : List (List (List Int)))) (x68 + 1)
      else
        some (Sum.inr ([], r112.2))
    else
      some (Sum.inl out65)
def attract_rows (N : Nat) (aProps : Int) (aAccept : List Bool) (aGuard : List Int) (aNodes : List Nd) (s : Int × Int) : Option ((List (List (List Int))) × Int) :=
  Option.bind (board_Check N aProps aAccept aGuard aNodes (s.1, s.2)) fun r23 =>
  if (r23 : Int) = 0 then
    Option.bind (attract_rows_l0 N aProps aAccept aGuard aNodes s N [] 0) fun x104 =>
    Sum.elim (fun x110 =>
      some (x110, 0))
     (fun x141 =>
      some x141) x104
  else
    some ([], r23)
set_option maxRecDepth 100000 in
set_option maxHeartbeats 4000000 in
theorem attract_rows_calls {N : Nat} {S Fa : Nat → Prop} {w0 : World} {r : (List (List (List Int))) × Int} (A1 : Option Addr) (c2 : Nat) (A5 : Option Addr) (c6 : Nat) (A9 : Option Addr) (c10 : Nat) (aProps : Int) (aAccept : List Bool) (aGuard : List Int) (aNodes : List Nd) (s : Int × Int) (hk3 : List.length aAccept ≤ c2) (hk7 : List.length aGuard ≤ c6) (hk11 : List.length aNodes ≤ c10) (H : Hp S Fa w0 w0 [.ro false cBool A1 aAccept, .ro false (cInt .i64) A5 aGuard, .ro false cNode A9 aNodes]) (hP : attract_rows N aProps aAccept aGuard aNodes s = some r) :
    Calls Try.prog 53 #[.agg #[.int .i64 aProps, .slice A1 (List.length aAccept) c2, .slice A5 (List.length aGuard) c6, .slice A9 (List.length aNodes) c10], .agg #[.int .u8 s.1, .int .u8 s.2]] w0 fun e w' => ∃ v, e = .returned v ∧ ∃ (A142 : Option Addr) (c143 : Nat), v = .tuple #[.slice A142 (List.length r.1) c143, .int .i64 r.2] ∧ Hp S Fa w0 w' [.row true (cSl (cSl (cInt .i64))) 45 A142 c143 r.1] := by
 refine enterV (n := 39) Try.func53 rfl rfl rfl ?_
 intro a E
 replace E := E.pick [(0, .agg #[.int .i64 aProps, .slice A1 (List.length aAccept) c2, .slice A5 (List.length aGuard) c6, .slice A9 (List.length aNodes) c10]), (1, .agg #[.int .u8 s.1, .int .u8 s.2])] ⟨rfl, rfl, trivial⟩
 rw [attract_rows] at hP
 refine wp_seq ?_
 refine wp_region_lit ?_
 refine h_box H E rfl rfl rfl ?_
 intro w14 g13 a hc15 hg17 H_ E_
 replace E := E_ _ rfl; clear E_
 replace H := H_; clear H_; try dsimp only [setn, addE, goneL] at H
 refine h_box H E rfl rfl rfl ?_
 intro w19 g18 a hc20 hg22 H_ E_
 replace E := E_ _ rfl; clear E_
 replace H := H_; clear H_; try dsimp only [setn, addE, goneL] at H
 refine vr tbok 2 [] [(2, .pointer (some ⟨g13, 0, none⟩)), (3, .pointer (some ⟨g18, 0, none⟩))] [] E (by kernel_rfl) trivial ?_
 clear E; intro a E
 refine wpList_nil ?_
 refine th_n ?_
 refine wp_seq ?_
 refine wp_seq ?_
 refine wp_region_lit ?_
 refine vr tbok 2 [.agg #[.int .i64 aProps, .slice A1 (List.length aAccept) c2, .slice A5 (List.length aGuard) c6, .slice A9 (List.length aNodes) c10], .agg #[.int .u8 s.1, .int .u8 s.2]] [(2, .pointer (some ⟨g13, 0, none⟩)), (3, .pointer (some ⟨g18, 0, none⟩)), (11, .agg #[.int .i64 aProps, .slice A1 (List.length aAccept) c2, .slice A5 (List.length aGuard) c6, .slice A9 (List.length aNodes) c10]), (12, .agg #[.int .u8 s.1, .int .u8 s.2])] [cellsAt w19 g13 (0) [.int .i64 aProps, .slice A1 (List.length aAccept) c2, .slice A5 (List.length aGuard) c6, .slice A9 (List.length aNodes) c10], cellsAt w19 g18 (0) [.int .u8 s.1, .int .u8 s.2]] E (by kernel_rfl) ⟨(H.box 3 rfl).sub 0 _ rfl, (H.box 4 rfl).sub 0 _ rfl⟩ ?_
 clear E; intro a E
 obtain ⟨r23, h24, hP⟩ := bind_inv hP
 obtain ⟨Fa25, Hc26, hb27⟩ := H.call [] [(0, false), (1, false), (2, false)] rfl rfl trivial
 refine e_call E rfl rfl Try.func28 rfl rfl rfl (board_Check_calls A1 c2 A5 c6 A9 c10 aProps aAccept aGuard aNodes (s.1, s.2) hk3 hk7 hk11 Hc26 h24) ?_
 rintro v28 w29 a ⟨rfl, HR30⟩ E_
 replace E := E_ _ rfl; clear E_
 obtain ⟨H_, hc31⟩ := hb27 _ _ HR30 rfl
 replace H := H_; clear H_; try dsimp only [setn, addE, goneL] at H
 refine vr tbok 1 [] [(2, .pointer (some ⟨g13, 0, none⟩)), (3, .pointer (some ⟨g18, 0, none⟩)), (6, .int .i64 r23)] [] E (by kernel_rfl) trivial ?_
 clear E; intro a E
 refine wpList_nil ?_
 refine th_n ?_
 refine wp_seq ?_
 refine wp_region_lit ?_
 refine vr tbok 2 [] [(2, .pointer (some ⟨g13, 0, none⟩)), (3, .pointer (some ⟨g18, 0, none⟩)), (6, .int .i64 r23), (15, .bool ((r23 : Int) != 0))] [] E (by kernel_rfl) trivial ?_
 clear E; intro a E
 refine wpList_nil ?_
 refine th_n ?_
 refine E.cases (t := 15) rfl (fun hb_ E_ => ?_) (fun hb_ E_ => ?_)
 ·
  replace E := E_; clear E_
  have h32 : ¬ ((r23 : Int) = 0) := bne_iff_ne.1 hb_
  clear hb_; replace hP := ite_f h32 hP
  refine c_true E rfl ?_
  refine wp_seq ?_
  refine wp_region_lit ?_
  refine vr tbok 3 [] [(4, .slice none 0 0), (5, .int .i64 r23)] [] E (by kernel_rfl) trivial ?_
  clear E; intro a E
  refine wpList_nil ?_
  refine th_n ?_
  refine wp_ret ?_
  refine th_ret ?_
  replace H := H.nilrow (cSl (cSl (cInt .i64))) 45; try dsimp only [setn, addE, goneL] at H
  obtain rfl := Option.some.inj hP
  refine ret2 E rfl rfl rfl ?_
  exact ⟨_, rfl, none, 0, rfl, H.sel [5] rfl⟩
 replace E := E_; clear E_
 have h34 : (r23 : Int) = 0 := bne_eq_false_iff_eq.1 hb_
 clear hb_; replace hP := ite_t h34 hP
 refine c_false E rfl ?_
 refine wp_skip ?_
 refine th_n ?_
 refine wp_seq ?_
 refine wp_region_lit ?_
 refine vr tbok 1 [] [(2, .pointer (some ⟨g13, 0, none⟩)), (3, .pointer (some ⟨g18, 0, none⟩)), (7, .slice none 0 0)] [] E (by kernel_rfl) trivial ?_
 clear E; intro a E
 refine wpList_nil ?_
 refine th_n ?_
 refine wp_seq ?_
 refine wp_seq ?_
 refine wp_region_lit ?_
 refine vr tbok 4 [.slice A1 (List.length aAccept) c2] [(2, .pointer (some ⟨g13, 0, none⟩)), (3, .pointer (some ⟨g18, 0, none⟩)), (7, .slice none 0 0), (19, .int .i64 (((List.length aAccept) : Nat) : Int)), (20, .int .i64 0)] [World.cell? w29 ⟨g13, 1, none⟩ = some (.slice A1 (List.length aAccept) c2)] E (by kernel_rfl) ((H.box 3 rfl).cell (j := 1) rfl) ?_
 clear E; intro a E
 refine wpList_nil ?_
 refine th_n ?_
 refine wp_block ?_
 obtain ⟨x104, hL105, hK106⟩ := bind_inv hP
 clear hP
 replace H := H.nilrow (cSl (cSl (cInt .i64))) 45; try dsimp only [setn, addE, goneL] at H
 refine loop_cut (fun i_ a w_ => (i_ = 0 ∧ ∃ (x110 : List (List (List Int))), ∃ (A101 : Option Addr) (c102 : Nat), Fr a 39 [(7, .slice A101 (List.length x110) c102)] ∧ Hp S Fa w0 w_ [.row true (cSl (cSl (cInt .i64))) 45 A101 c102 x110] ∧ x104 = Sum.inl x110)) ?_ ?_
 ·
  refine loopV (fun m109 a w108 => ∃ (out65 : List (List (List Int))) (x68 : Int), ∃ (A66 : Option Addr) (c67 : Nat), Fr a 39 [(2, .pointer (some ⟨g13, 0, none⟩)), (3, .pointer (some ⟨g18, 0, none⟩)), (7, .slice A66 (List.length out65) c67), (19, .int .i64 (((List.length aAccept) : Nat) : Int)), (20, .int .i64 x68)] ∧ Hp S Fa w0 w108 [.ro false cBool A1 aAccept, .ro false (cInt .i64) A5 aGuard, .ro false cNode A9 aNodes, .box g13 26 [.int .i64 aProps, .slice A1 (List.length aAccept) c2, .slice A5 (List.length aGuard) c6, .slice A9 (List.length aNodes) c10], .box g18 29 [.int .u8 s.1, .int .u8 s.2], .row true (cSl (cSl (cInt .i64))) 45 A66 c67 out65] ∧ attract_rows_l0 N aProps aAccept aGuard aNodes s m109 out65 x68 = some x104) N ?_ ?_
  ·
   exact ⟨[], 0, none, 0, E.pick _ ⟨rfl, rfl, rfl, rfl, rfl, trivial⟩, H.sel [0, 1, 2, 3, 4, 5] rfl, hL105⟩
  clear E H hL105; intro m109 a w108 hI_
  obtain ⟨out65, x68, A66, c67, E, H, hP⟩ := hI_
  obtain ⟨m103, rfl⟩ : ∃ q_, m109 = q_ + 1 := by cases m109 with | zero => rw [attract_rows_l0] at hP; cases hP | succ q_ => exact ⟨q_, rfl⟩
  rw [attract_rows_l0] at hP
  refine wp_seq ?_
  refine wp_region_lit ?_
  refine vr tbok 1 [] [(2, .pointer (some ⟨g13, 0, none⟩)), (3, .pointer (some ⟨g18, 0, none⟩)), (7, .slice A66 (List.length out65) c67), (19, .int .i64 (((List.length aAccept) : Nat) : Int)), (20, .int .i64 x68), (21, .bool (decide (x68 < (((List.length aAccept) : Nat) : Int))))] [] E (by kernel_rfl) trivial ?_
  clear E; intro a E
  refine wpList_nil ?_
  refine th_n ?_
  refine wp_seq ?_
  refine E.cases (t := 21) rfl (fun hb_ E_ => ?_) (fun hb_ E_ => ?_)
  ·
   replace E := E_; clear E_
   have h111 : x68 < (((List.length aAccept) : Nat) : Int) := of_decide_eq_true hb_
   clear hb_; replace hP := ite_t h111 hP
   refine c_true E rfl ?_
   refine wp_skip ?_
   refine th_n ?_
   refine wp_seq ?_
   refine wp_block ?_
   refine wp_seq ?_
   refine wp_region_lit ?_
   refine vr tbok 2 [] [(2, .pointer (some ⟨g13, 0, none⟩)), (3, .pointer (some ⟨g18, 0, none⟩)), (7, .slice A66 (List.length out65) c67), (8, .int .i64 x68), (19, .int .i64 (((List.length aAccept) : Nat) : Int)), (20, .int .i64 x68)] [] E (by kernel_rfl) trivial ?_
   clear E; intro a E
   refine wpList_nil ?_
   refine th_n ?_
   refine wp_seq ?_
   refine wp_region_lit ?_
   refine vr tbok 3 [.agg #[.int .i64 aProps, .slice A1 (List.length aAccept) c2, .slice A5 (List.length aGuard) c6, .slice A9 (List.length aNodes) c10], .agg #[.int .u8 s.1, .int .u8 s.2]] [(2, .pointer (some ⟨g13, 0, none⟩)), (3, .pointer (some ⟨g18, 0, none⟩)), (7, .slice A66 (List.length out65) c67), (19, .int .i64 (((List.length aAccept) : Nat) : Int)), (20, .int .i64 x68), (24, .agg #[.int .i64 aProps, .slice A1 (List.length aAccept) c2, .slice A5 (List.length aGuard) c6, .slice A9 (List.length aNodes) c10]), (25, .agg #[.int .u8 s.1, .int .u8 s.2]), (26, .int .i64 x68)] [cellsAt w108 g13 (0) [.int .i64 aProps, .slice A1 (List.length aAccept) c2, .slice A5 (List.length aGuard) c6, .slice A9 (List.length aNodes) c10], cellsAt w108 g18 (0) [.int .u8 s.1, .int .u8 s.2]] E (by kernel_rfl) ⟨(H.box 3 rfl).sub 0 _ rfl, (H.box 4 rfl).sub 0 _ rfl⟩ ?_
   clear E; intro a E
   obtain ⟨r112, h113, hP⟩ := bind_inv hP
   obtain ⟨Fa114, Hc115, hb116⟩ := H.call [] [(0, false), (1, false), (2, false)] rfl rfl trivial
   refine e_call E rfl rfl Try.func75 rfl rfl rfl (board_Goes_calls A1 c2 A5 c6 A9 c10 aProps aAccept aGuard aNodes (s.1, s.2) x68 hk3 hk7 hk11 Hc115 h113) ?_
   rintro v117 w118 a ⟨A121, c122, rfl, HR119⟩ E_
   replace E := E_ _ rfl; clear E_
   obtain ⟨H_, hc120⟩ := hb116 _ _ HR119 rfl
   replace H := H_; clear H_; try dsimp only [setn, addE, goneL] at H
   refine vr tbok 5 [] [(2, .pointer (some ⟨g13, 0, none⟩)), (3, .pointer (some ⟨g18, 0, none⟩)), (7, .slice A66 (List.length out65) c67), (9, .slice A121 (List.length r112.1) c122), (10, .int .i64 r112.2), (19, .int .i64 (((List.length aAccept) : Nat) : Int)), (20, .int .i64 x68)] [] E (by kernel_rfl) trivial ?_
   clear E; intro a E
   refine wpList_nil ?_
   refine th_n ?_
   refine wp_seq ?_
   refine wp_seq ?_
   refine wp_region_lit ?_
   refine vr tbok 2 [] [(2, .pointer (some ⟨g13, 0, none⟩)), (3, .pointer (some ⟨g18, 0, none⟩)), (7, .slice A66 (List.length out65) c67), (9, .slice A121 (List.length r112.1) c122), (10, .int .i64 r112.2), (19, .int .i64 (((List.length aAccept) : Nat) : Int)), (20, .int .i64 x68), (31, .bool ((r112.2 : Int) != 0))] [] E (by kernel_rfl) trivial ?_
   clear E; intro a E
   refine wpList_nil ?_
   refine th_n ?_
   refine E.cases (t := 31) rfl (fun hb_ E_ => ?_) (fun hb_ E_ => ?_)
   ·
    replace E := E_; clear E_
    have h124 : ¬ ((r112.2 : Int) = 0) := bne_iff_ne.1 hb_
    clear hb_; replace hP := ite_f h124 hP
    refine c_true E rfl ?_
    refine wp_seq ?_
    refine wp_region_lit ?_
    refine vr tbok 3 [] [(4, .slice none 0 0), (5, .int .i64 r112.2)] [] E (by kernel_rfl) trivial ?_
    clear E; intro a E
    refine wpList_nil ?_
    refine th_n ?_
    refine wp_ret ?_
    refine th_ret ?_
    refine bl_ret ?_
    refine th_ret ?_
    refine th_ret ?_
    refine .inr ⟨rfl, ?_⟩
    refine bl_ret ?_
    refine th_ret ?_
    replace H := H.nilrow (cSl (cSl (cInt .i64))) 45; try dsimp only [setn, addE, goneL] at H
    have hx_ := Option.some.inj hP; subst hx_
    have hP : some (([], r112.2)) = some r := hK106
    obtain rfl := Option.some.inj hP
    refine ret2 E rfl rfl rfl ?_
    exact ⟨_, rfl, none, 0, rfl, H.sel [7] rfl⟩
   replace E := E_; clear E_
   have h126 : (r112.2 : Int) = 0 := bne_eq_false_iff_eq.1 hb_
   clear hb_; replace hP := ite_t h126 hP
   refine c_false E rfl ?_
   refine wp_skip ?_
   refine th_n ?_
   refine wp_region_lit ?_
   refine vr tbok 2 [] [(2, .pointer (some ⟨g13, 0, none⟩)), (3, .pointer (some ⟨g18, 0, none⟩)), (19, .int .i64 (((List.length aAccept) : Nat) : Int)), (20, .int .i64 x68), (33, .slice A66 (List.length out65) c67), (34, .slice A121 (List.length r112.1) c122)] [] E (by kernel_rfl) trivial ?_
   clear E; intro a E
   refine h_buildSlice (ps := [(0, .slice A121 (List.length r112.1) c122)]) (cs := [.slice A121 (List.length r112.1) c122]) H E rfl rfl tbok rfl rfl (by kernel_rfl) ?_
   intro w128 g127 a hc129 hg131 H_ E_
   replace E := E_ _ rfl; clear E_
   replace H := H_; clear H_; try dsimp only [setn, addE, goneL] at H
   have hk132 := H.rcap 6 rfl
   replace H := H.frz 6 rfl; try dsimp only [setn, addE, goneL] at H
   obtain ⟨g133, hP⟩ := ask_inv hP
   refine h_append (cSl (cSl (cInt .i64))) (xs := out65) (ys := ([r112.1] : List (List (List Int)))) ([] : List (List Int)) H 5 rfl E rfl rfl tbok rfl rfl rfl rfl rfl (fun _ _ => kSl_nil) rfl rfl (fun _ HF_ => HF_.srcB 7 rfl ⟨_, _, rfl, ⟨_, _, rfl, hk132, (HF_.roC 6 rfl)⟩, rfl⟩) g133 ?_
   intro w134 A135 c136 a hc137 hA138 H_ E_
   replace E := E_ _ rfl; clear E_
   replace H := H_; clear H_; try dsimp only [setn, addE, goneL] at H
   refine vr tbok 1 [] [(2, .pointer (some ⟨g13, 0, none⟩)), (3, .pointer (some ⟨g18, 0, none⟩)), (7, .slice A135 (List.length (out65 ++ ([r112.1] : List (List (List Int))))) c136), (19, .int .i64 (((List.length aAccept) : Nat) : Int)), (20, .int .i64 x68)] [] E (by kernel_rfl) trivial ?_
   clear E; intro a E
   refine wpList_nil ?_
   refine bl_n ?_
   refine th_n ?_
   refine wp_region_lit ?_
   obtain ⟨g139, hP⟩ := ask_inv hP
   refine vr tbok 2 [.int .i64 (x68 + 1)] [(2, .pointer (some ⟨g13, 0, none⟩)), (3, .pointer (some ⟨g18, 0, none⟩)), (7, .slice A135 (List.length (out65 ++ ([r112.1] : List (List (List Int))))) c136), (19, .int .i64 (((List.length aAccept) : Nat) : Int)), (20, .int .i64 (x68 + 1))] [IntKind.i64.wrap (x68 + 1) = x68 + 1] E (by kernel_rfl) (wrap_in g139) ?_
   clear E; intro a E
   refine wpList_nil ?_
   exact th_n ⟨m103, Nat.lt_succ_self _, out65 ++ ([r112.1] : List (List (List Int))), x68 + 1, A135, c136, E.pick _ ⟨rfl, rfl, rfl, rfl, rfl, trivial⟩, H.sel [0, 1, 2, 3, 4, 5] rfl, hP⟩
  replace E := E_; clear E_
  have h140 : ¬ (x68 < (((List.length aAccept) : Nat) : Int)) := of_decide_eq_false hb_
  clear hb_; replace hP := ite_f h140 hP
  refine c_false E rfl ?_
  refine wp_exit ?_
  refine th_exit ?_
  have hx_ := Option.some.inj hP
  refine th_exit (.inl ⟨0, rfl, ?_⟩)
  exact ⟨rfl, out65, A66, c67, E.pick _ ⟨rfl, trivial⟩, H.sel [5] rfl, hx_.symm⟩
 clear E H hL105; intro i_ a w108 hM_
 obtain ⟨rfl, x110, A101, c102, E, H, hx_⟩ := hM_
 subst hx_; have hP := elim_l hK106
 clear hK106
 refine bl_hit ?_
 refine th_n ?_
 refine wp_seq ?_
 refine wp_region_lit ?_
 refine vr tbok 3 [] [(4, .slice A101 (List.length x110) c102), (5, .int .i64 0)] [] E (by kernel_rfl) trivial ?_
 clear E; intro a E
 refine wpList_nil ?_
 refine th_n ?_
 refine wp_ret ?_
 obtain rfl := Option.some.inj hP
 refine ret2 E rfl rfl rfl ?_
 exact ⟨_, rfl, A101, c102, rfl, H.sel [0] rfl⟩

/-! slices.Clone[[]bool,bool] -/
def slices_Clone_bool_bool_some (N : Nat) (s : List Bool) : Option (List Bool) :=
  ask (List.length ([] : List Bool) + List.length s ≤ 1000000000) <|
  some (([] : List Bool) ++ s)
def slices_Clone_bool_bool_nil (N : Nat) : Option (List Bool) :=
  some []
def slices_Clone_bool_bool (N : Nat) (xs : List Bool) : Option (List Bool) := slices_Clone_bool_bool_some N xs
set_option maxRecDepth 100000 in
set_option maxHeartbeats 4000000 in
theorem slices_Clone_bool_bool_some_calls {N : Nat} {S Fa : Nat → Prop} {w0 : World} {r : List Bool} (A1 : Addr) (c2 : Nat) (s : List Bool) (hk3 : List.length s ≤ c2) (H : Hp S Fa w0 w0 [.ro false cBool (some A1) s]) (hP : slices_Clone_bool_bool_some N s = some r) :
    Calls Try.prog 54 #[.slice (some A1) (List.length s) c2] w0 fun e w' => ∃ v, e = .returned v ∧ ∃ (A16 : Option Addr) (c17 : Nat), v = .slice A16 (List.length r) c17 ∧ Hp S Fa w0 w' [.row true cBool 4 A16 c17 r] := by
 refine enterV (n := 8) Try.func54 rfl rfl rfl ?_
 intro a E
 replace E := E.pick [(0, .slice (some A1) (List.length s) c2)] ⟨rfl, trivial⟩
 rw [slices_Clone_bool_bool_some] at hP
 refine wp_seq ?_
 refine wp_region_lit ?_
 refine vr tbok 1 [] [(0, .slice (some A1) (List.length s) c2)] [] E (by kernel_rfl) trivial ?_
 clear E; intro a E
 refine wpList_nil ?_
 refine th_n ?_
 refine wp_seq ?_
 refine wp_seq ?_
 refine wp_region_lit ?_
 refine vr tbok 1 [] [(0, .slice (some A1) (List.length s) c2), (3, .slice (some A1) (List.length s) c2)] [] E (by kernel_rfl) trivial ?_
 clear E; intro a E
 refine e_eqNil E rfl rfl tbok rfl rfl rfl rfl ?_
 clear E; intro a E
 refine wpList_nil ?_
 refine th_n ?_
 refine c_false E rfl ?_
 refine wp_skip ?_
 refine th_n ?_
 refine wp_seq ?_
 refine wp_region_lit ?_
 refine h_buildSlice (ps := []) (cs := []) H E rfl rfl tbok rfl rfl (by kernel_rfl) ?_
 intro w6 g5 a hc7 hg9 H_ E_
 replace E := E_ _ rfl; clear E_
 replace H := H_; clear H_; try dsimp only [setn, addE, goneL] at H
 refine vr tbok 1 [] [(5, .slice (some ⟨g5, 0, none⟩) 0 0), (6, .slice (some A1) (List.length s) c2)] [] E (by kernel_rfl) trivial ?_
 clear E; intro a E
 replace H := H.boxRow cBool true ([] : List Bool) 1 rfl (fun _ _ => rfl) (Nat.le_of_ble_eq_true rfl); try dsimp only [setn, addE, goneL] at H
 replace H := H.rowx 1 rfl; try dsimp only [setn, addE, goneL] at H
 obtain ⟨g10, hP⟩ := ask_inv hP
 refine h_append cBool (xs := ([] : List Bool)) (ys := s) (false : Bool) H 1 rfl E rfl rfl tbok rfl rfl rfl rfl rfl (fun _ _ => rfl) rfl rfl (fun _ HF_ => HF_.srcF flat_plain 0 rds_ro) g10 ?_
 intro w11 A12 c13 a hc14 hA15 H_ E_
 replace E := E_ _ rfl; clear E_
 replace H := H_; clear H_; try dsimp only [setn, addE, goneL] at H
 refine vr tbok 1 [] [(2, .slice A12 (List.length (([] : List Bool) ++ s)) c13)] [] E (by kernel_rfl) trivial ?_
 clear E; intro a E
 refine wpList_nil ?_
 refine th_n ?_
 refine wp_ret ?_
 obtain rfl := Option.some.inj hP
 refine ret1 E rfl rfl ?_
 exact ⟨_, rfl, A12, c13, rfl, H.sel [1] rfl⟩

set_option maxRecDepth 100000 in
set_option maxHeartbeats 4000000 in
theorem slices_Clone_bool_bool_nil_callsC {N : Nat} {S Fa : Nat → Prop} {w0 : World} {r : List Bool} (c0 : Nat) (H : Hp S Fa w0 w0 []) (hP : slices_Clone_bool_bool_nil N  = some r) :
    Calls Try.prog 54 #[.slice none 0 c0] w0 fun e w' => ∃ v, e = .returned v ∧ ∃ (A2 : Option Addr) (c3 : Nat), v = .slice A2 (List.length r) c3 ∧ Hp S Fa w0 w' [.row true cBool 4 A2 c3 r] := by
 refine enterV (n := 8) Try.func54 rfl rfl rfl ?_
 intro a E
 replace E := E.pick [(0, .slice none 0 c0)] ⟨rfl, trivial⟩
 rw [slices_Clone_bool_bool_nil] at hP
 refine wp_seq ?_
 refine wp_region_lit ?_
 refine vr tbok 1 [] [(0, .slice none 0 c0)] [] E (by kernel_rfl) trivial ?_
 clear E; intro a E
 refine wpList_nil ?_
 refine th_n ?_
 refine wp_seq ?_
 refine wp_seq ?_
 refine wp_region_lit ?_
 refine vr tbok 1 [] [(0, .slice none 0 c0), (3, .slice none 0 c0)] [] E (by kernel_rfl) trivial ?_
 clear E; intro a E
 refine e_eqNil E rfl rfl tbok rfl rfl rfl rfl ?_
 clear E; intro a E
 refine wpList_nil ?_
 refine th_n ?_
 refine c_true E rfl ?_
 refine wp_seq ?_
 refine wp_region_lit ?_
 refine vr tbok 1 [] [(2, .slice none 0 0)] [] E (by kernel_rfl) trivial ?_
 clear E; intro a E
 refine wpList_nil ?_
 refine th_n ?_
 refine wp_ret ?_
 refine th_ret ?_
 replace H := H.nilrow cBool 4; try dsimp only [setn, addE, goneL] at H
 obtain rfl := Option.some.inj hP
 refine ret1 E rfl rfl ?_
 exact ⟨_, rfl, none, 0, rfl, H.sel [0] rfl⟩

theorem slices_Clone_bool_bool_calls {N : Nat} {S Fa : Nat → Prop} {w0 : World} {r : List Bool} (A1 : Option Addr) (c2 : Nat) (xs : List Bool) (hk : List.length xs ≤ c2) (H : Hp S Fa w0 w0 [.ro false cBool A1 xs]) (hP : slices_Clone_bool_bool N xs = some r) :
    Calls Try.prog 54 #[.slice A1 (List.length xs) c2] w0 fun e w' => ∃ v, e = .returned v ∧ ∃ (A9 : Option Addr) (c9 : Nat), v = .slice A9 (List.length r) c9 ∧ Hp S Fa w0 w' [.row true cBool 4 A9 c9 r] := by
  cases A1 with
  | some ad => exact slices_Clone_bool_bool_some_calls ad c2 xs hk H hP
  | none =>
    obtain rfl := (H.rd 0 rds_ro).nil
    have h2 : c2 = c2 := rfl
    rw [slices_Clone_bool_bool, slices_Clone_bool_bool_some] at hP
    obtain ⟨_, hr⟩ := ask_inv hP
    obtain rfl : [] = r := Option.some.inj hr
    exact slices_Clone_bool_bool_nil_callsC (N := N) c2 (H.sel [] rfl) rfl

/-! rejoinder/attract.before -/
def attract_before_f5 (N : Nat) (all : List (List (List Int))) (won : List Bool) (x125 : Int) (x292 : Int) (x430 : Int) : Option Unit :=
    ask (idx (List.getD (List.getD (List.getD all (Int.toNat x125) []) (Int.toNat x292) []) (Int.toNat x430) 0) (List.length won)) <|
    some ()
def attract_before_l4 (N : Nat) (all : List (List (List Int))) (won : List Bool) (x125 : Int) (x292 : Int) : Nat → Int → Option (Unit ⊕ Int)
  | 0, _ => none
  | m444 + 1, x430 =>
    if x430 < (((List.length (List.getD (List.getD all (Int.toNat x125) []) (Int.toNat x292) [])) : Nat) : Int) then
      ask (idx x430 (List.length (List.getD (List.getD all (Int.toNat x125) []) (Int.toNat x292) []))) <|
      Option.bind (attract_before_f5 N all won x125 x292 x430) fun x458 =>
      if (List.getD won (Int.toNat (List.getD (List.getD (List.getD all (Int.toNat x125) []) (Int.toNat x292) []) (Int.toNat x430) 0)) false) = true then
        some (Sum.inr x430)
      else
        ask (in64 (x430 + 1)) <|
        attract_before_l4 N all won x125 x292 m444 (x430 + 1)
    else
      some (Sum.inl ())
def attract_before_f3 (N : Nat) (all : List (List (List Int))) (won : List Bool) (x125 : Int) (x292 : Int) : Option Int :=
    Option.bind (attract_before_l4 N all won x125 x292 N 0) fun x445 =>
    Sum.elim (fun x450 =>
      some (-1))
     (fun x470 =>
      some x470) x445
def attract_before_f2 (N : Nat) (all : List (List (List Int))) (won : List Bool) (x125 : Int) (x292 : Int) : Option Bool :=
    Option.bind (attract_before_f3 N all won x125 x292) fun x415 =>
    some (decide (0 ≤ x415))
def attract_before_l1 (N : Nat) (all : List (List (List Int))) (won : List Bool) (x125 : Int) : Nat → Int → Option (Unit ⊕ Unit)
  | 0, _ => none
  | m338 + 1, x292 =>
    if x292 < (((List.length (List.getD all (Int.toNat x125) [])) : Nat) : Int) then
      ask (idx x292 (List.length (List.getD all (Int.toNat x125) []))) <|
      Option.bind (attract_before_f2 N all won x125 x292) fun x385 =>
      if x385 = true then
        ask (in64 (x292 + 1)) <|
        attract_before_l1 N all won x125 m338 (x292 + 1)
      else
        some (Sum.inl ())
    else
      some (Sum.inr ())
def attract_before_l0 (N : Nat) (all : List (List (List Int))) (won : List Bool) : Nat → (List Bool) → Int → Option (List Bool)
  | 0, _, _ => none
  | m232 + 1, out124, x125 =>
    if x125 < (((List.length all) : Nat) : Int) then
      ask (idx x125 (List.length all)) <|
      Option.bind (attract_before_l1 N all won x125 N 0) fun x339 =>
      Sum.elim (fun x344 =>
        ask (in64 (x125 + 1)) <|
        attract_before_l0 N all won m232 out124 (x125 + 1))
       (fun x345 =>
        ask (idx x125 (List.length out124)) <|
        ask (in64 (x125 + 1)) <|
        attract_before_l0 N all won m232 (List.set out124 (Int.toNat x125) true) (x125 + 1)) x339
    else
      some out124
def attract_before (N : Nat) (all : List (List (List Int))) (won : List Bool) : Option (List Bool) :=
  ask (0 ≤ (((List.length all) : Nat) : Int) ∧ (((List.length all) : Nat) : Int) ≤ 1000000000) <|
  Option.bind (attract_before_l0 N all won N (List.replicate (Int.toNat (((List.length all) : Nat) : Int)) (false : Bool)) 0) fun x233 =>
  some x233
set_option maxRecDepth 100000 in
set_option maxHeartbeats 4000000 in
theorem attract_before_calls {N : Nat} {S Fa : Nat → Prop} {w0 : World} {r : List Bool} (A1 : Option Addr) (c2 : Nat) (A5 : Option Addr) (c6 : Nat) (all : List (List (List Int))) (won : List Bool) (hk3 : List.length all ≤ c2) (hk7 : List.length won ≤ c6) (H : Hp S Fa w0 w0 [.ro false (cSl (cSl (cInt .i64))) A1 all, .ro false cBool A5 won]) (hP : attract_before N all won = some r) :
    Calls Try.prog 55 #[.slice A1 (List.length all) c2, .slice A5 (List.length won) c6] w0 fun e w' => ∃ v, e = .returned v ∧ ∃ (A486 : Option Addr) (c487 : Nat), v = .slice A486 (List.length r) c487 ∧ Hp S Fa w0 w' [.row true cBool 4 A486 c487 r] := by
 refine enterV (n := 36) Try.func55 rfl rfl rfl ?_
 intro a E
 replace E := E.pick [(0, .slice A1 (List.length all) c2), (1, .slice A5 (List.length won) c6)] ⟨rfl, rfl, trivial⟩
 rw [attract_before] at hP
 refine wp_seq ?_
 refine wp_region_lit ?_
 refine h_box H E rfl rfl rfl ?_
 intro w10 g9 a hc11 hg13 H_ E_
 replace E := E_ _ rfl; clear E_
 replace H := H_; clear H_; try dsimp only [setn, addE, goneL] at H
 refine vr tbok 1 [] [(0, .slice A1 (List.length all) c2), (3, .pointer (some ⟨g9, 0, none⟩))] [] E (by kernel_rfl) trivial ?_
 clear E; intro a E
 refine wpList_nil ?_
 refine th_n ?_
 refine wp_scope_straight ?_
 refine wp_seq ?_
 refine wp_region_lit ?_
 refine vr tbok 2 [] [(0, .slice A1 (List.length all) c2), (3, .pointer (some ⟨g9, 0, none⟩)), (11, .int .i64 (((List.length all) : Nat) : Int))] [] E (by kernel_rfl) trivial ?_
 clear E; intro a E
 obtain ⟨g14, hP⟩ := ask_inv hP
 refine h_make cBool (false : Bool) H E rfl rfl tbok rfl rfl rfl rfl ⟨g14.1, Int.le_refl _, g14.2⟩ rfl rfl rfl (fun _ _ => rfl) ?_
 intro w16 g15 a hc17 hg19 H_ E_
 replace E := E_ _ rfl; clear E_
 replace H := H_; clear H_; try dsimp only [setn, addE, goneL] at H
 refine vr tbok 1 [] [(0, .slice A1 (List.length all) c2), (3, .pointer (some ⟨g9, 0, none⟩)), (5, .slice (some ⟨g15, 0, none⟩) (List.length (List.replicate (Int.toNat (((List.length all) : Nat) : Int)) (false : Bool))) (Int.toNat (((List.length all) : Nat) : Int)))] [] E (by kernel_rfl) trivial ?_
 clear E; intro a E
 refine wpList_nil ?_
 refine th_n ?_
 refine wp_seq ?_
 refine wp_label ?_
 refine th_n ?_
 refine wp_seq ?_
 refine wp_seq ?_
 refine wp_region_lit ?_
 refine vr tbok 3 [] [(3, .pointer (some ⟨g9, 0, none⟩)), (5, .slice (some ⟨g15, 0, none⟩) (List.length (List.replicate (Int.toNat (((List.length all) : Nat) : Int)) (false : Bool))) (Int.toNat (((List.length all) : Nat) : Int))), (13, .slice A1 (List.length all) c2), (14, .int .i64 (((List.length all) : Nat) : Int)), (15, .int .i64 0)] [] E (by kernel_rfl) trivial ?_
 clear E; intro a E
 refine wpList_nil ?_
 refine th_n ?_
 refine wp_block ?_
 obtain ⟨x233, hL234, hK235⟩ := bind_inv hP
 clear hP
 refine loop_cut (fun i_ a w_ => (i_ = 0 ∧ ∃ (x238 : List Bool), Fr a 36 [(5, .slice (some ⟨g15, 0, none⟩) (List.length x238) (Int.toNat (((List.length all) : Nat) : Int)))] ∧ Hp S Fa w0 w_ [.rowx true cBool 4 (some ⟨g15, 0, none⟩) (Int.toNat (((List.length all) : Nat) : Int)) x238 (List.replicate (Int.toNat (((List.length all) : Nat) : Int) - Int.toNat (((List.length all) : Nat) : Int)) (false : Bool))] ∧ x233 = x238)) ?_ ?_
 ·
  refine loopV (fun m237 a w236 => ∃ (out124 : List Bool) (x125 : Int), Fr a 36 [(3, .pointer (some ⟨g9, 0, none⟩)), (5, .slice (some ⟨g15, 0, none⟩) (List.length out124) (Int.toNat (((List.length all) : Nat) : Int))), (13, .slice A1 (List.length all) c2), (14, .int .i64 (((List.length all) : Nat) : Int)), (15, .int .i64 x125)] ∧ Hp S Fa w0 w236 [.ro false cBool A5 won, .box g9 22 [.slice A5 (List.length won) c6], .rowx true cBool 4 (some ⟨g15, 0, none⟩) (Int.toNat (((List.length all) : Nat) : Int)) out124 (List.replicate (Int.toNat (((List.length all) : Nat) : Int) - Int.toNat (((List.length all) : Nat) : Int)) (false : Bool)), .ro false (cSl (cSl (cInt .i64))) A1 all] ∧ attract_before_l0 N all won m237 out124 x125 = some x233) N ?_ ?_
  ·
   exact ⟨List.replicate (Int.toNat (((List.length all) : Nat) : Int)) (false : Bool), 0, E.pick _ ⟨rfl, rfl, rfl, rfl, rfl, trivial⟩, H.sel [1, 2, 3, 0] rfl, hL234⟩
  clear E H hL234; intro m237 a w236 hI_
  obtain ⟨out124, x125, E, H, hP⟩ := hI_
  obtain ⟨m232, rfl⟩ : ∃ q_, m237 = q_ + 1 := by cases m237 with | zero => rw [attract_before_l0] at hP; cases hP | succ q_ => exact ⟨q_, rfl⟩
  rw [attract_before_l0] at hP
  refine wp_seq ?_
  refine wp_region_lit ?_
  refine vr tbok 1 [] [(3, .pointer (some ⟨g9, 0, none⟩)), (5, .slice (some ⟨g15, 0, none⟩) (List.length out124) (Int.toNat (((List.length all) : Nat) : Int))), (13, .slice A1 (List.length all) c2), (14, .int .i64 (((List.length all) : Nat) : Int)), (15, .int .i64 x125), (16, .bool (decide (x125 < (((List.length all) : Nat) : Int))))] [] E (by kernel_rfl) trivial ?_
  clear E; intro a E
  refine wpList_nil ?_
  refine th_n ?_
  refine wp_seq ?_
  refine E.cases (t := 16) rfl (fun hb_ E_ => ?_) (fun hb_ E_ => ?_)
  ·
   replace E := E_; clear E_
   have h239 : x125 < (((List.length all) : Nat) : Int) := of_decide_eq_true hb_
   clear hb_; replace hP := ite_t h239 hP
   refine c_true E rfl ?_
   refine wp_skip ?_
   refine th_n ?_
   refine wp_seq ?_
   refine wp_block ?_
   refine wp_seq ?_
   refine wp_region_lit ?_
   obtain ⟨g240, hP⟩ := ask_inv hP
   obtain ⟨b241, o242, e_b241⟩ := (H.rd 3 rds_ro).addr (idx_pos g240)
   subst e_b241
   obtain ⟨A243, c244, hl245, hk246, H⟩ := H.subSl 3 false (el_ro rfl) g240
   try dsimp only [addE] at H
   refine vr tbok 5 [.slice A243 (List.length (List.getD all (Int.toNat x125) [])) c244] [(3, .pointer (some ⟨g9, 0, none⟩)), (5, .slice (some ⟨g15, 0, none⟩) (List.length out124) (Int.toNat (((List.length all) : Nat) : Int))), (6, .int .i64 x125), (7, .slice A243 (List.length (List.getD all (Int.toNat x125) [])) c244), (13, .slice (some ⟨b241, o242, none⟩) (List.length all) c2), (14, .int .i64 (((List.length all) : Nat) : Int)), (15, .int .i64 x125)] [0 ≤ x125 ∧ x125 < (((List.length all) : Nat) : Int), World.cell? w236 ⟨b241, o242 + (Int.toNat x125) * 1, none⟩ = some (.slice A243 (List.length (List.getD all (Int.toNat x125) [])) c244)] E (by kernel_rfl) ⟨g240, hl245⟩ ?_
   clear E; intro a E
   refine wpList_nil ?_
   refine th_n ?_
   refine wp_seq ?_
   refine wp_seq ?_
   refine wp_region_lit ?_
   refine vr tbok 3 [] [(3, .pointer (some ⟨g9, 0, none⟩)), (5, .slice (some ⟨g15, 0, none⟩) (List.length out124) (Int.toNat (((List.length all) : Nat) : Int))), (6, .int .i64 x125), (13, .slice (some ⟨b241, o242, none⟩) (List.length all) c2), (14, .int .i64 (((List.length all) : Nat) : Int)), (15, .int .i64 x125), (20, .slice A243 (List.length (List.getD all (Int.toNat x125) [])) c244), (21, .int .i64 (((List.length (List.getD all (Int.toNat x125) [])) : Nat) : Int)), (22, .int .i64 0)] [] E (by kernel_rfl) trivial ?_
   clear E; intro a E
   refine wpList_nil ?_
   refine th_n ?_
   refine wp_block ?_
   obtain ⟨x339, hL340, hK341⟩ := bind_inv hP
   clear hP
   refine loop_cut (fun i_ a w_ => (i_ = 1 ∧ ∃ (x344 : Unit), Fr a 36 [(3, .pointer (some ⟨g9, 0, none⟩)), (5, .slice (some ⟨g15, 0, none⟩) (List.length out124) (Int.toNat (((List.length all) : Nat) : Int))), (13, .slice (some ⟨b241, o242, none⟩) (List.length all) c2), (14, .int .i64 (((List.length all) : Nat) : Int)), (15, .int .i64 x125)] ∧ Hp S Fa w0 w_ [.ro false cBool A5 won, .box g9 22 [.slice A5 (List.length won) c6], .rowx true cBool 4 (some ⟨g15, 0, none⟩) (Int.toNat (((List.length all) : Nat) : Int)) out124 (List.replicate (Int.toNat (((List.length all) : Nat) : Int) - Int.toNat (((List.length all) : Nat) : Int)) (false : Bool)), .ro false (cSl (cSl (cInt .i64))) (some ⟨b241, o242, none⟩) all] ∧ x339 = Sum.inl x344) ∨ (i_ = 2 ∧ ∃ (x345 : Unit), Fr a 36 [(3, .pointer (some ⟨g9, 0, none⟩)), (5, .slice (some ⟨g15, 0, none⟩) (List.length out124) (Int.toNat (((List.length all) : Nat) : Int))), (6, .int .i64 x125), (13, .slice (some ⟨b241, o242, none⟩) (List.length all) c2), (14, .int .i64 (((List.length all) : Nat) : Int)), (15, .int .i64 x125)] ∧ Hp S Fa w0 w_ [.ro false cBool A5 won, .box g9 22 [.slice A5 (List.length won) c6], .rowx true cBool 4 (some ⟨g15, 0, none⟩) (Int.toNat (((List.length all) : Nat) : Int)) out124 (List.replicate (Int.toNat (((List.length all) : Nat) : Int) - Int.toNat (((List.length all) : Nat) : Int)) (false : Bool)), .ro false (cSl (cSl (cInt .i64))) (some ⟨b241, o242, none⟩) all] ∧ x339 = Sum.inr x345)) ?_ ?_
   ·
    refine loopV (fun m343 a w342 => ∃ (x292 : Int), Fr a 36 [(3, .pointer (some ⟨g9, 0, none⟩)), (5, .slice (some ⟨g15, 0, none⟩) (List.length out124) (Int.toNat (((List.length all) : Nat) : Int))), (6, .int .i64 x125), (13, .slice (some ⟨b241, o242, none⟩) (List.length all) c2), (14, .int .i64 (((List.length all) : Nat) : Int)), (15, .int .i64 x125), (20, .slice A243 (List.length (List.getD all (Int.toNat x125) [])) c244), (21, .int .i64 (((List.length (List.getD all (Int.toNat x125) [])) : Nat) : Int)), (22, .int .i64 x292)] ∧ Hp S Fa w0 w342 [.ro false cBool A5 won, .box g9 22 [.slice A5 (List.length won) c6], .rowx true cBool 4 (some ⟨g15, 0, none⟩) (Int.toNat (((List.length all) : Nat) : Int)) out124 (List.replicate (Int.toNat (((List.length all) : Nat) : Int) - Int.toNat (((List.length all) : Nat) : Int)) (false : Bool)), .ro false (cSl (cSl (cInt .i64))) (some ⟨b241, o242, none⟩) all, .ro false (cSl (cInt .i64)) A243 (List.getD all (Int.toNat x125) [])] ∧ attract_before_l1 N all won x125 m343 x292 = some x339) N ?_ ?_
    ·
     exact ⟨0, E.pick _ ⟨rfl, rfl, rfl, rfl, rfl, rfl, rfl, rfl, rfl, trivial⟩, H.sel [0, 1, 2, 3, 4] rfl, hL340⟩
    clear E H hL340; intro m343 a w342 hI_
    obtain ⟨x292, E, H, hP⟩ := hI_
    obtain ⟨m338, rfl⟩ : ∃ q_, m343 = q_ + 1 := by cases m343 with | zero => rw [attract_before_l1] at hP; cases hP | succ q_ => exact ⟨q_, rfl⟩
    rw [attract_before_l1] at hP
    refine wp_seq ?_
    refine wp_region_lit ?_
    refine vr tbok 1 [] [(3, .pointer (some ⟨g9, 0, none⟩)), (5, .slice (some ⟨g15, 0, none⟩) (List.length out124) (Int.toNat (((List.length all) : Nat) : Int))), (6, .int .i64 x125), (13, .slice (some ⟨b241, o242, none⟩) (List.length all) c2), (14, .int .i64 (((List.length all) : Nat) : Int)), (15, .int .i64 x125), (20, .slice A243 (List.length (List.getD all (Int.toNat x125) [])) c244), (21, .int .i64 (((List.length (List.getD all (Int.toNat x125) [])) : Nat) : Int)), (22, .int .i64 x292), (23, .bool (decide (x292 < (((List.length (List.getD all (Int.toNat x125) [])) : Nat) : Int))))] [] E (by kernel_rfl) trivial ?_
    clear E; intro a E
    refine wpList_nil ?_
    refine th_n ?_
    refine wp_seq ?_
    refine E.cases (t := 23) rfl (fun hb_ E_ => ?_) (fun hb_ E_ => ?_)
    ·
     replace E := E_; clear E_
     have h346 : x292 < (((List.length (List.getD all (Int.toNat x125) [])) : Nat) : Int) := of_decide_eq_true hb_
     clear hb_; replace hP := ite_t h346 hP
     refine c_true E rfl ?_
     refine wp_skip ?_
     refine th_n ?_
     refine wp_seq ?_
     refine wp_block ?_
     refine wp_seq ?_
     refine wp_region_lit ?_
     obtain ⟨g347, hP⟩ := ask_inv hP
     obtain ⟨b348, o349, e_b348⟩ := (H.rd 4 rds_ro).addr (idx_pos g347)
     subst e_b348
     obtain ⟨A350, c351, hl352, hk353, H⟩ := H.subSl 4 false (el_ro rfl) g347
     try dsimp only [addE] at H
     refine vr tbok 3 [.slice A350 (List.length (List.getD (List.getD all (Int.toNat x125) []) (Int.toNat x292) [])) c351] [(3, .pointer (some ⟨g9, 0, none⟩)), (5, .slice (some ⟨g15, 0, none⟩) (List.length out124) (Int.toNat (((List.length all) : Nat) : Int))), (6, .int .i64 x125), (9, .slice A350 (List.length (List.getD (List.getD all (Int.toNat x125) []) (Int.toNat x292) [])) c351), (13, .slice (some ⟨b241, o242, none⟩) (List.length all) c2), (14, .int .i64 (((List.length all) : Nat) : Int)), (15, .int .i64 x125), (20, .slice (some ⟨b348, o349, none⟩) (List.length (List.getD all (Int.toNat x125) [])) c244), (21, .int .i64 (((List.length (List.getD all (Int.toNat x125) [])) : Nat) : Int)), (22, .int .i64 x292)] [0 ≤ x292 ∧ x292 < (((List.length (List.getD all (Int.toNat x125) [])) : Nat) : Int), World.cell? w342 ⟨b348, o349 + (Int.toNat x292) * 1, none⟩ = some (.slice A350 (List.length (List.getD (List.getD all (Int.toNat x125) []) (Int.toNat x292) [])) c351)] E (by kernel_rfl) ⟨g347, hl352⟩ ?_
     clear E; intro a E
     refine wpList_nil ?_
     refine th_n ?_
     refine wp_seq ?_
     refine wp_region_lit ?_
     refine vr tbok 1 [] [(3, .pointer (some ⟨g9, 0, none⟩)), (5, .slice (some ⟨g15, 0, none⟩) (List.length out124) (Int.toNat (((List.length all) : Nat) : Int))), (6, .int .i64 x125), (13, .slice (some ⟨b241, o242, none⟩) (List.length all) c2), (14, .int .i64 (((List.length all) : Nat) : Int)), (15, .int .i64 x125), (20, .slice (some ⟨b348, o349, none⟩) (List.length (List.getD all (Int.toNat x125) [])) c244), (21, .int .i64 (((List.length (List.getD all (Int.toNat x125) [])) : Nat) : Int)), (22, .int .i64 x292), (26, .slice A350 (List.length (List.getD (List.getD all (Int.toNat x125) []) (Int.toNat x292) [])) c351)] [] E (by kernel_rfl) trivial ?_
     clear E; intro a E
     refine e_makeFunc (vs := [.pointer (some ⟨g9, 0, none⟩)]) E rfl rfl rfl rfl ?_
     clear E; intro a E
     obtain ⟨x385, h386, hP⟩ := bind_inv hP
     refine e_call (R := fun v_ w_ => ∃ (x387 : Bool), v_ = .bool x387 ∧ Hp S Fa w0 w_ [.ro false cBool A5 won, .box g9 22 [.slice A5 (List.length won) c6], .rowx true cBool 4 (some ⟨g15, 0, none⟩) (Int.toNat (((List.length all) : Nat) : Int)) out124 (List.replicate (Int.toNat (((List.length all) : Nat) : Int) - Int.toNat (((List.length all) : Nat) : Int)) (false : Bool)), .ro false (cSl (cSl (cInt .i64))) (some ⟨b241, o242, none⟩) all, .ro false (cSl (cInt .i64)) (some ⟨b348, o349, none⟩) (List.getD all (Int.toNat x125) []), .ro false (cInt .i64) A350 (List.getD (List.getD all (Int.toNat x125) []) (Int.toNat x292) [])] ∧ x385 = x387) E rfl rfl Try.func76 rfl rfl rfl ?_ ?_
     ·
      clear E hP; have hP := h386; clear h386; rw [attract_before_f2] at hP
      refine enterV (n := 9) Try.func76 rfl rfl rfl ?_
      intro a E
      replace E := E.pick [(0, .slice A350 (List.length (List.getD (List.getD all (Int.toNat x125) []) (Int.toNat x292) [])) c351), (1, .func (.func 77) #[] #[.pointer (some ⟨g9, 0, none⟩)])] ⟨rfl, rfl, trivial⟩
      refine wp_seq ?_
      refine wp_region_lit ?_
      refine vr tbok 1 [] [(0, .slice A350 (List.length (List.getD (List.getD all (Int.toNat x125) []) (Int.toNat x292) [])) c351), (1, .func (.func 77) #[] #[.pointer (some ⟨g9, 0, none⟩)])] [] E (by kernel_rfl) trivial ?_
      clear E; intro a E
      refine wpList_nil ?_
      refine th_n ?_
      refine wp_seq ?_
      refine wp_region_lit ?_
      refine vr tbok 2 [] [(5, .slice A350 (List.length (List.getD (List.getD all (Int.toNat x125) []) (Int.toNat x292) [])) c351), (6, .func (.func 77) #[] #[.pointer (some ⟨g9, 0, none⟩)])] [] E (by kernel_rfl) trivial ?_
      clear E; intro a E
      obtain ⟨x415, h416, hP⟩ := bind_inv hP
      refine e_call (R := fun v_ w_ => ∃ (x417 : Int), v_ = .int .i64 x417 ∧ Hp S Fa w0 w_ [.ro false cBool A5 won, .box g9 22 [.slice A5 (List.length won) c6], .rowx true cBool 4 (some ⟨g15, 0, none⟩) (Int.toNat (((List.length all) : Nat) : Int)) out124 (List.replicate (Int.toNat (((List.length all) : Nat) : Int) - Int.toNat (((List.length all) : Nat) : Int)) (false : Bool)), .ro false (cSl (cSl (cInt .i64))) (some ⟨b241, o242, none⟩) all, .ro false (cSl (cInt .i64)) (some ⟨b348, o349, none⟩) (List.getD all (Int.toNat x125) []), .ro false (cInt .i64) A350 (List.getD (List.getD all (Int.toNat x125) []) (Int.toNat x292) [])] ∧ x415 = x417) E rfl rfl Try.func81 rfl rfl rfl ?_ ?_
      ·
       clear E hP; have hP := h416; clear h416; rw [attract_before_f3] at hP
       refine enterV (n := 19) Try.func81 rfl rfl rfl ?_
       intro a E
       replace E := E.pick [(0, .slice A350 (List.length (List.getD (List.getD all (Int.toNat x125) []) (Int.toNat x292) [])) c351), (1, .func (.func 77) #[] #[.pointer (some ⟨g9, 0, none⟩)])] ⟨rfl, rfl, trivial⟩
       refine wp_seq ?_
       refine wp_region_lit ?_
       refine vr tbok 1 [] [(0, .slice A350 (List.length (List.getD (List.getD all (Int.toNat x125) []) (Int.toNat x292) [])) c351), (1, .func (.func 77) #[] #[.pointer (some ⟨g9, 0, none⟩)])] [] E (by kernel_rfl) trivial ?_
       clear E; intro a E
       refine wpList_nil ?_
       refine th_n ?_
       refine wp_seq ?_
       refine wp_seq ?_
       refine wp_region_lit ?_
       refine vr tbok 3 [] [(0, .slice A350 (List.length (List.getD (List.getD all (Int.toNat x125) []) (Int.toNat x292) [])) c351), (1, .func (.func 77) #[] #[.pointer (some ⟨g9, 0, none⟩)]), (7, .int .i64 (((List.length (List.getD (List.getD all (Int.toNat x125) []) (Int.toNat x292) [])) : Nat) : Int)), (8, .int .i64 0)] [] E (by kernel_rfl) trivial ?_
       clear E; intro a E
       refine wpList_nil ?_
       refine th_n ?_
       refine wp_block ?_
       obtain ⟨x445, hL446, hK447⟩ := bind_inv hP
       clear hP
       refine loop_cut (fun i_ a w_ => (i_ = 0 ∧ ∃ (x450 : Unit), Fr a 19 [] ∧ Hp S Fa w0 w_ [.ro false cBool A5 won, .box g9 22 [.slice A5 (List.length won) c6], .rowx true cBool 4 (some ⟨g15, 0, none⟩) (Int.toNat (((List.length all) : Nat) : Int)) out124 (List.replicate (Int.toNat (((List.length all) : Nat) : Int) - Int.toNat (((List.length all) : Nat) : Int)) (false : Bool)), .ro false (cSl (cSl (cInt .i64))) (some ⟨b241, o242, none⟩) all, .ro false (cSl (cInt .i64)) (some ⟨b348, o349, none⟩) (List.getD all (Int.toNat x125) []), .ro false (cInt .i64) A350 (List.getD (List.getD all (Int.toNat x125) []) (Int.toNat x292) [])] ∧ x445 = Sum.inl x450)) ?_ ?_
       ·
        refine loopV (fun m449 a w448 => ∃ (x430 : Int), Fr a 19 [(0, .slice A350 (List.length (List.getD (List.getD all (Int.toNat x125) []) (Int.toNat x292) [])) c351), (1, .func (.func 77) #[] #[.pointer (some ⟨g9, 0, none⟩)]), (7, .int .i64 (((List.length (List.getD (List.getD all (Int.toNat x125) []) (Int.toNat x292) [])) : Nat) : Int)), (8, .int .i64 x430)] ∧ Hp S Fa w0 w448 [.ro false (cInt .i64) A350 (List.getD (List.getD all (Int.toNat x125) []) (Int.toNat x292) []), .ro false cBool A5 won, .box g9 22 [.slice A5 (List.length won) c6], .rowx true cBool 4 (some ⟨g15, 0, none⟩) (Int.toNat (((List.length all) : Nat) : Int)) out124 (List.replicate (Int.toNat (((List.length all) : Nat) : Int) - Int.toNat (((List.length all) : Nat) : Int)) (false : Bool)), .ro false (cSl (cSl (cInt .i64))) (some ⟨b241, o242, none⟩) all, .ro false (cSl (cInt .i64)) (some ⟨b348, o349, none⟩) (List.getD all (Int.toNat x125) [])] ∧ attract_before_l4 N all won x125 x292 m449 x430 = some x445) N ?_ ?_
        ·
         exact ⟨0, E.pick _ ⟨rfl, rfl, rfl, rfl, trivial⟩, H.sel [5, 0, 1, 2, 3, 4] rfl, hL446⟩
        clear E H hL446; intro m449 a w448 hI_
        obtain ⟨x430, E, H, hP⟩ := hI_
        obtain ⟨m444, rfl⟩ : ∃ q_, m449 = q_ + 1 := by cases m449 with | zero => rw [attract_before_l4] at hP; cases hP | succ q_ => exact ⟨q_, rfl⟩
        rw [attract_before_l4] at hP
        refine wp_seq ?_
        refine wp_region_lit ?_
        refine vr tbok 1 [] [(0, .slice A350 (List.length (List.getD (List.getD all (Int.toNat x125) []) (Int.toNat x292) [])) c351), (1, .func (.func 77) #[] #[.pointer (some ⟨g9, 0, none⟩)]), (7, .int .i64 (((List.length (List.getD (List.getD all (Int.toNat x125) []) (Int.toNat x292) [])) : Nat) : Int)), (8, .int .i64 x430), (9, .bool (decide (x430 < (((List.length (List.getD (List.getD all (Int.toNat x125) []) (Int.toNat x292) [])) : Nat) : Int))))] [] E (by kernel_rfl) trivial ?_
        clear E; intro a E
        refine wpList_nil ?_
        refine th_n ?_
        refine wp_seq ?_
        refine E.cases (t := 9) rfl (fun hb_ E_ => ?_) (fun hb_ E_ => ?_)
        ·
         replace E := E_; clear E_
         have h451 : x430 < (((List.length (List.getD (List.getD all (Int.toNat x125) []) (Int.toNat x292) [])) : Nat) : Int) := of_decide_eq_true hb_
         clear hb_; replace hP := ite_t h451 hP
         refine c_true E rfl ?_
         refine wp_skip ?_
         refine th_n ?_
         refine wp_seq ?_
         refine wp_block ?_
         refine wp_seq ?_
         refine wp_region_lit ?_
         refine vr tbok 2 [] [(0, .slice A350 (List.length (List.getD (List.getD all (Int.toNat x125) []) (Int.toNat x292) [])) c351), (1, .func (.func 77) #[] #[.pointer (some ⟨g9, 0, none⟩)]), (5, .int .i64 x430), (7, .int .i64 (((List.length (List.getD (List.getD all (Int.toNat x125) []) (Int.toNat x292) [])) : Nat) : Int)), (8, .int .i64 x430)] [] E (by kernel_rfl) trivial ?_
         clear E; intro a E
         refine wpList_nil ?_
         refine th_n ?_
         refine wp_seq ?_
         refine wp_region_lit ?_
         obtain ⟨g452, hP⟩ := ask_inv hP
         obtain ⟨b453, o454, e_b453⟩ := (H.rd 0 rds_ro).addr (idx_pos g452)
         subst e_b453
         refine vr tbok 5 [.int .i64 (List.getD (List.getD (List.getD all (Int.toNat x125) []) (Int.toNat x292) []) (Int.toNat x430) 0)] [(0, .slice (some ⟨b453, o454, none⟩) (List.length (List.getD (List.getD all (Int.toNat x125) []) (Int.toNat x292) [])) c351), (1, .func (.func 77) #[] #[.pointer (some ⟨g9, 0, none⟩)]), (5, .int .i64 x430), (7, .int .i64 (((List.length (List.getD (List.getD all (Int.toNat x125) []) (Int.toNat x292) [])) : Nat) : Int)), (8, .int .i64 x430), (11, .func (.func 77) #[] #[.pointer (some ⟨g9, 0, none⟩)]), (15, .int .i64 (List.getD (List.getD (List.getD all (Int.toNat x125) []) (Int.toNat x292) []) (Int.toNat x430) 0))] [0 ≤ x430 ∧ x430 < (((List.length (List.getD (List.getD all (Int.toNat x125) []) (Int.toNat x292) [])) : Nat) : Int), World.cell? w448 ⟨b453, o454 + (Int.toNat x430) * 1, none⟩ = some (.int .i64 (List.getD (List.getD (List.getD all (Int.toNat x125) []) (Int.toNat x292) []) (Int.toNat x430) 0))] E (by kernel_rfl) ⟨g452, Rds.at1 (H.rd 0 rds_ro) 0 g452⟩ ?_
         clear E; intro a E
         obtain ⟨x458, h459, hP⟩ := bind_inv hP
         refine e_callv (R := fun v_ w_ => ∃ (x460 : Unit), v_ = .bool (List.getD won (Int.toNat (List.getD (List.getD (List.getD all (Int.toNat x125) []) (Int.toNat x292) []) (Int.toNat x430) 0)) false) ∧ Hp S Fa w0 w_ [.ro false cBool A5 won, .box g9 22 [.slice A5 (List.length won) c6], .rowx true cBool 4 (some ⟨g15, 0, none⟩) (Int.toNat (((List.length all) : Nat) : Int)) out124 (List.replicate (Int.toNat (((List.length all) : Nat) : Int) - Int.toNat (((List.length all) : Nat) : Int)) (false : Bool)), .ro false (cSl (cSl (cInt .i64))) (some ⟨b241, o242, none⟩) all, .ro false (cSl (cInt .i64)) (some ⟨b348, o349, none⟩) (List.getD all (Int.toNat x125) []), .ro false (cInt .i64) (some ⟨b453, o454, none⟩) (List.getD (List.getD all (Int.toNat x125) []) (Int.toNat x292) [])] ∧ x458 = x460) E rfl rfl rfl Try.func77 rfl rfl rfl ?_ ?_
         ·
          clear E hP; have hP := h459; clear h459; rw [attract_before_f5] at hP
          refine enterV (n := 8) Try.func77 rfl rfl rfl ?_
          intro a E
          replace E := E.pick [(0, .int .i64 (List.getD (List.getD (List.getD all (Int.toNat x125) []) (Int.toNat x292) []) (Int.toNat x430) 0)), (1, .pointer (some ⟨g9, 0, none⟩))] ⟨rfl, rfl, trivial⟩
          refine wp_seq ?_
          refine wp_region_lit ?_
          refine vr tbok 1 [] [(0, .int .i64 (List.getD (List.getD (List.getD all (Int.toNat x125) []) (Int.toNat x292) []) (Int.toNat x430) 0)), (1, .pointer (some ⟨g9, 0, none⟩))] [] E (by kernel_rfl) trivial ?_
          clear E; intro a E
          refine wpList_nil ?_
          refine th_n ?_
          refine wp_seq ?_
          refine wp_region_lit ?_
          obtain ⟨g461, hP⟩ := ask_inv hP
          obtain ⟨b462, o463, e_b462⟩ := (H.rd 1 rds_ro).addr (idx_pos g461)
          subst e_b462
          refine vr tbok 5 [.slice (some ⟨b462, o463, none⟩) (List.length won) c6, .bool (List.getD won (Int.toNat (List.getD (List.getD (List.getD all (Int.toNat x125) []) (Int.toNat x292) []) (Int.toNat x430) 0)) false)] [(3, .bool (List.getD won (Int.toNat (List.getD (List.getD (List.getD all (Int.toNat x125) []) (Int.toNat x292) []) (Int.toNat x430) 0)) false))] [World.cell? w448 ⟨g9, 0, none⟩ = some (.slice (some ⟨b462, o463, none⟩) (List.length won) c6), 0 ≤ (List.getD (List.getD (List.getD all (Int.toNat x125) []) (Int.toNat x292) []) (Int.toNat x430) 0) ∧ (List.getD (List.getD (List.getD all (Int.toNat x125) []) (Int.toNat x292) []) (Int.toNat x430) 0) < (((List.length won) : Nat) : Int), World.cell? w448 ⟨b462, o463 + (Int.toNat (List.getD (List.getD (List.getD all (Int.toNat x125) []) (Int.toNat x292) []) (Int.toNat x430) 0)) * 1, none⟩ = some (.bool (List.getD won (Int.toNat (List.getD (List.getD (List.getD all (Int.toNat x125) []) (Int.toNat x292) []) (Int.toNat x430) 0)) false))] E (by kernel_rfl) ⟨(H.box 2 rfl).cell (j := 0) rfl, g461, Rds.at1 (H.rd 1 rds_ro) false g461⟩ ?_
          clear E; intro a E
          refine wpList_nil ?_
          refine th_n ?_
          refine wp_ret ?_
          have hx_ := Option.some.inj hP
          refine ret1 E rfl rfl ?_
          exact ⟨_, rfl, (), rfl, H.sel [1, 2, 3, 4, 5, 0] rfl, hx_.symm⟩
         clear H
         rintro v465 w464 a ⟨x460, rfl, H, hx_⟩ E_
         subst hx_
         replace E := E_ _ rfl; clear E_
         refine wpList_nil ?_
         refine th_n ?_
         refine E.cases (t := 16) rfl (fun hb_ E_ => ?_) (fun hb_ E_ => ?_)
         ·
          replace E := E_; clear E_
          have h466 : (List.getD won (Int.toNat (List.getD (List.getD (List.getD all (Int.toNat x125) []) (Int.toNat x292) []) (Int.toNat x430) 0)) false) = true := hb_
          clear hb_; replace hP := ite_t h466 hP
          refine c_true E rfl ?_
          refine wp_seq ?_
          refine wp_region_lit ?_
          refine vr tbok 2 [] [(4, .int .i64 x430)] [] E (by kernel_rfl) trivial ?_
          clear E; intro a E
          refine wpList_nil ?_
          refine th_n ?_
          refine wp_ret ?_
          refine bl_ret ?_
          refine th_ret ?_
          refine th_ret ?_
          refine .inr ⟨rfl, ?_⟩
          refine bl_ret ?_
          refine th_ret ?_
          have hx_ := Option.some.inj hP; subst hx_
          have hP : some (x430) = some x415 := hK447
          have hx_ := Option.some.inj hP
          refine ret1 E rfl rfl ?_
          exact ⟨_, rfl, x430, rfl, H.sel [0, 1, 2, 3, 4, 5] rfl, hx_.symm⟩
         replace E := E_; clear E_
         have h467 : ¬ ((List.getD won (Int.toNat (List.getD (List.getD (List.getD all (Int.toNat x125) []) (Int.toNat x292) []) (Int.toNat x430) 0)) false) = true) := (ne_true_of_eq_false hb_)
         clear hb_; replace hP := ite_f h467 hP
         refine c_false E rfl ?_
         refine wp_skip ?_
         refine bl_n ?_
         refine th_n ?_
         refine wp_region_lit ?_
         obtain ⟨g468, hP⟩ := ask_inv hP
         refine vr tbok 2 [.int .i64 (x430 + 1)] [(0, .slice (some ⟨b453, o454, none⟩) (List.length (List.getD (List.getD all (Int.toNat x125) []) (Int.toNat x292) [])) c351), (1, .func (.func 77) #[] #[.pointer (some ⟨g9, 0, none⟩)]), (7, .int .i64 (((List.length (List.getD (List.getD all (Int.toNat x125) []) (Int.toNat x292) [])) : Nat) : Int)), (8, .int .i64 (x430 + 1))] [IntKind.i64.wrap (x430 + 1) = x430 + 1] E (by kernel_rfl) (wrap_in g468) ?_
         clear E; intro a E
         refine wpList_nil ?_
         exact th_n ⟨m444, Nat.lt_succ_self _, x430 + 1, E.pick _ ⟨rfl, rfl, rfl, rfl, trivial⟩, H.sel [5, 0, 1, 2, 3, 4] rfl, hP⟩
        replace E := E_; clear E_
        have h469 : ¬ (x430 < (((List.length (List.getD (List.getD all (Int.toNat x125) []) (Int.toNat x292) [])) : Nat) : Int)) := of_decide_eq_false hb_
        clear hb_; replace hP := ite_f h469 hP
        refine c_false E rfl ?_
        refine wp_exit ?_
        refine th_exit ?_
        have hx_ := Option.some.inj hP
        refine th_exit (.inl ⟨0, rfl, ?_⟩)
        exact ⟨rfl, (), E.pick _ trivial, H.sel [1, 2, 3, 4, 5, 0] rfl, hx_.symm⟩
       clear E H hL446; intro i_ a w448 hM_
       obtain ⟨rfl, x450, E, H, hx_⟩ := hM_
       subst hx_; have hP := elim_l hK447
       clear hK447
       refine bl_hit ?_
       refine th_n ?_
       refine wp_seq ?_
       refine wp_region_lit ?_
       refine vr tbok 1 [] [(4, .int .i64 (-1))] [] E (by kernel_rfl) trivial ?_
       clear E; intro a E
       refine wpList_nil ?_
       refine th_n ?_
       refine wp_ret ?_
       have hx_ := Option.some.inj hP
       refine ret1 E rfl rfl ?_
       exact ⟨_, rfl, -1, rfl, H.sel [0, 1, 2, 3, 4, 5] rfl, hx_.symm⟩
      clear H
      rintro v472 w471 a ⟨x417, rfl, H, hx_⟩ E_
      subst hx_
      replace E := E_ _ rfl; clear E_
      refine vr tbok 2 [] [(4, .bool (decide (0 ≤ x415)))] [] E (by kernel_rfl) trivial ?_
      clear E; intro a E
      refine wpList_nil ?_
      refine th_n ?_
      refine wp_ret ?_
      have hx_ := Option.some.inj hP
      refine ret1 E rfl rfl ?_
      exact ⟨_, rfl, decide (0 ≤ x415), rfl, H.sel [0, 1, 2, 3, 4, 5] rfl, hx_.symm⟩
     clear H
     rintro v474 w473 a ⟨x387, rfl, H, hx_⟩ E_
     subst hx_
     replace E := E_ _ rfl; clear E_
     refine vr tbok 1 [] [(3, .pointer (some ⟨g9, 0, none⟩)), (5, .slice (some ⟨g15, 0, none⟩) (List.length out124) (Int.toNat (((List.length all) : Nat) : Int))), (6, .int .i64 x125), (13, .slice (some ⟨b241, o242, none⟩) (List.length all) c2), (14, .int .i64 (((List.length all) : Nat) : Int)), (15, .int .i64 x125), (20, .slice (some ⟨b348, o349, none⟩) (List.length (List.getD all (Int.toNat x125) [])) c244), (21, .int .i64 (((List.length (List.getD all (Int.toNat x125) [])) : Nat) : Int)), (22, .int .i64 x292), (29, .bool (!x385))] [] E (by kernel_rfl) trivial ?_
     clear E; intro a E
     refine wpList_nil ?_
     refine th_n ?_
     refine E.cases (t := 29) rfl (fun hb_ E_ => ?_) (fun hb_ E_ => ?_)
     ·
      replace E := E_; clear E_
      have h475 : ¬ (x385 = true) := (ne_true_of_eq_false (not_t hb_))
      clear hb_; replace hP := ite_f h475 hP
      refine c_true E rfl ?_
      refine wp_exit ?_
      refine bl_miss rfl ?_
      refine th_exit ?_
      have hx_ := Option.some.inj hP
      refine th_exit (.inl ⟨1, rfl, ?_⟩)
      exact .inl ⟨rfl, (), E.pick _ ⟨rfl, rfl, rfl, rfl, rfl, trivial⟩, H.sel [0, 1, 2, 3] rfl, hx_.symm⟩
     replace E := E_; clear E_
     have h476 : x385 = true := (not_f hb_)
     clear hb_; replace hP := ite_t h476 hP
     refine c_false E rfl ?_
     refine wp_skip ?_
     refine bl_n ?_
     refine th_n ?_
     refine wp_region_lit ?_
     obtain ⟨g477, hP⟩ := ask_inv hP
     refine vr tbok 2 [.int .i64 (x292 + 1)] [(3, .pointer (some ⟨g9, 0, none⟩)), (5, .slice (some ⟨g15, 0, none⟩) (List.length out124) (Int.toNat (((List.length all) : Nat) : Int))), (6, .int .i64 x125), (13, .slice (some ⟨b241, o242, none⟩) (List.length all) c2), (14, .int .i64 (((List.length all) : Nat) : Int)), (15, .int .i64 x125), (20, .slice (some ⟨b348, o349, none⟩) (List.length (List.getD all (Int.toNat x125) [])) c244), (21, .int .i64 (((List.length (List.getD all (Int.toNat x125) [])) : Nat) : Int)), (22, .int .i64 (x292 + 1))] [IntKind.i64.wrap (x292 + 1) = x292 + 1] E (by kernel_rfl) (wrap_in g477) ?_
     clear E; intro a E
     refine wpList_nil ?_
     exact th_n ⟨m338, Nat.lt_succ_self _, x292 + 1, E.pick _ ⟨rfl, rfl, rfl, rfl, rfl, rfl, rfl, rfl, rfl, trivial⟩, H.sel [0, 1, 2, 3, 4] rfl, hP⟩
    replace E := E_; clear E_
    have h478 : ¬ (x292 < (((List.length (List.getD all (Int.toNat x125) [])) : Nat) : Int)) := of_decide_eq_false hb_
    clear hb_; replace hP := ite_f h478 hP
    refine c_false E rfl ?_
    refine wp_exit ?_
    refine th_exit ?_
    have hx_ := Option.some.inj hP
    refine th_exit (.inl ⟨2, rfl, ?_⟩)
    exact .inr (⟨rfl, (), E.pick _ ⟨rfl, rfl, rfl, rfl, rfl, rfl, trivial⟩, H.sel [0, 1, 2, 3] rfl, hx_.symm⟩)
   clear E H hL340; intro i_ a w342 hM_
   rcases hM_ with hM_ | hM_
   ·
    obtain ⟨rfl, x344, E, H, hx_⟩ := hM_
    subst hx_; have hP := elim_l hK341
    clear hK341
    refine bl_miss rfl ?_
    refine th_exit ?_
    refine bl_hit ?_
    refine th_n ?_
    refine wp_region_lit ?_
    obtain ⟨g479, hP⟩ := ask_inv hP
    refine vr tbok 2 [.int .i64 (x125 + 1)] [(3, .pointer (some ⟨g9, 0, none⟩)), (5, .slice (some ⟨g15, 0, none⟩) (List.length out124) (Int.toNat (((List.length all) : Nat) : Int))), (13, .slice (some ⟨b241, o242, none⟩) (List.length all) c2), (14, .int .i64 (((List.length all) : Nat) : Int)), (15, .int .i64 (x125 + 1))] [IntKind.i64.wrap (x125 + 1) = x125 + 1] E (by kernel_rfl) (wrap_in g479) ?_
    clear E; intro a E
    refine wpList_nil ?_
    exact th_n ⟨m232, Nat.lt_succ_self _, out124, x125 + 1, E.pick _ ⟨rfl, rfl, rfl, rfl, rfl, trivial⟩, H.sel [0, 1, 2, 3] rfl, hP⟩
   obtain ⟨rfl, x345, E, H, hx_⟩ := hM_
   subst hx_; have hP := (elim_r hK341)
   clear hK341
   refine bl_hit ?_
   refine th_n ?_
   refine wp_region_lit ?_
   obtain ⟨g480, hP⟩ := ask_inv hP
   refine vr tbok 3 [] [(3, .pointer (some ⟨g9, 0, none⟩)), (5, .slice (some ⟨g15, 0, none⟩) (List.length out124) (Int.toNat (((List.length all) : Nat) : Int))), (13, .slice (some ⟨b241, o242, none⟩) (List.length all) c2), (14, .int .i64 (((List.length all) : Nat) : Int)), (15, .int .i64 x125), (33, .pointer (some ⟨g15, 0 + (Int.toNat x125) * 1, none⟩))] [0 ≤ x125 ∧ x125 < (((List.length out124) : Nat) : Int)] E (by kernel_rfl) (g480) ?_
   clear E; intro a E
   refine h_setx (g := g15) (i := x125) true H 2 rfl E rfl rfl rfl rfl tbok rfl (fun _ HF_ => rfl) rfl g480 rfl ?_
   clear E; intro w481 a hc482 H_ E
   replace H := H_; clear H_; try dsimp only [setn, addE, goneL] at H
   have hn483 : (List.length out124) = (List.length (List.set out124 (Int.toNat x125) true)) := by simp only [List.length_set]
   replace E := E.same (t := 5) (u := .slice (some ⟨g15, 0, none⟩) (List.length (List.set out124 (Int.toNat x125) true)) (Int.toNat (((List.length all) : Nat) : Int))) rfl (congrArg (fun n_ => Value.slice (some ⟨g15, 0, none⟩) n_ (Int.toNat (((List.length all) : Nat) : Int))) hn483)
   refine wpList_nil ?_
   refine bl_n ?_
   refine th_n ?_
   refine wp_region_lit ?_
   obtain ⟨g484, hP⟩ := ask_inv hP
   refine vr tbok 2 [.int .i64 (x125 + 1)] [(3, .pointer (some ⟨g9, 0, none⟩)), (5, .slice (some ⟨g15, 0, none⟩) (List.length (List.set out124 (Int.toNat x125) true)) (Int.toNat (((List.length all) : Nat) : Int))), (13, .slice (some ⟨b241, o242, none⟩) (List.length all) c2), (14, .int .i64 (((List.length all) : Nat) : Int)), (15, .int .i64 (x125 + 1))] [IntKind.i64.wrap (x125 + 1) = x125 + 1] E (by kernel_rfl) (wrap_in g484) ?_
   clear E; intro a E
   refine wpList_nil ?_
   exact th_n ⟨m232, Nat.lt_succ_self _, List.set out124 (Int.toNat x125) true, x125 + 1, E.pick _ ⟨rfl, rfl, rfl, rfl, rfl, trivial⟩, H.sel [0, 1, 2, 3] rfl, hP⟩
  replace E := E_; clear E_
  have h485 : ¬ (x125 < (((List.length all) : Nat) : Int)) := of_decide_eq_false hb_
  clear hb_; replace hP := ite_f h485 hP
  refine c_false E rfl ?_
  refine wp_exit ?_
  refine th_exit ?_
  have hx_ := Option.some.inj hP
  refine th_exit (.inl ⟨0, rfl, ?_⟩)
  exact ⟨rfl, out124, E.pick _ ⟨rfl, trivial⟩, H.sel [2] rfl, hx_.symm⟩
 clear E H hL234; intro i_ a w236 hM_
 obtain ⟨rfl, x238, E, H, hx_⟩ := hM_
 subst hx_; have hP := hK235; clear hK235
 refine bl_hit ?_
 refine th_n ?_
 refine wp_seq ?_
 refine wp_region_lit ?_
 refine vr tbok 2 [] [(4, .slice (some ⟨g15, 0, none⟩) (List.length x233) (Int.toNat (((List.length all) : Nat) : Int)))] [] E (by kernel_rfl) trivial ?_
 clear E; intro a E
 refine wpList_nil ?_
 refine th_n ?_
 refine wp_ret ?_
 refine ng_ret ?_
 replace H := H.rowx 0 rfl; try dsimp only [setn, addE, goneL] at H
 obtain rfl := Option.some.inj hP
 refine ret1 E rfl rfl ?_
 exact ⟨_, rfl, (some ⟨g15, 0, none⟩), (Int.toNat (((List.length all) : Nat) : Int)), rfl, H.sel [0] rfl⟩

end Go.V
