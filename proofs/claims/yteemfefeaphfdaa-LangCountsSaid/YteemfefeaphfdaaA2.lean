/- Plain functions, and the calls that give them. -/
import Derived.Test.YteemfefeaphfdaaA1
set_option linter.all false
set_option linter.unusedVariables false
set_option linter.unnecessarySimpa false
set_option linter.unusedSimpArgs false
namespace Go.V
open Go Go.Proofs
/-! rejoinder/guard.Table -/
def guard_Table_l0 (N : Nat) (n : Int) (nodes : List Nd) (ref : Int) : Nat → (List Int) → Int → Option ((List Int) ⊕ ((List Int) × Int))
  | 0, _, _ => none
  | m72 + 1, out38, x41 =>
    if x41 < (shlV .i64 1 n) then
      Option.bind (guard_Go N nodes ref (IntKind.u8.wrap x41)) fun r81 =>
      if r81.2 = true then
        ask (List.length out38 + List.length ([r81.1] : List Int) ≤ 1000000000) <|
        ask (in64 (x41 + 1)) <|
        guard_Table_l0 N n nodes ref m72 (out38 ++ ([r81.1] : List Int)) (x41 + 1)
      else
        some (Sum.inr ([], 12))
    else
      some (Sum.inl out38)
def guard_Table (N : Nat) (n : Int) (nodes : List Nd) (ref : Int) : Option ((List Int) × Int) :=
  if n < 0 then
    some ([], 2)
  else
    if 8 < n then
      some ([], 2)
    else
      ask (0 ≤ n) <|
      Option.bind (guard_Table_l0 N n nodes ref N [] 0) fun x73 =>
      Sum.elim (fun x79 =>
        some (x79, 0))
       (fun x106 =>
        some x106) x73
set_option maxRecDepth 100000 in
set_option maxHeartbeats 4000000 in
theorem guard_Table_calls {N : Nat} {S Fa : Nat → Prop} {w0 : World} {r : (List Int) × Int} (A1 : Option Addr) (c2 : Nat) (n : Int) (nodes : List Nd) (ref : Int) (hk3 : List.length nodes ≤ c2) (H : Hp S Fa w0 w0 [.ro false cNode A1 nodes]) (hP : guard_Table N n nodes ref = some r) :
    Calls Try.prog 63 #[.int .i64 n, .slice A1 (List.length nodes) c2, .int .i64 ref] w0 fun e w' => ∃ v, e = .returned v ∧ ∃ (A107 : Option Addr) (c108 : Nat), v = .tuple #[.slice A107 (List.length r.1) c108, .int .i64 r.2] ∧ Hp S Fa w0 w' [.row true (cInt .i64) 3 A107 c108 r.1] := by
 refine enterV (n := 39) Try.func63 rfl rfl rfl ?_
 intro a E
 replace E := E.pick [(0, .int .i64 n), (1, .slice A1 (List.length nodes) c2), (2, .int .i64 ref)] ⟨rfl, rfl, rfl, trivial⟩
 rw [guard_Table] at hP
 refine wp_seq ?_
 refine wp_region_lit ?_
 refine vn tbok 2 [] [] [] E (by kernel_rfl) (by kernel_rfl) trivial ?_
 clear E; intro a E
 refine wpList_nil ?_
 refine th_n ?_
 refine wp_seq ?_
 refine wp_seq ?_
 refine wp_region_lit ?_
 refine vn tbok 3 [] [(14, .bool (decide (n < 0)))] [] E (by kernel_rfl) (by kernel_rfl) trivial ?_
 clear E; intro a E
 refine E.cases (t := 14) rfl (fun hb_ E_ => ?_) (fun hb_ E_ => ?_)
 ·
  replace E := E_; clear E_
  have h5 : n < 0 := of_decide_eq_true hb_
  clear hb_; replace hP := ite_t h5 hP
  refine vn tbok 3 [] [(17, .bool true)] [] E (by kernel_rfl) (by kernel_rfl) trivial ?_
  clear E; intro a E
  refine wpList_nil ?_
  refine th_n ?_
  refine c_true E rfl ?_
  refine wp_seq ?_
  refine wp_region_lit ?_
  refine vn tbok 2 [] [(6, .slice none 0 0), (7, .int .i64 2)] [] E (by kernel_rfl) (by kernel_rfl) trivial ?_
  clear E; intro a E
  refine wpList_nil ?_
  refine th_n ?_
  refine wp_ret ?_
  refine th_ret ?_
  replace H := H.nilrow (cInt .i64) 3; try dsimp only [setn, addE, goneL] at H
  obtain rfl := Option.some.inj hP
  refine ret2 E rfl rfl rfl ?_
  exact ⟨_, rfl, none, 0, rfl, H.sel [1] rfl⟩
 replace E := E_; clear E_
 have h7 : ¬ (n < 0) := of_decide_eq_false hb_
 clear hb_; replace hP := ite_f h7 hP
 refine vn tbok 3 [] [(17, .bool (decide (8 < n)))] [] E (by kernel_rfl) (by kernel_rfl) trivial ?_
 clear E; intro a E
 refine wpList_nil ?_
 refine th_n ?_
 refine E.cases (t := 17) rfl (fun hb_ E_ => ?_) (fun hb_ E_ => ?_)
 ·
  replace E := E_; clear E_
  have h8 : 8 < n := of_decide_eq_true hb_
  clear hb_; replace hP := ite_t h8 hP
  refine c_true E rfl ?_
  refine wp_seq ?_
  refine wp_region_lit ?_
  refine vn tbok 2 [] [(6, .slice none 0 0), (7, .int .i64 2)] [] E (by kernel_rfl) (by kernel_rfl) trivial ?_
  clear E; intro a E
  refine wpList_nil ?_
  refine th_n ?_
  refine wp_ret ?_
  refine th_ret ?_
  replace H := H.nilrow (cInt .i64) 3; try dsimp only [setn, addE, goneL] at H
  obtain rfl := Option.some.inj hP
  refine ret2 E rfl rfl rfl ?_
  exact ⟨_, rfl, none, 0, rfl, H.sel [1] rfl⟩
 replace E := E_; clear E_
 have h10 : ¬ (8 < n) := of_decide_eq_false hb_
 clear hb_; replace hP := ite_f h10 hP
 refine c_false E rfl ?_
 refine wp_skip ?_
 refine th_n ?_
 refine wp_seq ?_
 refine wp_region_lit ?_
 refine vn tbok 1 [] [(8, .slice none 0 0)] [] E (by kernel_rfl) (by kernel_rfl) trivial ?_
 clear E; intro a E
 refine wpList_nil ?_
 refine th_n ?_
 refine wp_seq ?_
 refine wp_seq ?_
 refine wp_region_lit ?_
 obtain ⟨g11, hP⟩ := ask_inv hP
 refine vn tbok 3 [.int .i64 (shlV .i64 1 n)] [(19, .int .i64 (shlV .i64 1 n)), (20, .int .i64 0)] [0 ≤ n ∧ IntKind.i64.wrap (1 * 2 ^ (min (Int.toNat n) (IntKind.bits .i64))) = shlV .i64 1 n] E (by kernel_rfl) (by kernel_rfl) (⟨g11, rfl⟩) ?_
 clear E; intro a E
 refine wpList_nil ?_
 refine th_n ?_
 refine wp_block ?_
 obtain ⟨x73, hL74, hK75⟩ := bind_inv hP
 clear hP
 replace H := H.nilrow (cInt .i64) 3; try dsimp only [setn, addE, goneL] at H
 refine loop_cut (fun i_ a w_ => (i_ = 0 ∧ ∃ (x79 : List Int), ∃ (A70 : Option Addr) (c71 : Nat), Fr a 39 [(8, .slice A70 (List.length x79) c71)] ∧ Hp S Fa w0 w_ [.row true (cInt .i64) 3 A70 c71 x79] ∧ x73 = Sum.inl x79)) ?_ ?_
 ·
  refine loopV (fun m78 a w77 => ∃ (out38 : List Int) (x41 : Int), ∃ (A39 : Option Addr) (c40 : Nat), Fr a 39 [(1, .slice A1 (List.length nodes) c2), (2, .int .i64 ref), (8, .slice A39 (List.length out38) c40), (19, .int .i64 (shlV .i64 1 n)), (20, .int .i64 x41)] ∧ Hp S Fa w0 w77 [.ro false cNode A1 nodes, .row true (cInt .i64) 3 A39 c40 out38] ∧ guard_Table_l0 N n nodes ref m78 out38 x41 = some x73) N ?_ ?_
  ·
   exact ⟨[], 0, none, 0, E.pick _ ⟨rfl, rfl, rfl, rfl, rfl, trivial⟩, H.sel [0, 1] rfl, hL74⟩
  clear E H hL74; intro m78 a w77 hI_
  obtain ⟨out38, x41, A39, c40, E, H, hP⟩ := hI_
  obtain ⟨m72, rfl⟩ : ∃ q_, m78 = q_ + 1 := by cases m78 with | zero => rw [guard_Table_l0] at hP; cases hP | succ q_ => exact ⟨q_, rfl⟩
  rw [guard_Table_l0] at hP
  refine wp_seq ?_
  refine wp_region_lit ?_
  refine vn tbok 1 [] [(21, .bool (decide (x41 < (shlV .i64 1 n))))] [] E (by kernel_rfl) (by kernel_rfl) trivial ?_
  clear E; intro a E
  refine wpList_nil ?_
  refine th_n ?_
  refine wp_seq ?_
  refine E.cases (t := 21) rfl (fun hb_ E_ => ?_) (fun hb_ E_ => ?_)
  ·
   replace E := E_; clear E_
   have h80 : x41 < (shlV .i64 1 n) := of_decide_eq_true hb_
   clear hb_; replace hP := ite_t h80 hP
   refine c_true E rfl ?_
   refine wp_skip ?_
   refine th_n ?_
   refine wp_seq ?_
   refine wp_block ?_
   refine wp_seq ?_
   refine wp_region_lit ?_
   refine vn tbok 2 [] [(9, .int .i64 x41)] [] E (by kernel_rfl) (by kernel_rfl) trivial ?_
   clear E; intro a E
   refine wpList_nil ?_
   refine th_n ?_
   refine wp_seq ?_
   refine wp_region_lit ?_
   refine vn tbok 4 [.int .u8 (IntKind.u8.wrap x41)] [(24, .slice A1 (List.length nodes) c2), (25, .int .i64 ref), (27, .int .u8 (IntKind.u8.wrap x41))] [IntKind.u8.wrap x41 = (IntKind.u8.wrap x41)] E (by kernel_rfl) (by kernel_rfl) (rfl) ?_
   clear E; intro a E
   obtain ⟨r81, h82, hP⟩ := bind_inv hP
   obtain ⟨Fa83, Hc84, hb85⟩ := H.call [] [(0, false)] rfl rfl trivial
   refine e_call E rfl rfl Try.func20 rfl rfl rfl (guard_Go_calls A1 c2 nodes ref (IntKind.u8.wrap x41) hk3 Hc84 h82) ?_
   rintro v86 w87 a ⟨rfl, HR88⟩ E_
   replace E := E_ _ rfl; clear E_
   obtain ⟨H_, hc89⟩ := hb85 _ _ HR88 rfl
   replace H := H_; clear H_; try dsimp only [setn, addE, goneL] at H
   refine vn tbok 5 [] [(10, .int .i64 r81.1), (11, .bool r81.2)] [] E (by kernel_rfl) (by kernel_rfl) trivial ?_
   clear E; intro a E
   refine wpList_nil ?_
   refine th_n ?_
   refine wp_seq ?_
   refine wp_seq ?_
   refine wp_region_lit ?_
   refine vn tbok 2 [] [(32, .bool (!r81.2))] [] E (by kernel_rfl) (by kernel_rfl) trivial ?_
   clear E; intro a E
   refine wpList_nil ?_
   refine th_n ?_
   refine E.cases (t := 32) rfl (fun hb_ E_ => ?_) (fun hb_ E_ => ?_)
   ·
    replace E := E_; clear E_
    have h90 : ¬ (r81.2 = true) := (ne_true_of_eq_false (not_t hb_))
    clear hb_; replace hP := ite_f h90 hP
    refine c_true E rfl ?_
    refine wp_seq ?_
    refine wp_region_lit ?_
    refine vn tbok 2 [] [(6, .slice none 0 0), (7, .int .i64 12)] [] E (by kernel_rfl) (by kernel_rfl) trivial ?_
    clear E; intro a E
    refine wpList_nil ?_
    refine th_n ?_
    refine wp_ret ?_
    refine th_ret ?_
    refine bl_ret ?_
    refine th_ret ?_
    refine th_ret ?_
    refine .inr ⟨rfl, ?_⟩
    refine bl_ret ?_
    refine th_ret ?_
    replace H := H.nilrow (cInt .i64) 3; try dsimp only [setn, addE, goneL] at H
    have hx_ := Option.some.inj hP; subst hx_
    have hP : some (([], 12)) = some r := hK75
    obtain rfl := Option.some.inj hP
    refine ret2 E rfl rfl rfl ?_
    exact ⟨_, rfl, none, 0, rfl, H.sel [2] rfl⟩
   replace E := E_; clear E_
   have h92 : r81.2 = true := (not_f hb_)
   clear hb_; replace hP := ite_t h92 hP
   refine c_false E rfl ?_
   refine wp_skip ?_
   refine th_n ?_
   refine wp_region_lit ?_
   refine vn tbok 2 [] [(33, .slice A39 (List.length out38) c40), (34, .int .i64 r81.1)] [] E (by kernel_rfl) (by kernel_rfl) trivial ?_
   clear E; intro a E
   refine h_buildSlice (ps := [(0, .int .i64 r81.1)]) (cs := [.int .i64 r81.1]) H E rfl rfl tbok rfl rfl (by kernel_rfl) ?_
   intro w94 g93 a hc95 hg97 H_ E_
   replace E := E_ _ rfl; clear E_
   replace H := H_; clear H_; try dsimp only [setn, addE, goneL] at H
   obtain ⟨g98, hP⟩ := ask_inv hP
   refine h_append (cInt .i64) (xs := out38) (ys := ([r81.1] : List Int)) (0 : Int) H 1 rfl E rfl rfl tbok rfl rfl rfl rfl rfl (fun _ _ => rfl) rfl rfl (fun _ HF_ => HF_.srcB 2 rfl (⟨_, _, rfl, rfl, rfl⟩)) g98 ?_
   intro w99 A100 c101 a hc102 hA103 H_ E_
   replace E := E_ _ rfl; clear E_
   replace H := H_; clear H_; try dsimp only [setn, addE, goneL] at H
   refine vn tbok 1 [] [(8, .slice A100 (List.length (out38 ++ ([r81.1] : List Int))) c101)] [] E (by kernel_rfl) (by kernel_rfl) trivial ?_
   clear E; intro a E
   refine wpList_nil ?_
   refine bl_n ?_
   refine th_n ?_
   refine wp_region_lit ?_
   obtain ⟨g104, hP⟩ := ask_inv hP
   refine vn tbok 2 [.int .i64 (x41 + 1)] [(20, .int .i64 (x41 + 1))] [IntKind.i64.wrap (x41 + 1) = x41 + 1] E (by kernel_rfl) (by kernel_rfl) (wrap_in g104) ?_
   clear E; intro a E
   refine wpList_nil ?_
   exact th_n ⟨m72, Nat.lt_succ_self _, out38 ++ ([r81.1] : List Int), x41 + 1, A100, c101, E.pick _ ⟨rfl, rfl, rfl, rfl, rfl, trivial⟩, H.sel [0, 1] rfl, hP⟩
  replace E := E_; clear E_
  have h105 : ¬ (x41 < (shlV .i64 1 n)) := of_decide_eq_false hb_
  clear hb_; replace hP := ite_f h105 hP
  refine c_false E rfl ?_
  refine wp_exit ?_
  refine th_exit ?_
  have hx_ := Option.some.inj hP
  refine th_exit (.inl ⟨0, rfl, ?_⟩)
  exact ⟨rfl, out38, A39, c40, E.pick _ ⟨rfl, trivial⟩, H.sel [1] rfl, hx_.symm⟩
 clear E H hL74; intro i_ a w77 hM_
 obtain ⟨rfl, x79, A70, c71, E, H, hx_⟩ := hM_
 subst hx_; have hP := elim_l hK75
 clear hK75
 refine bl_hit ?_
 refine th_n ?_
 refine wp_seq ?_
 refine wp_region_lit ?_
 refine vn tbok 3 [] [(6, .slice A70 (List.length x79) c71), (7, .int .i64 0)] [] E (by kernel_rfl) (by kernel_rfl) trivial ?_
 clear E; intro a E
 refine wpList_nil ?_
 refine th_n ?_
 refine wp_ret ?_
 obtain rfl := Option.some.inj hP
 refine ret2 E rfl rfl rfl ?_
 exact ⟨_, rfl, A70, c71, rfl, H.sel [0] rfl⟩

/-! rejoinder/lang.table -/
def lang_table_l0 (N : Nat) (aProps : Int) (aGuard : List Int) (aNodes : List Nd) : Nat → (List (List Int)) → Int → Option ((List (List Int)) ⊕ ((List (List Int)) × Int))
  | 0, _, _ => none
  | m104 + 1, out63, x66 =>
    if x66 < (((List.length aGuard) : Nat) : Int) then
      ask (idx x66 (List.length aGuard)) <|
      Option.bind (guard_Table N aProps aNodes (List.getD aGuard (Int.toNat x66) 0)) fun r116 =>
      if (r116.2 : Int) = 0 then
        ask (List.length out63 + List.length ([r116.1] : List (List Int)) ≤ 1000000000) <|
        ask (in64 (x66 + 1)) <|
        lang_table_l0 N aProps aGuard aNodes m104 (out63 ++ ([r116.1] : List (List Int))) (x66 + 1)
      else
        some (Sum.inr ([], r116.2))
    else
      some (Sum.inl out63)
def lang_table (N : Nat) (aProps : Int) (aAccept : List Bool) (aGuard : List Int) (aNodes : List Nd) : Option ((List (List Int)) × Int) :=
  Option.bind (guard_Check N aProps aAccept aGuard aNodes) fun r18 =>
  if (r18 : Int) = 0 then
    Option.bind (lang_table_l0 N aProps aGuard aNodes N [] 0) fun x105 =>
    Sum.elim (fun x111 =>
      some (x111, 0))
     (fun x145 =>
      some x145) x105
  else
    some ([], r18)
set_option maxRecDepth 100000 in
set_option maxHeartbeats 4000000 in
theorem lang_table_calls {N : Nat} {S Fa : Nat → Prop} {w0 : World} {r : (List (List Int)) × Int} (A1 : Option Addr) (c2 : Nat) (A5 : Option Addr) (c6 : Nat) (A9 : Option Addr) (c10 : Nat) (aProps : Int) (aAccept : List Bool) (aGuard : List Int) (aNodes : List Nd) (hk3 : List.length aAccept ≤ c2) (hk7 : List.length aGuard ≤ c6) (hk11 : List.length aNodes ≤ c10) (H : Hp S Fa w0 w0 [.ro false cBool A1 aAccept, .ro false (cInt .i64) A5 aGuard, .ro false cNode A9 aNodes]) (hP : lang_table N aProps aAccept aGuard aNodes = some r) :
    Calls Try.prog 41 #[.agg #[.int .i64 aProps, .slice A1 (List.length aAccept) c2, .slice A5 (List.length aGuard) c6, .slice A9 (List.length aNodes) c10]] w0 fun e w' => ∃ v, e = .returned v ∧ ∃ (A146 : Option Addr) (c147 : Nat), v = .tuple #[.slice A146 (List.length r.1) c147, .int .i64 r.2] ∧ Hp S Fa w0 w' [.row true (cSl (cInt .i64)) 23 A146 c147 r.1] := by
 refine enterV (n := 40) Try.func41 rfl rfl rfl ?_
 intro a E
 replace E := E.pick [(0, .agg #[.int .i64 aProps, .slice A1 (List.length aAccept) c2, .slice A5 (List.length aGuard) c6, .slice A9 (List.length aNodes) c10])] ⟨rfl, trivial⟩
 rw [lang_table] at hP
 refine wp_seq ?_
 refine wp_region_lit ?_
 refine h_box H E rfl rfl rfl ?_
 intro w14 g13 a hc15 hg17 H_ E_
 replace E := E_ _ rfl; clear E_
 replace H := H_; clear H_; try dsimp only [setn, addE, goneL] at H
 refine vn tbok 2 [] [] [] E (by kernel_rfl) (by kernel_rfl) trivial ?_
 clear E; intro a E
 refine wpList_nil ?_
 refine th_n ?_
 refine wp_seq ?_
 refine wp_seq ?_
 refine wp_region_lit ?_
 refine vn tbok 1 [.agg #[.int .i64 aProps, .slice A1 (List.length aAccept) c2, .slice A5 (List.length aGuard) c6, .slice A9 (List.length aNodes) c10]] [(10, .agg #[.int .i64 aProps, .slice A1 (List.length aAccept) c2, .slice A5 (List.length aGuard) c6, .slice A9 (List.length aNodes) c10])] [cellsAt w14 g13 (0) [.int .i64 aProps, .slice A1 (List.length aAccept) c2, .slice A5 (List.length aGuard) c6, .slice A9 (List.length aNodes) c10]] E (by kernel_rfl) (by kernel_rfl) ((H.box 3 rfl).sub 0 _ rfl) ?_
 clear E; intro a E
 obtain ⟨r18, h19, hP⟩ := bind_inv hP
 obtain ⟨Fa20, Hc21, hb22⟩ := H.call [] [(0, false), (1, false), (2, false)] rfl rfl trivial
 refine e_call E rfl rfl Try.func9 rfl rfl rfl (guard_Check_calls A1 c2 A5 c6 A9 c10 aProps aAccept aGuard aNodes hk3 hk7 hk11 Hc21 h19) ?_
 rintro v23 w24 a ⟨rfl, HR25⟩ E_
 replace E := E_ _ rfl; clear E_
 obtain ⟨H_, hc26⟩ := hb22 _ _ HR25 rfl
 replace H := H_; clear H_; try dsimp only [setn, addE, goneL] at H
 refine vn tbok 1 [] [(4, .int .i64 r18)] [] E (by kernel_rfl) (by kernel_rfl) trivial ?_
 clear E; intro a E
 refine wpList_nil ?_
 refine th_n ?_
 refine wp_seq ?_
 refine wp_region_lit ?_
 refine vn tbok 2 [] [(13, .bool ((r18 : Int) != 0))] [] E (by kernel_rfl) (by kernel_rfl) trivial ?_
 clear E; intro a E
 refine wpList_nil ?_
 refine th_n ?_
 refine E.cases (t := 13) rfl (fun hb_ E_ => ?_) (fun hb_ E_ => ?_)
 ·
  replace E := E_; clear E_
  have h27 : ¬ ((r18 : Int) = 0) := bne_iff_ne.1 hb_
  clear hb_; replace hP := ite_f h27 hP
  refine c_true E rfl ?_
  refine wp_seq ?_
  refine wp_region_lit ?_
  refine vn tbok 3 [] [(2, .slice none 0 0), (3, .int .i64 r18)] [] E (by kernel_rfl) (by kernel_rfl) trivial ?_
  clear E; intro a E
  refine wpList_nil ?_
  refine th_n ?_
  refine wp_ret ?_
  refine th_ret ?_
  replace H := H.nilrow (cSl (cInt .i64)) 23; try dsimp only [setn, addE, goneL] at H
  obtain rfl := Option.some.inj hP
  refine ret2 E rfl rfl rfl ?_
  exact ⟨_, rfl, none, 0, rfl, H.sel [4] rfl⟩
 replace E := E_; clear E_
 have h29 : (r18 : Int) = 0 := bne_eq_false_iff_eq.1 hb_
 clear hb_; replace hP := ite_t h29 hP
 refine c_false E rfl ?_
 refine wp_skip ?_
 refine th_n ?_
 refine wp_seq ?_
 refine wp_region_lit ?_
 refine vn tbok 1 [] [(5, .slice none 0 0)] [] E (by kernel_rfl) (by kernel_rfl) trivial ?_
 clear E; intro a E
 refine wpList_nil ?_
 refine th_n ?_
 refine wp_seq ?_
 refine wp_seq ?_
 refine wp_region_lit ?_
 refine vn tbok 4 [.slice A5 (List.length aGuard) c6] [(16, .slice A5 (List.length aGuard) c6), (17, .int .i64 (((List.length aGuard) : Nat) : Int)), (18, .int .i64 0)] [World.cell? w24 ⟨g13, 2, none⟩ = some (.slice A5 (List.length aGuard) c6)] E (by kernel_rfl) (by kernel_rfl) ((H.box 3 rfl).cell (j := 2) rfl) ?_
 clear E; intro a E
 refine wpList_nil ?_
 refine th_n ?_
 refine wp_block ?_
 obtain ⟨x105, hL106, hK107⟩ := bind_inv hP
 clear hP
 replace H := H.nilrow (cSl (cInt .i64)) 23; try dsimp only [setn, addE, goneL] at H
 refine loop_cut (fun i_ a w_ => (i_ = 0 ∧ ∃ (x111 : List (List Int)), ∃ (A102 : Option Addr) (c103 : Nat), Fr a 40 [(5, .slice A102 (List.length x111) c103)] ∧ Hp S Fa w0 w_ [.row true (cSl (cInt .i64)) 23 A102 c103 x111] ∧ x105 = Sum.inl x111)) ?_ ?_
 ·
  refine loopV (fun m110 a w109 => ∃ (out63 : List (List Int)) (x66 : Int), ∃ (A64 : Option Addr) (c65 : Nat), Fr a 40 [(1, .pointer (some ⟨g13, 0, none⟩)), (5, .slice A64 (List.length out63) c65), (16, .slice A5 (List.length aGuard) c6), (17, .int .i64 (((List.length aGuard) : Nat) : Int)), (18, .int .i64 x66)] ∧ Hp S Fa w0 w109 [.ro false cBool A1 aAccept, .ro false (cInt .i64) A5 aGuard, .ro false cNode A9 aNodes, .box g13 26 [.int .i64 aProps, .slice A1 (List.length aAccept) c2, .slice A5 (List.length aGuard) c6, .slice A9 (List.length aNodes) c10], .row true (cSl (cInt .i64)) 23 A64 c65 out63] ∧ lang_table_l0 N aProps aGuard aNodes m110 out63 x66 = some x105) N ?_ ?_
  ·
   exact ⟨[], 0, none, 0, E.pick _ ⟨rfl, rfl, rfl, rfl, rfl, trivial⟩, H.sel [0, 1, 2, 3, 4] rfl, hL106⟩
  clear E H hL106; intro m110 a w109 hI_
  obtain ⟨out63, x66, A64, c65, E, H, hP⟩ := hI_
  obtain ⟨m104, rfl⟩ : ∃ q_, m110 = q_ + 1 := by cases m110 with | zero => rw [lang_table_l0] at hP; cases hP | succ q_ => exact ⟨q_, rfl⟩
  rw [lang_table_l0] at hP
  refine wp_seq ?_
  refine wp_region_lit ?_
  refine vn tbok 1 [] [(19, .bool (decide (x66 < (((List.length aGuard) : Nat) : Int))))] [] E (by kernel_rfl) (by kernel_rfl) trivial ?_
  clear E; intro a E
  refine wpList_nil ?_
  refine th_n ?_
  refine wp_seq ?_
  refine E.cases (t := 19) rfl (fun hb_ E_ => ?_) (fun hb_ E_ => ?_)
  ·
   replace E := E_; clear E_
   have h112 : x66 < (((List.length aGuard) : Nat) : Int) := of_decide_eq_true hb_
   clear hb_; replace hP := ite_t h112 hP
   refine c_true E rfl ?_
   refine wp_skip ?_
   refine th_n ?_
   refine wp_seq ?_
   refine wp_block ?_
   refine wp_seq ?_
   refine wp_region_lit ?_
   obtain ⟨g113, hP⟩ := ask_inv hP
   obtain ⟨b114, o115, e_b114⟩ := (H.rd 1 rds_ro).addr (idx_pos g113)
   subst e_b114
   refine vn tbok 3 [.int .i64 (List.getD aGuard (Int.toNat x66) 0)] [(7, .int .i64 (List.getD aGuard (Int.toNat x66) 0))] [0 ≤ x66 ∧ x66 < (((List.length aGuard) : Nat) : Int), World.cell? w109 ⟨b114, o115 + (Int.toNat x66) * 1, none⟩ = some (.int .i64 (List.getD aGuard (Int.toNat x66) 0))] E (by kernel_rfl) (by kernel_rfl) ⟨g113, Rds.at1 (H.rd 1 rds_ro) 0 g113⟩ ?_
   clear E; intro a E
   refine wpList_nil ?_
   refine th_n ?_
   refine wp_seq ?_
   refine wp_region_lit ?_
   refine vn tbok 5 [.int .i64 aProps, .slice A9 (List.length aNodes) c10] [(24, .int .i64 aProps), (26, .slice A9 (List.length aNodes) c10), (27, .int .i64 (List.getD aGuard (Int.toNat x66) 0))] [World.cell? w109 ⟨g13, 0, none⟩ = some (.int .i64 aProps), World.cell? w109 ⟨g13, 3, none⟩ = some (.slice A9 (List.length aNodes) c10)] E (by kernel_rfl) (by kernel_rfl) ⟨(H.box 3 rfl).cell (j := 0) rfl, (H.box 3 rfl).cell (j := 3) rfl⟩ ?_
   clear E; intro a E
   obtain ⟨r116, h117, hP⟩ := bind_inv hP
   obtain ⟨Fa118, Hc119, hb120⟩ := H.call [] [(2, false)] rfl rfl trivial
   refine e_call E rfl rfl Try.func63 rfl rfl rfl (guard_Table_calls A9 c10 aProps aNodes (List.getD aGuard (Int.toNat x66) 0) hk11 Hc119 h117) ?_
   rintro v121 w122 a ⟨A125, c126, rfl, HR123⟩ E_
   replace E := E_ _ rfl; clear E_
   obtain ⟨H_, hc124⟩ := hb120 _ _ HR123 rfl
   replace H := H_; clear H_; try dsimp only [setn, addE, goneL] at H
   refine vn tbok 5 [] [(8, .slice A125 (List.length r116.1) c126), (9, .int .i64 r116.2)] [] E (by kernel_rfl) (by kernel_rfl) trivial ?_
   clear E; intro a E
   refine wpList_nil ?_
   refine th_n ?_
   refine wp_seq ?_
   refine wp_seq ?_
   refine wp_region_lit ?_
   refine vn tbok 2 [] [(32, .bool ((r116.2 : Int) != 0))] [] E (by kernel_rfl) (by kernel_rfl) trivial ?_
   clear E; intro a E
   refine wpList_nil ?_
   refine th_n ?_
   refine E.cases (t := 32) rfl (fun hb_ E_ => ?_) (fun hb_ E_ => ?_)
   ·
    replace E := E_; clear E_
    have h128 : ¬ ((r116.2 : Int) = 0) := bne_iff_ne.1 hb_
    clear hb_; replace hP := ite_f h128 hP
    refine c_true E rfl ?_
    refine wp_seq ?_
    refine wp_region_lit ?_
    refine vn tbok 3 [] [(2, .slice none 0 0), (3, .int .i64 r116.2)] [] E (by kernel_rfl) (by kernel_rfl) trivial ?_
    clear E; intro a E
    refine wpList_nil ?_
    refine th_n ?_
    refine wp_ret ?_
    refine th_ret ?_
    refine bl_ret ?_
    refine th_ret ?_
    refine th_ret ?_
    refine .inr ⟨rfl, ?_⟩
    refine bl_ret ?_
    refine th_ret ?_
    replace H := H.nilrow (cSl (cInt .i64)) 23; try dsimp only [setn, addE, goneL] at H
    have hx_ := Option.some.inj hP; subst hx_
    have hP : some (([], r116.2)) = some r := hK107
    obtain rfl := Option.some.inj hP
    refine ret2 E rfl rfl rfl ?_
    exact ⟨_, rfl, none, 0, rfl, H.sel [6] rfl⟩
   replace E := E_; clear E_
   have h130 : (r116.2 : Int) = 0 := bne_eq_false_iff_eq.1 hb_
   clear hb_; replace hP := ite_t h130 hP
   refine c_false E rfl ?_
   refine wp_skip ?_
   refine th_n ?_
   refine wp_region_lit ?_
   refine vn tbok 2 [] [(34, .slice A64 (List.length out63) c65), (35, .slice A125 (List.length r116.1) c126)] [] E (by kernel_rfl) (by kernel_rfl) trivial ?_
   clear E; intro a E
   refine h_buildSlice (ps := [(0, .slice A125 (List.length r116.1) c126)]) (cs := [.slice A125 (List.length r116.1) c126]) H E rfl rfl tbok rfl rfl (by kernel_rfl) ?_
   intro w132 g131 a hc133 hg135 H_ E_
   replace E := E_ _ rfl; clear E_
   replace H := H_; clear H_; try dsimp only [setn, addE, goneL] at H
   have hk136 := H.rcap 5 rfl
   replace H := H.frz 5 rfl; try dsimp only [setn, addE, goneL] at H
   obtain ⟨g137, hP⟩ := ask_inv hP
   refine h_append (cSl (cInt .i64)) (xs := out63) (ys := ([r116.1] : List (List Int))) ([] : List Int) H 4 rfl E rfl rfl tbok rfl rfl rfl rfl rfl (fun _ _ => kSl_nil) rfl rfl (fun _ HF_ => HF_.srcB 6 rfl ⟨_, _, rfl, ⟨_, _, rfl, hk136, (HF_.roC 5 rfl)⟩, rfl⟩) g137 ?_
   intro w138 A139 c140 a hc141 hA142 H_ E_
   replace E := E_ _ rfl; clear E_
   replace H := H_; clear H_; try dsimp only [setn, addE, goneL] at H
   refine vn tbok 1 [] [(5, .slice A139 (List.length (out63 ++ ([r116.1] : List (List Int)))) c140)] [] E (by kernel_rfl) (by kernel_rfl) trivial ?_
   clear E; intro a E
   refine wpList_nil ?_
   refine bl_n ?_
   refine th_n ?_
   refine wp_region_lit ?_
   obtain ⟨g143, hP⟩ := ask_inv hP
   refine vn tbok 2 [.int .i64 (x66 + 1)] [(18, .int .i64 (x66 + 1))] [IntKind.i64.wrap (x66 + 1) = x66 + 1] E (by kernel_rfl) (by kernel_rfl) (wrap_in g143) ?_
   clear E; intro a E
   refine wpList_nil ?_
   exact th_n ⟨m104, Nat.lt_succ_self _, out63 ++ ([r116.1] : List (List Int)), x66 + 1, A139, c140, E.pick _ ⟨rfl, rfl, rfl, rfl, rfl, trivial⟩, H.sel [0, 1, 2, 3, 4] rfl, hP⟩
  replace E := E_; clear E_
  have h144 : ¬ (x66 < (((List.length aGuard) : Nat) : Int)) := of_decide_eq_false hb_
  clear hb_; replace hP := ite_f h144 hP
  refine c_false E rfl ?_
  refine wp_exit ?_
  refine th_exit ?_
  have hx_ := Option.some.inj hP
  refine th_exit (.inl ⟨0, rfl, ?_⟩)
  exact ⟨rfl, out63, A64, c65, E.pick _ ⟨rfl, trivial⟩, H.sel [4] rfl, hx_.symm⟩
 clear E H hL106; intro i_ a w109 hM_
 obtain ⟨rfl, x111, A102, c103, E, H, hx_⟩ := hM_
 subst hx_; have hP := elim_l hK107
 clear hK107
 refine bl_hit ?_
 refine th_n ?_
 refine wp_seq ?_
 refine wp_region_lit ?_
 refine vn tbok 3 [] [(2, .slice A102 (List.length x111) c103), (3, .int .i64 0)] [] E (by kernel_rfl) (by kernel_rfl) trivial ?_
 clear E; intro a E
 refine wpList_nil ?_
 refine th_n ?_
 refine wp_ret ?_
 obtain rfl := Option.some.inj hP
 refine ret2 E rfl rfl rfl ?_
 exact ⟨_, rfl, A102, c103, rfl, H.sel [0] rfl⟩

/-! rejoinder/letter.number -/
def letter_number (N : Nat) (n : Int) : Option Bool :=
  if 0 ≤ n then
    some (decide (n ≤ 8))
  else
    some false
set_option maxRecDepth 100000 in
set_option maxHeartbeats 4000000 in
theorem letter_number_calls {N : Nat} {S Fa : Nat → Prop} {w0 : World} {r : Bool} (n : Int) (H : Hp S Fa w0 w0 []) (hP : letter_number N n = some r) :
    Calls Try.prog 39 #[.int .i64 n] w0 fun e w' => ∃ v, e = .returned v ∧ v = .bool r ∧ Hp S Fa w0 w' [] := by
 refine enterV (n := 9) Try.func39 rfl rfl rfl ?_
 intro a E
 replace E := E.pick [(0, .int .i64 n)] ⟨rfl, trivial⟩
 rw [letter_number] at hP
 refine wp_seq ?_
 refine wp_region_lit ?_
 refine vn tbok 1 [] [] [] E (by kernel_rfl) (by kernel_rfl) trivial ?_
 clear E; intro a E
 refine wpList_nil ?_
 refine th_n ?_
 refine wp_seq ?_
 refine wp_region_lit ?_
 refine vn tbok 3 [] [(5, .bool (decide (0 ≤ n)))] [] E (by kernel_rfl) (by kernel_rfl) trivial ?_
 clear E; intro a E
 refine E.cases (t := 5) rfl (fun hb_ E_ => ?_) (fun hb_ E_ => ?_)
 ·
  replace E := E_; clear E_
  have h1 : 0 ≤ n := of_decide_eq_true hb_
  clear hb_; replace hP := ite_t h1 hP
  refine vn tbok 4 [] [(2, .bool (decide (n ≤ 8)))] [] E (by kernel_rfl) (by kernel_rfl) trivial ?_
  clear E; intro a E
  refine wpList_nil ?_
  refine th_n ?_
  refine wp_ret ?_
  obtain rfl := Option.some.inj hP
  refine ret1 E rfl rfl ?_
  exact ⟨_, rfl, rfl, H.sel [] rfl⟩
 replace E := E_; clear E_
 have h2 : ¬ (0 ≤ n) := of_decide_eq_false hb_
 clear hb_; replace hP := ite_f h2 hP
 refine vn tbok 4 [] [(2, .bool false)] [] E (by kernel_rfl) (by kernel_rfl) trivial ?_
 clear E; intro a E
 refine wpList_nil ?_
 refine th_n ?_
 refine wp_ret ?_
 obtain rfl := Option.some.inj hP
 refine ret1 E rfl rfl ?_
 exact ⟨_, rfl, rfl, H.sel [] rfl⟩

/-! rejoinder/letter.Fits -/
def letter_Fits (N : Nat) (n : Int) (ll : Int) : Option Bool :=
  Option.bind (letter_number N n) fun r1 =>
  if r1 = true then
    ask (in64 ll) <|
    ask (0 ≤ n) <|
    some ((shrV .i64 ll n : Int) == 0)
  else
    some false
set_option maxRecDepth 100000 in
set_option maxHeartbeats 4000000 in
theorem letter_Fits_calls {N : Nat} {S Fa : Nat → Prop} {w0 : World} {r : Bool} (n : Int) (ll : Int) (H : Hp S Fa w0 w0 []) (hP : letter_Fits N n ll = some r) :
    Calls Try.prog 40 #[.int .i64 n, .int .u8 ll] w0 fun e w' => ∃ v, e = .returned v ∧ v = .bool r ∧ Hp S Fa w0 w' [] := by
 refine enterV (n := 14) Try.func40 rfl rfl rfl ?_
 intro a E
 replace E := E.pick [(0, .int .i64 n), (1, .int .u8 ll)] ⟨rfl, rfl, trivial⟩
 rw [letter_Fits] at hP
 refine wp_seq ?_
 refine wp_region_lit ?_
 refine vn tbok 1 [] [] [] E (by kernel_rfl) (by kernel_rfl) trivial ?_
 clear E; intro a E
 refine wpList_nil ?_
 refine th_n ?_
 refine wp_seq ?_
 refine wp_region_lit ?_
 refine vn tbok 1 [] [(5, .int .i64 n)] [] E (by kernel_rfl) (by kernel_rfl) trivial ?_
 clear E; intro a E
 obtain ⟨r1, h2, hP⟩ := bind_inv hP
 obtain ⟨Fa3, Hc4, hb5⟩ := H.call [] [] rfl rfl trivial
 refine e_call E rfl rfl Try.func39 rfl rfl rfl (letter_number_calls  n  Hc4 h2) ?_
 rintro v6 w7 a ⟨rfl, HR8⟩ E_
 replace E := E_ _ rfl; clear E_
 obtain ⟨H_, hc9⟩ := hb5 _ _ HR8 rfl
 replace H := H_; clear H_; try dsimp only [setn, addE, goneL] at H
 refine vn tbok 1 [] [(7, .bool r1)] [] E (by kernel_rfl) (by kernel_rfl) trivial ?_
 clear E; intro a E
 refine E.cases (t := 7) rfl (fun hb_ E_ => ?_) (fun hb_ E_ => ?_)
 ·
  replace E := E_; clear E_
  have h10 : r1 = true := hb_
  clear hb_; replace hP := ite_t h10 hP
  obtain ⟨g11, hP⟩ := ask_inv hP
  obtain ⟨g12, hP⟩ := ask_inv hP
  refine vn tbok 7 [.int .i64 ll, .int .i64 (shrV .i64 ll n)] [(4, .bool ((shrV .i64 ll n : Int) == 0))] [IntKind.i64.wrap ll = ll, 0 ≤ n ∧ Int.fdiv ll (2 ^ (min (Int.toNat n) (IntKind.bits .i64))) = shrV .i64 ll n] E (by kernel_rfl) (by kernel_rfl) ⟨wrap_in g11, ⟨g12, rfl⟩⟩ ?_
  clear E; intro a E
  refine wpList_nil ?_
  refine th_n ?_
  refine wp_ret ?_
  obtain rfl := Option.some.inj hP
  refine ret1 E rfl rfl ?_
  exact ⟨_, rfl, rfl, H.sel [] rfl⟩
 replace E := E_; clear E_
 have h13 : ¬ (r1 = true) := (ne_true_of_eq_false hb_)
 clear hb_; replace hP := ite_f h13 hP
 refine vn tbok 7 [] [(4, .bool false)] [] E (by kernel_rfl) (by kernel_rfl) trivial ?_
 clear E; intro a E
 refine wpList_nil ?_
 refine th_n ?_
 refine wp_ret ?_
 obtain rfl := Option.some.inj hP
 refine ret1 E rfl rfl ?_
 exact ⟨_, rfl, rfl, H.sel [] rfl⟩

/-! rejoinder/letter.Trace -/
def letter_Trace_l0 (N : Nat) (n : Int) (t : List Int) : Nat → Int → Option (Unit ⊕ Int)
  | 0, _ => none
  | m52 + 1, x34 =>
    if x34 < (((List.length t) : Nat) : Int) then
      ask (idx x34 (List.length t)) <|
      Option.bind (letter_Fits N n (List.getD t (Int.toNat x34) 0)) fun r63 =>
      if r63 = true then
        ask (in64 (x34 + 1)) <|
        letter_Trace_l0 N n t m52 (x34 + 1)
      else
        some (Sum.inr 2)
    else
      some (Sum.inl ())
def letter_Trace (N : Nat) (n : Int) (t : List Int) : Option Int :=
  Option.bind (letter_number N n) fun r5 =>
  if r5 = true then
    if 1024 < (((List.length t) : Nat) : Int) then
      some 3
    else
      Option.bind (letter_Trace_l0 N n t N 0) fun x53 =>
      Sum.elim (fun x58 =>
        some 0)
       (fun x76 =>
        some x76) x53
  else
    some 2
set_option maxRecDepth 100000 in
set_option maxHeartbeats 4000000 in
theorem letter_Trace_calls {N : Nat} {S Fa : Nat → Prop} {w0 : World} {r : Int} (A1 : Option Addr) (c2 : Nat) (n : Int) (t : List Int) (hk3 : List.length t ≤ c2) (H : Hp S Fa w0 w0 [.ro false (cInt .u8) A1 t]) (hP : letter_Trace N n t = some r) :
    Calls Try.prog 10 #[.int .i64 n, .slice A1 (List.length t) c2] w0 fun e w' => ∃ v, e = .returned v ∧ v = .int .i64 r ∧ Hp S Fa w0 w' [] := by
 refine enterV (n := 24) Try.func10 rfl rfl rfl ?_
 intro a E
 replace E := E.pick [(0, .int .i64 n), (1, .slice A1 (List.length t) c2)] ⟨rfl, rfl, trivial⟩
 rw [letter_Trace] at hP
 refine wp_seq ?_
 refine wp_region_lit ?_
 refine vn tbok 1 [] [] [] E (by kernel_rfl) (by kernel_rfl) trivial ?_
 clear E; intro a E
 refine wpList_nil ?_
 refine th_n ?_
 refine wp_seq ?_
 refine wp_seq ?_
 refine wp_region_lit ?_
 refine vn tbok 1 [] [(7, .int .i64 n)] [] E (by kernel_rfl) (by kernel_rfl) trivial ?_
 clear E; intro a E
 obtain ⟨r5, h6, hP⟩ := bind_inv hP
 obtain ⟨Fa7, Hc8, hb9⟩ := H.call [] [] rfl rfl trivial
 refine e_call E rfl rfl Try.func39 rfl rfl rfl (letter_number_calls  n  Hc8 h6) ?_
 rintro v10 w11 a ⟨rfl, HR12⟩ E_
 replace E := E_ _ rfl; clear E_
 obtain ⟨H_, hc13⟩ := hb9 _ _ HR12 rfl
 replace H := H_; clear H_; try dsimp only [setn, addE, goneL] at H
 refine vn tbok 1 [] [(9, .bool (!r5))] [] E (by kernel_rfl) (by kernel_rfl) trivial ?_
 clear E; intro a E
 refine wpList_nil ?_
 refine th_n ?_
 refine E.cases (t := 9) rfl (fun hb_ E_ => ?_) (fun hb_ E_ => ?_)
 ·
  replace E := E_; clear E_
  have h14 : ¬ (r5 = true) := (ne_true_of_eq_false (not_t hb_))
  clear hb_; replace hP := ite_f h14 hP
  refine c_true E rfl ?_
  refine wp_seq ?_
  refine wp_region_lit ?_
  refine vn tbok 1 [] [(4, .int .i64 2)] [] E (by kernel_rfl) (by kernel_rfl) trivial ?_
  clear E; intro a E
  refine wpList_nil ?_
  refine th_n ?_
  refine wp_ret ?_
  refine th_ret ?_
  obtain rfl := Option.some.inj hP
  refine ret1 E rfl rfl ?_
  exact ⟨_, rfl, rfl, H.sel [] rfl⟩
 replace E := E_; clear E_
 have h15 : r5 = true := (not_f hb_)
 clear hb_; replace hP := ite_t h15 hP
 refine c_false E rfl ?_
 refine wp_skip ?_
 refine th_n ?_
 refine wp_seq ?_
 refine wp_seq ?_
 refine wp_region_lit ?_
 refine vn tbok 3 [] [(12, .bool (decide (1024 < (((List.length t) : Nat) : Int))))] [] E (by kernel_rfl) (by kernel_rfl) trivial ?_
 clear E; intro a E
 refine wpList_nil ?_
 refine th_n ?_
 refine E.cases (t := 12) rfl (fun hb_ E_ => ?_) (fun hb_ E_ => ?_)
 ·
  replace E := E_; clear E_
  have h16 : 1024 < (((List.length t) : Nat) : Int) := of_decide_eq_true hb_
  clear hb_; replace hP := ite_t h16 hP
  refine c_true E rfl ?_
  refine wp_seq ?_
  refine wp_region_lit ?_
  refine vn tbok 1 [] [(4, .int .i64 3)] [] E (by kernel_rfl) (by kernel_rfl) trivial ?_
  clear E; intro a E
  refine wpList_nil ?_
  refine th_n ?_
  refine wp_ret ?_
  refine th_ret ?_
  obtain rfl := Option.some.inj hP
  refine ret1 E rfl rfl ?_
  exact ⟨_, rfl, rfl, H.sel [] rfl⟩
 replace E := E_; clear E_
 have h17 : ¬ (1024 < (((List.length t) : Nat) : Int)) := of_decide_eq_false hb_
 clear hb_; replace hP := ite_f h17 hP
 refine c_false E rfl ?_
 refine wp_skip ?_
 refine th_n ?_
 refine wp_seq ?_
 refine wp_seq ?_
 refine wp_region_lit ?_
 refine vn tbok 3 [] [(13, .slice A1 (List.length t) c2), (14, .int .i64 (((List.length t) : Nat) : Int)), (15, .int .i64 0)] [] E (by kernel_rfl) (by kernel_rfl) trivial ?_
 clear E; intro a E
 refine wpList_nil ?_
 refine th_n ?_
 refine wp_block ?_
 obtain ⟨x53, hL54, hK55⟩ := bind_inv hP
 clear hP
 refine loop_cut (fun i_ a w_ => (i_ = 0 ∧ ∃ (x58 : Unit), Fr a 24 [] ∧ Hp S Fa w0 w_ [] ∧ x53 = Sum.inl x58)) ?_ ?_
 ·
  refine loopV (fun m57 a w56 => ∃ (x34 : Int), Fr a 24 [(0, .int .i64 n), (13, .slice A1 (List.length t) c2), (14, .int .i64 (((List.length t) : Nat) : Int)), (15, .int .i64 x34)] ∧ Hp S Fa w0 w56 [.ro false (cInt .u8) A1 t] ∧ letter_Trace_l0 N n t m57 x34 = some x53) N ?_ ?_
  ·
   exact ⟨0, E.pick _ ⟨rfl, rfl, rfl, rfl, trivial⟩, H.sel [0] rfl, hL54⟩
  clear E H hL54; intro m57 a w56 hI_
  obtain ⟨x34, E, H, hP⟩ := hI_
  obtain ⟨m52, rfl⟩ : ∃ q_, m57 = q_ + 1 := by cases m57 with | zero => rw [letter_Trace_l0] at hP; cases hP | succ q_ => exact ⟨q_, rfl⟩
  rw [letter_Trace_l0] at hP
  refine wp_seq ?_
  refine wp_region_lit ?_
  refine vn tbok 1 [] [(16, .bool (decide (x34 < (((List.length t) : Nat) : Int))))] [] E (by kernel_rfl) (by kernel_rfl) trivial ?_
  clear E; intro a E
  refine wpList_nil ?_
  refine th_n ?_
  refine wp_seq ?_
  refine E.cases (t := 16) rfl (fun hb_ E_ => ?_) (fun hb_ E_ => ?_)
  ·
   replace E := E_; clear E_
   have h59 : x34 < (((List.length t) : Nat) : Int) := of_decide_eq_true hb_
   clear hb_; replace hP := ite_t h59 hP
   refine c_true E rfl ?_
   refine wp_skip ?_
   refine th_n ?_
   refine wp_seq ?_
   refine wp_block ?_
   refine wp_seq ?_
   refine wp_region_lit ?_
   obtain ⟨g60, hP⟩ := ask_inv hP
   obtain ⟨b61, o62, e_b61⟩ := (H.rd 0 rds_ro).addr (idx_pos g60)
   subst e_b61
   refine vn tbok 3 [.int .u8 (List.getD t (Int.toNat x34) 0)] [(6, .int .u8 (List.getD t (Int.toNat x34) 0))] [0 ≤ x34 ∧ x34 < (((List.length t) : Nat) : Int), World.cell? w56 ⟨b61, o62 + (Int.toNat x34) * 1, none⟩ = some (.int .u8 (List.getD t (Int.toNat x34) 0))] E (by kernel_rfl) (by kernel_rfl) ⟨g60, Rds.at1 (H.rd 0 rds_ro) 0 g60⟩ ?_
   clear E; intro a E
   refine wpList_nil ?_
   refine th_n ?_
   refine wp_seq ?_
   refine wp_region_lit ?_
   refine vn tbok 2 [] [(19, .int .i64 n), (20, .int .u8 (List.getD t (Int.toNat x34) 0))] [] E (by kernel_rfl) (by kernel_rfl) trivial ?_
   clear E; intro a E
   obtain ⟨r63, h64, hP⟩ := bind_inv hP
   obtain ⟨Fa65, Hc66, hb67⟩ := H.call [] [] rfl rfl trivial
   refine e_call E rfl rfl Try.func40 rfl rfl rfl (letter_Fits_calls  n (List.getD t (Int.toNat x34) 0)  Hc66 h64) ?_
   rintro v68 w69 a ⟨rfl, HR70⟩ E_
   replace E := E_ _ rfl; clear E_
   obtain ⟨H_, hc71⟩ := hb67 _ _ HR70 rfl
   replace H := H_; clear H_; try dsimp only [setn, addE, goneL] at H
   refine vn tbok 1 [] [(22, .bool (!r63))] [] E (by kernel_rfl) (by kernel_rfl) trivial ?_
   clear E; intro a E
   refine wpList_nil ?_
   refine th_n ?_
   refine E.cases (t := 22) rfl (fun hb_ E_ => ?_) (fun hb_ E_ => ?_)
   ·
    replace E := E_; clear E_
    have h72 : ¬ (r63 = true) := (ne_true_of_eq_false (not_t hb_))
    clear hb_; replace hP := ite_f h72 hP
    refine c_true E rfl ?_
    refine wp_seq ?_
    refine wp_region_lit ?_
    refine vn tbok 1 [] [(4, .int .i64 2)] [] E (by kernel_rfl) (by kernel_rfl) trivial ?_
    clear E; intro a E
    refine wpList_nil ?_
    refine th_n ?_
    refine wp_ret ?_
    refine bl_ret ?_
    refine th_ret ?_
    refine th_ret ?_
    refine .inr ⟨rfl, ?_⟩
    refine bl_ret ?_
    refine th_ret ?_
    have hx_ := Option.some.inj hP; subst hx_
    have hP : some (2) = some r := hK55
    obtain rfl := Option.some.inj hP
    refine ret1 E rfl rfl ?_
    exact ⟨_, rfl, rfl, H.sel [] rfl⟩
   replace E := E_; clear E_
   have h73 : r63 = true := (not_f hb_)
   clear hb_; replace hP := ite_t h73 hP
   refine c_false E rfl ?_
   refine wp_skip ?_
   refine bl_n ?_
   refine th_n ?_
   refine wp_region_lit ?_
   obtain ⟨g74, hP⟩ := ask_inv hP
   refine vn tbok 2 [.int .i64 (x34 + 1)] [(15, .int .i64 (x34 + 1))] [IntKind.i64.wrap (x34 + 1) = x34 + 1] E (by kernel_rfl) (by kernel_rfl) (wrap_in g74) ?_
   clear E; intro a E
   refine wpList_nil ?_
   exact th_n ⟨m52, Nat.lt_succ_self _, x34 + 1, E.pick _ ⟨rfl, rfl, rfl, rfl, trivial⟩, H.sel [0] rfl, hP⟩
  replace E := E_; clear E_
  have h75 : ¬ (x34 < (((List.length t) : Nat) : Int)) := of_decide_eq_false hb_
  clear hb_; replace hP := ite_f h75 hP
  refine c_false E rfl ?_
  refine wp_exit ?_
  refine th_exit ?_
  have hx_ := Option.some.inj hP
  refine th_exit (.inl ⟨0, rfl, ?_⟩)
  exact ⟨rfl, (), E.pick _ trivial, H.sel [] rfl, hx_.symm⟩
 clear E H hL54; intro i_ a w56 hM_
 obtain ⟨rfl, x58, E, H, hx_⟩ := hM_
 subst hx_; have hP := elim_l hK55
 clear hK55
 refine bl_hit ?_
 refine th_n ?_
 refine wp_seq ?_
 refine wp_region_lit ?_
 refine vn tbok 1 [] [(4, .int .i64 0)] [] E (by kernel_rfl) (by kernel_rfl) trivial ?_
 clear E; intro a E
 refine wpList_nil ?_
 refine th_n ?_
 refine wp_ret ?_
 obtain rfl := Option.some.inj hP
 refine ret1 E rfl rfl ?_
 exact ⟨_, rfl, rfl, H.sel [] rfl⟩

/-! rejoinder/lang.Accepts -/
def lang_Accepts_l0 (N : Nat) (t : List Int) (r22 : (List (List Int)) × Int) : Nat → Int → Int → Option Int
  | 0, _, _ => none
  | m83 + 1, q63, x64 =>
    if x64 < (((List.length t) : Nat) : Int) then
      ask (idx x64 (List.length t)) <|
      ask (idx q63 (List.length r22.1)) <|
      ask (idx (List.getD t (Int.toNat x64) 0) (List.length (List.getD r22.1 (Int.toNat q63) []))) <|
      ask (in64 (x64 + 1)) <|
      lang_Accepts_l0 N t r22 m83 (List.getD (List.getD r22.1 (Int.toNat q63) []) (Int.toNat (List.getD t (Int.toNat x64) 0)) 0) (x64 + 1)
    else
      some q63
def lang_Accepts (N : Nat) (aProps : Int) (aAccept : List Bool) (aGuard : List Int) (aNodes : List Nd) (t : List Int) : Option (Bool × Int) :=
  Option.bind (lang_table N aProps aAccept aGuard aNodes) fun r22 =>
  if (r22.2 : Int) = 0 then
    Option.bind (letter_Trace N aProps t) fun r36 =>
    if (r36 : Int) = 0 then
      Option.bind (lang_Accepts_l0 N t r22 N 0 0) fun x84 =>
      ask (idx x84 (List.length aAccept)) <|
      some ((List.getD aAccept (Int.toNat x84) false), 0)
    else
      some (false, r36)
  else
    some (false, r22.2)
set_option maxRecDepth 100000 in
set_option maxHeartbeats 4000000 in
theorem lang_Accepts_calls {N : Nat} {S Fa : Nat → Prop} {w0 : World} {r : Bool × Int} (A1 : Option Addr) (c2 : Nat) (A5 : Option Addr) (c6 : Nat) (A9 : Option Addr) (c10 : Nat) (A13 : Option Addr) (c14 : Nat) (aProps : Int) (aAccept : List Bool) (aGuard : List Int) (aNodes : List Nd) (t : List Int) (hk3 : List.length aAccept ≤ c2) (hk7 : List.length aGuard ≤ c6) (hk11 : List.length aNodes ≤ c10) (hk15 : List.length t ≤ c14) (H : Hp S Fa w0 w0 [.ro false cBool A1 aAccept, .ro false (cInt .i64) A5 aGuard, .ro false cNode A9 aNodes, .ro false (cInt .u8) A13 t]) (hP : lang_Accepts N aProps aAccept aGuard aNodes t = some r) :
    Calls Try.prog 12 #[.agg #[.int .i64 aProps, .slice A1 (List.length aAccept) c2, .slice A5 (List.length aGuard) c6, .slice A9 (List.length aNodes) c10], .slice A13 (List.length t) c14] w0 fun e w' => ∃ v, e = .returned v ∧ v = .tuple #[.bool r.1, .int .i64 r.2] ∧ Hp S Fa w0 w' [] := by
 refine enterV (n := 46) Try.func12 rfl rfl rfl ?_
 intro a E
 replace E := E.pick [(0, .agg #[.int .i64 aProps, .slice A1 (List.length aAccept) c2, .slice A5 (List.length aGuard) c6, .slice A9 (List.length aNodes) c10]), (1, .slice A13 (List.length t) c14)] ⟨rfl, rfl, trivial⟩
 rw [lang_Accepts] at hP
 refine wp_seq ?_
 refine wp_region_lit ?_
 refine h_box H E rfl rfl rfl ?_
 intro w18 g17 a hc19 hg21 H_ E_
 replace E := E_ _ rfl; clear E_
 replace H := H_; clear H_; try dsimp only [setn, addE, goneL] at H
 refine vn tbok 2 [] [] [] E (by kernel_rfl) (by kernel_rfl) trivial ?_
 clear E; intro a E
 refine wpList_nil ?_
 refine th_n ?_
 refine wp_seq ?_
 refine wp_region_lit ?_
 refine vn tbok 1 [.agg #[.int .i64 aProps, .slice A1 (List.length aAccept) c2, .slice A5 (List.length aGuard) c6, .slice A9 (List.length aNodes) c10]] [(13, .agg #[.int .i64 aProps, .slice A1 (List.length aAccept) c2, .slice A5 (List.length aGuard) c6, .slice A9 (List.length aNodes) c10])] [cellsAt w18 g17 (0) [.int .i64 aProps, .slice A1 (List.length aAccept) c2, .slice A5 (List.length aGuard) c6, .slice A9 (List.length aNodes) c10]] E (by kernel_rfl) (by kernel_rfl) ((H.box 4 rfl).sub 0 _ rfl) ?_
 clear E; intro a E
 obtain ⟨r22, h23, hP⟩ := bind_inv hP
 obtain ⟨Fa24, Hc25, hb26⟩ := H.call [] [(0, false), (1, false), (2, false)] rfl rfl trivial
 refine e_call E rfl rfl Try.func41 rfl rfl rfl (lang_table_calls A1 c2 A5 c6 A9 c10 aProps aAccept aGuard aNodes hk3 hk7 hk11 Hc25 h23) ?_
 rintro v27 w28 a ⟨A31, c32, rfl, HR29⟩ E_
 replace E := E_ _ rfl; clear E_
 obtain ⟨H_, hc30⟩ := hb26 _ _ HR29 rfl
 replace H := H_; clear H_; try dsimp only [setn, addE, goneL] at H
 refine vn tbok 5 [] [(6, .slice A31 (List.length r22.1) c32), (7, .int .i64 r22.2)] [] E (by kernel_rfl) (by kernel_rfl) trivial ?_
 clear E; intro a E
 refine wpList_nil ?_
 refine th_n ?_
 refine wp_seq ?_
 refine wp_seq ?_
 refine wp_region_lit ?_
 refine vn tbok 2 [] [(18, .bool ((r22.2 : Int) != 0))] [] E (by kernel_rfl) (by kernel_rfl) trivial ?_
 clear E; intro a E
 refine wpList_nil ?_
 refine th_n ?_
 refine E.cases (t := 18) rfl (fun hb_ E_ => ?_) (fun hb_ E_ => ?_)
 ·
  replace E := E_; clear E_
  have h34 : ¬ ((r22.2 : Int) = 0) := bne_iff_ne.1 hb_
  clear hb_; replace hP := ite_f h34 hP
  refine c_true E rfl ?_
  refine wp_seq ?_
  refine wp_region_lit ?_
  refine vn tbok 3 [] [(4, .bool false), (5, .int .i64 r22.2)] [] E (by kernel_rfl) (by kernel_rfl) trivial ?_
  clear E; intro a E
  refine wpList_nil ?_
  refine th_n ?_
  refine wp_ret ?_
  refine th_ret ?_
  obtain rfl := Option.some.inj hP
  refine ret2 E rfl rfl rfl ?_
  exact ⟨_, rfl, rfl, H.sel [] rfl⟩
 replace E := E_; clear E_
 have h35 : (r22.2 : Int) = 0 := bne_eq_false_iff_eq.1 hb_
 clear hb_; replace hP := ite_t h35 hP
 refine c_false E rfl ?_
 refine wp_skip ?_
 refine th_n ?_
 refine wp_seq ?_
 refine wp_seq ?_
 refine wp_region_lit ?_
 refine vn tbok 3 [.int .i64 aProps] [(21, .int .i64 aProps), (22, .slice A13 (List.length t) c14)] [World.cell? w28 ⟨g17, 0, none⟩ = some (.int .i64 aProps)] E (by kernel_rfl) (by kernel_rfl) ((H.box 4 rfl).cell (j := 0) rfl) ?_
 clear E; intro a E
 obtain ⟨r36, h37, hP⟩ := bind_inv hP
 obtain ⟨Fa38, Hc39, hb40⟩ := H.call [] [(3, false)] rfl rfl trivial
 refine e_call E rfl rfl Try.func10 rfl rfl rfl (letter_Trace_calls A13 c14 aProps t hk15 Hc39 h37) ?_
 rintro v41 w42 a ⟨rfl, HR43⟩ E_
 replace E := E_ _ rfl; clear E_
 obtain ⟨H_, hc44⟩ := hb40 _ _ HR43 rfl
 replace H := H_; clear H_; try dsimp only [setn, addE, goneL] at H
 refine vn tbok 1 [] [(8, .int .i64 r36)] [] E (by kernel_rfl) (by kernel_rfl) trivial ?_
 clear E; intro a E
 refine wpList_nil ?_
 refine th_n ?_
 refine wp_seq ?_
 refine wp_region_lit ?_
 refine vn tbok 2 [] [(25, .bool ((r36 : Int) != 0))] [] E (by kernel_rfl) (by kernel_rfl) trivial ?_
 clear E; intro a E
 refine wpList_nil ?_
 refine th_n ?_
 refine E.cases (t := 25) rfl (fun hb_ E_ => ?_) (fun hb_ E_ => ?_)
 ·
  replace E := E_; clear E_
  have h45 : ¬ ((r36 : Int) = 0) := bne_iff_ne.1 hb_
  clear hb_; replace hP := ite_f h45 hP
  refine c_true E rfl ?_
  refine wp_seq ?_
  refine wp_region_lit ?_
  refine vn tbok 3 [] [(4, .bool false), (5, .int .i64 r36)] [] E (by kernel_rfl) (by kernel_rfl) trivial ?_
  clear E; intro a E
  refine wpList_nil ?_
  refine th_n ?_
  refine wp_ret ?_
  refine th_ret ?_
  obtain rfl := Option.some.inj hP
  refine ret2 E rfl rfl rfl ?_
  exact ⟨_, rfl, rfl, H.sel [] rfl⟩
 replace E := E_; clear E_
 have h46 : (r36 : Int) = 0 := bne_eq_false_iff_eq.1 hb_
 clear hb_; replace hP := ite_t h46 hP
 refine c_false E rfl ?_
 refine wp_skip ?_
 refine th_n ?_
 refine wp_seq ?_
 refine wp_region_lit ?_
 refine vn tbok 1 [] [(9, .int .i64 0)] [] E (by kernel_rfl) (by kernel_rfl) trivial ?_
 clear E; intro a E
 refine wpList_nil ?_
 refine th_n ?_
 refine wp_seq ?_
 refine wp_seq ?_
 refine wp_region_lit ?_
 refine vn tbok 3 [] [(27, .slice A13 (List.length t) c14), (28, .int .i64 (((List.length t) : Nat) : Int)), (29, .int .i64 0)] [] E (by kernel_rfl) (by kernel_rfl) trivial ?_
 clear E; intro a E
 refine wpList_nil ?_
 refine th_n ?_
 refine wp_block ?_
 obtain ⟨x84, hL85, hK86⟩ := bind_inv hP
 clear hP
 refine loop_cut (fun i_ a w_ => (i_ = 0 ∧ ∃ (x89 : Int), Fr a 46 [(2, .pointer (some ⟨g17, 0, none⟩)), (9, .int .i64 x89)] ∧ Hp S Fa w0 w_ [.ro false cBool A1 aAccept, .ro false (cInt .i64) A5 aGuard, .ro false cNode A9 aNodes, .box g17 26 [.int .i64 aProps, .slice A1 (List.length aAccept) c2, .slice A5 (List.length aGuard) c6, .slice A9 (List.length aNodes) c10]] ∧ x84 = x89)) ?_ ?_
 ·
  refine loopV (fun m88 a w87 => ∃ (q63 : Int) (x64 : Int), Fr a 46 [(2, .pointer (some ⟨g17, 0, none⟩)), (6, .slice A31 (List.length r22.1) c32), (9, .int .i64 q63), (27, .slice A13 (List.length t) c14), (28, .int .i64 (((List.length t) : Nat) : Int)), (29, .int .i64 x64)] ∧ Hp S Fa w0 w87 [.ro false cBool A1 aAccept, .ro false (cInt .i64) A5 aGuard, .ro false cNode A9 aNodes, .box g17 26 [.int .i64 aProps, .slice A1 (List.length aAccept) c2, .slice A5 (List.length aGuard) c6, .slice A9 (List.length aNodes) c10], .row true (cSl (cInt .i64)) 23 A31 c32 r22.1, .ro false (cInt .u8) A13 t] ∧ lang_Accepts_l0 N t r22 m88 q63 x64 = some x84) N ?_ ?_
  ·
   exact ⟨0, 0, E.pick _ ⟨rfl, rfl, rfl, rfl, rfl, rfl, trivial⟩, H.sel [0, 1, 2, 4, 5, 3] rfl, hL85⟩
  clear E H hL85; intro m88 a w87 hI_
  obtain ⟨q63, x64, E, H, hP⟩ := hI_
  obtain ⟨m83, rfl⟩ : ∃ q_, m88 = q_ + 1 := by cases m88 with | zero => rw [lang_Accepts_l0] at hP; cases hP | succ q_ => exact ⟨q_, rfl⟩
  rw [lang_Accepts_l0] at hP
  refine wp_seq ?_
  refine wp_region_lit ?_
  refine vn tbok 1 [] [(30, .bool (decide (x64 < (((List.length t) : Nat) : Int))))] [] E (by kernel_rfl) (by kernel_rfl) trivial ?_
  clear E; intro a E
  refine wpList_nil ?_
  refine th_n ?_
  refine wp_seq ?_
  refine E.cases (t := 30) rfl (fun hb_ E_ => ?_) (fun hb_ E_ => ?_)
  ·
   replace E := E_; clear E_
   have h90 : x64 < (((List.length t) : Nat) : Int) := of_decide_eq_true hb_
   clear hb_; replace hP := ite_t h90 hP
   refine c_true E rfl ?_
   refine wp_skip ?_
   refine th_n ?_
   refine wp_seq ?_
   refine wp_block ?_
   refine wp_seq ?_
   refine wp_region_lit ?_
   obtain ⟨g91, hP⟩ := ask_inv hP
   obtain ⟨b92, o93, e_b92⟩ := (H.rd 5 rds_ro).addr (idx_pos g91)
   subst e_b92
   refine vn tbok 3 [.int .u8 (List.getD t (Int.toNat x64) 0)] [(11, .int .u8 (List.getD t (Int.toNat x64) 0))] [0 ≤ x64 ∧ x64 < (((List.length t) : Nat) : Int), World.cell? w87 ⟨b92, o93 + (Int.toNat x64) * 1, none⟩ = some (.int .u8 (List.getD t (Int.toNat x64) 0))] E (by kernel_rfl) (by kernel_rfl) ⟨g91, Rds.at1 (H.rd 5 rds_ro) 0 g91⟩ ?_
   clear E; intro a E
   refine wpList_nil ?_
   refine th_n ?_
   refine wp_region_lit ?_
   obtain ⟨g94, hP⟩ := ask_inv hP
   obtain ⟨b95, e_b95⟩ := H.raddr 4 rfl (idx_pos g94)
   subst e_b95
   obtain ⟨A97, c98, hl99, hk100, H⟩ := H.subSl 4 true (el_row rfl) g94
   try dsimp only [addE] at H
   obtain ⟨g102, hP⟩ := ask_inv hP
   obtain ⟨b103, o104, e_b103⟩ := (H.rd 6 rds_ro).addr (idx_pos g102)
   subst e_b103
   refine vn tbok 8 [.slice (some ⟨b103, o104, none⟩) (List.length (List.getD r22.1 (Int.toNat q63) [])) c98, .int .i64 (List.getD (List.getD r22.1 (Int.toNat q63) []) (Int.toNat (List.getD t (Int.toNat x64) 0)) 0)] [(9, .int .i64 (List.getD (List.getD r22.1 (Int.toNat q63) []) (Int.toNat (List.getD t (Int.toNat x64) 0)) 0))] [0 ≤ q63 ∧ q63 < (((List.length r22.1) : Nat) : Int), World.cell? w87 ⟨b95, 0 + (Int.toNat q63) * 1, none⟩ = some (.slice (some ⟨b103, o104, none⟩) (List.length (List.getD r22.1 (Int.toNat q63) [])) c98), 0 ≤ (List.getD t (Int.toNat x64) 0) ∧ (List.getD t (Int.toNat x64) 0) < (((List.length (List.getD r22.1 (Int.toNat q63) [])) : Nat) : Int), World.cell? w87 ⟨b103, o104 + (Int.toNat (List.getD t (Int.toNat x64) 0)) * 1, none⟩ = some (.int .i64 (List.getD (List.getD r22.1 (Int.toNat q63) []) (Int.toNat (List.getD t (Int.toNat x64) 0)) 0))] E (by kernel_rfl) (by kernel_rfl) ⟨g94, hl99, g102, Rds.at1 (H.rd 6 rds_ro) 0 g102⟩ ?_
   clear E; intro a E
   refine wpList_nil ?_
   refine bl_n ?_
   refine th_n ?_
   refine wp_region_lit ?_
   obtain ⟨g105, hP⟩ := ask_inv hP
   refine vn tbok 2 [.int .i64 (x64 + 1)] [(29, .int .i64 (x64 + 1))] [IntKind.i64.wrap (x64 + 1) = x64 + 1] E (by kernel_rfl) (by kernel_rfl) (wrap_in g105) ?_
   clear E; intro a E
   refine wpList_nil ?_
   exact th_n ⟨m83, Nat.lt_succ_self _, (List.getD (List.getD r22.1 (Int.toNat q63) []) (Int.toNat (List.getD t (Int.toNat x64) 0)) 0), x64 + 1, E.pick _ ⟨rfl, rfl, rfl, rfl, rfl, rfl, trivial⟩, H.sel [0, 1, 2, 3, 4, 5] rfl, hP⟩
  replace E := E_; clear E_
  have h106 : ¬ (x64 < (((List.length t) : Nat) : Int)) := of_decide_eq_false hb_
  clear hb_; replace hP := ite_f h106 hP
  refine c_false E rfl ?_
  refine wp_exit ?_
  refine th_exit ?_
  have hx_ := Option.some.inj hP
  refine th_exit (.inl ⟨0, rfl, ?_⟩)
  exact ⟨rfl, q63, E.pick _ ⟨rfl, rfl, trivial⟩, H.sel [0, 1, 2, 3] rfl, hx_.symm⟩
 clear E H hL85; intro i_ a w87 hM_
 obtain ⟨rfl, x89, E, H, hx_⟩ := hM_
 subst hx_; have hP := hK86; clear hK86
 refine bl_hit ?_
 refine th_n ?_
 refine wp_seq ?_
 refine wp_region_lit ?_
 obtain ⟨g107, hP⟩ := ask_inv hP
 obtain ⟨b108, o109, e_b108⟩ := (H.rd 0 rds_ro).addr (idx_pos g107)
 subst e_b108
 refine vn tbok 7 [.slice (some ⟨b108, o109, none⟩) (List.length aAccept) c2, .bool (List.getD aAccept (Int.toNat x84) false)] [(4, .bool (List.getD aAccept (Int.toNat x84) false)), (5, .int .i64 0)] [World.cell? w87 ⟨g17, 1, none⟩ = some (.slice (some ⟨b108, o109, none⟩) (List.length aAccept) c2), 0 ≤ x84 ∧ x84 < (((List.length aAccept) : Nat) : Int), World.cell? w87 ⟨b108, o109 + (Int.toNat x84) * 1, none⟩ = some (.bool (List.getD aAccept (Int.toNat x84) false))] E (by kernel_rfl) (by kernel_rfl) ⟨(H.box 3 rfl).cell (j := 1) rfl, g107, Rds.at1 (H.rd 0 rds_ro) false g107⟩ ?_
 clear E; intro a E
 refine wpList_nil ?_
 refine th_n ?_
 refine wp_ret ?_
 obtain rfl := Option.some.inj hP
 refine ret2 E rfl rfl rfl ?_
 exact ⟨_, rfl, rfl, H.sel [] rfl⟩

/-! rejoinder/lang.search -/
def lang_search_l1 (N : Nat) (aAccept : List Bool) (want : Bool) (r18 : (List (List Int)) × Int) (queue178 : List (Int × (List Int))) (i181 : Int) : Nat → (List (Int × Bool)) → (List (Int × (List Int))) → Int → Option (((List (Int × Bool)) × (List (Int × (List Int)))) ⊕ ((List Int) × Bool × Int))
  | 0, _, _, _ => none
  | m451 + 1, seen396, queue397, x400 =>
    if x400 < (((List.length (List.getD r18.1 (Int.toNat ((List.getD queue178 (Int.toNat i181) (0, [])).1)) [])) : Nat) : Int) then
      ask (idx x400 (List.length (List.getD r18.1 (Int.toNat ((List.getD queue178 (Int.toNat i181) (0, [])).1)) []))) <|
      ask (in64 (List.getD (List.getD r18.1 (Int.toNat ((List.getD queue178 (Int.toNat i181) (0, [])).1)) []) (Int.toNat x400) 0)) <|
      if (Option.getD (mget seen396 (List.getD (List.getD r18.1 (Int.toNat ((List.getD queue178 (Int.toNat i181) (0, [])).1)) []) (Int.toNat x400) 0)) false) = true then
        ask (in64 (x400 + 1)) <|
        lang_search_l1 N aAccept want r18 queue178 i181 m451 seen396 queue397 (x400 + 1)
      else
        ask (mget seen396 (List.getD (List.getD r18.1 (Int.toNat ((List.getD queue178 (Int.toNat i181) (0, [])).1)) []) (Int.toNat x400) 0) = none) <|
        ask (List.length ([] : List Int) + List.length ((List.getD queue178 (Int.toNat i181) (0, [])).2) ≤ 1000000000) <|
        ask (List.length (([] : List Int) ++ ((List.getD queue178 (Int.toNat i181) (0, [])).2)) + List.length ([IntKind.u8.wrap x400] : List Int) ≤ 1000000000) <|
        ask (idx (List.getD (List.getD r18.1 (Int.toNat ((List.getD queue178 (Int.toNat i181) (0, [])).1)) []) (Int.toNat x400) 0) (List.length aAccept)) <|
        if (List.getD aAccept (Int.toNat (List.getD (List.getD r18.1 (Int.toNat ((List.getD queue178 (Int.toNat i181) (0, [])).1)) []) (Int.toNat x400) 0)) false) = want then
          some (Sum.inr ((([] : List Int) ++ ((List.getD queue178 (Int.toNat i181) (0, [])).2)) ++ ([IntKind.u8.wrap x400] : List Int), true, 0))
        else
          ask (List.length queue397 + List.length ([((List.getD (List.getD r18.1 (Int.toNat ((List.getD queue178 (Int.toNat i181) (0, [])).1)) []) (Int.toNat x400) 0), (([] : List Int) ++ ((List.getD queue178 (Int.toNat i181) (0, [])).2)) ++ ([IntKind.u8.wrap x400] : List Int))] : List (Int × (List Int))) ≤ 1000000000) <|
          ask (in64 (x400 + 1)) <|
          lang_search_l1 N aAccept want r18 queue178 i181 m451 (seen396 ++ [((List.getD (List.getD r18.1 (Int.toNat ((List.getD queue178 (Int.toNat i181) (0, [])).1)) []) (Int.toNat x400) 0), true)]) (queue397 ++ ([((List.getD (List.getD r18.1 (Int.toNat ((List.getD queue178 (Int.toNat i181) (0, [])).1)) []) (Int.toNat x400) 0), (([] : List Int) ++ ((List.getD queue178 (Int.toNat i181) (0, [])).2)) ++ ([IntKind.u8.wrap x400] : List Int))] : List (Int × (List Int)))) (x400 + 1)
    else
      some (Sum.inl (seen396, queue397))
def lang_search_l0 (N : Nat) (aAccept : List Bool) (want : Bool) (r18 : (List (List Int)) × Int) : Nat → (List (Int × Bool)) → (List (Int × (List Int))) → Int → Option (Unit ⊕ ((List Int) × Bool × Int))
  | 0, _, _, _ => none
  | m314 + 1, seen177, queue178, i181 =>
    if i181 < (((List.length queue178) : Nat) : Int) then
      ask (idx i181 (List.length queue178)) <|
      ask (idx ((List.getD queue178 (Int.toNat i181) (0, [])).1) (List.length r18.1)) <|
      Option.bind (lang_search_l1 N aAccept want r18 queue178 i181 N seen177 queue178 0) fun x452 =>
      Sum.elim (fun x457 =>
        ask (in64 (i181 + 1)) <|
        lang_search_l0 N aAccept want r18 m314 x457.1 x457.2 (i181 + 1))
       (fun x504 =>
        some (Sum.inr x504)) x452
    else
      some (Sum.inl ())
def lang_search_l3 (N : Nat) (aAccept : List Bool) (want : Bool) (r18 : (List (List Int)) × Int) (queue652 : List (Int × (List Int))) (i655 : Int) : Nat → (List (Int × Bool)) → (List (Int × (List Int))) → Int → Option (((List (Int × Bool)) × (List (Int × (List Int)))) ⊕ ((List Int) × Bool × Int))
  | 0, _, _, _ => none
  | m933 + 1, seen876, queue877, x880 =>
    if x880 < (((List.length (List.getD r18.1 (Int.toNat ((List.getD queue652 (Int.toNat i655) (0, [])).1)) [])) : Nat) : Int) then
      ask (idx x880 (List.length (List.getD r18.1 (Int.toNat ((List.getD queue652 (Int.toNat i655) (0, [])).1)) []))) <|
      ask (in64 (List.getD (List.getD r18.1 (Int.toNat ((List.getD queue652 (Int.toNat i655) (0, [])).1)) []) (Int.toNat x880) 0)) <|
      if (Option.getD (mget seen876 (List.getD (List.getD r18.1 (Int.toNat ((List.getD queue652 (Int.toNat i655) (0, [])).1)) []) (Int.toNat x880) 0)) false) = true then
        ask (in64 (x880 + 1)) <|
        lang_search_l3 N aAccept want r18 queue652 i655 m933 seen876 queue877 (x880 + 1)
      else
        ask (mget seen876 (List.getD (List.getD r18.1 (Int.toNat ((List.getD queue652 (Int.toNat i655) (0, [])).1)) []) (Int.toNat x880) 0) = none) <|
        ask (List.length ([] : List Int) + List.length ((List.getD queue652 (Int.toNat i655) (0, [])).2) ≤ 1000000000) <|
        ask (List.length (([] : List Int) ++ ((List.getD queue652 (Int.toNat i655) (0, [])).2)) + List.length ([IntKind.u8.wrap x880] : List Int) ≤ 1000000000) <|
        ask (idx (List.getD (List.getD r18.1 (Int.toNat ((List.getD queue652 (Int.toNat i655) (0, [])).1)) []) (Int.toNat x880) 0) (List.length aAccept)) <|
        if (List.getD aAccept (Int.toNat (List.getD (List.getD r18.1 (Int.toNat ((List.getD queue652 (Int.toNat i655) (0, [])).1)) []) (Int.toNat x880) 0)) false) = want then
          some (Sum.inr ((([] : List Int) ++ ((List.getD queue652 (Int.toNat i655) (0, [])).2)) ++ ([IntKind.u8.wrap x880] : List Int), true, 0))
        else
          ask (List.length queue877 + List.length ([((List.getD (List.getD r18.1 (Int.toNat ((List.getD queue652 (Int.toNat i655) (0, [])).1)) []) (Int.toNat x880) 0), (([] : List Int) ++ ((List.getD queue652 (Int.toNat i655) (0, [])).2)) ++ ([IntKind.u8.wrap x880] : List Int))] : List (Int × (List Int))) ≤ 1000000000) <|
          ask (in64 (x880 + 1)) <|
          lang_search_l3 N aAccept want r18 queue652 i655 m933 (seen876 ++ [((List.getD (List.getD r18.1 (Int.toNat ((List.getD queue652 (Int.toNat i655) (0, [])).1)) []) (Int.toNat x880) 0), true)]) (queue877 ++ ([((List.getD (List.getD r18.1 (Int.toNat ((List.getD queue652 (Int.toNat i655) (0, [])).1)) []) (Int.toNat x880) 0), (([] : List Int) ++ ((List.getD queue652 (Int.toNat i655) (0, [])).2)) ++ ([IntKind.u8.wrap x880] : List Int))] : List (Int × (List Int)))) (x880 + 1)
    else
      some (Sum.inl (seen876, queue877))
def lang_search_l2 (N : Nat) (aAccept : List Bool) (want : Bool) (r18 : (List (List Int)) × Int) : Nat → (List (Int × Bool)) → (List (Int × (List Int))) → Int → Option (Unit ⊕ ((List Int) × Bool × Int))
  | 0, _, _, _ => none
  | m792 + 1, seen651, queue652, i655 =>
    if i655 < (((List.length queue652) : Nat) : Int) then
      ask (idx i655 (List.length queue652)) <|
      ask (idx ((List.getD queue652 (Int.toNat i655) (0, [])).1) (List.length r18.1)) <|
      Option.bind (lang_search_l3 N aAccept want r18 queue652 i655 N seen651 queue652 0) fun x934 =>
      Sum.elim (fun x939 =>
        ask (in64 (i655 + 1)) <|
        lang_search_l2 N aAccept want r18 m792 x939.1 x939.2 (i655 + 1))
       (fun x988 =>
        some (Sum.inr x988)) x934
    else
      some (Sum.inl ())
def lang_search (N : Nat) (aProps : Int) (aAccept : List Bool) (aGuard : List Int) (aNodes : List Nd) (empty : Bool) (want : Bool) : Option ((List Int) × Bool × Int) :=
  Option.bind (lang_table N aProps aAccept aGuard aNodes) fun r18 =>
  if (r18.2 : Int) = 0 then
    if empty = true then
      ask (idx (0 : Int) (List.length aAccept)) <|
      if (List.getD aAccept (Int.toNat (0 : Int)) false) = want then
        some ([], true, 0)
      else
        Option.bind (lang_search_l0 N aAccept want r18 N ([] : List (Int × Bool)) ([(0, [])] : List (Int × (List Int))) 0) fun x315 =>
        Sum.elim (fun x320 =>
          some ([], false, 0))
         (fun x507 =>
          some x507) x315
    else
      Option.bind (lang_search_l2 N aAccept want r18 N ([] : List (Int × Bool)) ([(0, [])] : List (Int × (List Int))) 0) fun x793 =>
      Sum.elim (fun x798 =>
        some ([], false, 0))
       (fun x991 =>
        some x991) x793
  else
    some ([], false, r18.2)
set_option maxRecDepth 100000 in
set_option maxHeartbeats 4000000 in
theorem lang_search_calls {N : Nat} {S Fa : Nat → Prop} {w0 : World} {r : (List Int) × Bool × Int} (A1 : Option Addr) (c2 : Nat) (A5 : Option Addr) (c6 : Nat) (A9 : Option Addr) (c10 : Nat) (aProps : Int) (aAccept : List Bool) (aGuard : List Int) (aNodes : List Nd) (empty : Bool) (want : Bool) (hk3 : List.length aAccept ≤ c2) (hk7 : List.length aGuard ≤ c6) (hk11 : List.length aNodes ≤ c10) (H : Hp S Fa w0 w0 [.ro false cBool A1 aAccept, .ro false (cInt .i64) A5 aGuard, .ro false cNode A9 aNodes]) (hP : lang_search N aProps aAccept aGuard aNodes empty want = some r) :
    Calls Try.prog 42 #[.agg #[.int .i64 aProps, .slice A1 (List.length aAccept) c2, .slice A5 (List.length aGuard) c6, .slice A9 (List.length aNodes) c10], .bool empty, .bool want] w0 fun e w' => ∃ v, e = .returned v ∧ ∃ (A993 : Option Addr) (c994 : Nat), v = .tuple #[.slice A993 (List.length r.1) c994, .bool r.2.1, .int .i64 r.2.2] ∧ Hp S Fa w0 w' [.row true (cInt .u8) 52 A993 c994 r.1] := by
 refine enterV (n := 86) Try.func42 rfl rfl rfl ?_
 intro a E
 replace E := E.pick [(0, .agg #[.int .i64 aProps, .slice A1 (List.length aAccept) c2, .slice A5 (List.length aGuard) c6, .slice A9 (List.length aNodes) c10]), (1, .bool empty), (2, .bool want)] ⟨rfl, rfl, rfl, trivial⟩
 rw [lang_search] at hP
 refine wp_seq ?_
 refine wp_region_lit ?_
 refine h_box H E rfl rfl rfl ?_
 intro w14 g13 a hc15 hg17 H_ E_
 replace E := E_ _ rfl; clear E_
 replace H := H_; clear H_; try dsimp only [setn, addE, goneL] at H
 refine vn tbok 3 [] [] [] E (by kernel_rfl) (by kernel_rfl) trivial ?_
 clear E; intro a E
 refine wpList_nil ?_
 refine th_n ?_
 refine wp_seq ?_
 refine wp_region_lit ?_
 refine vn tbok 1 [.agg #[.int .i64 aProps, .slice A1 (List.length aAccept) c2, .slice A5 (List.length aGuard) c6, .slice A9 (List.length aNodes) c10]] [(19, .agg #[.int .i64 aProps, .slice A1 (List.length aAccept) c2, .slice A5 (List.length aGuard) c6, .slice A9 (List.length aNodes) c10])] [cellsAt w14 g13 (0) [.int .i64 aProps, .slice A1 (List.length aAccept) c2, .slice A5 (List.length aGuard) c6, .slice A9 (List.length aNodes) c10]] E (by kernel_rfl) (by kernel_rfl) ((H.box 3 rfl).sub 0 _ rfl) ?_
 clear E; intro a E
 obtain ⟨r18, h19, hP⟩ := bind_inv hP
 obtain ⟨Fa20, Hc21, hb22⟩ := H.call [] [(0, false), (1, false), (2, false)] rfl rfl trivial
 refine e_call E rfl rfl Try.func41 rfl rfl rfl (lang_table_calls A1 c2 A5 c6 A9 c10 aProps aAccept aGuard aNodes hk3 hk7 hk11 Hc21 h19) ?_
 rintro v23 w24 a ⟨A27, c28, rfl, HR25⟩ E_
 replace E := E_ _ rfl; clear E_
 obtain ⟨H_, hc26⟩ := hb22 _ _ HR25 rfl
 replace H := H_; clear H_; try dsimp only [setn, addE, goneL] at H
 refine vn tbok 5 [] [(9, .slice A27 (List.length r18.1) c28), (10, .int .i64 r18.2)] [] E (by kernel_rfl) (by kernel_rfl) trivial ?_
 clear E; intro a E
 refine wpList_nil ?_
 refine th_n ?_
 refine wp_seq ?_
 refine wp_seq ?_
 refine wp_region_lit ?_
 refine vn tbok 2 [] [(24, .bool ((r18.2 : Int) != 0))] [] E (by kernel_rfl) (by kernel_rfl) trivial ?_
 clear E; intro a E
 refine wpList_nil ?_
 refine th_n ?_
 refine E.cases (t := 24) rfl (fun hb_ E_ => ?_) (fun hb_ E_ => ?_)
 ·
  replace E := E_; clear E_
  have h30 : ¬ ((r18.2 : Int) = 0) := bne_iff_ne.1 hb_
  clear hb_; replace hP := ite_f h30 hP
  refine c_true E rfl ?_
  refine wp_seq ?_
  refine wp_region_lit ?_
  refine vn tbok 4 [] [(6, .slice none 0 0), (7, .bool false), (8, .int .i64 r18.2)] [] E (by kernel_rfl) (by kernel_rfl) trivial ?_
  clear E; intro a E
  refine wpList_nil ?_
  refine th_n ?_
  refine wp_ret ?_
  refine th_ret ?_
  replace H := H.nilrow (cInt .u8) 52; try dsimp only [setn, addE, goneL] at H
  obtain rfl := Option.some.inj hP
  refine ret3 E rfl rfl rfl rfl ?_
  exact ⟨_, rfl, none, 0, rfl, H.sel [5] rfl⟩
 replace E := E_; clear E_
 have h32 : (r18.2 : Int) = 0 := bne_eq_false_iff_eq.1 hb_
 clear hb_; replace hP := ite_t h32 hP
 refine c_false E rfl ?_
 refine wp_skip ?_
 refine th_n ?_
 refine wp_seq ?_
 refine wp_seq ?_
 refine wp_region_lit ?_
 refine vn tbok 2 [] [(27, .bool empty)] [] E (by kernel_rfl) (by kernel_rfl) trivial ?_
 clear E; intro a E
 refine E.cases (t := 27) rfl (fun hb_ E_ => ?_) (fun hb_ E_ => ?_)
 ·
  replace E := E_; clear E_
  have h33 : empty = true := hb_
  clear hb_; replace hP := ite_t h33 hP
  obtain ⟨g34, hP⟩ := ask_inv hP
  obtain ⟨b35, o36, e_b35⟩ := (H.rd 0 rds_ro).addr (idx_pos g34)
  subst e_b35
  refine vn tbok 7 [.slice (some ⟨b35, o36, none⟩) (List.length aAccept) c2, .bool (List.getD aAccept (Int.toNat (0 : Int)) false)] [(34, .bool ((List.getD aAccept (Int.toNat (0 : Int)) false) == want))] [World.cell? w24 ⟨g13, 1, none⟩ = some (.slice (some ⟨b35, o36, none⟩) (List.length aAccept) c2), 0 ≤ (0 : Int) ∧ (0 : Int) < (((List.length aAccept) : Nat) : Int), World.cell? w24 ⟨b35, o36 + (Int.toNat (0 : Int)) * 1, none⟩ = some (.bool (List.getD aAccept (Int.toNat (0 : Int)) false))] E (by kernel_rfl) (by kernel_rfl) ⟨(H.box 3 rfl).cell (j := 1) rfl, g34, Rds.at1 (H.rd 0 rds_ro) false g34⟩ ?_
  clear E; intro a E
  refine wpList_nil ?_
  refine th_n ?_
  refine E.cases (t := 34) rfl (fun hb_ E_ => ?_) (fun hb_ E_ => ?_)
  ·
   replace E := E_; clear E_
   have h37 : (List.getD aAccept (Int.toNat (0 : Int)) false) = want := eq_of_beq hb_
   clear hb_; replace hP := ite_t h37 hP
   refine c_true E rfl ?_
   refine wp_seq ?_
   refine wp_region_lit ?_
   refine vn tbok 3 [] [(6, .slice none 0 0), (7, .bool true), (8, .int .i64 0)] [] E (by kernel_rfl) (by kernel_rfl) trivial ?_
   clear E; intro a E
   refine wpList_nil ?_
   refine th_n ?_
   refine wp_ret ?_
   refine th_ret ?_
   replace H := H.nilrow (cInt .u8) 52; try dsimp only [setn, addE, goneL] at H
   obtain rfl := Option.some.inj hP
   refine ret3 E rfl rfl rfl rfl ?_
   exact ⟨_, rfl, none, 0, rfl, H.sel [5] rfl⟩
  replace E := E_; clear E_
  have h39 : ¬ ((List.getD aAccept (Int.toNat (0 : Int)) false) = want) := ne_of_beq_false hb_
  clear hb_; replace hP := ite_f h39 hP
  refine c_false E rfl ?_
  refine wp_skip ?_
  refine th_n ?_
  refine wp_seq ?_
  refine wp_region_lit ?_
  refine h_makeMap (P := Try.prog) (k0 := 3) H E rfl rfl ?_
  intro w41 g40 a hc42 hg43 H_ E_
  replace E := E_ _ rfl; clear E_
  replace H := H_; clear H_; try dsimp only [setn, addE, goneL] at H
  refine vn tbok 1 [] [(11, .map (some g40))] [] E (by kernel_rfl) (by kernel_rfl) trivial ?_
  clear E; intro a E
  refine wpList_nil ?_
  refine th_n ?_
  refine wp_seq ?_
  refine wp_region_lit ?_
  refine e_build (ps := []) (v := .agg #[.int .i64 0, .slice none 0 0]) E rfl rfl tbok rfl (by kernel_rfl) rfl ?_
  clear E; intro a E
  refine h_buildSlice (ps := [(0, .agg #[.int .i64 0, .slice none 0 0])]) (cs := [.int .i64 0, .slice none 0 0]) H E rfl rfl tbok rfl rfl (by kernel_rfl) ?_
  intro w46 g45 a hc47 hg49 H_ E_
  replace E := E_ _ rfl; clear E_
  replace H := H_; clear H_; try dsimp only [setn, addE, goneL] at H
  replace H := H.boxRow cS97 true ([(0, [])] : List (Int × (List Int))) 6 rfl (fun _ HF_ => ⟨_, _, rfl, ⟨_, _, rfl, rfl, kSl_nil⟩, rfl⟩) (Nat.le_of_ble_eq_true rfl); try dsimp only [setn, addE, goneL] at H
  refine vn tbok 1 [] [(12, .slice (some ⟨g45, 0, none⟩) 1 1)] [] E (by kernel_rfl) (by kernel_rfl) trivial ?_
  clear E; intro a E
  refine wpList_nil ?_
  refine th_n ?_
  refine wp_seq ?_
  refine wp_seq ?_
  refine wp_region_lit ?_
  refine vn tbok 1 [] [(13, .int .i64 0)] [] E (by kernel_rfl) (by kernel_rfl) trivial ?_
  clear E; intro a E
  refine wpList_nil ?_
  refine th_n ?_
  refine wp_block ?_
  obtain ⟨x315, hL316, hK317⟩ := bind_inv hP
  clear hP
  replace H := H.rowx 6 rfl; try dsimp only [setn, addE, goneL] at H
  refine loop_cut (fun i_ a w_ => (i_ = 0 ∧ ∃ (x320 : Unit), Fr a 86 [] ∧ Hp S Fa w0 w_ [] ∧ x315 = Sum.inl x320)) ?_ ?_
  ·
   refine loopV (fun m319 a w318 => ∃ (seen177 : List (Int × Bool)) (queue178 : List (Int × (List Int))) (i181 : Int), ∃ (A179 : Option Addr) (c180 : Nat), Fr a 86 [(2, .bool want), (3, .pointer (some ⟨g13, 0, none⟩)), (9, .slice A27 (List.length r18.1) c28), (11, .map (some g40)), (12, .slice A179 (List.length queue178) c180), (13, .int .i64 i181)] ∧ Hp S Fa w0 w318 [.ro false cBool (some ⟨b35, o36, none⟩) aAccept, .ro false (cInt .i64) A5 aGuard, .ro false cNode A9 aNodes, .box g13 26 [.int .i64 aProps, .slice (some ⟨b35, o36, none⟩) (List.length aAccept) c2, .slice A5 (List.length aGuard) c6, .slice A9 (List.length aNodes) c10], .row true (cSl (cInt .i64)) 23 A27 c28 r18.1, .mp Try.prog 3 g40 (List.map (fun p_ => ((fun x_ : Int => .int .i64 x_) p_.1, (fun u_ : Bool => .bool u_) p_.2)) seen177), .row true cS97 98 A179 c180 queue178] ∧ lang_search_l0 N aAccept want r18 m319 seen177 queue178 i181 = some x315) N ?_ ?_
   ·
    exact ⟨([] : List (Int × Bool)), ([(0, [])] : List (Int × (List Int))), 0, (some ⟨g45, 0, none⟩), (List.length ([(0, [])] : List (Int × (List Int)))), E.pick _ ⟨rfl, rfl, rfl, rfl, rfl, rfl, trivial⟩, H.sel [0, 1, 2, 3, 4, 5, 6] rfl, hL316⟩
   clear E H hL316; intro m319 a w318 hI_
   obtain ⟨seen177, queue178, i181, A179, c180, E, H, hP⟩ := hI_
   obtain ⟨m314, rfl⟩ : ∃ q_, m319 = q_ + 1 := by cases m319 with | zero => rw [lang_search_l0] at hP; cases hP | succ q_ => exact ⟨q_, rfl⟩
   rw [lang_search_l0] at hP
   refine wp_seq ?_
   refine wp_seq ?_
   refine wp_region_lit ?_
   refine vn tbok 4 [] [(41, .bool (decide (i181 < (((List.length queue178) : Nat) : Int))))] [] E (by kernel_rfl) (by kernel_rfl) trivial ?_
   clear E; intro a E
   refine wpList_nil ?_
   refine th_n ?_
   refine E.cases (t := 41) rfl (fun hb_ E_ => ?_) (fun hb_ E_ => ?_)
   ·
    replace E := E_; clear E_
    have h321 : i181 < (((List.length queue178) : Nat) : Int) := of_decide_eq_true hb_
    clear hb_; replace hP := ite_t h321 hP
    refine c_true E rfl ?_
    refine wp_skip ?_
    refine th_n ?_
    refine wp_seq ?_
    refine wp_block ?_
    refine wp_seq ?_
    refine wp_region_lit ?_
    obtain ⟨g322, hP⟩ := ask_inv hP
    obtain ⟨b323, e_b323⟩ := H.raddr 6 rfl (idx_pos g322)
    subst e_b323
    obtain ⟨Fz325, cs327, HF326, hK328, hc329⟩ := H.elem 6 true (el_row rfl) (0, []) g322
    obtain ⟨_, _, rfl, hK330, hK331⟩ := hK328
    obtain rfl := hK330
    obtain ⟨A332, c333, rfl, hk334, hC335⟩ := hK331
    replace HF326 := HF326.ins hC335
    replace H := HF326.hp; try dsimp only [addE] at H
    refine vn tbok 4 [.agg #[.int .i64 ((List.getD queue178 (Int.toNat i181) (0, [])).1), .slice A332 (List.length (List.getD queue178 (Int.toNat i181) (0, [])).2) c333]] [(47, .agg #[.int .i64 ((List.getD queue178 (Int.toNat i181) (0, [])).1), .slice A332 (List.length (List.getD queue178 (Int.toNat i181) (0, [])).2) c333])] [0 ≤ i181 ∧ i181 < (((List.length queue178) : Nat) : Int), cellsAt w318 b323 (0 + (Int.toNat i181) * 2) [.int .i64 ((List.getD queue178 (Int.toNat i181) (0, [])).1), .slice A332 (List.length (List.getD queue178 (Int.toNat i181) (0, [])).2) c333]] E (by kernel_rfl) (by kernel_rfl) ⟨g322, hc329⟩ ?_
    clear E; intro a E
    refine h_alloc H E rfl rfl tbok rfl ?_
    intro w338 g337 a hc339 hg341 H_ E_
    replace E := E_ _ rfl; clear E_
    replace H := H_; clear H_; try dsimp only [setn, addE, goneL] at H
    refine h_store (g := g337) (off := 0) H 8 rfl E rfl rfl rfl rfl tbok rfl rfl rfl rfl rfl ?_
    clear E; intro w342 a hc343 H_ E
    replace H := H_; clear H_; try dsimp only [setn, addE, goneL] at H
    refine wpList_nil ?_
    refine th_n ?_
    refine wp_seq ?_
    refine wp_region_lit ?_
    obtain ⟨g344, hP⟩ := ask_inv hP
    obtain ⟨b345, e_b345⟩ := H.raddr 4 rfl (idx_pos g344)
    subst e_b345
    obtain ⟨A347, c348, hl349, hk350, H⟩ := H.subSl 4 true (el_row rfl) g344
    try dsimp only [addE] at H
    refine vn tbok 7 [.int .i64 ((List.getD queue178 (Int.toNat i181) (0, [])).1), .slice A347 (List.length (List.getD r18.1 (Int.toNat ((List.getD queue178 (Int.toNat i181) (0, [])).1)) [])) c348] [(52, .slice A347 (List.length (List.getD r18.1 (Int.toNat ((List.getD queue178 (Int.toNat i181) (0, [])).1)) [])) c348), (53, .int .i64 (((List.length (List.getD r18.1 (Int.toNat ((List.getD queue178 (Int.toNat i181) (0, [])).1)) [])) : Nat) : Int)), (54, .int .i64 0)] [World.cell? w342 ⟨g337, 0, none⟩ = some (.int .i64 ((List.getD queue178 (Int.toNat i181) (0, [])).1)), 0 ≤ ((List.getD queue178 (Int.toNat i181) (0, [])).1) ∧ ((List.getD queue178 (Int.toNat i181) (0, [])).1) < (((List.length r18.1) : Nat) : Int), World.cell? w342 ⟨b345, 0 + (Int.toNat ((List.getD queue178 (Int.toNat i181) (0, [])).1)) * 1, none⟩ = some (.slice A347 (List.length (List.getD r18.1 (Int.toNat ((List.getD queue178 (Int.toNat i181) (0, [])).1)) [])) c348)] E (by kernel_rfl) (by kernel_rfl) ⟨(H.box 8 rfl).cell (j := 0) rfl, g344, hl349⟩ ?_
    clear E; intro a E
    refine wpList_nil ?_
    refine th_n ?_
    refine wp_block ?_
    obtain ⟨x452, hL453, hK454⟩ := bind_inv hP
    clear hP
    refine loop_cut (fun i_ a w_ => (i_ = 2 ∧ ∃ (x457 : (List (Int × Bool)) × (List (Int × (List Int)))), ∃ (A449 : Option Addr) (c450 : Nat), Fr a 86 [(2, .bool want), (3, .pointer (some ⟨g13, 0, none⟩)), (9, .slice (some ⟨b345, 0, none⟩) (List.length r18.1) c28), (11, .map (some g40)), (12, .slice A449 (List.length x457.2) c450), (13, .int .i64 i181)] ∧ Hp S Fa w0 w_ [.ro false cBool (some ⟨b35, o36, none⟩) aAccept, .ro false (cInt .i64) A5 aGuard, .ro false cNode A9 aNodes, .box g13 26 [.int .i64 aProps, .slice (some ⟨b35, o36, none⟩) (List.length aAccept) c2, .slice A5 (List.length aGuard) c6, .slice A9 (List.length aNodes) c10], .row true (cSl (cInt .i64)) 23 (some ⟨b345, 0, none⟩) c28 r18.1, .mp Try.prog 3 g40 (List.map (fun p_ => ((fun x_ : Int => .int .i64 x_) p_.1, (fun u_ : Bool => .bool u_) p_.2)) x457.1), .row true cS97 98 A449 c450 x457.2] ∧ x452 = Sum.inl x457)) ?_ ?_
    ·
     refine loopV (fun m456 a w455 => ∃ (seen396 : List (Int × Bool)) (queue397 : List (Int × (List Int))) (x400 : Int), ∃ (A398 : Option Addr) (c399 : Nat), Fr a 86 [(2, .bool want), (3, .pointer (some ⟨g13, 0, none⟩)), (9, .slice (some ⟨b345, 0, none⟩) (List.length r18.1) c28), (11, .map (some g40)), (12, .slice A398 (List.length queue397) c399), (13, .int .i64 i181), (14, .pointer (some ⟨g337, 0, none⟩)), (52, .slice A347 (List.length (List.getD r18.1 (Int.toNat ((List.getD queue178 (Int.toNat i181) (0, [])).1)) [])) c348), (53, .int .i64 (((List.length (List.getD r18.1 (Int.toNat ((List.getD queue178 (Int.toNat i181) (0, [])).1)) [])) : Nat) : Int)), (54, .int .i64 x400)] ∧ Hp S Fa w0 w455 [.ro false cBool (some ⟨b35, o36, none⟩) aAccept, .ro false (cInt .i64) A5 aGuard, .ro false cNode A9 aNodes, .box g13 26 [.int .i64 aProps, .slice (some ⟨b35, o36, none⟩) (List.length aAccept) c2, .slice A5 (List.length aGuard) c6, .slice A9 (List.length aNodes) c10], .row true (cSl (cInt .i64)) 23 (some ⟨b345, 0, none⟩) c28 r18.1, .mp Try.prog 3 g40 (List.map (fun p_ => ((fun x_ : Int => .int .i64 x_) p_.1, (fun u_ : Bool => .bool u_) p_.2)) seen396), .row true cS97 98 A398 c399 queue397, .ro true (cInt .u8) A332 ((List.getD queue178 (Int.toNat i181) (0, [])).2), .box g337 98 [.int .i64 ((List.getD queue178 (Int.toNat i181) (0, [])).1), .slice A332 (List.length (List.getD queue178 (Int.toNat i181) (0, [])).2) c333], .ro true (cInt .i64) A347 (List.getD r18.1 (Int.toNat ((List.getD queue178 (Int.toNat i181) (0, [])).1)) [])] ∧ lang_search_l1 N aAccept want r18 queue178 i181 m456 seen396 queue397 x400 = some x452) N ?_ ?_
     ·
      exact ⟨seen177, queue178, 0, (some ⟨b323, 0, none⟩), c180, E.pick _ ⟨rfl, rfl, rfl, rfl, rfl, rfl, rfl, rfl, rfl, rfl, trivial⟩, H.sel [0, 1, 2, 3, 4, 5, 6, 7, 8, 9] rfl, hL453⟩
     clear E H hL453; intro m456 a w455 hI_
     obtain ⟨seen396, queue397, x400, A398, c399, E, H, hP⟩ := hI_
     obtain ⟨m451, rfl⟩ : ∃ q_, m456 = q_ + 1 := by cases m456 with | zero => rw [lang_search_l1] at hP; cases hP | succ q_ => exact ⟨q_, rfl⟩
     rw [lang_search_l1] at hP
     refine wp_seq ?_
     refine wp_region_lit ?_
     refine vn tbok 1 [] [(55, .bool (decide (x400 < (((List.length (List.getD r18.1 (Int.toNat ((List.getD queue178 (Int.toNat i181) (0, [])).1)) [])) : Nat) : Int))))] [] E (by kernel_rfl) (by kernel_rfl) trivial ?_
     clear E; intro a E
     refine wpList_nil ?_
     refine th_n ?_
     refine wp_seq ?_
     refine E.cases (t := 55) rfl (fun hb_ E_ => ?_) (fun hb_ E_ => ?_)
     ·
      replace E := E_; clear E_
      have h458 : x400 < (((List.length (List.getD r18.1 (Int.toNat ((List.getD queue178 (Int.toNat i181) (0, [])).1)) [])) : Nat) : Int) := of_decide_eq_true hb_
      clear hb_; replace hP := ite_t h458 hP
      refine c_true E rfl ?_
      refine wp_skip ?_
      refine th_n ?_
      refine wp_seq ?_
      refine wp_block ?_
      refine wp_seq ?_
      refine wp_region_lit ?_
      obtain ⟨g459, hP⟩ := ask_inv hP
      obtain ⟨b460, o461, e_b460⟩ := (H.rd 9 rds_ro).addr (idx_pos g459)
      subst e_b460
      refine vn tbok 5 [.int .i64 (List.getD (List.getD r18.1 (Int.toNat ((List.getD queue178 (Int.toNat i181) (0, [])).1)) []) (Int.toNat x400) 0)] [(15, .int .i64 x400), (16, .int .i64 (List.getD (List.getD r18.1 (Int.toNat ((List.getD queue178 (Int.toNat i181) (0, [])).1)) []) (Int.toNat x400) 0))] [0 ≤ x400 ∧ x400 < (((List.length (List.getD r18.1 (Int.toNat ((List.getD queue178 (Int.toNat i181) (0, [])).1)) [])) : Nat) : Int), World.cell? w455 ⟨b460, o461 + (Int.toNat x400) * 1, none⟩ = some (.int .i64 (List.getD (List.getD r18.1 (Int.toNat ((List.getD queue178 (Int.toNat i181) (0, [])).1)) []) (Int.toNat x400) 0))] E (by kernel_rfl) (by kernel_rfl) ⟨g459, Rds.at1 (H.rd 9 rds_ro) 0 g459⟩ ?_
      clear E; intro a E
      refine wpList_nil ?_
      refine th_n ?_
      refine wp_seq ?_
      refine wp_seq ?_
      refine wp_region_lit ?_
      refine vn tbok 2 [] [(59, .map (some g40)), (60, .int .i64 (List.getD (List.getD r18.1 (Int.toNat ((List.getD queue178 (Int.toNat i181) (0, [])).1)) []) (Int.toNat x400) 0))] [] E (by kernel_rfl) (by kernel_rfl) trivial ?_
      clear E; intro a E
      obtain ⟨g462, hP⟩ := ask_inv hP
      refine h_lookup1 (fun x_ : Int => .int .i64 x_) (fun u_ : Bool => .bool u_) (List.getD (List.getD r18.1 (Int.toNat ((List.getD queue178 (Int.toNat i181) (0, [])).1)) []) (Int.toNat x400) 0) false H 5 rfl E rfl rfl tbok rfl rfl (kInt Try.underlying3) rfl rfl rfl g462 (fun _ => ⟨_, rfl⟩) ?_
      clear E; intro a E_; replace E := E_ _ rfl; clear E_
      refine wpList_nil ?_
      refine th_n ?_
      refine E.cases (t := 61) rfl (fun hb_ E_ => ?_) (fun hb_ E_ => ?_)
      ·
       replace E := E_; clear E_
       have h463 : (Option.getD (mget seen396 (List.getD (List.getD r18.1 (Int.toNat ((List.getD queue178 (Int.toNat i181) (0, [])).1)) []) (Int.toNat x400) 0)) false) = true := hb_
       clear hb_; replace hP := ite_t h463 hP
       refine c_true E rfl ?_
       refine wp_exit ?_
       refine th_exit ?_
       refine bl_hit ?_
       refine th_n ?_
       refine wp_region_lit ?_
       obtain ⟨g464, hP⟩ := ask_inv hP
       refine vn tbok 2 [.int .i64 (x400 + 1)] [(54, .int .i64 (x400 + 1))] [IntKind.i64.wrap (x400 + 1) = x400 + 1] E (by kernel_rfl) (by kernel_rfl) (wrap_in g464) ?_
       clear E; intro a E
       refine wpList_nil ?_
       exact th_n ⟨m451, Nat.lt_succ_self _, seen396, queue397, x400 + 1, A398, c399, E.pick _ ⟨rfl, rfl, rfl, rfl, rfl, rfl, rfl, rfl, rfl, rfl, trivial⟩, H.sel [0, 1, 2, 3, 4, 5, 6, 7, 8, 9] rfl, hP⟩
      replace E := E_; clear E_
      have h465 : ¬ ((Option.getD (mget seen396 (List.getD (List.getD r18.1 (Int.toNat ((List.getD queue178 (Int.toNat i181) (0, [])).1)) []) (Int.toNat x400) 0)) false) = true) := (ne_true_of_eq_false hb_)
      clear hb_; replace hP := ite_f h465 hP
      refine c_false E rfl ?_
      refine wp_skip ?_
      refine th_n ?_
      refine wp_seq ?_
      refine wp_region_lit ?_
      refine vn tbok 2 [] [(62, .map (some g40)), (63, .int .i64 (List.getD (List.getD r18.1 (Int.toNat ((List.getD queue178 (Int.toNat i181) (0, [])).1)) []) (Int.toNat x400) 0))] [] E (by kernel_rfl) (by kernel_rfl) trivial ?_
      clear E; intro a E
      obtain ⟨g466, hP⟩ := ask_inv hP
      refine h_mapUpdate (fun x_ : Int => .int .i64 x_) (fun u_ : Bool => .bool u_) (List.getD (List.getD r18.1 (Int.toNat ((List.getD queue178 (Int.toNat i181) (0, [])).1)) []) (Int.toNat x400) 0) true H 5 rfl E rfl rfl tbok rfl (kInt Try.underlying3) rfl rfl rfl g462 g466 rfl ?_
      clear E; intro w467 a hc468 H_ E
      replace H := H_; clear H_; try dsimp only [setn, addE, goneL] at H
      refine wpList_nil ?_
      refine th_n ?_
      refine wp_seq ?_
      refine wp_region_lit ?_
      refine vn tbok 2 [.slice A332 (List.length (List.getD queue178 (Int.toNat i181) (0, [])).2) c333] [(65, .slice A332 (List.length (List.getD queue178 (Int.toNat i181) (0, [])).2) c333)] [World.cell? w467 ⟨g337, 1, none⟩ = some (.slice A332 (List.length (List.getD queue178 (Int.toNat i181) (0, [])).2) c333)] E (by kernel_rfl) (by kernel_rfl) ((H.box 8 rfl).cell (j := 1) rfl) ?_
      clear E; intro a E
      replace H := H.nilrow (cInt .u8) 52; try dsimp only [setn, addE, goneL] at H
      obtain ⟨g470, hP⟩ := ask_inv hP
      refine h_append (cInt .u8) (xs := ([] : List Int)) (ys := ((List.getD queue178 (Int.toNat i181) (0, [])).2)) (0 : Int) H 10 rfl E rfl rfl tbok rfl rfl rfl rfl rfl (fun _ _ => rfl) rfl rfl (fun _ HF_ => HF_.srcF flat_plain 7 rds_ro) g470 ?_
      intro w471 A472 c473 a hc474 hA475 H_ E_
      replace E := E_ _ rfl; clear E_
      replace H := H_; clear H_; try dsimp only [setn, addE, goneL] at H
      refine vn tbok 2 [.int .u8 (IntKind.u8.wrap x400)] [(68, .int .u8 (IntKind.u8.wrap x400))] [IntKind.u8.wrap x400 = (IntKind.u8.wrap x400)] E (by kernel_rfl) (by kernel_rfl) (rfl) ?_
      clear E; intro a E
      refine h_buildSlice (ps := [(0, .int .u8 (IntKind.u8.wrap x400))]) (cs := [.int .u8 (IntKind.u8.wrap x400)]) H E rfl rfl tbok rfl rfl (by kernel_rfl) ?_
      intro w477 g476 a hc478 hg480 H_ E_
      replace E := E_ _ rfl; clear E_
      replace H := H_; clear H_; try dsimp only [setn, addE, goneL] at H
      obtain ⟨g481, hP⟩ := ask_inv hP
      refine h_append (cInt .u8) (xs := (([] : List Int) ++ ((List.getD queue178 (Int.toNat i181) (0, [])).2))) (ys := ([IntKind.u8.wrap x400] : List Int)) (0 : Int) H 10 rfl E rfl rfl tbok rfl rfl rfl rfl rfl (fun _ _ => rfl) rfl rfl (fun _ HF_ => HF_.srcB 11 rfl (⟨_, _, rfl, rfl, rfl⟩)) g481 ?_
      intro w482 A483 c484 a hc485 hA486 H_ E_
      replace E := E_ _ rfl; clear E_
      replace H := H_; clear H_; try dsimp only [setn, addE, goneL] at H
      refine vn tbok 1 [] [(17, .slice A483 (List.length ((([] : List Int) ++ ((List.getD queue178 (Int.toNat i181) (0, [])).2)) ++ ([IntKind.u8.wrap x400] : List Int))) c484)] [] E (by kernel_rfl) (by kernel_rfl) trivial ?_
      clear E; intro a E
      refine wpList_nil ?_
      refine th_n ?_
      refine wp_seq ?_
      refine wp_seq ?_
      refine wp_region_lit ?_
      obtain ⟨g487, hP⟩ := ask_inv hP
      refine vn tbok 7 [.slice (some ⟨b35, o36, none⟩) (List.length aAccept) c2, .bool (List.getD aAccept (Int.toNat (List.getD (List.getD r18.1 (Int.toNat ((List.getD queue178 (Int.toNat i181) (0, [])).1)) []) (Int.toNat x400) 0)) false)] [(77, .bool ((List.getD aAccept (Int.toNat (List.getD (List.getD r18.1 (Int.toNat ((List.getD queue178 (Int.toNat i181) (0, [])).1)) []) (Int.toNat x400) 0)) false) == want))] [World.cell? w482 ⟨g13, 1, none⟩ = some (.slice (some ⟨b35, o36, none⟩) (List.length aAccept) c2), 0 ≤ (List.getD (List.getD r18.1 (Int.toNat ((List.getD queue178 (Int.toNat i181) (0, [])).1)) []) (Int.toNat x400) 0) ∧ (List.getD (List.getD r18.1 (Int.toNat ((List.getD queue178 (Int.toNat i181) (0, [])).1)) []) (Int.toNat x400) 0) < (((List.length aAccept) : Nat) : Int), World.cell? w482 ⟨b35, o36 + (Int.toNat (List.getD (List.getD r18.1 (Int.toNat ((List.getD queue178 (Int.toNat i181) (0, [])).1)) []) (Int.toNat x400) 0)) * 1, none⟩ = some (.bool (List.getD aAccept (Int.toNat (List.getD (List.getD r18.1 (Int.toNat ((List.getD queue178 (Int.toNat i181) (0, [])).1)) []) (Int.toNat x400) 0)) false))] E (by kernel_rfl) (by kernel_rfl) ⟨(H.box 3 rfl).cell (j := 1) rfl, g487, Rds.at1 (H.rd 0 rds_ro) false g487⟩ ?_
      clear E; intro a E
      refine wpList_nil ?_
      refine th_n ?_
      refine E.cases (t := 77) rfl (fun hb_ E_ => ?_) (fun hb_ E_ => ?_)
      ·
       replace E := E_; clear E_
       have h488 : (List.getD aAccept (Int.toNat (List.getD (List.getD r18.1 (Int.toNat ((List.getD queue178 (Int.toNat i181) (0, [])).1)) []) (Int.toNat x400) 0)) false) = want := eq_of_beq hb_
       clear hb_; replace hP := ite_t h488 hP
       refine c_true E rfl ?_
       refine wp_seq ?_
       refine wp_region_lit ?_
       refine vn tbok 4 [] [(6, .slice A483 (List.length ((([] : List Int) ++ ((List.getD queue178 (Int.toNat i181) (0, [])).2)) ++ ([IntKind.u8.wrap x400] : List Int))) c484), (7, .bool true), (8, .int .i64 0)] [] E (by kernel_rfl) (by kernel_rfl) trivial ?_
       clear E; intro a E
       refine wpList_nil ?_
       refine th_n ?_
       refine wp_ret ?_
       refine th_ret ?_
       refine bl_ret ?_
       refine th_ret ?_
       refine th_ret ?_
       refine .inr ⟨rfl, ?_⟩
       refine bl_ret ?_
       refine bl_ret ?_
       refine th_ret ?_
       refine th_ret ?_
       refine .inr ⟨rfl, ?_⟩
       refine bl_ret ?_
       refine th_ret ?_
       have hx_ := Option.some.inj hP; subst hx_
       have hP : some (Sum.inr ((([] : List Int) ++ ((List.getD queue178 (Int.toNat i181) (0, [])).2)) ++ ([IntKind.u8.wrap x400] : List Int), true, 0)) = some x315 := hK454
       have hx_ := Option.some.inj hP; subst hx_
       have hP : some (((([] : List Int) ++ ((List.getD queue178 (Int.toNat i181) (0, [])).2)) ++ ([IntKind.u8.wrap x400] : List Int), true, 0)) = some r := hK317
       obtain rfl := Option.some.inj hP
       refine ret3 E rfl rfl rfl rfl ?_
       exact ⟨_, rfl, A483, c484, rfl, H.sel [10] rfl⟩
      replace E := E_; clear E_
      have h489 : ¬ ((List.getD aAccept (Int.toNat (List.getD (List.getD r18.1 (Int.toNat ((List.getD queue178 (Int.toNat i181) (0, [])).1)) []) (Int.toNat x400) 0)) false) = want) := ne_of_beq_false hb_
      clear hb_; replace hP := ite_f h489 hP
      refine c_false E rfl ?_
      refine wp_skip ?_
      refine th_n ?_
      refine wp_region_lit ?_
      refine vn tbok 3 [] [(79, .slice A398 (List.length queue397) c399), (80, .int .i64 (List.getD (List.getD r18.1 (Int.toNat ((List.getD queue178 (Int.toNat i181) (0, [])).1)) []) (Int.toNat x400) 0)), (81, .slice A483 (List.length ((([] : List Int) ++ ((List.getD queue178 (Int.toNat i181) (0, [])).2)) ++ ([IntKind.u8.wrap x400] : List Int))) c484)] [] E (by kernel_rfl) (by kernel_rfl) trivial ?_
      clear E; intro a E
      refine e_build (ps := [(0, .int .i64 (List.getD (List.getD r18.1 (Int.toNat ((List.getD queue178 (Int.toNat i181) (0, [])).1)) []) (Int.toNat x400) 0)), (1, .slice A483 (List.length ((([] : List Int) ++ ((List.getD queue178 (Int.toNat i181) (0, [])).2)) ++ ([IntKind.u8.wrap x400] : List Int))) c484)]) (v := .agg #[.int .i64 (List.getD (List.getD r18.1 (Int.toNat ((List.getD queue178 (Int.toNat i181) (0, [])).1)) []) (Int.toNat x400) 0), .slice A483 (List.length ((([] : List Int) ++ ((List.getD queue178 (Int.toNat i181) (0, [])).2)) ++ ([IntKind.u8.wrap x400] : List Int))) c484]) E rfl rfl tbok rfl (by kernel_rfl) rfl ?_
      clear E; intro a E
      refine h_buildSlice (ps := [(0, .agg #[.int .i64 (List.getD (List.getD r18.1 (Int.toNat ((List.getD queue178 (Int.toNat i181) (0, [])).1)) []) (Int.toNat x400) 0), .slice A483 (List.length ((([] : List Int) ++ ((List.getD queue178 (Int.toNat i181) (0, [])).2)) ++ ([IntKind.u8.wrap x400] : List Int))) c484])]) (cs := [.int .i64 (List.getD (List.getD r18.1 (Int.toNat ((List.getD queue178 (Int.toNat i181) (0, [])).1)) []) (Int.toNat x400) 0), .slice A483 (List.length ((([] : List Int) ++ ((List.getD queue178 (Int.toNat i181) (0, [])).2)) ++ ([IntKind.u8.wrap x400] : List Int))) c484]) H E rfl rfl tbok rfl rfl (by kernel_rfl) ?_
      intro w491 g490 a hc492 hg494 H_ E_
      replace E := E_ _ rfl; clear E_
      replace H := H_; clear H_; try dsimp only [setn, addE, goneL] at H
      have hk495 := H.rcap 10 rfl
      replace H := H.frz 10 rfl; try dsimp only [setn, addE, goneL] at H
      obtain ⟨g496, hP⟩ := ask_inv hP
      refine h_append cS97 (xs := queue397) (ys := ([((List.getD (List.getD r18.1 (Int.toNat ((List.getD queue178 (Int.toNat i181) (0, [])).1)) []) (Int.toNat x400) 0), (([] : List Int) ++ ((List.getD queue178 (Int.toNat i181) (0, [])).2)) ++ ([IntKind.u8.wrap x400] : List Int))] : List (Int × (List Int)))) ((0, []) : Int × (List Int)) H 6 rfl E rfl rfl tbok rfl rfl rfl rfl rfl (fun _ _ => ⟨_, _, rfl, rfl, kSl_nil⟩) rfl rfl (fun _ HF_ => HF_.srcB 12 rfl ⟨_, _, rfl, ⟨_, _, rfl, rfl, ⟨_, _, rfl, hk495, (HF_.roC 10 rfl)⟩⟩, rfl⟩) g496 ?_
      intro w497 A498 c499 a hc500 hA501 H_ E_
      replace E := E_ _ rfl; clear E_
      replace H := H_; clear H_; try dsimp only [setn, addE, goneL] at H
      refine vn tbok 1 [] [(12, .slice A498 (List.length (queue397 ++ ([((List.getD (List.getD r18.1 (Int.toNat ((List.getD queue178 (Int.toNat i181) (0, [])).1)) []) (Int.toNat x400) 0), (([] : List Int) ++ ((List.getD queue178 (Int.toNat i181) (0, [])).2)) ++ ([IntKind.u8.wrap x400] : List Int))] : List (Int × (List Int))))) c499)] [] E (by kernel_rfl) (by kernel_rfl) trivial ?_
      clear E; intro a E
      refine wpList_nil ?_
      refine bl_n ?_
      refine th_n ?_
      refine wp_region_lit ?_
      obtain ⟨g502, hP⟩ := ask_inv hP
      refine vn tbok 2 [.int .i64 (x400 + 1)] [(54, .int .i64 (x400 + 1))] [IntKind.i64.wrap (x400 + 1) = x400 + 1] E (by kernel_rfl) (by kernel_rfl) (wrap_in g502) ?_
      clear E; intro a E
      refine wpList_nil ?_
      exact th_n ⟨m451, Nat.lt_succ_self _, seen396 ++ [((List.getD (List.getD r18.1 (Int.toNat ((List.getD queue178 (Int.toNat i181) (0, [])).1)) []) (Int.toNat x400) 0), true)], queue397 ++ ([((List.getD (List.getD r18.1 (Int.toNat ((List.getD queue178 (Int.toNat i181) (0, [])).1)) []) (Int.toNat x400) 0), (([] : List Int) ++ ((List.getD queue178 (Int.toNat i181) (0, [])).2)) ++ ([IntKind.u8.wrap x400] : List Int))] : List (Int × (List Int))), x400 + 1, A498, c499, E.pick _ ⟨rfl, rfl, rfl, rfl, rfl, rfl, rfl, rfl, rfl, rfl, trivial⟩, H.sel [0, 1, 2, 3, 4, 5, 6, 7, 8, 9] rfl, hP⟩
     replace E := E_; clear E_
     have h503 : ¬ (x400 < (((List.length (List.getD r18.1 (Int.toNat ((List.getD queue178 (Int.toNat i181) (0, [])).1)) [])) : Nat) : Int)) := of_decide_eq_false hb_
     clear hb_; replace hP := ite_f h503 hP
     refine c_false E rfl ?_
     refine wp_exit ?_
     refine th_exit ?_
     have hx_ := Option.some.inj hP
     refine th_exit (.inl ⟨2, rfl, ?_⟩)
     exact ⟨rfl, (seen396, queue397), A398, c399, E.pick _ ⟨rfl, rfl, rfl, rfl, rfl, rfl, trivial⟩, H.sel [0, 1, 2, 3, 4, 5, 6] rfl, hx_.symm⟩
    clear E H hL453; intro i_ a w455 hM_
    obtain ⟨rfl, x457, A449, c450, E, H, hx_⟩ := hM_
    subst hx_; have hP := elim_l hK454
    clear hK454
    refine bl_hit ?_
    refine bl_n ?_
    refine th_n ?_
    refine wp_region_lit ?_
    obtain ⟨g505, hP⟩ := ask_inv hP
    refine vn tbok 3 [.int .i64 (i181 + 1)] [(13, .int .i64 (i181 + 1))] [IntKind.i64.wrap (i181 + 1) = i181 + 1] E (by kernel_rfl) (by kernel_rfl) (wrap_in g505) ?_
    clear E; intro a E
    refine wpList_nil ?_
    exact th_n ⟨m314, Nat.lt_succ_self _, x457.1, x457.2, i181 + 1, A449, c450, E.pick _ ⟨rfl, rfl, rfl, rfl, rfl, rfl, trivial⟩, H.sel [0, 1, 2, 3, 4, 5, 6] rfl, hP⟩
   replace E := E_; clear E_
   have h506 : ¬ (i181 < (((List.length queue178) : Nat) : Int)) := of_decide_eq_false hb_
   clear hb_; replace hP := ite_f h506 hP
   refine c_false E rfl ?_
   refine wp_exit ?_
   refine th_exit ?_
   have hx_ := Option.some.inj hP
   refine th_exit (.inl ⟨0, rfl, ?_⟩)
   exact ⟨rfl, (), E.pick _ trivial, H.sel [] rfl, hx_.symm⟩
  clear E H hL316; intro i_ a w318 hM_
  obtain ⟨rfl, x320, E, H, hx_⟩ := hM_
  subst hx_; have hP := elim_l hK317
  clear hK317
  refine bl_hit ?_
  refine th_n ?_
  refine wp_seq ?_
  refine wp_region_lit ?_
  refine vn tbok 3 [] [(6, .slice none 0 0), (7, .bool false), (8, .int .i64 0)] [] E (by kernel_rfl) (by kernel_rfl) trivial ?_
  clear E; intro a E
  refine wpList_nil ?_
  refine th_n ?_
  refine wp_ret ?_
  replace H := H.nilrow (cInt .u8) 52; try dsimp only [setn, addE, goneL] at H
  obtain rfl := Option.some.inj hP
  refine ret3 E rfl rfl rfl rfl ?_
  exact ⟨_, rfl, none, 0, rfl, H.sel [0] rfl⟩
 replace E := E_; clear E_
 have h509 : ¬ (empty = true) := (ne_true_of_eq_false hb_)
 clear hb_; replace hP := ite_f h509 hP
 refine vn tbok 7 [] [(34, .bool false)] [] E (by kernel_rfl) (by kernel_rfl) trivial ?_
 clear E; intro a E
 refine wpList_nil ?_
 refine th_n ?_
 refine c_false E rfl ?_
 refine wp_skip ?_
 refine th_n ?_
 refine wp_seq ?_
 refine wp_region_lit ?_
 refine h_makeMap (P := Try.prog) (k0 := 3) H E rfl rfl ?_
 intro w511 g510 a hc512 hg513 H_ E_
 replace E := E_ _ rfl; clear E_
 replace H := H_; clear H_; try dsimp only [setn, addE, goneL] at H
 refine vn tbok 1 [] [(11, .map (some g510))] [] E (by kernel_rfl) (by kernel_rfl) trivial ?_
 clear E; intro a E
 refine wpList_nil ?_
 refine th_n ?_
 refine wp_seq ?_
 refine wp_region_lit ?_
 refine e_build (ps := []) (v := .agg #[.int .i64 0, .slice none 0 0]) E rfl rfl tbok rfl (by kernel_rfl) rfl ?_
 clear E; intro a E
 refine h_buildSlice (ps := [(0, .agg #[.int .i64 0, .slice none 0 0])]) (cs := [.int .i64 0, .slice none 0 0]) H E rfl rfl tbok rfl rfl (by kernel_rfl) ?_
 intro w516 g515 a hc517 hg519 H_ E_
 replace E := E_ _ rfl; clear E_
 replace H := H_; clear H_; try dsimp only [setn, addE, goneL] at H
 replace H := H.boxRow cS97 true ([(0, [])] : List (Int × (List Int))) 6 rfl (fun _ HF_ => ⟨_, _, rfl, ⟨_, _, rfl, rfl, kSl_nil⟩, rfl⟩) (Nat.le_of_ble_eq_true rfl); try dsimp only [setn, addE, goneL] at H
 refine vn tbok 1 [] [(12, .slice (some ⟨g515, 0, none⟩) 1 1)] [] E (by kernel_rfl) (by kernel_rfl) trivial ?_
 clear E; intro a E
 refine wpList_nil ?_
 refine th_n ?_
 refine wp_seq ?_
 refine wp_seq ?_
 refine wp_region_lit ?_
 refine vn tbok 1 [] [(13, .int .i64 0)] [] E (by kernel_rfl) (by kernel_rfl) trivial ?_
 clear E; intro a E
 refine wpList_nil ?_
 refine th_n ?_
 refine wp_block ?_
 obtain ⟨x793, hL794, hK795⟩ := bind_inv hP
 clear hP
 replace H := H.rowx 6 rfl; try dsimp only [setn, addE, goneL] at H
 refine loop_cut (fun i_ a w_ => (i_ = 0 ∧ ∃ (x798 : Unit), Fr a 86 [] ∧ Hp S Fa w0 w_ [] ∧ x793 = Sum.inl x798)) ?_ ?_
 ·
  refine loopV (fun m797 a w796 => ∃ (seen651 : List (Int × Bool)) (queue652 : List (Int × (List Int))) (i655 : Int), ∃ (A653 : Option Addr) (c654 : Nat), Fr a 86 [(2, .bool want), (3, .pointer (some ⟨g13, 0, none⟩)), (9, .slice A27 (List.length r18.1) c28), (11, .map (some g510)), (12, .slice A653 (List.length queue652) c654), (13, .int .i64 i655)] ∧ Hp S Fa w0 w796 [.ro false cBool A1 aAccept, .ro false (cInt .i64) A5 aGuard, .ro false cNode A9 aNodes, .box g13 26 [.int .i64 aProps, .slice A1 (List.length aAccept) c2, .slice A5 (List.length aGuard) c6, .slice A9 (List.length aNodes) c10], .row true (cSl (cInt .i64)) 23 A27 c28 r18.1, .mp Try.prog 3 g510 (List.map (fun p_ => ((fun x_ : Int => .int .i64 x_) p_.1, (fun u_ : Bool => .bool u_) p_.2)) seen651), .row true cS97 98 A653 c654 queue652] ∧ lang_search_l2 N aAccept want r18 m797 seen651 queue652 i655 = some x793) N ?_ ?_
  ·
   exact ⟨([] : List (Int × Bool)), ([(0, [])] : List (Int × (List Int))), 0, (some ⟨g515, 0, none⟩), (List.length ([(0, [])] : List (Int × (List Int)))), E.pick _ ⟨rfl, rfl, rfl, rfl, rfl, rfl, trivial⟩, H.sel [0, 1, 2, 3, 4, 5, 6] rfl, hL794⟩
  clear E H hL794; intro m797 a w796 hI_
  obtain ⟨seen651, queue652, i655, A653, c654, E, H, hP⟩ := hI_
  obtain ⟨m792, rfl⟩ : ∃ q_, m797 = q_ + 1 := by cases m797 with | zero => rw [lang_search_l2] at hP; cases hP | succ q_ => exact ⟨q_, rfl⟩
  rw [lang_search_l2] at hP
  refine wp_seq ?_
  refine wp_seq ?_
  refine wp_region_lit ?_
  refine vn tbok 4 [] [(41, .bool (decide (i655 < (((List.length queue652) : Nat) : Int))))] [] E (by kernel_rfl) (by kernel_rfl) trivial ?_
  clear E; intro a E
  refine wpList_nil ?_
  refine th_n ?_
  refine E.cases (t := 41) rfl (fun hb_ E_ => ?_) (fun hb_ E_ => ?_)
  ·
   replace E := E_; clear E_
   have h799 : i655 < (((List.length queue652) : Nat) : Int) := of_decide_eq_true hb_
   clear hb_; replace hP := ite_t h799 hP
   refine c_true E rfl ?_
   refine wp_skip ?_
   refine th_n ?_
   refine wp_seq ?_
   refine wp_block ?_
   refine wp_seq ?_
   refine wp_region_lit ?_
   obtain ⟨g800, hP⟩ := ask_inv hP
   obtain ⟨b801, e_b801⟩ := H.raddr 6 rfl (idx_pos g800)
   subst e_b801
   obtain ⟨Fz803, cs805, HF804, hK806, hc807⟩ := H.elem 6 true (el_row rfl) (0, []) g800
   obtain ⟨_, _, rfl, hK808, hK809⟩ := hK806
   obtain rfl := hK808
   obtain ⟨A810, c811, rfl, hk812, hC813⟩ := hK809
   replace HF804 := HF804.ins hC813
   replace H := HF804.hp; try dsimp only [addE] at H
   refine vn tbok 4 [.agg #[.int .i64 ((List.getD queue652 (Int.toNat i655) (0, [])).1), .slice A810 (List.length (List.getD queue652 (Int.toNat i655) (0, [])).2) c811]] [(47, .agg #[.int .i64 ((List.getD queue652 (Int.toNat i655) (0, [])).1), .slice A810 (List.length (List.getD queue652 (Int.toNat i655) (0, [])).2) c811])] [0 ≤ i655 ∧ i655 < (((List.length queue652) : Nat) : Int), cellsAt w796 b801 (0 + (Int.toNat i655) * 2) [.int .i64 ((List.getD queue652 (Int.toNat i655) (0, [])).1), .slice A810 (List.length (List.getD queue652 (Int.toNat i655) (0, [])).2) c811]] E (by kernel_rfl) (by kernel_rfl) ⟨g800, hc807⟩ ?_
   clear E; intro a E
   refine h_alloc H E rfl rfl tbok rfl ?_
   intro w816 g815 a hc817 hg819 H_ E_
   replace E := E_ _ rfl; clear E_
   replace H := H_; clear H_; try dsimp only [setn, addE, goneL] at H
   refine h_store (g := g815) (off := 0) H 8 rfl E rfl rfl rfl rfl tbok rfl rfl rfl rfl rfl ?_
   clear E; intro w820 a hc821 H_ E
   replace H := H_; clear H_; try dsimp only [setn, addE, goneL] at H
   refine wpList_nil ?_
   refine th_n ?_
   refine wp_seq ?_
   refine wp_region_lit ?_
   obtain ⟨g822, hP⟩ := ask_inv hP
   obtain ⟨b823, e_b823⟩ := H.raddr 4 rfl (idx_pos g822)
   subst e_b823
   obtain ⟨A825, c826, hl827, hk828, H⟩ := H.subSl 4 true (el_row rfl) g822
   try dsimp only [addE] at H
   refine vn tbok 7 [.int .i64 ((List.getD queue652 (Int.toNat i655) (0, [])).1), .slice A825 (List.length (List.getD r18.1 (Int.toNat ((List.getD queue652 (Int.toNat i655) (0, [])).1)) [])) c826] [(52, .slice A825 (List.length (List.getD r18.1 (Int.toNat ((List.getD queue652 (Int.toNat i655) (0, [])).1)) [])) c826), (53, .int .i64 (((List.length (List.getD r18.1 (Int.toNat ((List.getD queue652 (Int.toNat i655) (0, [])).1)) [])) : Nat) : Int)), (54, .int .i64 0)] [World.cell? w820 ⟨g815, 0, none⟩ = some (.int .i64 ((List.getD queue652 (Int.toNat i655) (0, [])).1)), 0 ≤ ((List.getD queue652 (Int.toNat i655) (0, [])).1) ∧ ((List.getD queue652 (Int.toNat i655) (0, [])).1) < (((List.length r18.1) : Nat) : Int), World.cell? w820 ⟨b823, 0 + (Int.toNat ((List.getD queue652 (Int.toNat i655) (0, [])).1)) * 1, none⟩ = some (.slice A825 (List.length (List.getD r18.1 (Int.toNat ((List.getD queue652 (Int.toNat i655) (0, [])).1)) [])) c826)] E (by kernel_rfl) (by kernel_rfl) ⟨(H.box 8 rfl).cell (j := 0) rfl, g822, hl827⟩ ?_
   clear E; intro a E
   refine wpList_nil ?_
   refine th_n ?_
   refine wp_block ?_
   obtain ⟨x934, hL935, hK936⟩ := bind_inv hP
   clear hP
   refine loop_cut (fun i_ a w_ => (i_ = 2 ∧ ∃ (x939 : (List (Int × Bool)) × (List (Int × (List Int)))), ∃ (A931 : Option Addr) (c932 : Nat), Fr a 86 [(2, .bool want), (3, .pointer (some ⟨g13, 0, none⟩)), (9, .slice (some ⟨b823, 0, none⟩) (List.length r18.1) c28), (11, .map (some g510)), (12, .slice A931 (List.length x939.2) c932), (13, .int .i64 i655)] ∧ Hp S Fa w0 w_ [.ro false cBool A1 aAccept, .ro false (cInt .i64) A5 aGuard, .ro false cNode A9 aNodes, .box g13 26 [.int .i64 aProps, .slice A1 (List.length aAccept) c2, .slice A5 (List.length aGuard) c6, .slice A9 (List.length aNodes) c10], .row true (cSl (cInt .i64)) 23 (some ⟨b823, 0, none⟩) c28 r18.1, .mp Try.prog 3 g510 (List.map (fun p_ => ((fun x_ : Int => .int .i64 x_) p_.1, (fun u_ : Bool => .bool u_) p_.2)) x939.1), .row true cS97 98 A931 c932 x939.2] ∧ x934 = Sum.inl x939)) ?_ ?_
   ·
    refine loopV (fun m938 a w937 => ∃ (seen876 : List (Int × Bool)) (queue877 : List (Int × (List Int))) (x880 : Int), ∃ (A878 : Option Addr) (c879 : Nat), Fr a 86 [(2, .bool want), (3, .pointer (some ⟨g13, 0, none⟩)), (9, .slice (some ⟨b823, 0, none⟩) (List.length r18.1) c28), (11, .map (some g510)), (12, .slice A878 (List.length queue877) c879), (13, .int .i64 i655), (14, .pointer (some ⟨g815, 0, none⟩)), (52, .slice A825 (List.length (List.getD r18.1 (Int.toNat ((List.getD queue652 (Int.toNat i655) (0, [])).1)) [])) c826), (53, .int .i64 (((List.length (List.getD r18.1 (Int.toNat ((List.getD queue652 (Int.toNat i655) (0, [])).1)) [])) : Nat) : Int)), (54, .int .i64 x880)] ∧ Hp S Fa w0 w937 [.ro false cBool A1 aAccept, .ro false (cInt .i64) A5 aGuard, .ro false cNode A9 aNodes, .box g13 26 [.int .i64 aProps, .slice A1 (List.length aAccept) c2, .slice A5 (List.length aGuard) c6, .slice A9 (List.length aNodes) c10], .row true (cSl (cInt .i64)) 23 (some ⟨b823, 0, none⟩) c28 r18.1, .mp Try.prog 3 g510 (List.map (fun p_ => ((fun x_ : Int => .int .i64 x_) p_.1, (fun u_ : Bool => .bool u_) p_.2)) seen876), .row true cS97 98 A878 c879 queue877, .ro true (cInt .u8) A810 ((List.getD queue652 (Int.toNat i655) (0, [])).2), .box g815 98 [.int .i64 ((List.getD queue652 (Int.toNat i655) (0, [])).1), .slice A810 (List.length (List.getD queue652 (Int.toNat i655) (0, [])).2) c811], .ro true (cInt .i64) A825 (List.getD r18.1 (Int.toNat ((List.getD queue652 (Int.toNat i655) (0, [])).1)) [])] ∧ lang_search_l3 N aAccept want r18 queue652 i655 m938 seen876 queue877 x880 = some x934) N ?_ ?_
    ·
     exact ⟨seen651, queue652, 0, (some ⟨b801, 0, none⟩), c654, E.pick _ ⟨rfl, rfl, rfl, rfl, rfl, rfl, rfl, rfl, rfl, rfl, trivial⟩, H.sel [0, 1, 2, 3, 4, 5, 6, 7, 8, 9] rfl, hL935⟩
    clear E H hL935; intro m938 a w937 hI_
    obtain ⟨seen876, queue877, x880, A878, c879, E, H, hP⟩ := hI_
    obtain ⟨m933, rfl⟩ : ∃ q_, m938 = q_ + 1 := by cases m938 with | zero => rw [lang_search_l3] at hP; cases hP | succ q_ => exact ⟨q_, rfl⟩
    rw [lang_search_l3] at hP
    refine wp_seq ?_
    refine wp_region_lit ?_
    refine vn tbok 1 [] [(55, .bool (decide (x880 < (((List.length (List.getD r18.1 (Int.toNat ((List.getD queue652 (Int.toNat i655) (0, [])).1)) [])) : Nat) : Int))))] [] E (by kernel_rfl) (by kernel_rfl) trivial ?_
    clear E; intro a E
    refine wpList_nil ?_
    refine th_n ?_
    refine wp_seq ?_
    refine E.cases (t := 55) rfl (fun hb_ E_ => ?_) (fun hb_ E_ => ?_)
    ·
     replace E := E_; clear E_
     have h940 : x880 < (((List.length (List.getD r18.1 (Int.toNat ((List.getD queue652 (Int.toNat i655) (0, [])).1)) [])) : Nat) : Int) := of_decide_eq_true hb_
     clear hb_; replace hP := ite_t h940 hP
     refine c_true E rfl ?_
     refine wp_skip ?_
     refine th_n ?_
     refine wp_seq ?_
     refine wp_block ?_
     refine wp_seq ?_
     refine wp_region_lit ?_
     obtain ⟨g941, hP⟩ := ask_inv hP
     obtain ⟨b942, o943, e_b942⟩ := (H.rd 9 rds_ro).addr (idx_pos g941)
     subst e_b942
     refine vn tbok 5 [.int .i64 (List.getD (List.getD r18.1 (Int.toNat ((List.getD queue652 (Int.toNat i655) (0, [])).1)) []) (Int.toNat x880) 0)] [(15, .int .i64 x880), (16, .int .i64 (List.getD (List.getD r18.1 (Int.toNat ((List.getD queue652 (Int.toNat i655) (0, [])).1)) []) (Int.toNat x880) 0))] [0 ≤ x880 ∧ x880 < (((List.length (List.getD r18.1 (Int.toNat ((List.getD queue652 (Int.toNat i655) (0, [])).1)) [])) : Nat) : Int), World.cell? w937 ⟨b942, o943 + (Int.toNat x880) * 1, none⟩ = some (.int .i64 (List.getD (List.getD r18.1 (Int.toNat ((List.getD queue652 (Int.toNat i655) (0, [])).1)) []) (Int.toNat x880) 0))] E (by kernel_rfl) (by kernel_rfl) ⟨g941, Rds.at1 (H.rd 9 rds_ro) 0 g941⟩ ?_
     clear E; intro a E
     refine wpList_nil ?_
     refine th_n ?_
     refine wp_seq ?_
     refine wp_seq ?_
     refine wp_region_lit ?_
     refine vn tbok 2 [] [(59, .map (some g510)), (60, .int .i64 (List.getD (List.getD r18.1 (Int.toNat ((List.getD queue652 (Int.toNat i655) (0, [])).1)) []) (Int.toNat x880) 0))] [] E (by kernel_rfl) (by kernel_rfl) trivial ?_
     clear E; intro a E
     obtain ⟨g944, hP⟩ := ask_inv hP
     refine h_lookup1 (fun x_ : Int => .int .i64 x_) (fun u_ : Bool => .bool u_) (List.getD (List.getD r18.1 (Int.toNat ((List.getD queue652 (Int.toNat i655) (0, [])).1)) []) (Int.toNat x880) 0) false H 5 rfl E rfl rfl tbok rfl rfl (kInt Try.underlying3) rfl rfl rfl g944 (fun _ => ⟨_, rfl⟩) ?_
     clear E; intro a E_; replace E := E_ _ rfl; clear E_
     refine wpList_nil ?_
     refine th_n ?_
     refine E.cases (t := 61) rfl (fun hb_ E_ => ?_) (fun hb_ E_ => ?_)
     ·
      replace E := E_; clear E_
      have h945 : (Option.getD (mget seen876 (List.getD (List.getD r18.1 (Int.toNat ((List.getD queue652 (Int.toNat i655) (0, [])).1)) []) (Int.toNat x880) 0)) false) = true := hb_
      clear hb_; replace hP := ite_t h945 hP
      refine c_true E rfl ?_
      refine wp_exit ?_
      refine th_exit ?_
      refine bl_hit ?_
      refine th_n ?_
      refine wp_region_lit ?_
      obtain ⟨g946, hP⟩ := ask_inv hP
      refine vn tbok 2 [.int .i64 (x880 + 1)] [(54, .int .i64 (x880 + 1))] [IntKind.i64.wrap (x880 + 1) = x880 + 1] E (by kernel_rfl) (by kernel_rfl) (wrap_in g946) ?_
      clear E; intro a E
      refine wpList_nil ?_
      exact th_n ⟨m933, Nat.lt_succ_self _, seen876, queue877, x880 + 1, A878, c879, E.pick _ ⟨rfl, rfl, rfl, rfl, rfl, rfl, rfl, rfl, rfl, rfl, trivial⟩, H.sel [0, 1, 2, 3, 4, 5, 6, 7, 8, 9] rfl, hP⟩
     replace E := E_; clear E_
     have h947 : ¬ ((Option.getD (mget seen876 (List.getD (List.getD r18.1 (Int.toNat ((List.getD queue652 (Int.toNat i655) (0, [])).1)) []) (Int.toNat x880) 0)) false) = true) := (ne_true_of_eq_false hb_)
     clear hb_; replace hP := ite_f h947 hP
     refine c_false E rfl ?_
     refine wp_skip ?_
     refine th_n ?_
     refine wp_seq ?_
     refine wp_region_lit ?_
     refine vn tbok 2 [] [(62, .map (some g510)), (63, .int .i64 (List.getD (List.getD r18.1 (Int.toNat ((List.getD queue652 (Int.toNat i655) (0, [])).1)) []) (Int.toNat x880) 0))] [] E (by kernel_rfl) (by kernel_rfl) trivial ?_
     clear E; intro a E
     obtain ⟨g948, hP⟩ := ask_inv hP
     refine h_mapUpdate (fun x_ : Int => .int .i64 x_) (fun u_ : Bool => .bool u_) (List.getD (List.getD r18.1 (Int.toNat ((List.getD queue652 (Int.toNat i655) (0, [])).1)) []) (Int.toNat x880) 0) true H 5 rfl E rfl rfl tbok rfl (kInt Try.underlying3) rfl rfl rfl g944 g948 rfl ?_
     clear E; intro w949 a hc950 H_ E
     replace H := H_; clear H_; try dsimp only [setn, addE, goneL] at H
     refine wpList_nil ?_
     refine th_n ?_
     refine wp_seq ?_
     refine wp_region_lit ?_
     refine vn tbok 2 [.slice A810 (List.length (List.getD queue652 (Int.toNat i655) (0, [])).2) c811] [(65, .slice A810 (List.length (List.getD queue652 (Int.toNat i655) (0, [])).2) c811)] [World.cell? w949 ⟨g815, 1, none⟩ = some (.slice A810 (List.length (List.getD queue652 (Int.toNat i655) (0, [])).2) c811)] E (by kernel_rfl) (by kernel_rfl) ((H.box 8 rfl).cell (j := 1) rfl) ?_
     clear E; intro a E
     replace H := H.nilrow (cInt .u8) 52; try dsimp only [setn, addE, goneL] at H
     obtain ⟨g952, hP⟩ := ask_inv hP
     refine h_append (cInt .u8) (xs := ([] : List Int)) (ys := ((List.getD queue652 (Int.toNat i655) (0, [])).2)) (0 : Int) H 10 rfl E rfl rfl tbok rfl rfl rfl rfl rfl (fun _ _ => rfl) rfl rfl (fun _ HF_ => HF_.srcF flat_plain 7 rds_ro) g952 ?_
     intro w953 A954 c955 a hc956 hA957 H_ E_
     replace E := E_ _ rfl; clear E_
     replace H := H_; clear H_; try dsimp only [setn, addE, goneL] at H
     refine vn tbok 2 [.int .u8 (IntKind.u8.wrap x880)] [(68, .int .u8 (IntKind.u8.wrap x880))] [IntKind.u8.wrap x880 = (IntKind.u8.wrap x880)] E (by kernel_rfl) (by kernel_rfl) (rfl) ?_
     clear E; intro a E
     refine h_buildSlice (ps := [(0, .int .u8 (IntKind.u8.wrap x880))]) (cs := [.int .u8 (IntKind.u8.wrap x880)]) H E rfl rfl tbok rfl rfl (by kernel_rfl) ?_
     intro w959 g958 a hc960 hg962 H_ E_
     replace E := E_ _ rfl; clear E_
     replace H := H_; clear H_; try dsimp only [setn, addE, goneL] at H
     obtain ⟨g963, hP⟩ := ask_inv hP
     refine h_append (cInt .u8) (xs := (([] : List Int) ++ ((List.getD queue652 (Int.toNat i655) (0, [])).2))) (ys := ([IntKind.u8.wrap x880] : List Int)) (0 : Int) H 10 rfl E rfl rfl tbok rfl rfl rfl rfl rfl (fun _ _ => rfl) rfl rfl (fun _ HF_ => HF_.srcB 11 rfl (⟨_, _, rfl, rfl, rfl⟩)) g963 ?_
     intro w964 A965 c966 a hc967 hA968 H_ E_
     replace E := E_ _ rfl; clear E_
     replace H := H_; clear H_; try dsimp only [setn, addE, goneL] at H
     refine vn tbok 1 [] [(17, .slice A965 (List.length ((([] : List Int) ++ ((List.getD queue652 (Int.toNat i655) (0, [])).2)) ++ ([IntKind.u8.wrap x880] : List Int))) c966)] [] E (by kernel_rfl) (by kernel_rfl) trivial ?_
     clear E; intro a E
     refine wpList_nil ?_
     refine th_n ?_
     refine wp_seq ?_
     refine wp_seq ?_
     refine wp_region_lit ?_
     obtain ⟨g969, hP⟩ := ask_inv hP
     obtain ⟨b970, o971, e_b970⟩ := (H.rd 0 rds_ro).addr (idx_pos g969)
     subst e_b970
     refine vn tbok 7 [.slice (some ⟨b970, o971, none⟩) (List.length aAccept) c2, .bool (List.getD aAccept (Int.toNat (List.getD (List.getD r18.1 (Int.toNat ((List.getD queue652 (Int.toNat i655) (0, [])).1)) []) (Int.toNat x880) 0)) false)] [(77, .bool ((List.getD aAccept (Int.toNat (List.getD (List.getD r18.1 (Int.toNat ((List.getD queue652 (Int.toNat i655) (0, [])).1)) []) (Int.toNat x880) 0)) false) == want))] [World.cell? w964 ⟨g13, 1, none⟩ = some (.slice (some ⟨b970, o971, none⟩) (List.length aAccept) c2), 0 ≤ (List.getD (List.getD r18.1 (Int.toNat ((List.getD queue652 (Int.toNat i655) (0, [])).1)) []) (Int.toNat x880) 0) ∧ (List.getD (List.getD r18.1 (Int.toNat ((List.getD queue652 (Int.toNat i655) (0, [])).1)) []) (Int.toNat x880) 0) < (((List.length aAccept) : Nat) : Int), World.cell? w964 ⟨b970, o971 + (Int.toNat (List.getD (List.getD r18.1 (Int.toNat ((List.getD queue652 (Int.toNat i655) (0, [])).1)) []) (Int.toNat x880) 0)) * 1, none⟩ = some (.bool (List.getD aAccept (Int.toNat (List.getD (List.getD r18.1 (Int.toNat ((List.getD queue652 (Int.toNat i655) (0, [])).1)) []) (Int.toNat x880) 0)) false))] E (by kernel_rfl) (by kernel_rfl) ⟨(H.box 3 rfl).cell (j := 1) rfl, g969, Rds.at1 (H.rd 0 rds_ro) false g969⟩ ?_
     clear E; intro a E
     refine wpList_nil ?_
     refine th_n ?_
     refine E.cases (t := 77) rfl (fun hb_ E_ => ?_) (fun hb_ E_ => ?_)
     ·
      replace E := E_; clear E_
      have h972 : (List.getD aAccept (Int.toNat (List.getD (List.getD r18.1 (Int.toNat ((List.getD queue652 (Int.toNat i655) (0, [])).1)) []) (Int.toNat x880) 0)) false) = want := eq_of_beq hb_
      clear hb_; replace hP := ite_t h972 hP
      refine c_true E rfl ?_
      refine wp_seq ?_
      refine wp_region_lit ?_
      refine vn tbok 4 [] [(6, .slice A965 (List.length ((([] : List Int) ++ ((List.getD queue652 (Int.toNat i655) (0, [])).2)) ++ ([IntKind.u8.wrap x880] : List Int))) c966), (7, .bool true), (8, .int .i64 0)] [] E (by kernel_rfl) (by kernel_rfl) trivial ?_
      clear E; intro a E
      refine wpList_nil ?_
      refine th_n ?_
      refine wp_ret ?_
      refine th_ret ?_
      refine bl_ret ?_
      refine th_ret ?_
      refine th_ret ?_
      refine .inr ⟨rfl, ?_⟩
      refine bl_ret ?_
      refine bl_ret ?_
      refine th_ret ?_
      refine th_ret ?_
      refine .inr ⟨rfl, ?_⟩
      refine bl_ret ?_
      refine th_ret ?_
      have hx_ := Option.some.inj hP; subst hx_
      have hP : some (Sum.inr ((([] : List Int) ++ ((List.getD queue652 (Int.toNat i655) (0, [])).2)) ++ ([IntKind.u8.wrap x880] : List Int), true, 0)) = some x793 := hK936
      have hx_ := Option.some.inj hP; subst hx_
      have hP : some (((([] : List Int) ++ ((List.getD queue652 (Int.toNat i655) (0, [])).2)) ++ ([IntKind.u8.wrap x880] : List Int), true, 0)) = some r := hK795
      obtain rfl := Option.some.inj hP
      refine ret3 E rfl rfl rfl rfl ?_
      exact ⟨_, rfl, A965, c966, rfl, H.sel [10] rfl⟩
     replace E := E_; clear E_
     have h973 : ¬ ((List.getD aAccept (Int.toNat (List.getD (List.getD r18.1 (Int.toNat ((List.getD queue652 (Int.toNat i655) (0, [])).1)) []) (Int.toNat x880) 0)) false) = want) := ne_of_beq_false hb_
     clear hb_; replace hP := ite_f h973 hP
     refine c_false E rfl ?_
     refine wp_skip ?_
     refine th_n ?_
     refine wp_region_lit ?_
     refine vn tbok 3 [] [(79, .slice A878 (List.length queue877) c879), (80, .int .i64 (List.getD (List.getD r18.1 (Int.toNat ((List.getD queue652 (Int.toNat i655) (0, [])).1)) []) (Int.toNat x880) 0)), (81, .slice A965 (List.length ((([] : List Int) ++ ((List.getD queue652 (Int.toNat i655) (0, [])).2)) ++ ([IntKind.u8.wrap x880] : List Int))) c966)] [] E (by kernel_rfl) (by kernel_rfl) trivial ?_
     clear E; intro a E
     refine e_build (ps := [(0, .int .i64 (List.getD (List.getD r18.1 (Int.toNat ((List.getD queue652 (Int.toNat i655) (0, [])).1)) []) (Int.toNat x880) 0)), (1, .slice A965 (List.length ((([] : List Int) ++ ((List.getD queue652 (Int.toNat i655) (0, [])).2)) ++ ([IntKind.u8.wrap x880] : List Int))) c966)]) (v := .agg #[.int .i64 (List.getD (List.getD r18.1 (Int.toNat ((List.getD queue652 (Int.toNat i655) (0, [])).1)) []) (Int.toNat x880) 0), .slice A965 (List.length ((([] : List Int) ++ ((List.getD queue652 (Int.toNat i655) (0, [])).2)) ++ ([IntKind.u8.wrap x880] : List Int))) c966]) E rfl rfl tbok rfl (by kernel_rfl) rfl ?_
     clear E; intro a E
     refine h_buildSlice (ps := [(0, .agg #[.int .i64 (List.getD (List.getD r18.1 (Int.toNat ((List.getD queue652 (Int.toNat i655) (0, [])).1)) []) (Int.toNat x880) 0), .slice A965 (List.length ((([] : List Int) ++ ((List.getD queue652 (Int.toNat i655) (0, [])).2)) ++ ([IntKind.u8.wrap x880] : List Int))) c966])]) (cs := [.int .i64 (List.getD (List.getD r18.1 (Int.toNat ((List.getD queue652 (Int.toNat i655) (0, [])).1)) []) (Int.toNat x880) 0), .slice A965 (List.length ((([] : List Int) ++ ((List.getD queue652 (Int.toNat i655) (0, [])).2)) ++ ([IntKind.u8.wrap x880] : List Int))) c966]) H E rfl rfl tbok rfl rfl (by kernel_rfl) ?_
     intro w975 g974 a hc976 hg978 H_ E_
     replace E := E_ _ rfl; clear E_
     replace H := H_; clear H_; try dsimp only [setn, addE, goneL] at H
     have hk979 := H.rcap 10 rfl
     replace H := H.frz 10 rfl; try dsimp only [setn, addE, goneL] at H
     obtain ⟨g980, hP⟩ := ask_inv hP
     refine h_append cS97 (xs := queue877) (ys := ([((List.getD (List.getD r18.1 (Int.toNat ((List.getD queue652 (Int.toNat i655) (0, [])).1)) []) (Int.toNat x880) 0), (([] : List Int) ++ ((List.getD queue652 (Int.toNat i655) (0, [])).2)) ++ ([IntKind.u8.wrap x880] : List Int))] : List (Int × (List Int)))) ((0, []) : Int × (List Int)) H 6 rfl E rfl rfl tbok rfl rfl rfl rfl rfl (fun _ _ => ⟨_, _, rfl, rfl, kSl_nil⟩) rfl rfl (fun _ HF_ => HF_.srcB 12 rfl ⟨_, _, rfl, ⟨_, _, rfl, rfl, ⟨_, _, rfl, hk979, (HF_.roC 10 rfl)⟩⟩, rfl⟩) g980 ?_
     intro w981 A982 c983 a hc984 hA985 H_ E_
     replace E := E_ _ rfl; clear E_
     replace H := H_; clear H_; try dsimp only [setn, addE, goneL] at H
     refine vn tbok 1 [] [(12, .slice A982 (List.length (queue877 ++ ([((List.getD (List.getD r18.1 (Int.toNat ((List.getD queue652 (Int.toNat i655) (0, [])).1)) []) (Int.toNat x880) 0), (([] : List Int) ++ ((List.getD queue652 (Int.toNat i655) (0, [])).2)) ++ ([IntKind.u8.wrap x880] : List Int))] : List (Int × (List Int))))) c983)] [] E (by kernel_rfl) (by kernel_rfl) trivial ?_
     clear E; intro a E
     refine wpList_nil ?_
     refine bl_n ?_
     refine th_n ?_
     refine wp_region_lit ?_
     obtain ⟨g986, hP⟩ := ask_inv hP
     refine vn tbok 2 [.int .i64 (x880 + 1)] [(54, .int .i64 (x880 + 1))] [IntKind.i64.wrap (x880 + 1) = x880 + 1] E (by kernel_rfl) (by kernel_rfl) (wrap_in g986) ?_
     clear E; intro a E
     refine wpList_nil ?_
     exact th_n ⟨m933, Nat.lt_succ_self _, seen876 ++ [((List.getD (List.getD r18.1 (Int.toNat ((List.getD queue652 (Int.toNat i655) (0, [])).1)) []) (Int.toNat x880) 0), true)], queue877 ++ ([((List.getD (List.getD r18.1 (Int.toNat ((List.getD queue652 (Int.toNat i655) (0, [])).1)) []) (Int.toNat x880) 0), (([] : List Int) ++ ((List.getD queue652 (Int.toNat i655) (0, [])).2)) ++ ([IntKind.u8.wrap x880] : List Int))] : List (Int × (List Int))), x880 + 1, A982, c983, E.pick _ ⟨rfl, rfl, rfl, rfl, rfl, rfl, rfl, rfl, rfl, rfl, trivial⟩, H.sel [0, 1, 2, 3, 4, 5, 6, 7, 8, 9] rfl, hP⟩
    replace E := E_; clear E_
    have h987 : ¬ (x880 < (((List.length (List.getD r18.1 (Int.toNat ((List.getD queue652 (Int.toNat i655) (0, [])).1)) [])) : Nat) : Int)) := of_decide_eq_false hb_
    clear hb_; replace hP := ite_f h987 hP
    refine c_false E rfl ?_
    refine wp_exit ?_
    refine th_exit ?_
    have hx_ := Option.some.inj hP
    refine th_exit (.inl ⟨2, rfl, ?_⟩)
    exact ⟨rfl, (seen876, queue877), A878, c879, E.pick _ ⟨rfl, rfl, rfl, rfl, rfl, rfl, trivial⟩, H.sel [0, 1, 2, 3, 4, 5, 6] rfl, hx_.symm⟩
   clear E H hL935; intro i_ a w937 hM_
   obtain ⟨rfl, x939, A931, c932, E, H, hx_⟩ := hM_
   subst hx_; have hP := elim_l hK936
   clear hK936
   refine bl_hit ?_
   refine bl_n ?_
   refine th_n ?_
   refine wp_region_lit ?_
   obtain ⟨g989, hP⟩ := ask_inv hP
   refine vn tbok 3 [.int .i64 (i655 + 1)] [(13, .int .i64 (i655 + 1))] [IntKind.i64.wrap (i655 + 1) = i655 + 1] E (by kernel_rfl) (by kernel_rfl) (wrap_in g989) ?_
   clear E; intro a E
   refine wpList_nil ?_
   exact th_n ⟨m792, Nat.lt_succ_self _, x939.1, x939.2, i655 + 1, A931, c932, E.pick _ ⟨rfl, rfl, rfl, rfl, rfl, rfl, trivial⟩, H.sel [0, 1, 2, 3, 4, 5, 6] rfl, hP⟩
  replace E := E_; clear E_
  have h990 : ¬ (i655 < (((List.length queue652) : Nat) : Int)) := of_decide_eq_false hb_
  clear hb_; replace hP := ite_f h990 hP
  refine c_false E rfl ?_
  refine wp_exit ?_
  refine th_exit ?_
  have hx_ := Option.some.inj hP
  refine th_exit (.inl ⟨0, rfl, ?_⟩)
  exact ⟨rfl, (), E.pick _ trivial, H.sel [] rfl, hx_.symm⟩
 clear E H hL794; intro i_ a w796 hM_
 obtain ⟨rfl, x798, E, H, hx_⟩ := hM_
 subst hx_; have hP := elim_l hK795
 clear hK795
 refine bl_hit ?_
 refine th_n ?_
 refine wp_seq ?_
 refine wp_region_lit ?_
 refine vn tbok 3 [] [(6, .slice none 0 0), (7, .bool false), (8, .int .i64 0)] [] E (by kernel_rfl) (by kernel_rfl) trivial ?_
 clear E; intro a E
 refine wpList_nil ?_
 refine th_n ?_
 refine wp_ret ?_
 replace H := H.nilrow (cInt .u8) 52; try dsimp only [setn, addE, goneL] at H
 obtain rfl := Option.some.inj hP
 refine ret3 E rfl rfl rfl rfl ?_
 exact ⟨_, rfl, none, 0, rfl, H.sel [0] rfl⟩

end Go.V
