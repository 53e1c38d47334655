/- Plain functions, and the calls that give them. -/
import Derived.Test.YtihindpnnbllkaaA1
set_option linter.all false
set_option linter.unusedVariables false
set_option linter.unnecessarySimpa false
set_option linter.unusedSimpArgs false
set_option maxRecDepth 100000
set_option maxHeartbeats 4000000
namespace Go.V
open Go Go.Proofs
/-! rejoinder/guard.Table -/
def guard_Table_l0 (N : Nat) (n : Int) (nodes : List Nd) (ref : Int) : Nat → (List Int) → Int → Option ((List Int) ⊕ ((List Int) × Int))
  | 0, _, _ => none
  | m72 + 1, out38, x41 =>
    if x41 < (shlV .i64 1 n) then
      Option.bind (guard_Go N nodes ref (IntKind.u8.wrap x41)) fun r81 =>
      if r81.2 = true then
        ask (List.length out38 + List.length ([r81.1] : List Int) ≤ 1000000000) <|
        ask (in64 (x41 + 1)) <|
        guard_Table_l0 N n nodes ref m72 (out38 ++ ([r81.1] : List Int)) (x41 + 1)
      else
        some (Sum.inr ([], 12))
    else
      some (Sum.inl out38)
def guard_Table (N : Nat) (n : Int) (nodes : List Nd) (ref : Int) : Option ((List Int) × Int) :=
  if n < 0 then
    some ([], 2)
  else
    if 8 < n then
      some ([], 2)
    else
      ask (0 ≤ n) <|
      Option.bind (guard_Table_l0 N n nodes ref N [] 0) fun x73 =>
      Sum.elim (fun x79 =>
        some (x79, 0))
       (fun x106 =>
        some x106) x73
theorem guard_Table_calls {N : Nat} {S Fa : Nat → Prop} {w0 : World} {r : (List Int) × Int} (A1 : Option Addr) (c2 : Nat) (n : Int) (nodes : List Nd) (ref : Int) (hk3 : List.length nodes ≤ c2) (H : Hp S Fa w0 w0 [.ro false cNode A1 nodes]) (hP : guard_Table N n nodes ref = some r) :
    Calls Try.prog 79 #[.int .i64 n, .slice A1 nodes.length c2, .int .i64 ref] w0 fun e w' => ∃ v, e = .returned v ∧ ∃ (A107 : Option Addr) (c108 : Nat), v = .tuple #[.slice A107 r.1.length c108, .int .i64 r.2] ∧ Hp S Fa w0 w' [.row true (cInt .i64) 3 A107 c108 r.1] := by
 refine enterV (n := 39) Try.func79 rfl rfl rfl ?_
 intro a E
 replace E := E.pick [(0, .int .i64 n), (1, .slice A1 nodes.length c2), (2, .int .i64 ref)] ⟨rfl, rfl, rfl, trivial⟩
 rw [guard_Table] at hP
 refine sr_ <| vp 2 [] E ?_
 clear E; intro a E
 refine nn_ <| wp_seq <| sr_ <| vp 3 [(14, .bool (decide (n < 0)))] E ?_
 clear E; intro a E
 revert E; refine csE 14 rfl (fun hb_ E => ?_) fun hb_ E => ?_
 ·
  have h5 : n < 0 := of_decide_eq_true hb_
  replace hP := ite_t h5 hP
  refine vp 3 [(17, .bool true)] E ?_
  clear E; intro a E
  refine nn_ <| c_true E rfl ?_
  refine sr_ <| vp 2 [(6, .slice none 0 0), (7, .int .i64 2)] E ?_
  clear E; intro a E
  refine nn_ <| wp_ret <| th_ret ?_
  replace H := H.nilrow (cInt .i64) 3; try dsimp only [setn, addE, goneL] at H
  obtain rfl := Option.some.inj hP
  refine ret2 E rfl rfl rfl ?_
  exact ⟨_, rfl, none, 0, rfl, H.sel [1] rfl⟩
 have h7 : ¬ (n < 0) := of_decide_eq_false hb_
 replace hP := ite_f h7 hP
 refine vp 3 [(17, .bool (decide (8 < n)))] E ?_
 clear E; intro a E
 refine nn_ ?_
 revert E; refine csE 17 rfl (fun hb_ E => ?_) fun hb_ E => ?_
 ·
  have h8 : 8 < n := of_decide_eq_true hb_
  replace hP := ite_t h8 hP
  refine c_true E rfl <| sr_ <| vp 2 [(6, .slice none 0 0), (7, .int .i64 2)] E ?_
  clear E; intro a E
  refine nn_ <| wp_ret <| th_ret ?_
  replace H := H.nilrow (cInt .i64) 3; try dsimp only [setn, addE, goneL] at H
  obtain rfl := Option.some.inj hP
  refine ret2 E rfl rfl rfl ?_
  exact ⟨_, rfl, none, 0, rfl, H.sel [1] rfl⟩
 have h10 : ¬ (8 < n) := of_decide_eq_false hb_
 replace hP := ite_f h10 hP
 refine c_false E rfl <| wp_skip <| th_n <| sr_ <| vp 1 [(8, .slice none 0 0)] E ?_
 clear E; intro a E
 refine nn_ <| wp_seq <| sr_ ?_
 obtain ⟨g11, hP⟩ := ask_inv hP
 refine vq 3 [.int .i64 (shlV .i64 1 n)] [(19, .int .i64 (shlV .i64 1 n)), (20, .int .i64 0)] [0 ≤ n ∧ IntKind.i64.wrap (1 * 2 ^ (min n.toNat (IntKind.bits .i64))) = shlV .i64 1 n] E (⟨g11, rfl⟩) ?_
 clear E; intro a E
 refine nn_ <| wp_block ?_
 obtain ⟨x73, hL74, hK75⟩ := bind_inv hP
 clear hP
 replace H := H.nilrow (cInt .i64) 3; try dsimp only [setn, addE, goneL] at H
 refine loop_cut (fun i_ a w_ => (i_ = 0 ∧ ∃ (x79 : List Int), ∃ (A70 : Option Addr) (c71 : Nat), Fr a 39 [(8, .slice A70 x79.length c71)] ∧ Hp S Fa w0 w_ [.row true (cInt .i64) 3 A70 c71 x79] ∧ x73 = Sum.inl x79)) ?_ ?_
 ·
  refine loopV (fun m78 a w77 => ∃ (out38 : List Int) (x41 : Int), ∃ (A39 : Option Addr) (c40 : Nat), Fr a 39 [(1, .slice A1 nodes.length c2), (2, .int .i64 ref), (8, .slice A39 out38.length c40), (19, .int .i64 (shlV .i64 1 n)), (20, .int .i64 x41)] ∧ Hp S Fa w0 w77 [.ro false cNode A1 nodes, .row true (cInt .i64) 3 A39 c40 out38] ∧ guard_Table_l0 N n nodes ref m78 out38 x41 = some x73) N ?_ ?_
  ·
   exact ⟨[], 0, none, 0, E.pk, H.sel [0, 1] rfl, hL74⟩
  clear E H hL74; intro m78 a w77 hI_
  obtain ⟨out38, x41, A39, c40, E, H, hP⟩ := hI_
  obtain ⟨m72, rfl⟩ : ∃ q_, m78 = q_ + 1 := by cases m78 with | zero => rw [guard_Table_l0] at hP; cases hP | succ q_ => exact ⟨q_, rfl⟩
  rw [guard_Table_l0] at hP
  refine sr_ <| vp 1 [(21, .bool (decide (x41 < (shlV .i64 1 n))))] E ?_
  clear E; intro a E
  refine nn_ <| wp_seq ?_
  revert E; refine csE 21 rfl (fun hb_ E => ?_) fun hb_ E => ?_
  ·
   have h80 : x41 < (shlV .i64 1 n) := of_decide_eq_true hb_
   replace hP := ite_t h80 hP
   refine c_true E rfl <| wp_skip <| th_n <| wp_seq <| wp_block <| sr_ <| vp 2 [(9, .int .i64 x41)] E ?_
   clear E; intro a E
   refine nn_ <| sr_ <| vq 4 [.int .u8 (IntKind.u8.wrap x41)] [(24, .slice A1 nodes.length c2), (25, .int .i64 ref), (27, .int .u8 (IntKind.u8.wrap x41))] [IntKind.u8.wrap x41 = (IntKind.u8.wrap x41)] E (rfl) ?_
   clear E; intro a E
   obtain ⟨r81, h82, hP⟩ := bind_inv hP
   obtain ⟨Fa83, Hc84, hb85⟩ := H.call [] [(0, false)] rfl rfl trivial
   refine e_call E rfl rfl Try.func81 rfl rfl rfl (guard_Go_calls A1 c2 nodes ref (IntKind.u8.wrap x41) hk3 Hc84 h82) ?_
   rintro v86 w87 a ⟨rfl, HR88⟩ E_
   replace E := E_ _ rfl; clear E_
   obtain ⟨H_, hc89⟩ := hb85 _ _ HR88 rfl
   replace H := H_; clear H_; try dsimp only [setn, addE, goneL] at H
   refine vp 5 [(10, .int .i64 r81.1), (11, .bool r81.2)] E ?_
   clear E; intro a E
   refine nn_ <| wp_seq <| sr_ <| vp 2 [(32, .bool (!r81.2))] E ?_
   clear E; intro a E
   refine nn_ ?_
   revert E; refine csE 32 rfl (fun hb_ E => ?_) fun hb_ E => ?_
   ·
    have h90 : ¬ (r81.2 = true) := (ne_true_of_eq_false (not_t hb_))
    replace hP := ite_f h90 hP
    refine c_true E rfl <| sr_ <| vp 2 [(6, .slice none 0 0), (7, .int .i64 12)] E ?_
    clear E; intro a E
    refine nn_ <| wp_ret <| th_ret <| bl_ret <| th_ret <| th_ret <| .inr ⟨rfl, ?_⟩
    refine bl_ret <| th_ret ?_
    replace H := H.nilrow (cInt .i64) 3; try dsimp only [setn, addE, goneL] at H
    have hx_ := Option.some.inj hP; subst hx_
    have hP : some (([], 12)) = some r := hK75
    obtain rfl := Option.some.inj hP
    refine ret2 E rfl rfl rfl ?_
    exact ⟨_, rfl, none, 0, rfl, H.sel [2] rfl⟩
   have h92 : r81.2 = true := (not_f hb_)
   replace hP := ite_t h92 hP
   refine c_false E rfl <| wp_skip <| th_n <| rl_ <| vp 2 [(33, .slice A39 out38.length c40), (34, .int .i64 r81.1)] E ?_
   clear E; intro a E
   refine h_buildSlice (ps := [(0, .int .i64 r81.1)]) (cs := [.int .i64 r81.1]) H E rfl rfl tbok rfl rfl (by kernel_rfl) ?_
   clear H E; intro w94 g93 a hc95 hg97 H E; replace E := E _ rfl; try dsimp only [setn, addE, goneL] at H
   obtain ⟨g98, hP⟩ := ask_inv hP
   refine h_append (cInt .i64) (xs := out38) (ys := ([r81.1] : List Int)) (0 : Int) H 1 rfl E rfl rfl tbok rfl rfl rfl rfl rfl (fun _ _ => rfl) rfl rfl (fun _ HF_ => HF_.srcB 2 rfl (⟨_, _, rfl, rfl, rfl⟩)) g98 ?_
   clear H E; intro w99 A100 c101 a hc102 hA103 H E; replace E := E _ rfl; try dsimp only [setn, addE, goneL] at H
   refine vp 1 [(8, .slice A100 (List.length (out38 ++ ([r81.1] : List Int))) c101)] E ?_
   clear E; intro a E
   refine nl_ <| bl_n <| th_n <| rl_ ?_
   obtain ⟨g104, hP⟩ := ask_inv hP
   refine vq 2 [.int .i64 (x41 + 1)] [(20, .int .i64 (x41 + 1))] [IntKind.i64.wrap (x41 + 1) = x41 + 1] E (wrap_in g104) ?_
   clear E; intro a E
   refine nl_ ?_
   exact th_n ⟨m72, Nat.lt_succ_self _, out38 ++ ([r81.1] : List Int), x41 + 1, A100, c101, E.pk, H.sel [0, 1] rfl, hP⟩
  have h105 : ¬ (x41 < (shlV .i64 1 n)) := of_decide_eq_false hb_
  replace hP := ite_f h105 hP
  refine c_false E rfl <| wp_exit <| th_exit ?_
  have hx_ := Option.some.inj hP
  refine th_exit (.inl ⟨0, rfl, ?_⟩)
  exact ⟨rfl, out38, A39, c40, E.pk, H.sel [1] rfl, hx_.symm⟩
 clear E H hL74; intro i_ a w77 hM_
 obtain ⟨rfl, x79, A70, c71, E, H, hx_⟩ := hM_
 subst hx_; have hP := elim_l hK75
 clear hK75
 refine bl_hit <| th_n <| sr_ <| vp 3 [(6, .slice A70 x79.length c71), (7, .int .i64 0)] E ?_
 clear E; intro a E
 refine nn_ <| wp_ret ?_
 obtain rfl := Option.some.inj hP
 refine ret2 E rfl rfl rfl ?_
 exact ⟨_, rfl, A70, c71, rfl, H.sel [0] rfl⟩

/-! rejoinder/both.met -/
def both_met_l1 (N : Nat) (i450 : Int) (r765 : (List Int) × Int) (r794 : (List Int) × Int) : Nat → (List (Int × Int)) → (List Int) → (List Int) → (List ((Int × Int) × Int)) → (List Int) → Int → Option ((List (Int × Int)) × (List Int) × (List Int) × (List ((Int × Int) × Int)) × (List Int))
  | 0, _, _, _, _, _, _ => none
  | m1013 + 1, p907, p910, p913, x916, row917, x918 =>
    if x918 < (r765.1.length : Int) then
      ask (idx x918 r765.1.length) <|
      ask (idx x918 r794.1.length) <|
      ask (key2 ((List.getD r765.1 x918.toNat 0), (List.getD r794.1 x918.toNat 0))) <|
      if (Option.isSome (mget x916 ((List.getD r765.1 x918.toNat 0), (List.getD r794.1 x918.toNat 0)))) = true then
        ask (idx x918 row917.length) <|
        ask (in64 (x918 + 1)) <|
        both_met_l1 N i450 r765 r794 m1013 p907 p910 p913 x916 (List.set row917 x918.toNat (Option.getD (mget x916 ((List.getD r765.1 x918.toNat 0), (List.getD r794.1 x918.toNat 0))) 0)) (x918 + 1)
      else
        ask (mget x916 ((List.getD r765.1 x918.toNat 0), (List.getD r794.1 x918.toNat 0)) = none) <|
        ask (List.length p907 + List.length ([((List.getD r765.1 x918.toNat 0), (List.getD r794.1 x918.toNat 0))] : List (Int × Int)) ≤ 1000000000) <|
        ask (List.length p910 + List.length ([i450] : List Int) ≤ 1000000000) <|
        ask (List.length p913 + List.length ([IntKind.u8.wrap x918]) ≤ 1000000000) <|
        ask (idx x918 row917.length) <|
        ask (in64 (x918 + 1)) <|
        both_met_l1 N i450 r765 r794 m1013 (p907 ++ ([((List.getD r765.1 x918.toNat 0), (List.getD r794.1 x918.toNat 0))] : List (Int × Int))) (p910 ++ ([i450] : List Int)) (p913 ++ ([IntKind.u8.wrap x918])) (x916 ++ [(((List.getD r765.1 x918.toNat 0), (List.getD r794.1 x918.toNat 0)), (p907.length : Int))]) (List.set row917 x918.toNat (p907.length : Int)) (x918 + 1)
    else
      some (p907, p910, p913, x916, row917)
def both_met_l0 (N : Nat) (aProps : Int) (aGuard : List Int) (aNodes : List Nd) (bProps : Int) (bGuard : List Int) (bNodes : List Nd) : Nat → (List (Int × Int)) → (List (List Int)) → (List Int) → (List Int) → (List ((Int × Int) × Int)) → Int → Option ((List (Int × Int)) × (List (List Int)) × (List Int) × (List Int))
  | 0, _, _, _, _, _, _ => none
  | m743 + 1, p436, p440, p443, p446, x449, i450 =>
    if i450 < (p436.length : Int) then
      ask (idx i450 p436.length) <|
      ask (idx ((List.getD p436 i450.toNat (0, 0)).1) aGuard.length) <|
      Option.bind (guard_Table N aProps aNodes (List.getD aGuard (Int.toNat ((List.getD p436 i450.toNat (0, 0)).1)) 0)) fun r765 =>
      ask (idx ((List.getD p436 i450.toNat (0, 0)).2) bGuard.length) <|
      Option.bind (guard_Table N bProps bNodes (List.getD bGuard (Int.toNat ((List.getD p436 i450.toNat (0, 0)).2)) 0)) fun r794 =>
      ask (0 ≤ (r765.1.length : Int) ∧ (r765.1.length : Int) ≤ 1000000000) <|
      Option.bind (both_met_l1 N i450 r765 r794 N p436 p443 p446 x449 (List.replicate (Int.toNat (r765.1.length : Int)) (0 : Int)) 0) fun x1014 =>
      ask (List.length p440 + List.length ([x1014.2.2.2.2] : List (List Int)) ≤ 1000000000) <|
      ask (in64 (i450 + 1)) <|
      both_met_l0 N aProps aGuard aNodes bProps bGuard bNodes m743 x1014.1 (p440 ++ ([x1014.2.2.2.2] : List (List Int))) x1014.2.1 x1014.2.2.1 x1014.2.2.2.1 (i450 + 1)
    else
      some (p436, p440, p443, p446)
def both_met (N : Nat) (aProps : Int) (aAccept : List Bool) (aGuard : List Int) (aNodes : List Nd) (bProps : Int) (bAccept : List Bool) (bGuard : List Int) (bNodes : List Nd) : Option ((List (Int × Int)) × (List (List Int)) × (List Int) × (List Int)) :=
  Option.bind (both_met_l0 N aProps aGuard aNodes bProps bGuard bNodes N ([(0, 0)] : List (Int × Int)) [] ([-1] : List Int) ([0] : List Int) ([] : List ((Int × Int) × Int)) 0) fun x744 =>
  some (x744.1, x744.2.1, x744.2.2.1, x744.2.2.2)
theorem both_met_calls {N : Nat} {S Fa : Nat → Prop} {w0 : World} {r : (List (Int × Int)) × (List (List Int)) × (List Int) × (List Int)} (A1 : Option Addr) (c2 : Nat) (A5 : Option Addr) (c6 : Nat) (A9 : Option Addr) (c10 : Nat) (A13 : Option Addr) (c14 : Nat) (A17 : Option Addr) (c18 : Nat) (A21 : Option Addr) (c22 : Nat) (aProps : Int) (aAccept : List Bool) (aGuard : List Int) (aNodes : List Nd) (bProps : Int) (bAccept : List Bool) (bGuard : List Int) (bNodes : List Nd) (hk3 : List.length aAccept ≤ c2) (hk7 : List.length aGuard ≤ c6) (hk11 : List.length aNodes ≤ c10) (hk15 : List.length bAccept ≤ c14) (hk19 : List.length bGuard ≤ c18) (hk23 : List.length bNodes ≤ c22) (H : Hp S Fa w0 w0 [.ro false cBool A1 aAccept, .ro false (cInt .i64) A5 aGuard, .ro false cNode A9 aNodes, .ro false cBool A13 bAccept, .ro false (cInt .i64) A17 bGuard, .ro false cNode A21 bNodes]) (hP : both_met N aProps aAccept aGuard aNodes bProps bAccept bGuard bNodes = some r) :
    Calls Try.prog 60 #[.agg #[.int .i64 aProps, .slice A1 aAccept.length c2, .slice A5 aGuard.length c6, .slice A9 aNodes.length c10], .agg #[.int .i64 bProps, .slice A13 bAccept.length c14, .slice A17 bGuard.length c18, .slice A21 bNodes.length c22]] w0 fun e w' => ∃ v, e = .returned v ∧ (∃ (x_ : (List (Int × Int)) × (List (List Int)) × (List Int) × (List Int)) (b26 : Nat), r = x_ ∧ v = .pointer (some ⟨b26, 0, none⟩) ∧ Hp S Fa w0 w' [.ro true cS81 (some ⟨b26, 0, none⟩) ([x_])]) := by
 refine enterV (n := 149) Try.func60 rfl rfl rfl ?_
 intro a E
 replace E := E.pick [(0, .agg #[.int .i64 aProps, .slice A1 aAccept.length c2, .slice A5 aGuard.length c6, .slice A9 aNodes.length c10]), (1, .agg #[.int .i64 bProps, .slice A13 bAccept.length c14, .slice A17 bGuard.length c18, .slice A21 bNodes.length c22])] ⟨rfl, rfl, trivial⟩
 rw [both_met] at hP
 refine sr_ <| h_box H E rfl rfl rfl ?_
 clear H E; intro w129 g128 a hc130 hg132 H E; replace E := E _ rfl; try dsimp only [setn, addE, goneL] at H
 refine h_box H E rfl rfl rfl ?_
 clear H E; intro w134 g133 a hc135 hg137 H E; replace E := E _ rfl; try dsimp only [setn, addE, goneL] at H
 refine vp 1 [] E ?_
 clear E; intro a E
 refine nn_ <| sr_ <| e_build (ps := [(0, .int .i64 0), (1, .int .i64 0)]) (v := .agg #[.int .i64 0, .int .i64 0]) E rfl rfl tbok rfl (by kernel_rfl) rfl ?_
 clear E; intro a E
 refine h_buildSlice (ps := [(0, .agg #[.int .i64 0, .int .i64 0])]) (cs := [.int .i64 0, .int .i64 0]) H E rfl rfl tbok rfl rfl (by kernel_rfl) ?_
 clear H E; intro w139 g138 a hc140 hg142 H E; replace E := E _ rfl; try dsimp only [setn, addE, goneL] at H
 refine h_buildSlice (ps := [(0, .int .i64 (-1))]) (cs := [.int .i64 (-1)]) H E rfl rfl tbok rfl rfl (by kernel_rfl) ?_
 clear H E; intro w144 g143 a hc145 hg147 H E; replace E := E _ rfl; try dsimp only [setn, addE, goneL] at H
 refine h_buildSlice (ps := [(0, .int .u8 0)]) (cs := [.int .u8 0]) H E rfl rfl tbok rfl rfl (by kernel_rfl) ?_
 clear H E; intro w149 g148 a hc150 hg152 H E; replace E := E _ rfl; try dsimp only [setn, addE, goneL] at H
 refine e_build (ps := [(0, .slice (some ⟨g138, 0, none⟩) 1 1), (2, .slice (some ⟨g143, 0, none⟩) 1 1), (3, .slice (some ⟨g148, 0, none⟩) 1 1)]) (v := .agg #[.slice (some ⟨g138, 0, none⟩) 1 1, .slice none 0 0, .slice (some ⟨g143, 0, none⟩) 1 1, .slice (some ⟨g148, 0, none⟩) 1 1]) E rfl rfl tbok rfl (by kernel_rfl) rfl ?_
 clear E; intro a E
 refine h_box H E rfl rfl rfl ?_
 clear H E; intro w154 g153 a hc155 hg157 H E; replace E := E _ rfl; try dsimp only [setn, addE, goneL] at H
 refine vp 1 [(5, .pointer (some ⟨g153, 0, none⟩))] E ?_
 clear E; intro a E
 refine nn_ <| sr_ <| h_makeMap (P := Try.prog) (k0 := 84) H E rfl rfl ?_
 clear H E; intro w159 g158 a hc160 hg161 H E; replace E := E _ rfl; try dsimp only [setn, addE, goneL] at H
 refine vp 1 [(6, .map (some g158))] E ?_
 clear E; intro a E
 refine nn_ <| wp_seq <| sr_ <| vp 1 [(7, .int .i64 0)] E ?_
 clear E; intro a E
 refine nn_ <| wp_block ?_
 obtain ⟨x744, hL745, hK746⟩ := bind_inv hP
 clear hP
 replace H := H.boxRow cS83 true ([(0, 0)] : List (Int × Int)) 8 rfl (fun _ _ => ⟨_, _, rfl, rfl, rfl⟩) (Nat.le_of_ble_eq_true rfl); try dsimp only [setn, addE, goneL] at H
 replace H := H.rowx 8 rfl; try dsimp only [setn, addE, goneL] at H
 replace H := H.nilrow (cSl (cInt .i64)) 23; try dsimp only [setn, addE, goneL] at H
 replace H := H.boxRow (cInt .i64) true ([-1] : List Int) 9 rfl (fun _ _ => ⟨_, _, rfl, rfl, rfl⟩) (Nat.le_of_ble_eq_true rfl); try dsimp only [setn, addE, goneL] at H
 replace H := H.rowx 9 rfl; try dsimp only [setn, addE, goneL] at H
 replace H := H.boxRow (cInt .u8) true ([0] : List Int) 10 rfl (fun _ _ => ⟨_, _, rfl, rfl, rfl⟩) (Nat.le_of_ble_eq_true rfl); try dsimp only [setn, addE, goneL] at H
 replace H := H.rowx 10 rfl; try dsimp only [setn, addE, goneL] at H
 refine loop_cut (fun i_ a w_ => (i_ = 0 ∧ ∃ (x750 : (List (Int × Int)) × (List (List Int)) × (List Int) × (List Int)), ∃ (A731 : Option Addr) (c732 : Nat) (A735 : Option Addr) (c736 : Nat) (A738 : Option Addr) (c739 : Nat) (A741 : Option Addr) (c742 : Nat), Fr a 149 [(5, .pointer (some ⟨g153, 0, none⟩))] ∧ Hp S Fa w0 w_ [.box g153 82 [.slice A731 x750.1.length c732, .slice A735 x750.2.1.length c736, .slice A738 x750.2.2.1.length c739, .slice A741 x750.2.2.2.length c742], .row true cS83 84 A731 c732 x750.1, .row true (cSl (cInt .i64)) 23 A735 c736 x750.2.1, .row true (cInt .i64) 3 A738 c739 x750.2.2.1, .row true (cInt .u8) 50 A741 c742 x750.2.2.2] ∧ x744 = x750)) ?_ ?_
 ·
  refine loopV (fun m749 a w748 => ∃ (p436 : List (Int × Int)) (p440 : List (List Int)) (p443 : List Int) (p446 : List Int) (x449 : List ((Int × Int) × Int)) (i450 : Int), ∃ (A437 : Option Addr) (c438 : Nat) (A441 : Option Addr) (c442 : Nat) (A444 : Option Addr) (c445 : Nat) (A447 : Option Addr) (c448 : Nat), Fr a 149 [(2, .pointer (some ⟨g128, 0, none⟩)), (3, .pointer (some ⟨g133, 0, none⟩)), (5, .pointer (some ⟨g153, 0, none⟩)), (6, .map (some g158)), (7, .int .i64 i450)] ∧ Hp S Fa w0 w748 [.ro false cBool A1 aAccept, .ro false (cInt .i64) A5 aGuard, .ro false cNode A9 aNodes, .box g128 26 [.int .i64 aProps, .slice A1 aAccept.length c2, .slice A5 aGuard.length c6, .slice A9 aNodes.length c10], .ro false cBool A13 bAccept, .ro false (cInt .i64) A17 bGuard, .ro false cNode A21 bNodes, .box g133 26 [.int .i64 bProps, .slice A13 bAccept.length c14, .slice A17 bGuard.length c18, .slice A21 bNodes.length c22], .box g153 82 [.slice A437 p436.length c438, .slice A441 p440.length c442, .slice A444 p443.length c445, .slice A447 p446.length c448], .row true cS83 84 A437 c438 p436, .row true (cSl (cInt .i64)) 23 A441 c442 p440, .row true (cInt .i64) 3 A444 c445 p443, .row true (cInt .u8) 50 A447 c448 p446, .mp Try.prog 84 g158 (List.map (fun p_ => ((fun x_ : Int × Int => .agg #[.int .i64 x_.1, .int .i64 x_.2]) p_.1, (fun u_ : Int => .int .i64 u_) p_.2)) x449)] ∧ both_met_l0 N aProps aGuard aNodes bProps bGuard bNodes m749 p436 p440 p443 p446 x449 i450 = some x744) N ?_ ?_
  ·
   exact ⟨([(0, 0)] : List (Int × Int)), [], ([-1] : List Int), ([0] : List Int), ([] : List ((Int × Int) × Int)), 0, (some ⟨g138, 0, none⟩), (List.length ([(0, 0)] : List (Int × Int))), none, 0, (some ⟨g143, 0, none⟩), (List.length ([-1] : List Int)), (some ⟨g148, 0, none⟩), (List.length ([0] : List Int)), E.pk, H.sel [0, 1, 2, 6, 3, 4, 5, 7, 11, 8, 13, 9, 10, 12] rfl, hL745⟩
  clear E H hL745; intro m749 a w748 hI_
  obtain ⟨p436, p440, p443, p446, x449, i450, A437, c438, A441, c442, A444, c445, A447, c448, E, H, hP⟩ := hI_
  obtain ⟨m743, rfl⟩ : ∃ q_, m749 = q_ + 1 := by cases m749 with | zero => rw [both_met_l0] at hP; cases hP | succ q_ => exact ⟨q_, rfl⟩
  rw [both_met_l0] at hP
  refine wp_seq <| sr_ <| vq 7 [.slice A437 p436.length c438] [(31, .bool (decide (i450 < (p436.length : Int))))] [World.cell? w748 ⟨g153, 0, none⟩ = some (.slice A437 p436.length c438)] E ((H.box 8 rfl).cell (j := 0) rfl) ?_
  clear E; intro a E
  refine nn_ ?_
  revert E; refine csE 31 rfl (fun hb_ E => ?_) fun hb_ E => ?_
  ·
   have h751 : i450 < (p436.length : Int) := of_decide_eq_true hb_
   replace hP := ite_t h751 hP
   refine c_true E rfl <| wp_skip <| th_n <| wp_seq <| wp_block <| sr_ ?_
   obtain ⟨g752, hP⟩ := ask_inv hP
   obtain ⟨b753, e_b753⟩ := H.raddr 9 rfl (idx_pos g752)
   subst e_b753
   refine vq 7 [.slice (some ⟨b753, 0, none⟩) p436.length c438, .agg #[.int .i64 ((List.getD p436 i450.toNat (0, 0)).1), .int .i64 ((List.getD p436 i450.toNat (0, 0)).2)]] [(40, .agg #[.int .i64 ((List.getD p436 i450.toNat (0, 0)).1), .int .i64 ((List.getD p436 i450.toNat (0, 0)).2)])] [World.cell? w748 ⟨g153, 0, none⟩ = some (.slice (some ⟨b753, 0, none⟩) p436.length c438), 0 ≤ i450 ∧ i450 < (p436.length : Int), cellsAt w748 b753 (0 + i450.toNat * 2) [.int .i64 ((List.getD p436 i450.toNat (0, 0)).1), .int .i64 ((List.getD p436 i450.toNat (0, 0)).2)]] E ⟨(H.box 8 rfl).cell (j := 0) rfl, g752, Rds.atP (H.rd 9 rds_row) (0, 0) g752⟩ ?_
   clear E; intro a E
   refine h_alloc H E rfl rfl tbok rfl ?_
   clear H E; intro w756 g755 a hc757 hg759 H E; replace E := E _ rfl; try dsimp only [setn, addE, goneL] at H
   refine h_store (g := g755) (off := 0) H 14 rfl E rfl rfl rfl rfl tbok rfl rfl rfl rfl rfl ?_
   clear E; intro w760 a hc761 H_ E
   replace H := H_; clear H_; try dsimp only [setn, addE, goneL] at H
   refine nn_ <| wp_seq ?_
   obtain ⟨g762, hP⟩ := ask_inv hP
   obtain ⟨b763, o764, e_b763⟩ := (H.rd 1 rds_ro).addr (idx_pos g762)
   subst e_b763
   obtain ⟨r765, h766, hP⟩ := bind_inv hP
   have HR780 := H
   refine dr_start (S := fun w_ => Chg (atL []) w760 w_) (by kernel_rfl) ?_
   intro w777 hc778
   have HS779 : Chg (atL []) w760 w777 := hc778.mono (fun _ _ h_ => h_.elim)
   replace H := H.ext hc778
   refine dn tbok (by kernel_rfl) [0, 1, 2, 3, 4, 5, 6, 7, 8, 9] [.int .i64 aProps, .slice A9 aNodes.length c10, .slice (some ⟨b763, o764, none⟩) aGuard.length c6, .int .i64 ((List.getD p436 i450.toNat (0, 0)).1), .int .i64 (List.getD aGuard (Int.toNat ((List.getD p436 i450.toNat (0, 0)).1)) 0)] [(43, .int .i64 aProps), (45, .slice A9 aNodes.length c10), (51, .int .i64 (List.getD aGuard (Int.toNat ((List.getD p436 i450.toNat (0, 0)).1)) 0))] (fun w_ => [World.cell? w_ ⟨g128, 0, none⟩ = some (.int .i64 aProps), World.cell? w_ ⟨g128, 3, none⟩ = some (.slice A9 aNodes.length c10), World.cell? w_ ⟨g128, 2, none⟩ = some (.slice (some ⟨b763, o764, none⟩) aGuard.length c6), 0 ≤ (0 : Int) ∧ (0 : Int) < ((2 : Nat) : Int), World.cell? w_ ⟨g755, 0, none⟩ = some (.int .i64 ((List.getD p436 i450.toNat (0, 0)).1)), 0 ≤ ((List.getD p436 i450.toNat (0, 0)).1) ∧ ((List.getD p436 i450.toNat (0, 0)).1) < (aGuard.length : Int), World.cell? w_ ⟨b763, o764 + (Int.toNat ((List.getD p436 i450.toNat (0, 0)).1)) * 1, none⟩ = some (.int .i64 (List.getD aGuard (Int.toNat ((List.getD p436 i450.toNat (0, 0)).1)) 0))]) 6 E (fun _ _ => by kernel_rfl) (by kernel_rfl) (fun w_ hS_ => ⟨(HR780.boxk [] hS_ 3 rfl rfl).cell (j := 0) rfl, (HR780.boxk [] hS_ 3 rfl rfl).cell (j := 3) rfl, (HR780.boxk [] hS_ 3 rfl rfl).cell (j := 2) rfl, ⟨by decide, by decide⟩, (HR780.boxk [] hS_ 14 rfl rfl).cell (j := 0) rfl, g762, Rds.at1 (HR780.rdk [] hS_ 1 rds_ro rfl) 0 g762⟩) (by kernel_rfl) HS779 ?_
   clear E; intro a E
   refine wpAnyH_all (rs := [10]) (by kernel_rfl) (by simp) ?_
   refine all1 ?_
   refine wpOp_of_list rfl ?_
   obtain ⟨Fa781, Hc782, hb783⟩ := H.call [] [(2, false)] rfl rfl trivial
   refine e_call E rfl rfl Try.func79 rfl rfl rfl (guard_Table_calls A9 c10 aProps aNodes (List.getD aGuard (Int.toNat ((List.getD p436 i450.toNat (0, 0)).1)) 0) hk11 Hc782 h766) ?_
   rintro v784 w785 a ⟨A788, c789, rfl, HR786⟩ E_
   replace E := E_ _ rfl; clear E_
   obtain ⟨H_, hc787⟩ := hb783 _ _ HR786 rfl
   replace HS779 := HS779.ext (callS_ext hc787)
   replace H := H_; clear H_; try dsimp only [setn, addE, goneL] at H
   refine nl_ <| th_n ⟨HS779, ?_⟩
   refine dn tbok (by kernel_rfl) [11, 12, 13, 14, 15] [] [(9, .slice A788 r765.1.length c789)] (fun w_ => []) 0 E (fun _ _ => by kernel_rfl) (by kernel_rfl) (fun w_ hS_ => trivial) (by kernel_rfl) HS779 ?_
   clear E; intro a E
   refine dr_done (by kernel_rfl) ?_
   clear HS779 HR780
   refine th_n <| wp_seq ?_
   obtain ⟨g791, hP⟩ := ask_inv hP
   obtain ⟨b792, o793, e_b792⟩ := (H.rd 5 rds_ro).addr (idx_pos g791)
   subst e_b792
   obtain ⟨r794, h795, hP⟩ := bind_inv hP
   have HR809 := H
   refine dr_start (S := fun w_ => Chg (atL []) w785 w_) (by kernel_rfl) ?_
   intro w806 hc807
   have HS808 : Chg (atL []) w785 w806 := hc807.mono (fun _ _ h_ => h_.elim)
   replace H := H.ext hc807
   refine dn tbok (by kernel_rfl) [0, 1, 2, 3, 4, 5, 6, 7, 8, 9] [.int .i64 bProps, .slice A21 bNodes.length c22, .slice (some ⟨b792, o793, none⟩) bGuard.length c18, .int .i64 ((List.getD p436 i450.toNat (0, 0)).2), .int .i64 (List.getD bGuard (Int.toNat ((List.getD p436 i450.toNat (0, 0)).2)) 0)] [(57, .int .i64 bProps), (59, .slice A21 bNodes.length c22), (65, .int .i64 (List.getD bGuard (Int.toNat ((List.getD p436 i450.toNat (0, 0)).2)) 0))] (fun w_ => [World.cell? w_ ⟨g133, 0, none⟩ = some (.int .i64 bProps), World.cell? w_ ⟨g133, 3, none⟩ = some (.slice A21 bNodes.length c22), World.cell? w_ ⟨g133, 2, none⟩ = some (.slice (some ⟨b792, o793, none⟩) bGuard.length c18), 0 ≤ (1 : Int) ∧ (1 : Int) < ((2 : Nat) : Int), World.cell? w_ ⟨g755, 1, none⟩ = some (.int .i64 ((List.getD p436 i450.toNat (0, 0)).2)), 0 ≤ ((List.getD p436 i450.toNat (0, 0)).2) ∧ ((List.getD p436 i450.toNat (0, 0)).2) < (bGuard.length : Int), World.cell? w_ ⟨b792, o793 + (Int.toNat ((List.getD p436 i450.toNat (0, 0)).2)) * 1, none⟩ = some (.int .i64 (List.getD bGuard (Int.toNat ((List.getD p436 i450.toNat (0, 0)).2)) 0))]) 6 E (fun _ _ => by kernel_rfl) (by kernel_rfl) (fun w_ hS_ => ⟨(HR809.boxk [] hS_ 7 rfl rfl).cell (j := 0) rfl, (HR809.boxk [] hS_ 7 rfl rfl).cell (j := 3) rfl, (HR809.boxk [] hS_ 7 rfl rfl).cell (j := 2) rfl, ⟨by decide, by decide⟩, (HR809.boxk [] hS_ 14 rfl rfl).cell (j := 1) rfl, g791, Rds.at1 (HR809.rdk [] hS_ 5 rds_ro rfl) 0 g791⟩) (by kernel_rfl) HS808 ?_
   clear E; intro a E
   refine wpAnyH_all (rs := [10]) (by kernel_rfl) (by simp) ?_
   refine all1 ?_
   refine wpOp_of_list rfl ?_
   obtain ⟨Fa810, Hc811, hb812⟩ := H.call [] [(6, false)] rfl rfl trivial
   refine e_call E rfl rfl Try.func79 rfl rfl rfl (guard_Table_calls A21 c22 bProps bNodes (List.getD bGuard (Int.toNat ((List.getD p436 i450.toNat (0, 0)).2)) 0) hk23 Hc811 h795) ?_
   rintro v813 w814 a ⟨A817, c818, rfl, HR815⟩ E_
   replace E := E_ _ rfl; clear E_
   obtain ⟨H_, hc816⟩ := hb812 _ _ HR815 rfl
   replace HS808 := HS808.ext (callS_ext hc816)
   replace H := H_; clear H_; try dsimp only [setn, addE, goneL] at H
   refine nl_ <| th_n ⟨HS808, ?_⟩
   refine dn tbok (by kernel_rfl) [11, 12, 13, 14, 15] [] [(11, .slice A817 r794.1.length c818)] (fun w_ => []) 0 E (fun _ _ => by kernel_rfl) (by kernel_rfl) (fun w_ hS_ => trivial) (by kernel_rfl) HS808 ?_
   clear E; intro a E
   refine dr_done (by kernel_rfl) ?_
   clear HS808 HR809
   refine th_n <| sr_ <| vp 2 [(70, .int .i64 (r765.1.length : Int))] E ?_
   clear E; intro a E
   obtain ⟨g820, hP⟩ := ask_inv hP
   refine h_make (cInt .i64) (0 : Int) H E rfl rfl tbok rfl rfl rfl rfl ⟨g820.1, Int.le_refl _, g820.2⟩ rfl rfl rfl (fun _ _ => rfl) ?_
   clear H E; intro w822 g821 a hc823 hg825 H E; replace E := E _ rfl; try dsimp only [setn, addE, goneL] at H
   refine vp 1 [(13, .slice (some ⟨g821, 0, none⟩) (List.length (List.replicate (Int.toNat (r765.1.length : Int)) (0 : Int))) (Int.toNat (r765.1.length : Int)))] E ?_
   clear E; intro a E
   refine nn_ <| wp_seq <| sr_ <| vp 3 [(73, .int .i64 (r765.1.length : Int)), (74, .int .i64 0)] E ?_
   clear E; intro a E
   refine nn_ <| wp_block ?_
   obtain ⟨x1014, hL1015, hK1016⟩ := bind_inv hP
   clear hP
   refine loop_cut (fun i_ a w_ => (i_ = 2 ∧ ∃ (x1019 : (List (Int × Int)) × (List Int) × (List Int) × (List ((Int × Int) × Int)) × (List Int)), ∃ (A1003 : Option Addr) (c1004 : Nat) (A1006 : Option Addr) (c1007 : Nat) (A1009 : Option Addr) (c1010 : Nat), Fr a 149 [(2, .pointer (some ⟨g128, 0, none⟩)), (3, .pointer (some ⟨g133, 0, none⟩)), (5, .pointer (some ⟨g153, 0, none⟩)), (6, .map (some g158)), (7, .int .i64 i450), (13, .slice (some ⟨g821, 0, none⟩) x1019.2.2.2.2.length (Int.toNat (r765.1.length : Int)))] ∧ Hp S Fa w0 w_ [.ro false cBool A1 aAccept, .ro false (cInt .i64) (some ⟨b763, o764, none⟩) aGuard, .ro false cNode A9 aNodes, .box g128 26 [.int .i64 aProps, .slice A1 aAccept.length c2, .slice (some ⟨b763, o764, none⟩) aGuard.length c6, .slice A9 aNodes.length c10], .ro false cBool A13 bAccept, .ro false (cInt .i64) (some ⟨b792, o793, none⟩) bGuard, .ro false cNode A21 bNodes, .box g133 26 [.int .i64 bProps, .slice A13 bAccept.length c14, .slice (some ⟨b792, o793, none⟩) bGuard.length c18, .slice A21 bNodes.length c22], .box g153 82 [.slice A1003 x1019.1.length c1004, .slice A441 p440.length c442, .slice A1006 x1019.2.1.length c1007, .slice A1009 x1019.2.2.1.length c1010], .row true cS83 84 A1003 c1004 x1019.1, .row true (cSl (cInt .i64)) 23 A441 c442 p440, .row true (cInt .i64) 3 A1006 c1007 x1019.2.1, .row true (cInt .u8) 50 A1009 c1010 x1019.2.2.1, .mp Try.prog 84 g158 (List.map (fun p_ => ((fun x_ : Int × Int => .agg #[.int .i64 x_.1, .int .i64 x_.2]) p_.1, (fun u_ : Int => .int .i64 u_) p_.2)) x1019.2.2.2.1), .rowx true (cInt .i64) 3 (some ⟨g821, 0, none⟩) (Int.toNat (r765.1.length : Int)) x1019.2.2.2.2 (List.replicate (Int.toNat (r765.1.length : Int) - Int.toNat (r765.1.length : Int)) (0 : Int))] ∧ x1014 = x1019)) ?_ ?_
   ·
    refine loopV (fun m1018 a w1017 => ∃ (p907 : List (Int × Int)) (p910 : List Int) (p913 : List Int) (x916 : List ((Int × Int) × Int)) (row917 : List Int) (x918 : Int), ∃ (A908 : Option Addr) (c909 : Nat) (A911 : Option Addr) (c912 : Nat) (A914 : Option Addr) (c915 : Nat), Fr a 149 [(2, .pointer (some ⟨g128, 0, none⟩)), (3, .pointer (some ⟨g133, 0, none⟩)), (5, .pointer (some ⟨g153, 0, none⟩)), (6, .map (some g158)), (7, .int .i64 i450), (9, .slice A788 r765.1.length c789), (11, .slice A817 r794.1.length c818), (13, .slice (some ⟨g821, 0, none⟩) row917.length (Int.toNat (r765.1.length : Int))), (73, .int .i64 (r765.1.length : Int)), (74, .int .i64 x918)] ∧ Hp S Fa w0 w1017 [.ro false cBool A1 aAccept, .ro false (cInt .i64) (some ⟨b763, o764, none⟩) aGuard, .ro false cNode A9 aNodes, .box g128 26 [.int .i64 aProps, .slice A1 aAccept.length c2, .slice (some ⟨b763, o764, none⟩) aGuard.length c6, .slice A9 aNodes.length c10], .ro false cBool A13 bAccept, .ro false (cInt .i64) (some ⟨b792, o793, none⟩) bGuard, .ro false cNode A21 bNodes, .box g133 26 [.int .i64 bProps, .slice A13 bAccept.length c14, .slice (some ⟨b792, o793, none⟩) bGuard.length c18, .slice A21 bNodes.length c22], .box g153 82 [.slice A908 p907.length c909, .slice A441 p440.length c442, .slice A911 p910.length c912, .slice A914 p913.length c915], .row true cS83 84 A908 c909 p907, .row true (cSl (cInt .i64)) 23 A441 c442 p440, .row true (cInt .i64) 3 A911 c912 p910, .row true (cInt .u8) 50 A914 c915 p913, .mp Try.prog 84 g158 (List.map (fun p_ => ((fun x_ : Int × Int => .agg #[.int .i64 x_.1, .int .i64 x_.2]) p_.1, (fun u_ : Int => .int .i64 u_) p_.2)) x916), .row true (cInt .i64) 3 A788 c789 r765.1, .row true (cInt .i64) 3 A817 c818 r794.1, .rowx true (cInt .i64) 3 (some ⟨g821, 0, none⟩) (Int.toNat (r765.1.length : Int)) row917 (List.replicate (Int.toNat (r765.1.length : Int) - Int.toNat (r765.1.length : Int)) (0 : Int))] ∧ both_met_l1 N i450 r765 r794 m1018 p907 p910 p913 x916 row917 x918 = some x1014) N ?_ ?_
    ·
     exact ⟨p436, p443, p446, x449, List.replicate (Int.toNat (r765.1.length : Int)) (0 : Int), 0, (some ⟨b753, 0, none⟩), c438, A444, c445, A447, c448, E.pk, H.sel [0, 1, 2, 3, 4, 5, 6, 7, 8, 9, 10, 11, 12, 13, 15, 16, 17] rfl, hL1015⟩
    clear E H hL1015; intro m1018 a w1017 hI_
    obtain ⟨p907, p910, p913, x916, row917, x918, A908, c909, A911, c912, A914, c915, E, H, hP⟩ := hI_
    obtain ⟨m1013, rfl⟩ : ∃ q_, m1018 = q_ + 1 := by cases m1018 with | zero => rw [both_met_l1] at hP; cases hP | succ q_ => exact ⟨q_, rfl⟩
    rw [both_met_l1] at hP
    refine sr_ <| vp 1 [(75, .bool (decide (x918 < (r765.1.length : Int))))] E ?_
    clear E; intro a E
    refine nn_ <| wp_seq ?_
    revert E; refine csE 75 rfl (fun hb_ E => ?_) fun hb_ E => ?_
    ·
     have h1020 : x918 < (r765.1.length : Int) := of_decide_eq_true hb_
     replace hP := ite_t h1020 hP
     refine c_true E rfl <| wp_skip <| th_n <| wp_seq <| wp_block <| sr_ <| vp 2 [(14, .int .i64 x918)] E ?_
     clear E; intro a E
     refine nn_ <| wp_seq ?_
     obtain ⟨g1021, hP⟩ := ask_inv hP
     obtain ⟨b1022, e_b1022⟩ := H.raddr 14 rfl (idx_pos g1021)
     subst e_b1022
     obtain ⟨g1024, hP⟩ := ask_inv hP
     obtain ⟨b1025, e_b1025⟩ := H.raddr 15 rfl (idx_pos g1024)
     subst e_b1025
     refine dr_start (S := fun _ => True) (by kernel_rfl) ?_
     intro w1032 hc1033
     replace H := H.ext hc1033
     refine dr_cut (S := fun w_ => Chg (atL []) w1032 w_) 10 10 #[false, false, false, false, false, false, false, false, false, false] (fun a w1036 => ∃ (g1035 : Nat), Fr a 149 [(2, .pointer (some ⟨g128, 0, none⟩)), (3, .pointer (some ⟨g133, 0, none⟩)), (5, .pointer (some ⟨g153, 0, none⟩)), (6, .map (some g158)), (7, .int .i64 i450), (9, .slice (some ⟨b1022, 0, none⟩) r765.1.length c789), (11, .slice (some ⟨b1025, 0, none⟩) r794.1.length c818), (13, .slice (some ⟨g821, 0, none⟩) row917.length (Int.toNat (r765.1.length : Int))), (14, .int .i64 x918), (15, .pointer (some ⟨g1035, 0, none⟩)), (73, .int .i64 (r765.1.length : Int)), (74, .int .i64 x918), (85, .agg #[.int .i64 (List.getD r765.1 x918.toNat 0), .int .i64 (List.getD r794.1 x918.toNat 0)])] ∧ Hp S Fa w0 w1036 [.ro false cBool A1 aAccept, .ro false (cInt .i64) (some ⟨b763, o764, none⟩) aGuard, .ro false cNode A9 aNodes, .box g128 26 [.int .i64 aProps, .slice A1 aAccept.length c2, .slice (some ⟨b763, o764, none⟩) aGuard.length c6, .slice A9 aNodes.length c10], .ro false cBool A13 bAccept, .ro false (cInt .i64) (some ⟨b792, o793, none⟩) bGuard, .ro false cNode A21 bNodes, .box g133 26 [.int .i64 bProps, .slice A13 bAccept.length c14, .slice (some ⟨b792, o793, none⟩) bGuard.length c18, .slice A21 bNodes.length c22], .row true cS83 84 A908 c909 p907, .row true (cSl (cInt .i64)) 23 A441 c442 p440, .row true (cInt .i64) 3 A911 c912 p910, .row true (cInt .u8) 50 A914 c915 p913, .box g153 82 [.slice A908 p907.length c909, .slice A441 p440.length c442, .slice A911 p910.length c912, .slice A914 p913.length c915], .mp Try.prog 84 g158 (List.map (fun p_ => ((fun x_ : Int × Int => .agg #[.int .i64 x_.1, .int .i64 x_.2]) p_.1, (fun u_ : Int => .int .i64 u_) p_.2)) x916), .row true (cInt .i64) 3 (some ⟨b1022, 0, none⟩) c789 r765.1, .row true (cInt .i64) 3 (some ⟨b1025, 0, none⟩) c818 r794.1, .rowx true (cInt .i64) 3 (some ⟨g821, 0, none⟩) (Int.toNat (r765.1.length : Int)) row917 (List.replicate (Int.toNat (r765.1.length : Int) - Int.toNat (r765.1.length : Int)) (0 : Int)), .box g1035 84 [.int .i64 0, .int .i64 0]]) (by kernel_rfl) (by kernel_rfl) rfl (by kernel_rfl) (by kernel_rfl) ?_ ?_
     ·
      have HR1040 := H
      have HS1039 : Chg (atL []) w1032 w1032 := Chg.refl _ _
      refine dn tbok (by kernel_rfl) [0, 1, 2, 3, 4, 5, 6, 7] [.int .i64 (List.getD r765.1 x918.toNat 0), .int .i64 (List.getD r794.1 x918.toNat 0)] [(80, .int .i64 (List.getD r765.1 x918.toNat 0)), (84, .int .i64 (List.getD r794.1 x918.toNat 0))] (fun w_ => [0 ≤ x918 ∧ x918 < (r765.1.length : Int), World.cell? w_ ⟨b1022, 0 + x918.toNat * 1, none⟩ = some (.int .i64 (List.getD r765.1 x918.toNat 0)), 0 ≤ x918 ∧ x918 < (r794.1.length : Int), World.cell? w_ ⟨b1025, 0 + x918.toNat * 1, none⟩ = some (.int .i64 (List.getD r794.1 x918.toNat 0))]) 2 E (fun _ _ => by kernel_rfl) (by kernel_rfl) (fun w_ hS_ => ⟨g1021, Rds.at1 (HR1040.rdk [] hS_ 14 rds_row rfl) 0 g1021, g1024, Rds.at1 (HR1040.rdk [] hS_ 15 rds_row rfl) 0 g1024⟩) (by kernel_rfl) HS1039 ?_
      clear E; intro a E
      refine wpAnyH_all (rs := [8, 9]) (by kernel_rfl) (by simp) ?_
      refine all2 ?_ ?_
      ·
       refine wpOp_of_list rfl ?_
       refine e_build (ps := [(0, .int .i64 (List.getD r765.1 x918.toNat 0)), (1, .int .i64 (List.getD r794.1 x918.toNat 0))]) (v := .agg #[.int .i64 (List.getD r765.1 x918.toNat 0), .int .i64 (List.getD r794.1 x918.toNat 0)]) E rfl rfl tbok rfl (by kernel_rfl) rfl ?_
       clear E; intro a E
       refine nl_ <| th_n ⟨HS1039, ?_⟩
       refine wpAnyH_all (rs := [9]) (by kernel_rfl) (by simp) ?_
       refine all1 ?_
       refine wpOp_of_list rfl ?_
       refine h_alloc H E rfl rfl tbok rfl ?_
       intro w1042 g1041 a hc1043 hg1045 H_ E_
       replace E := E_ _ rfl; clear E_
       have hin1046 : ∀ q_, q_ < w1032.heap.size → q_ = g1041 → (atL []) q_ := fun q_ h1_ h2_ => by have hs_ := HS1039.size; have h4_ : q_ = g1041 := h2_; exfalso; omega
       replace HS1039 := HS1039.ext hc1043
       replace H := H_; clear H_; try dsimp only [setn, addE, goneL] at H
       refine nl_ <| th_n ⟨HS1039, ?_⟩
       refine dr_doneM (by kernel_rfl) ?_
       exact ⟨g1041, E.pk, H.sel [0, 1, 2, 3, 4, 5, 6, 7, 9, 10, 11, 12, 8, 13, 14, 15, 16, 17] rfl⟩
      refine wpOp_of_list rfl ?_
      refine h_alloc H E rfl rfl tbok rfl ?_
      intro w1048 g1047 a hc1049 hg1051 H_ E_
      replace E := E_ _ rfl; clear E_
      have hin1052 : ∀ q_, q_ < w1032.heap.size → q_ = g1047 → (atL []) q_ := fun q_ h1_ h2_ => by have hs_ := HS1039.size; have h4_ : q_ = g1047 := h2_; exfalso; omega
      replace HS1039 := HS1039.ext hc1049
      replace H := H_; clear H_; try dsimp only [setn, addE, goneL] at H
      refine nl_ <| th_n ⟨HS1039, ?_⟩
      refine wpAnyH_all (rs := [8]) (by kernel_rfl) (by simp) ?_
      refine all1 ?_
      refine wpOp_of_list rfl ?_
      refine e_build (ps := [(0, .int .i64 (List.getD r765.1 x918.toNat 0)), (1, .int .i64 (List.getD r794.1 x918.toNat 0))]) (v := .agg #[.int .i64 (List.getD r765.1 x918.toNat 0), .int .i64 (List.getD r794.1 x918.toNat 0)]) E rfl rfl tbok rfl (by kernel_rfl) rfl ?_
      clear E; intro a E
      refine nl_ <| th_n ⟨HS1039, ?_⟩
      refine dr_doneM (by kernel_rfl) ?_
      exact ⟨g1047, E.pk, H.sel [0, 1, 2, 3, 4, 5, 6, 7, 9, 10, 11, 12, 8, 13, 14, 15, 16, 17] rfl⟩
     clear E H; rintro a w1036 ⟨g1035, E, H⟩
     refine h_store (g := g1035) (off := 0) H 17 rfl E rfl rfl rfl rfl tbok rfl rfl rfl rfl rfl ?_
     clear E; intro w1053 a hc1054 H_ E
     replace H := H_; clear H_; try dsimp only [setn, addE, goneL] at H
     refine nl_ <| NoPanic.normal ?_
     refine th_n <| sr_ <| vq 2 [.agg #[.int .i64 (List.getD r765.1 x918.toNat 0), .int .i64 (List.getD r794.1 x918.toNat 0)]] [(87, .map (some g158)), (88, .agg #[.int .i64 (List.getD r765.1 x918.toNat 0), .int .i64 (List.getD r794.1 x918.toNat 0)])] [cellsAt w1053 g1035 (0) [.int .i64 (List.getD r765.1 x918.toNat 0), .int .i64 (List.getD r794.1 x918.toNat 0)]] E ((H.box 17 rfl).sub 0 _ rfl) ?_
     clear E; intro a E
     obtain ⟨g1055, hP⟩ := ask_inv hP
     refine h_lookupC (fun x_ : Int × Int => .agg #[.int .i64 x_.1, .int .i64 x_.2]) (fun u_ : Int => .int .i64 u_) ((List.getD r765.1 x918.toNat 0), (List.getD r794.1 x918.toNat 0)) 0 H 13 rfl E rfl rfl tbok rfl rfl (kArr2 Try.underlying84 Try.underlying3 (by kernel_rfl) (by kernel_rfl) (by kernel_rfl) (by kernel_rfl) (Maps.Keyed.of_law (deep_law (m := 3) (by decide) (by kernel_rfl) (by kernel_rfl) (by kernel_rfl)))) rfl rfl rfl g1055 (fun _ => ⟨_, rfl⟩) ?_
     clear E; intro a E_; replace E := E_ _ rfl; clear E_
     refine vp 5 [(16, .int .i64 (Option.getD (mget x916 ((List.getD r765.1 x918.toNat 0), (List.getD r794.1 x918.toNat 0))) 0)), (17, .bool (Option.isSome (mget x916 ((List.getD r765.1 x918.toNat 0), (List.getD r794.1 x918.toNat 0)))))] E ?_
     clear E; intro a E
     refine nn_ <| wp_seq <| sr_ <| vp 2 [(93, .bool (!(Option.isSome (mget x916 ((List.getD r765.1 x918.toNat 0), (List.getD r794.1 x918.toNat 0))))))] E ?_
     clear E; intro a E
     refine nn_ ?_
     revert E; refine csE 93 rfl (fun hb_ E => ?_) fun hb_ E => ?_
     ·
      have h1056 : ¬ ((Option.isSome (mget x916 ((List.getD r765.1 x918.toNat 0), (List.getD r794.1 x918.toNat 0)))) = true) := (ne_true_of_eq_false (not_t hb_))
      replace hP := ite_f h1056 hP
      refine c_true E rfl <| sr_ <| vq 6 [.slice A908 p907.length c909] [(16, .int .i64 (p907.length : Int))] [World.cell? w1053 ⟨g153, 0, none⟩ = some (.slice A908 p907.length c909)] E ((H.box 12 rfl).cell (j := 0) rfl) ?_
      clear E; intro a E
      refine nn_ <| sr_ <| vq 3 [.agg #[.int .i64 (List.getD r765.1 x918.toNat 0), .int .i64 (List.getD r794.1 x918.toNat 0)]] [(99, .map (some g158)), (100, .agg #[.int .i64 (List.getD r765.1 x918.toNat 0), .int .i64 (List.getD r794.1 x918.toNat 0)]), (101, .int .i64 (p907.length : Int))] [cellsAt w1053 g1035 (0) [.int .i64 (List.getD r765.1 x918.toNat 0), .int .i64 (List.getD r794.1 x918.toNat 0)]] E ((H.box 17 rfl).sub 0 _ rfl) ?_
      clear E; intro a E
      obtain ⟨g1057, hP⟩ := ask_inv hP
      refine h_mapUpdate (fun x_ : Int × Int => .agg #[.int .i64 x_.1, .int .i64 x_.2]) (fun u_ : Int => .int .i64 u_) ((List.getD r765.1 x918.toNat 0), (List.getD r794.1 x918.toNat 0)) (p907.length : Int) H 13 rfl E rfl rfl tbok rfl (kArr2 Try.underlying84 Try.underlying3 (by kernel_rfl) (by kernel_rfl) (by kernel_rfl) (by kernel_rfl) (Maps.Keyed.of_law (deep_law (m := 3) (by decide) (by kernel_rfl) (by kernel_rfl) (by kernel_rfl)))) rfl rfl rfl g1055 g1057 rfl ?_
      clear E; intro w1058 a hc1059 H_ E
      replace H := H_; clear H_; try dsimp only [setn, addE, goneL] at H
      refine nn_ ?_
      obtain ⟨g1065, hP⟩ := ask_inv hP
      obtain ⟨g1076, hP⟩ := ask_inv hP
      refine dr_start (S := fun _ => True) (by kernel_rfl) ?_
      intro w1087 hc1088
      replace H := H.ext hc1088
      refine dr tbok (by kernel_rfl) [0, 1, 2] [] [(2, .pointer (some ⟨g128, 0, none⟩)), (3, .pointer (some ⟨g133, 0, none⟩)), (5, .pointer (some ⟨g153, 0, none⟩)), (6, .map (some g158)), (7, .int .i64 i450), (9, .slice (some ⟨b1022, 0, none⟩) r765.1.length c789), (11, .slice (some ⟨b1025, 0, none⟩) r794.1.length c818), (13, .slice (some ⟨g821, 0, none⟩) row917.length (Int.toNat (r765.1.length : Int))), (14, .int .i64 x918), (15, .pointer (some ⟨g1035, 0, none⟩)), (16, .int .i64 (p907.length : Int)), (73, .int .i64 (r765.1.length : Int)), (74, .int .i64 x918), (99, .map (some g158)), (100, .agg #[.int .i64 (List.getD r765.1 x918.toNat 0), .int .i64 (List.getD r794.1 x918.toNat 0)]), (101, .int .i64 (p907.length : Int)), (102, .pointer (some ⟨g153, 0, none⟩)), (103, .pointer (some ⟨g153, 0, none⟩)), (104, .pointer (some ⟨g153, 0, none⟩))] (fun w_ => []) 31 E (fun _ _ => by kernel_rfl) (fun w_ hS_ => trivial) (by kernel_rfl) trivial ?_
      clear E; intro a E
      refine dr_cut (S := fun w_ => Chg (atL [.row true cS83 84 A908 c909 p907, .row true (cInt .i64) 3 A911 c912 p910]) w1087 w_) 24 21 #[true, true, true, false, false, false, false, false, false, false, false, false, false, false, false, false, false, false, false, false, false, false, false, false] (fun a w1096 => ∃ (A1089 : Option Addr) (c1090 : Nat) (A1091 : Option Addr) (c1092 : Nat) (A1094 : Option Addr) (c1095 : Nat), Fr a 149 [(2, .pointer (some ⟨g128, 0, none⟩)), (3, .pointer (some ⟨g133, 0, none⟩)), (5, .pointer (some ⟨g153, 0, none⟩)), (6, .map (some g158)), (7, .int .i64 i450), (9, .slice (some ⟨b1022, 0, none⟩) r765.1.length c789), (11, .slice (some ⟨b1025, 0, none⟩) r794.1.length c818), (13, .slice (some ⟨g821, 0, none⟩) row917.length (Int.toNat (r765.1.length : Int))), (14, .int .i64 x918), (16, .int .i64 (p907.length : Int)), (73, .int .i64 (r765.1.length : Int)), (74, .int .i64 x918), (102, .pointer (some ⟨g153, 0, none⟩)), (103, .pointer (some ⟨g153, 0, none⟩)), (104, .pointer (some ⟨g153, 0, none⟩)), (111, .slice A1089 (List.length (p907 ++ ([((List.getD r765.1 x918.toNat 0), (List.getD r794.1 x918.toNat 0))] : List (Int × Int)))) c1090), (118, .slice A1091 (List.length (p910 ++ ([i450] : List Int))) c1092), (122, .slice A914 p913.length c915), (125, .slice A1094 (List.length ([IntKind.u8.wrap x918])) c1095)] ∧ Hp S Fa w0 w1096 [.ro false cBool A1 aAccept, .ro false (cInt .i64) (some ⟨b763, o764, none⟩) aGuard, .ro false cNode A9 aNodes, .box g128 26 [.int .i64 aProps, .slice A1 aAccept.length c2, .slice (some ⟨b763, o764, none⟩) aGuard.length c6, .slice A9 aNodes.length c10], .ro false cBool A13 bAccept, .ro false (cInt .i64) (some ⟨b792, o793, none⟩) bGuard, .ro false cNode A21 bNodes, .box g133 26 [.int .i64 bProps, .slice A13 bAccept.length c14, .slice (some ⟨b792, o793, none⟩) bGuard.length c18, .slice A21 bNodes.length c22], .row true cS83 84 A1089 c1090 (p907 ++ ([((List.getD r765.1 x918.toNat 0), (List.getD r794.1 x918.toNat 0))] : List (Int × Int))), .row true (cSl (cInt .i64)) 23 A441 c442 p440, .row true (cInt .i64) 3 A1091 c1092 (p910 ++ ([i450] : List Int)), .row true (cInt .u8) 50 A914 c915 p913, .box g153 82 [.slice A908 p907.length c909, .slice A441 p440.length c442, .slice A911 p910.length c912, .slice A914 p913.length c915], .mp Try.prog 84 g158 (List.map (fun p_ => ((fun x_ : Int × Int => .agg #[.int .i64 x_.1, .int .i64 x_.2]) p_.1, (fun u_ : Int => .int .i64 u_) p_.2)) (x916 ++ [(((List.getD r765.1 x918.toNat 0), (List.getD r794.1 x918.toNat 0)), (p907.length : Int))])), .row true (cInt .i64) 3 (some ⟨b1022, 0, none⟩) c789 r765.1, .row true (cInt .i64) 3 (some ⟨b1025, 0, none⟩) c818 r794.1, .rowx true (cInt .i64) 3 (some ⟨g821, 0, none⟩) (Int.toNat (r765.1.length : Int)) row917 (List.replicate (Int.toNat (r765.1.length : Int) - Int.toNat (r765.1.length : Int)) (0 : Int)), .row true (cInt .u8) 50 A1094 c1095 ([IntKind.u8.wrap x918])]) (by kernel_rfl) (by kernel_rfl) rfl (by kernel_rfl) (by kernel_rfl) ?_ ?_
      ·
       have HR1100 := H
       have HS1099 : Chg (atL [.row true cS83 84 A908 c909 p907, .row true (cInt .i64) 3 A911 c912 p910]) w1087 w1087 := Chg.refl _ _
       refine dn tbok (by kernel_rfl) [3, 4, 5, 6, 7, 10, 11, 12, 13, 14, 17, 18, 19, 20, 21, 22] [.slice A908 p907.length c909, .agg #[.int .i64 (List.getD r765.1 x918.toNat 0), .int .i64 (List.getD r794.1 x918.toNat 0)], .slice A911 p910.length c912, .slice A914 p913.length c915, .int .u8 (IntKind.u8.wrap x918)] [(108, .slice A908 p907.length c909), (109, .agg #[.int .i64 (List.getD r765.1 x918.toNat 0), .int .i64 (List.getD r794.1 x918.toNat 0)]), (115, .slice A911 p910.length c912), (116, .int .i64 i450), (122, .slice A914 p913.length c915), (124, .int .u8 (IntKind.u8.wrap x918))] (fun w_ => [World.cell? w_ ⟨g153, 0, none⟩ = some (.slice A908 p907.length c909), cellsAt w_ g1035 (0) [.int .i64 (List.getD r765.1 x918.toNat 0), .int .i64 (List.getD r794.1 x918.toNat 0)], World.cell? w_ ⟨g153, 2, none⟩ = some (.slice A911 p910.length c912), World.cell? w_ ⟨g153, 3, none⟩ = some (.slice A914 p913.length c915), IntKind.u8.wrap x918 = (IntKind.u8.wrap x918)]) 5 E (fun _ _ => by kernel_rfl) (by kernel_rfl) (fun w_ hS_ => ⟨(HR1100.boxk [8, 10] hS_ 12 rfl rfl).cell (j := 0) rfl, (HR1100.boxk [8, 10] hS_ 17 rfl rfl).sub 0 _ rfl, (HR1100.boxk [8, 10] hS_ 12 rfl rfl).cell (j := 2) rfl, (HR1100.boxk [8, 10] hS_ 12 rfl rfl).cell (j := 3) rfl, rfl⟩) (by kernel_rfl) HS1099 ?_
       clear E; intro a E
       refine wpAnyH_all (rs := [8, 15, 23]) (by kernel_rfl) (by simp) ?_
       refine all3 ?_ ?_ ?_
       ·
        refine wpOp_of_list rfl ?_
        refine h_buildSlice (ps := [(0, .agg #[.int .i64 (List.getD r765.1 x918.toNat 0), .int .i64 (List.getD r794.1 x918.toNat 0)])]) (cs := [.int .i64 (List.getD r765.1 x918.toNat 0), .int .i64 (List.getD r794.1 x918.toNat 0)]) H E rfl rfl tbok rfl rfl (by kernel_rfl) ?_
        intro w1102 g1101 a hc1103 hg1105 H_ E_
        replace E := E_ _ rfl; clear E_
        have hin1106 : ∀ q_, q_ < w1087.heap.size → q_ = g1101 → (atL [.row true cS83 84 A908 c909 p907, .row true (cInt .i64) 3 A911 c912 p910]) q_ := fun q_ h1_ h2_ => by have hs_ := HS1099.size; have h4_ : q_ = g1101 := h2_; exfalso; omega
        replace HS1099 := HS1099.ext hc1103
        replace H := H_; clear H_; try dsimp only [setn, addE, goneL] at H
        refine nl_ <| th_n ⟨HS1099, ?_⟩
        refine wpAnyH_all (rs := [9, 15, 23]) (by kernel_rfl) (by simp) ?_
        refine all3 ?_ ?_ ?_
        ·
         refine wpOp_of_list rfl ?_
         refine h_append cS83 (xs := p907) (ys := ([((List.getD r765.1 x918.toNat 0), (List.getD r794.1 x918.toNat 0))] : List (Int × Int))) ((0, 0) : Int × Int) H 8 rfl E rfl rfl tbok rfl rfl rfl rfl rfl (fun _ _ => rfl) rfl rfl (fun _ HF_ => HF_.srcB 18 rfl (⟨_, _, rfl, rfl, rfl⟩)) g1065 ?_
         intro w1107 A1108 c1109 a hc1110 hA1111 H_ E_
         replace E := E_ _ rfl; clear E_
         have hin1112 : ∀ q_, q_ < w1087.heap.size → At A1108 q_ → (atL [.row true cS83 84 A908 c909 p907, .row true (cInt .i64) 3 A911 c912 p910]) q_ := fun q_ h1_ h2_ => (hA1111 q_ h2_).elim ((fun _ _ h_ => Or.inl h_) q_ h1_) (fun h3_ => by have hs_ := HS1099.size; exfalso; omega)
         replace HS1099 := HS1099.trans hc1110 (fun k_ hk_ h_ => (fun _ _ h_ => Or.inl h_) k_ hk_ h_)
         replace H := H_; clear H_; try dsimp only [setn, addE, goneL] at H
         refine nl_ <| th_n ⟨HS1099, ?_⟩
         refine wpAnyH_all (rs := [15, 23]) (by kernel_rfl) (by simp) ?_
         refine all2 ?_ ?_
         ·
          refine wpOp_of_list rfl ?_
          refine h_buildSlice (ps := [(0, .int .i64 i450)]) (cs := [.int .i64 i450]) H E rfl rfl tbok rfl rfl (by kernel_rfl) ?_
          intro w1114 g1113 a hc1115 hg1117 H_ E_
          replace E := E_ _ rfl; clear E_
          have hin1118 : ∀ q_, q_ < w1087.heap.size → q_ = g1113 → (atL [.row true cS83 84 A908 c909 p907, .row true (cInt .i64) 3 A911 c912 p910]) q_ := fun q_ h1_ h2_ => by have hs_ := HS1099.size; have h4_ : q_ = g1113 := h2_; exfalso; omega
          replace HS1099 := HS1099.ext hc1115
          replace H := H_; clear H_; try dsimp only [setn, addE, goneL] at H
          refine nl_ <| th_n ⟨HS1099, ?_⟩
          refine wpAnyH_all (rs := [16, 23]) (by kernel_rfl) (by simp) ?_
          refine all2 ?_ ?_
          ·
           refine wpOp_of_list rfl ?_
           refine h_append (cInt .i64) (xs := p910) (ys := ([i450] : List Int)) (0 : Int) H 10 rfl E rfl rfl tbok rfl rfl rfl rfl rfl (fun _ _ => rfl) rfl rfl (fun _ HF_ => HF_.srcB 19 rfl (⟨_, _, rfl, rfl, rfl⟩)) g1076 ?_
           intro w1119 A1120 c1121 a hc1122 hA1123 H_ E_
           replace E := E_ _ rfl; clear E_
           have hin1124 : ∀ q_, q_ < w1087.heap.size → At A1120 q_ → (atL [.row true cS83 84 A908 c909 p907, .row true (cInt .i64) 3 A911 c912 p910]) q_ := fun q_ h1_ h2_ => (hA1123 q_ h2_).elim ((fun _ _ h_ => Or.inr (Or.inl h_)) q_ h1_) (fun h3_ => by have hs_ := HS1099.size; exfalso; omega)
           replace HS1099 := HS1099.trans hc1122 (fun k_ hk_ h_ => (fun _ _ h_ => Or.inr (Or.inl h_)) k_ hk_ h_)
           replace H := H_; clear H_; try dsimp only [setn, addE, goneL] at H
           refine nl_ <| th_n ⟨HS1099, ?_⟩
           refine wpAnyH_all (rs := [23]) (by kernel_rfl) (by simp) ?_
           refine all1 ?_
           refine wpOp_of_list rfl ?_
           refine h_buildSlice (ps := [(0, .int .u8 (IntKind.u8.wrap x918))]) (cs := [.int .u8 (IntKind.u8.wrap x918)]) H E rfl rfl tbok rfl rfl (by kernel_rfl) ?_
           intro w1126 g1125 a hc1127 hg1129 H_ E_
           replace E := E_ _ rfl; clear E_
           have hin1130 : ∀ q_, q_ < w1087.heap.size → q_ = g1125 → (atL [.row true cS83 84 A908 c909 p907, .row true (cInt .i64) 3 A911 c912 p910]) q_ := fun q_ h1_ h2_ => by have hs_ := HS1099.size; have h4_ : q_ = g1125 := h2_; exfalso; omega
           replace HS1099 := HS1099.ext hc1127
           replace H := H_; clear H_; try dsimp only [setn, addE, goneL] at H
           refine nl_ <| th_n ⟨HS1099, ?_⟩
           refine dr_doneM (by kernel_rfl) ?_
           replace H := H.boxRow (cInt .u8) true ([IntKind.u8.wrap x918] : List Int) 20 rfl (fun _ _ => ⟨_, _, rfl, rfl, rfl⟩) (Nat.le_of_ble_eq_true rfl); try dsimp only [setn, addE, goneL] at H
           replace H := H.rowx 20 rfl; try dsimp only [setn, addE, goneL] at H
           exact ⟨A1108, c1109, A1120, c1121, (some ⟨g1125, 0, none⟩), (List.length ([IntKind.u8.wrap x918] : List Int)), E.pk, H.sel [0, 1, 2, 3, 4, 5, 6, 7, 8, 9, 10, 11, 12, 13, 14, 15, 16, 20] rfl⟩
          refine wpOp_of_list rfl ?_
          refine h_buildSlice (ps := [(0, .int .u8 (IntKind.u8.wrap x918))]) (cs := [.int .u8 (IntKind.u8.wrap x918)]) H E rfl rfl tbok rfl rfl (by kernel_rfl) ?_
          intro w1132 g1131 a hc1133 hg1135 H_ E_
          replace E := E_ _ rfl; clear E_
          have hin1136 : ∀ q_, q_ < w1087.heap.size → q_ = g1131 → (atL [.row true cS83 84 A908 c909 p907, .row true (cInt .i64) 3 A911 c912 p910]) q_ := fun q_ h1_ h2_ => by have hs_ := HS1099.size; have h4_ : q_ = g1131 := h2_; exfalso; omega
          replace HS1099 := HS1099.ext hc1133
          replace H := H_; clear H_; try dsimp only [setn, addE, goneL] at H
          refine nl_ <| th_n ⟨HS1099, ?_⟩
          refine wpAnyH_all (rs := [16]) (by kernel_rfl) (by simp) ?_
          refine all1 ?_
          refine wpOp_of_list rfl ?_
          refine h_append (cInt .i64) (xs := p910) (ys := ([i450] : List Int)) (0 : Int) H 10 rfl E rfl rfl tbok rfl rfl rfl rfl rfl (fun _ _ => rfl) rfl rfl (fun _ HF_ => HF_.srcB 19 rfl (⟨_, _, rfl, rfl, rfl⟩)) g1076 ?_
          intro w1137 A1138 c1139 a hc1140 hA1141 H_ E_
          replace E := E_ _ rfl; clear E_
          have hin1142 : ∀ q_, q_ < w1087.heap.size → At A1138 q_ → (atL [.row true cS83 84 A908 c909 p907, .row true (cInt .i64) 3 A911 c912 p910]) q_ := fun q_ h1_ h2_ => (hA1141 q_ h2_).elim ((fun _ _ h_ => Or.inr (Or.inl h_)) q_ h1_) (fun h3_ => by have hs_ := HS1099.size; exfalso; omega)
          replace HS1099 := HS1099.trans hc1140 (fun k_ hk_ h_ => (fun _ _ h_ => Or.inr (Or.inl h_)) k_ hk_ h_)
          replace H := H_; clear H_; try dsimp only [setn, addE, goneL] at H
          refine nl_ <| th_n ⟨HS1099, ?_⟩
          refine dr_doneM (by kernel_rfl) ?_
          replace H := H.boxRow (cInt .u8) true ([IntKind.u8.wrap x918] : List Int) 20 rfl (fun _ _ => ⟨_, _, rfl, rfl, rfl⟩) (Nat.le_of_ble_eq_true rfl); try dsimp only [setn, addE, goneL] at H
          replace H := H.rowx 20 rfl; try dsimp only [setn, addE, goneL] at H
          exact ⟨A1108, c1109, A1138, c1139, (some ⟨g1131, 0, none⟩), (List.length ([IntKind.u8.wrap x918] : List Int)), E.pk, H.sel [0, 1, 2, 3, 4, 5, 6, 7, 8, 9, 10, 11, 12, 13, 14, 15, 16, 20] rfl⟩
         refine wpOp_of_list rfl ?_
         refine h_buildSlice (ps := [(0, .int .u8 (IntKind.u8.wrap x918))]) (cs := [.int .u8 (IntKind.u8.wrap x918)]) H E rfl rfl tbok rfl rfl (by kernel_rfl) ?_
         intro w1144 g1143 a hc1145 hg1147 H_ E_
         replace E := E_ _ rfl; clear E_
         have hin1148 : ∀ q_, q_ < w1087.heap.size → q_ = g1143 → (atL [.row true cS83 84 A908 c909 p907, .row true (cInt .i64) 3 A911 c912 p910]) q_ := fun q_ h1_ h2_ => by have hs_ := HS1099.size; have h4_ : q_ = g1143 := h2_; exfalso; omega
         replace HS1099 := HS1099.ext hc1145
         replace H := H_; clear H_; try dsimp only [setn, addE, goneL] at H
         refine nl_ <| th_n ⟨HS1099, ?_⟩
         refine wpAnyH_all (rs := [15]) (by kernel_rfl) (by simp) ?_
         refine all1 ?_
         refine wpOp_of_list rfl ?_
         refine h_buildSlice (ps := [(0, .int .i64 i450)]) (cs := [.int .i64 i450]) H E rfl rfl tbok rfl rfl (by kernel_rfl) ?_
         intro w1150 g1149 a hc1151 hg1153 H_ E_
         replace E := E_ _ rfl; clear E_
         have hin1154 : ∀ q_, q_ < w1087.heap.size → q_ = g1149 → (atL [.row true cS83 84 A908 c909 p907, .row true (cInt .i64) 3 A911 c912 p910]) q_ := fun q_ h1_ h2_ => by have hs_ := HS1099.size; have h4_ : q_ = g1149 := h2_; exfalso; omega
         replace HS1099 := HS1099.ext hc1151
         replace H := H_; clear H_; try dsimp only [setn, addE, goneL] at H
         refine nl_ <| th_n ⟨HS1099, ?_⟩
         refine wpAnyH_all (rs := [16]) (by kernel_rfl) (by simp) ?_
         refine all1 ?_
         refine wpOp_of_list rfl ?_
         refine h_append (cInt .i64) (xs := p910) (ys := ([i450] : List Int)) (0 : Int) H 10 rfl E rfl rfl tbok rfl rfl rfl rfl rfl (fun _ _ => rfl) rfl rfl (fun _ HF_ => HF_.srcB 20 rfl (⟨_, _, rfl, rfl, rfl⟩)) g1076 ?_
         intro w1155 A1156 c1157 a hc1158 hA1159 H_ E_
         replace E := E_ _ rfl; clear E_
         have hin1160 : ∀ q_, q_ < w1087.heap.size → At A1156 q_ → (atL [.row true cS83 84 A908 c909 p907, .row true (cInt .i64) 3 A911 c912 p910]) q_ := fun q_ h1_ h2_ => (hA1159 q_ h2_).elim ((fun _ _ h_ => Or.inr (Or.inl h_)) q_ h1_) (fun h3_ => by have hs_ := HS1099.size; exfalso; omega)
         replace HS1099 := HS1099.trans hc1158 (fun k_ hk_ h_ => (fun _ _ h_ => Or.inr (Or.inl h_)) k_ hk_ h_)
         replace H := H_; clear H_; try dsimp only [setn, addE, goneL] at H
         refine nl_ <| th_n ⟨HS1099, ?_⟩
         refine dr_doneM (by kernel_rfl) ?_
         replace H := H.boxRow (cInt .u8) true ([IntKind.u8.wrap x918] : List Int) 19 rfl (fun _ _ => ⟨_, _, rfl, rfl, rfl⟩) (Nat.le_of_ble_eq_true rfl); try dsimp only [setn, addE, goneL] at H
         replace H := H.rowx 19 rfl; try dsimp only [setn, addE, goneL] at H
         exact ⟨A1108, c1109, A1156, c1157, (some ⟨g1143, 0, none⟩), (List.length ([IntKind.u8.wrap x918] : List Int)), E.pk, H.sel [0, 1, 2, 3, 4, 5, 6, 7, 8, 9, 10, 11, 12, 13, 14, 15, 16, 19] rfl⟩
        ·
         refine wpOp_of_list rfl ?_
         refine h_buildSlice (ps := [(0, .int .i64 i450)]) (cs := [.int .i64 i450]) H E rfl rfl tbok rfl rfl (by kernel_rfl) ?_
         intro w1162 g1161 a hc1163 hg1165 H_ E_
         replace E := E_ _ rfl; clear E_
         have hin1166 : ∀ q_, q_ < w1087.heap.size → q_ = g1161 → (atL [.row true cS83 84 A908 c909 p907, .row true (cInt .i64) 3 A911 c912 p910]) q_ := fun q_ h1_ h2_ => by have hs_ := HS1099.size; have h4_ : q_ = g1161 := h2_; exfalso; omega
         replace HS1099 := HS1099.ext hc1163
         replace H := H_; clear H_; try dsimp only [setn, addE, goneL] at H
         refine nl_ <| th_n ⟨HS1099, ?_⟩
         refine wpAnyH_all (rs := [9, 23]) (by kernel_rfl) (by simp) ?_
         refine all2 ?_ ?_
         ·
          refine wpOp_of_list rfl ?_
          refine h_append cS83 (xs := p907) (ys := ([((List.getD r765.1 x918.toNat 0), (List.getD r794.1 x918.toNat 0))] : List (Int × Int))) ((0, 0) : Int × Int) H 8 rfl E rfl rfl tbok rfl rfl rfl rfl rfl (fun _ _ => rfl) rfl rfl (fun _ HF_ => HF_.srcB 18 rfl (⟨_, _, rfl, rfl, rfl⟩)) g1065 ?_
          intro w1167 A1168 c1169 a hc1170 hA1171 H_ E_
          replace E := E_ _ rfl; clear E_
          have hin1172 : ∀ q_, q_ < w1087.heap.size → At A1168 q_ → (atL [.row true cS83 84 A908 c909 p907, .row true (cInt .i64) 3 A911 c912 p910]) q_ := fun q_ h1_ h2_ => (hA1171 q_ h2_).elim ((fun _ _ h_ => Or.inl h_) q_ h1_) (fun h3_ => by have hs_ := HS1099.size; exfalso; omega)
          replace HS1099 := HS1099.trans hc1170 (fun k_ hk_ h_ => (fun _ _ h_ => Or.inl h_) k_ hk_ h_)
          replace H := H_; clear H_; try dsimp only [setn, addE, goneL] at H
          refine nl_ <| th_n ⟨HS1099, ?_⟩
          refine wpAnyH_all (rs := [16, 23]) (by kernel_rfl) (by simp) ?_
          refine all2 ?_ ?_
          ·
           refine wpOp_of_list rfl ?_
           refine h_append (cInt .i64) (xs := p910) (ys := ([i450] : List Int)) (0 : Int) H 10 rfl E rfl rfl tbok rfl rfl rfl rfl rfl (fun _ _ => rfl) rfl rfl (fun _ HF_ => HF_.srcB 19 rfl (⟨_, _, rfl, rfl, rfl⟩)) g1076 ?_
           intro w1173 A1174 c1175 a hc1176 hA1177 H_ E_
           replace E := E_ _ rfl; clear E_
           have hin1178 : ∀ q_, q_ < w1087.heap.size → At A1174 q_ → (atL [.row true cS83 84 A908 c909 p907, .row true (cInt .i64) 3 A911 c912 p910]) q_ := fun q_ h1_ h2_ => (hA1177 q_ h2_).elim ((fun _ _ h_ => Or.inr (Or.inl h_)) q_ h1_) (fun h3_ => by have hs_ := HS1099.size; exfalso; omega)
           replace HS1099 := HS1099.trans hc1176 (fun k_ hk_ h_ => (fun _ _ h_ => Or.inr (Or.inl h_)) k_ hk_ h_)
           replace H := H_; clear H_; try dsimp only [setn, addE, goneL] at H
           refine nl_ <| th_n ⟨HS1099, ?_⟩
           refine wpAnyH_all (rs := [23]) (by kernel_rfl) (by simp) ?_
           refine all1 ?_
           refine wpOp_of_list rfl ?_
           refine h_buildSlice (ps := [(0, .int .u8 (IntKind.u8.wrap x918))]) (cs := [.int .u8 (IntKind.u8.wrap x918)]) H E rfl rfl tbok rfl rfl (by kernel_rfl) ?_
           intro w1180 g1179 a hc1181 hg1183 H_ E_
           replace E := E_ _ rfl; clear E_
           have hin1184 : ∀ q_, q_ < w1087.heap.size → q_ = g1179 → (atL [.row true cS83 84 A908 c909 p907, .row true (cInt .i64) 3 A911 c912 p910]) q_ := fun q_ h1_ h2_ => by have hs_ := HS1099.size; have h4_ : q_ = g1179 := h2_; exfalso; omega
           replace HS1099 := HS1099.ext hc1181
           replace H := H_; clear H_; try dsimp only [setn, addE, goneL] at H
           refine nl_ <| th_n ⟨HS1099, ?_⟩
           refine dr_doneM (by kernel_rfl) ?_
           replace H := H.boxRow (cInt .u8) true ([IntKind.u8.wrap x918] : List Int) 20 rfl (fun _ _ => ⟨_, _, rfl, rfl, rfl⟩) (Nat.le_of_ble_eq_true rfl); try dsimp only [setn, addE, goneL] at H
           replace H := H.rowx 20 rfl; try dsimp only [setn, addE, goneL] at H
           exact ⟨A1168, c1169, A1174, c1175, (some ⟨g1179, 0, none⟩), (List.length ([IntKind.u8.wrap x918] : List Int)), E.pk, H.sel [0, 1, 2, 3, 4, 5, 6, 7, 8, 9, 10, 11, 12, 13, 14, 15, 16, 20] rfl⟩
          refine wpOp_of_list rfl ?_
          refine h_buildSlice (ps := [(0, .int .u8 (IntKind.u8.wrap x918))]) (cs := [.int .u8 (IntKind.u8.wrap x918)]) H E rfl rfl tbok rfl rfl (by kernel_rfl) ?_
          intro w1186 g1185 a hc1187 hg1189 H_ E_
          replace E := E_ _ rfl; clear E_
          have hin1190 : ∀ q_, q_ < w1087.heap.size → q_ = g1185 → (atL [.row true cS83 84 A908 c909 p907, .row true (cInt .i64) 3 A911 c912 p910]) q_ := fun q_ h1_ h2_ => by have hs_ := HS1099.size; have h4_ : q_ = g1185 := h2_; exfalso; omega
          replace HS1099 := HS1099.ext hc1187
          replace H := H_; clear H_; try dsimp only [setn, addE, goneL] at H
          refine nl_ <| th_n ⟨HS1099, ?_⟩
          refine wpAnyH_all (rs := [16]) (by kernel_rfl) (by simp) ?_
          refine all1 ?_
          refine wpOp_of_list rfl ?_
          refine h_append (cInt .i64) (xs := p910) (ys := ([i450] : List Int)) (0 : Int) H 10 rfl E rfl rfl tbok rfl rfl rfl rfl rfl (fun _ _ => rfl) rfl rfl (fun _ HF_ => HF_.srcB 19 rfl (⟨_, _, rfl, rfl, rfl⟩)) g1076 ?_
          intro w1191 A1192 c1193 a hc1194 hA1195 H_ E_
          replace E := E_ _ rfl; clear E_
          have hin1196 : ∀ q_, q_ < w1087.heap.size → At A1192 q_ → (atL [.row true cS83 84 A908 c909 p907, .row true (cInt .i64) 3 A911 c912 p910]) q_ := fun q_ h1_ h2_ => (hA1195 q_ h2_).elim ((fun _ _ h_ => Or.inr (Or.inl h_)) q_ h1_) (fun h3_ => by have hs_ := HS1099.size; exfalso; omega)
          replace HS1099 := HS1099.trans hc1194 (fun k_ hk_ h_ => (fun _ _ h_ => Or.inr (Or.inl h_)) k_ hk_ h_)
          replace H := H_; clear H_; try dsimp only [setn, addE, goneL] at H
          refine nl_ <| th_n ⟨HS1099, ?_⟩
          refine dr_doneM (by kernel_rfl) ?_
          replace H := H.boxRow (cInt .u8) true ([IntKind.u8.wrap x918] : List Int) 20 rfl (fun _ _ => ⟨_, _, rfl, rfl, rfl⟩) (Nat.le_of_ble_eq_true rfl); try dsimp only [setn, addE, goneL] at H
          replace H := H.rowx 20 rfl; try dsimp only [setn, addE, goneL] at H
          exact ⟨A1168, c1169, A1192, c1193, (some ⟨g1185, 0, none⟩), (List.length ([IntKind.u8.wrap x918] : List Int)), E.pk, H.sel [0, 1, 2, 3, 4, 5, 6, 7, 8, 9, 10, 11, 12, 13, 14, 15, 16, 20] rfl⟩
         refine wpOp_of_list rfl ?_
         refine h_buildSlice (ps := [(0, .int .u8 (IntKind.u8.wrap x918))]) (cs := [.int .u8 (IntKind.u8.wrap x918)]) H E rfl rfl tbok rfl rfl (by kernel_rfl) ?_
         intro w1198 g1197 a hc1199 hg1201 H_ E_
         replace E := E_ _ rfl; clear E_
         have hin1202 : ∀ q_, q_ < w1087.heap.size → q_ = g1197 → (atL [.row true cS83 84 A908 c909 p907, .row true (cInt .i64) 3 A911 c912 p910]) q_ := fun q_ h1_ h2_ => by have hs_ := HS1099.size; have h4_ : q_ = g1197 := h2_; exfalso; omega
         replace HS1099 := HS1099.ext hc1199
         replace H := H_; clear H_; try dsimp only [setn, addE, goneL] at H
         refine nl_ <| th_n ⟨HS1099, ?_⟩
         refine wpAnyH_all (rs := [9]) (by kernel_rfl) (by simp) ?_
         refine all1 ?_
         refine wpOp_of_list rfl ?_
         refine h_append cS83 (xs := p907) (ys := ([((List.getD r765.1 x918.toNat 0), (List.getD r794.1 x918.toNat 0))] : List (Int × Int))) ((0, 0) : Int × Int) H 8 rfl E rfl rfl tbok rfl rfl rfl rfl rfl (fun _ _ => rfl) rfl rfl (fun _ HF_ => HF_.srcB 18 rfl (⟨_, _, rfl, rfl, rfl⟩)) g1065 ?_
         intro w1203 A1204 c1205 a hc1206 hA1207 H_ E_
         replace E := E_ _ rfl; clear E_
         have hin1208 : ∀ q_, q_ < w1087.heap.size → At A1204 q_ → (atL [.row true cS83 84 A908 c909 p907, .row true (cInt .i64) 3 A911 c912 p910]) q_ := fun q_ h1_ h2_ => (hA1207 q_ h2_).elim ((fun _ _ h_ => Or.inl h_) q_ h1_) (fun h3_ => by have hs_ := HS1099.size; exfalso; omega)
         replace HS1099 := HS1099.trans hc1206 (fun k_ hk_ h_ => (fun _ _ h_ => Or.inl h_) k_ hk_ h_)
         replace H := H_; clear H_; try dsimp only [setn, addE, goneL] at H
         refine nl_ <| th_n ⟨HS1099, ?_⟩
         refine wpAnyH_all (rs := [16]) (by kernel_rfl) (by simp) ?_
         refine all1 ?_
         refine wpOp_of_list rfl ?_
         refine h_append (cInt .i64) (xs := p910) (ys := ([i450] : List Int)) (0 : Int) H 10 rfl E rfl rfl tbok rfl rfl rfl rfl rfl (fun _ _ => rfl) rfl rfl (fun _ HF_ => HF_.srcB 19 rfl (⟨_, _, rfl, rfl, rfl⟩)) g1076 ?_
         intro w1209 A1210 c1211 a hc1212 hA1213 H_ E_
         replace E := E_ _ rfl; clear E_
         have hin1214 : ∀ q_, q_ < w1087.heap.size → At A1210 q_ → (atL [.row true cS83 84 A908 c909 p907, .row true (cInt .i64) 3 A911 c912 p910]) q_ := fun q_ h1_ h2_ => (hA1213 q_ h2_).elim ((fun _ _ h_ => Or.inr (Or.inl h_)) q_ h1_) (fun h3_ => by have hs_ := HS1099.size; exfalso; omega)
         replace HS1099 := HS1099.trans hc1212 (fun k_ hk_ h_ => (fun _ _ h_ => Or.inr (Or.inl h_)) k_ hk_ h_)
         replace H := H_; clear H_; try dsimp only [setn, addE, goneL] at H
         refine nl_ <| th_n ⟨HS1099, ?_⟩
         refine dr_doneM (by kernel_rfl) ?_
         replace H := H.boxRow (cInt .u8) true ([IntKind.u8.wrap x918] : List Int) 20 rfl (fun _ _ => ⟨_, _, rfl, rfl, rfl⟩) (Nat.le_of_ble_eq_true rfl); try dsimp only [setn, addE, goneL] at H
         replace H := H.rowx 20 rfl; try dsimp only [setn, addE, goneL] at H
         exact ⟨A1204, c1205, A1210, c1211, (some ⟨g1197, 0, none⟩), (List.length ([IntKind.u8.wrap x918] : List Int)), E.pk, H.sel [0, 1, 2, 3, 4, 5, 6, 7, 8, 9, 10, 11, 12, 13, 14, 15, 16, 20] rfl⟩
        refine wpOp_of_list rfl ?_
        refine h_buildSlice (ps := [(0, .int .u8 (IntKind.u8.wrap x918))]) (cs := [.int .u8 (IntKind.u8.wrap x918)]) H E rfl rfl tbok rfl rfl (by kernel_rfl) ?_
        intro w1216 g1215 a hc1217 hg1219 H_ E_
        replace E := E_ _ rfl; clear E_
        have hin1220 : ∀ q_, q_ < w1087.heap.size → q_ = g1215 → (atL [.row true cS83 84 A908 c909 p907, .row true (cInt .i64) 3 A911 c912 p910]) q_ := fun q_ h1_ h2_ => by have hs_ := HS1099.size; have h4_ : q_ = g1215 := h2_; exfalso; omega
        replace HS1099 := HS1099.ext hc1217
        replace H := H_; clear H_; try dsimp only [setn, addE, goneL] at H
        refine nl_ <| th_n ⟨HS1099, ?_⟩
        refine wpAnyH_all (rs := [9, 15]) (by kernel_rfl) (by simp) ?_
        refine all2 ?_ ?_
        ·
         refine wpOp_of_list rfl ?_
         refine h_append cS83 (xs := p907) (ys := ([((List.getD r765.1 x918.toNat 0), (List.getD r794.1 x918.toNat 0))] : List (Int × Int))) ((0, 0) : Int × Int) H 8 rfl E rfl rfl tbok rfl rfl rfl rfl rfl (fun _ _ => rfl) rfl rfl (fun _ HF_ => HF_.srcB 18 rfl (⟨_, _, rfl, rfl, rfl⟩)) g1065 ?_
         intro w1221 A1222 c1223 a hc1224 hA1225 H_ E_
         replace E := E_ _ rfl; clear E_
         have hin1226 : ∀ q_, q_ < w1087.heap.size → At A1222 q_ → (atL [.row true cS83 84 A908 c909 p907, .row true (cInt .i64) 3 A911 c912 p910]) q_ := fun q_ h1_ h2_ => (hA1225 q_ h2_).elim ((fun _ _ h_ => Or.inl h_) q_ h1_) (fun h3_ => by have hs_ := HS1099.size; exfalso; omega)
         replace HS1099 := HS1099.trans hc1224 (fun k_ hk_ h_ => (fun _ _ h_ => Or.inl h_) k_ hk_ h_)
         replace H := H_; clear H_; try dsimp only [setn, addE, goneL] at H
         refine nl_ <| th_n ⟨HS1099, ?_⟩
         refine wpAnyH_all (rs := [15]) (by kernel_rfl) (by simp) ?_
         refine all1 ?_
         refine wpOp_of_list rfl ?_
         refine h_buildSlice (ps := [(0, .int .i64 i450)]) (cs := [.int .i64 i450]) H E rfl rfl tbok rfl rfl (by kernel_rfl) ?_
         intro w1228 g1227 a hc1229 hg1231 H_ E_
         replace E := E_ _ rfl; clear E_
         have hin1232 : ∀ q_, q_ < w1087.heap.size → q_ = g1227 → (atL [.row true cS83 84 A908 c909 p907, .row true (cInt .i64) 3 A911 c912 p910]) q_ := fun q_ h1_ h2_ => by have hs_ := HS1099.size; have h4_ : q_ = g1227 := h2_; exfalso; omega
         replace HS1099 := HS1099.ext hc1229
         replace H := H_; clear H_; try dsimp only [setn, addE, goneL] at H
         refine nl_ <| th_n ⟨HS1099, ?_⟩
         refine wpAnyH_all (rs := [16]) (by kernel_rfl) (by simp) ?_
         refine all1 ?_
         refine wpOp_of_list rfl ?_
         refine h_append (cInt .i64) (xs := p910) (ys := ([i450] : List Int)) (0 : Int) H 10 rfl E rfl rfl tbok rfl rfl rfl rfl rfl (fun _ _ => rfl) rfl rfl (fun _ HF_ => HF_.srcB 20 rfl (⟨_, _, rfl, rfl, rfl⟩)) g1076 ?_
         intro w1233 A1234 c1235 a hc1236 hA1237 H_ E_
         replace E := E_ _ rfl; clear E_
         have hin1238 : ∀ q_, q_ < w1087.heap.size → At A1234 q_ → (atL [.row true cS83 84 A908 c909 p907, .row true (cInt .i64) 3 A911 c912 p910]) q_ := fun q_ h1_ h2_ => (hA1237 q_ h2_).elim ((fun _ _ h_ => Or.inr (Or.inl h_)) q_ h1_) (fun h3_ => by have hs_ := HS1099.size; exfalso; omega)
         replace HS1099 := HS1099.trans hc1236 (fun k_ hk_ h_ => (fun _ _ h_ => Or.inr (Or.inl h_)) k_ hk_ h_)
         replace H := H_; clear H_; try dsimp only [setn, addE, goneL] at H
         refine nl_ <| th_n ⟨HS1099, ?_⟩
         refine dr_doneM (by kernel_rfl) ?_
         replace H := H.boxRow (cInt .u8) true ([IntKind.u8.wrap x918] : List Int) 19 rfl (fun _ _ => ⟨_, _, rfl, rfl, rfl⟩) (Nat.le_of_ble_eq_true rfl); try dsimp only [setn, addE, goneL] at H
         replace H := H.rowx 19 rfl; try dsimp only [setn, addE, goneL] at H
         exact ⟨A1222, c1223, A1234, c1235, (some ⟨g1215, 0, none⟩), (List.length ([IntKind.u8.wrap x918] : List Int)), E.pk, H.sel [0, 1, 2, 3, 4, 5, 6, 7, 8, 9, 10, 11, 12, 13, 14, 15, 16, 19] rfl⟩
        refine wpOp_of_list rfl ?_
        refine h_buildSlice (ps := [(0, .int .i64 i450)]) (cs := [.int .i64 i450]) H E rfl rfl tbok rfl rfl (by kernel_rfl) ?_
        intro w1240 g1239 a hc1241 hg1243 H_ E_
        replace E := E_ _ rfl; clear E_
        have hin1244 : ∀ q_, q_ < w1087.heap.size → q_ = g1239 → (atL [.row true cS83 84 A908 c909 p907, .row true (cInt .i64) 3 A911 c912 p910]) q_ := fun q_ h1_ h2_ => by have hs_ := HS1099.size; have h4_ : q_ = g1239 := h2_; exfalso; omega
        replace HS1099 := HS1099.ext hc1241
        replace H := H_; clear H_; try dsimp only [setn, addE, goneL] at H
        refine nl_ <| th_n ⟨HS1099, ?_⟩
        refine wpAnyH_all (rs := [9]) (by kernel_rfl) (by simp) ?_
        refine all1 ?_
        refine wpOp_of_list rfl ?_
        refine h_append cS83 (xs := p907) (ys := ([((List.getD r765.1 x918.toNat 0), (List.getD r794.1 x918.toNat 0))] : List (Int × Int))) ((0, 0) : Int × Int) H 8 rfl E rfl rfl tbok rfl rfl rfl rfl rfl (fun _ _ => rfl) rfl rfl (fun _ HF_ => HF_.srcB 18 rfl (⟨_, _, rfl, rfl, rfl⟩)) g1065 ?_
        intro w1245 A1246 c1247 a hc1248 hA1249 H_ E_
        replace E := E_ _ rfl; clear E_
        have hin1250 : ∀ q_, q_ < w1087.heap.size → At A1246 q_ → (atL [.row true cS83 84 A908 c909 p907, .row true (cInt .i64) 3 A911 c912 p910]) q_ := fun q_ h1_ h2_ => (hA1249 q_ h2_).elim ((fun _ _ h_ => Or.inl h_) q_ h1_) (fun h3_ => by have hs_ := HS1099.size; exfalso; omega)
        replace HS1099 := HS1099.trans hc1248 (fun k_ hk_ h_ => (fun _ _ h_ => Or.inl h_) k_ hk_ h_)
        replace H := H_; clear H_; try dsimp only [setn, addE, goneL] at H
        refine nl_ <| th_n ⟨HS1099, ?_⟩
        refine wpAnyH_all (rs := [16]) (by kernel_rfl) (by simp) ?_
        refine all1 ?_
        refine wpOp_of_list rfl ?_
        refine h_append (cInt .i64) (xs := p910) (ys := ([i450] : List Int)) (0 : Int) H 10 rfl E rfl rfl tbok rfl rfl rfl rfl rfl (fun _ _ => rfl) rfl rfl (fun _ HF_ => HF_.srcB 20 rfl (⟨_, _, rfl, rfl, rfl⟩)) g1076 ?_
        intro w1251 A1252 c1253 a hc1254 hA1255 H_ E_
        replace E := E_ _ rfl; clear E_
        have hin1256 : ∀ q_, q_ < w1087.heap.size → At A1252 q_ → (atL [.row true cS83 84 A908 c909 p907, .row true (cInt .i64) 3 A911 c912 p910]) q_ := fun q_ h1_ h2_ => (hA1255 q_ h2_).elim ((fun _ _ h_ => Or.inr (Or.inl h_)) q_ h1_) (fun h3_ => by have hs_ := HS1099.size; exfalso; omega)
        replace HS1099 := HS1099.trans hc1254 (fun k_ hk_ h_ => (fun _ _ h_ => Or.inr (Or.inl h_)) k_ hk_ h_)
        replace H := H_; clear H_; try dsimp only [setn, addE, goneL] at H
        refine nl_ <| th_n ⟨HS1099, ?_⟩
        refine dr_doneM (by kernel_rfl) ?_
        replace H := H.boxRow (cInt .u8) true ([IntKind.u8.wrap x918] : List Int) 19 rfl (fun _ _ => ⟨_, _, rfl, rfl, rfl⟩) (Nat.le_of_ble_eq_true rfl); try dsimp only [setn, addE, goneL] at H
        replace H := H.rowx 19 rfl; try dsimp only [setn, addE, goneL] at H
        exact ⟨A1246, c1247, A1252, c1253, (some ⟨g1215, 0, none⟩), (List.length ([IntKind.u8.wrap x918] : List Int)), E.pk, H.sel [0, 1, 2, 3, 4, 5, 6, 7, 8, 9, 10, 11, 12, 13, 14, 15, 16, 19] rfl⟩
       ·
        refine wpOp_of_list rfl ?_
        refine h_buildSlice (ps := [(0, .int .i64 i450)]) (cs := [.int .i64 i450]) H E rfl rfl tbok rfl rfl (by kernel_rfl) ?_
        intro w1258 g1257 a hc1259 hg1261 H_ E_
        replace E := E_ _ rfl; clear E_
        have hin1262 : ∀ q_, q_ < w1087.heap.size → q_ = g1257 → (atL [.row true cS83 84 A908 c909 p907, .row true (cInt .i64) 3 A911 c912 p910]) q_ := fun q_ h1_ h2_ => by have hs_ := HS1099.size; have h4_ : q_ = g1257 := h2_; exfalso; omega
        replace HS1099 := HS1099.ext hc1259
        replace H := H_; clear H_; try dsimp only [setn, addE, goneL] at H
        refine nl_ <| th_n ⟨HS1099, ?_⟩
        refine wpAnyH_all (rs := [8, 23]) (by kernel_rfl) (by simp) ?_
        refine all2 ?_ ?_
        ·
         refine wpOp_of_list rfl ?_
         refine h_buildSlice (ps := [(0, .agg #[.int .i64 (List.getD r765.1 x918.toNat 0), .int .i64 (List.getD r794.1 x918.toNat 0)])]) (cs := [.int .i64 (List.getD r765.1 x918.toNat 0), .int .i64 (List.getD r794.1 x918.toNat 0)]) H E rfl rfl tbok rfl rfl (by kernel_rfl) ?_
         intro w1264 g1263 a hc1265 hg1267 H_ E_
         replace E := E_ _ rfl; clear E_
         have hin1268 : ∀ q_, q_ < w1087.heap.size → q_ = g1263 → (atL [.row true cS83 84 A908 c909 p907, .row true (cInt .i64) 3 A911 c912 p910]) q_ := fun q_ h1_ h2_ => by have hs_ := HS1099.size; have h4_ : q_ = g1263 := h2_; exfalso; omega
         replace HS1099 := HS1099.ext hc1265
         replace H := H_; clear H_; try dsimp only [setn, addE, goneL] at H
         refine nl_ <| th_n ⟨HS1099, ?_⟩
         refine wpAnyH_all (rs := [9, 23]) (by kernel_rfl) (by simp) ?_
         refine all2 ?_ ?_
         ·
          refine wpOp_of_list rfl ?_
          refine h_append cS83 (xs := p907) (ys := ([((List.getD r765.1 x918.toNat 0), (List.getD r794.1 x918.toNat 0))] : List (Int × Int))) ((0, 0) : Int × Int) H 8 rfl E rfl rfl tbok rfl rfl rfl rfl rfl (fun _ _ => rfl) rfl rfl (fun _ HF_ => HF_.srcB 19 rfl (⟨_, _, rfl, rfl, rfl⟩)) g1065 ?_
          intro w1269 A1270 c1271 a hc1272 hA1273 H_ E_
          replace E := E_ _ rfl; clear E_
          have hin1274 : ∀ q_, q_ < w1087.heap.size → At A1270 q_ → (atL [.row true cS83 84 A908 c909 p907, .row true (cInt .i64) 3 A911 c912 p910]) q_ := fun q_ h1_ h2_ => (hA1273 q_ h2_).elim ((fun _ _ h_ => Or.inl h_) q_ h1_) (fun h3_ => by have hs_ := HS1099.size; exfalso; omega)
          replace HS1099 := HS1099.trans hc1272 (fun k_ hk_ h_ => (fun _ _ h_ => Or.inl h_) k_ hk_ h_)
          replace H := H_; clear H_; try dsimp only [setn, addE, goneL] at H
          refine nl_ <| th_n ⟨HS1099, ?_⟩
          refine wpAnyH_all (rs := [16, 23]) (by kernel_rfl) (by simp) ?_
          refine all2 ?_ ?_
          ·
           refine wpOp_of_list rfl ?_
           refine h_append (cInt .i64) (xs := p910) (ys := ([i450] : List Int)) (0 : Int) H 10 rfl E rfl rfl tbok rfl rfl rfl rfl rfl (fun _ _ => rfl) rfl rfl (fun _ HF_ => HF_.srcB 18 rfl (⟨_, _, rfl, rfl, rfl⟩)) g1076 ?_
           intro w1275 A1276 c1277 a hc1278 hA1279 H_ E_
           replace E := E_ _ rfl; clear E_
           have hin1280 : ∀ q_, q_ < w1087.heap.size → At A1276 q_ → (atL [.row true cS83 84 A908 c909 p907, .row true (cInt .i64) 3 A911 c912 p910]) q_ := fun q_ h1_ h2_ => (hA1279 q_ h2_).elim ((fun _ _ h_ => Or.inr (Or.inl h_)) q_ h1_) (fun h3_ => by have hs_ := HS1099.size; exfalso; omega)
           replace HS1099 := HS1099.trans hc1278 (fun k_ hk_ h_ => (fun _ _ h_ => Or.inr (Or.inl h_)) k_ hk_ h_)
           replace H := H_; clear H_; try dsimp only [setn, addE, goneL] at H
           refine nl_ <| th_n ⟨HS1099, ?_⟩
           refine wpAnyH_all (rs := [23]) (by kernel_rfl) (by simp) ?_
           refine all1 ?_
           refine wpOp_of_list rfl ?_
           refine h_buildSlice (ps := [(0, .int .u8 (IntKind.u8.wrap x918))]) (cs := [.int .u8 (IntKind.u8.wrap x918)]) H E rfl rfl tbok rfl rfl (by kernel_rfl) ?_
           intro w1282 g1281 a hc1283 hg1285 H_ E_
           replace E := E_ _ rfl; clear E_
           have hin1286 : ∀ q_, q_ < w1087.heap.size → q_ = g1281 → (atL [.row true cS83 84 A908 c909 p907, .row true (cInt .i64) 3 A911 c912 p910]) q_ := fun q_ h1_ h2_ => by have hs_ := HS1099.size; have h4_ : q_ = g1281 := h2_; exfalso; omega
           replace HS1099 := HS1099.ext hc1283
           replace H := H_; clear H_; try dsimp only [setn, addE, goneL] at H
           refine nl_ <| th_n ⟨HS1099, ?_⟩
           refine dr_doneM (by kernel_rfl) ?_
           replace H := H.boxRow (cInt .u8) true ([IntKind.u8.wrap x918] : List Int) 20 rfl (fun _ _ => ⟨_, _, rfl, rfl, rfl⟩) (Nat.le_of_ble_eq_true rfl); try dsimp only [setn, addE, goneL] at H
           replace H := H.rowx 20 rfl; try dsimp only [setn, addE, goneL] at H
           exact ⟨A1270, c1271, A1276, c1277, (some ⟨g1281, 0, none⟩), (List.length ([IntKind.u8.wrap x918] : List Int)), E.pk, H.sel [0, 1, 2, 3, 4, 5, 6, 7, 8, 9, 10, 11, 12, 13, 14, 15, 16, 20] rfl⟩
          refine wpOp_of_list rfl ?_
          refine h_buildSlice (ps := [(0, .int .u8 (IntKind.u8.wrap x918))]) (cs := [.int .u8 (IntKind.u8.wrap x918)]) H E rfl rfl tbok rfl rfl (by kernel_rfl) ?_
          intro w1288 g1287 a hc1289 hg1291 H_ E_
          replace E := E_ _ rfl; clear E_
          have hin1292 : ∀ q_, q_ < w1087.heap.size → q_ = g1287 → (atL [.row true cS83 84 A908 c909 p907, .row true (cInt .i64) 3 A911 c912 p910]) q_ := fun q_ h1_ h2_ => by have hs_ := HS1099.size; have h4_ : q_ = g1287 := h2_; exfalso; omega
          replace HS1099 := HS1099.ext hc1289
          replace H := H_; clear H_; try dsimp only [setn, addE, goneL] at H
          refine nl_ <| th_n ⟨HS1099, ?_⟩
          refine wpAnyH_all (rs := [16]) (by kernel_rfl) (by simp) ?_
          refine all1 ?_
          refine wpOp_of_list rfl ?_
          refine h_append (cInt .i64) (xs := p910) (ys := ([i450] : List Int)) (0 : Int) H 10 rfl E rfl rfl tbok rfl rfl rfl rfl rfl (fun _ _ => rfl) rfl rfl (fun _ HF_ => HF_.srcB 18 rfl (⟨_, _, rfl, rfl, rfl⟩)) g1076 ?_
          intro w1293 A1294 c1295 a hc1296 hA1297 H_ E_
          replace E := E_ _ rfl; clear E_
          have hin1298 : ∀ q_, q_ < w1087.heap.size → At A1294 q_ → (atL [.row true cS83 84 A908 c909 p907, .row true (cInt .i64) 3 A911 c912 p910]) q_ := fun q_ h1_ h2_ => (hA1297 q_ h2_).elim ((fun _ _ h_ => Or.inr (Or.inl h_)) q_ h1_) (fun h3_ => by have hs_ := HS1099.size; exfalso; omega)
          replace HS1099 := HS1099.trans hc1296 (fun k_ hk_ h_ => (fun _ _ h_ => Or.inr (Or.inl h_)) k_ hk_ h_)
          replace H := H_; clear H_; try dsimp only [setn, addE, goneL] at H
          refine nl_ <| th_n ⟨HS1099, ?_⟩
          refine dr_doneM (by kernel_rfl) ?_
          replace H := H.boxRow (cInt .u8) true ([IntKind.u8.wrap x918] : List Int) 20 rfl (fun _ _ => ⟨_, _, rfl, rfl, rfl⟩) (Nat.le_of_ble_eq_true rfl); try dsimp only [setn, addE, goneL] at H
          replace H := H.rowx 20 rfl; try dsimp only [setn, addE, goneL] at H
          exact ⟨A1270, c1271, A1294, c1295, (some ⟨g1287, 0, none⟩), (List.length ([IntKind.u8.wrap x918] : List Int)), E.pk, H.sel [0, 1, 2, 3, 4, 5, 6, 7, 8, 9, 10, 11, 12, 13, 14, 15, 16, 20] rfl⟩
         refine wpOp_of_list rfl ?_
         refine h_buildSlice (ps := [(0, .int .u8 (IntKind.u8.wrap x918))]) (cs := [.int .u8 (IntKind.u8.wrap x918)]) H E rfl rfl tbok rfl rfl (by kernel_rfl) ?_
         intro w1300 g1299 a hc1301 hg1303 H_ E_
         replace E := E_ _ rfl; clear E_
         have hin1304 : ∀ q_, q_ < w1087.heap.size → q_ = g1299 → (atL [.row true cS83 84 A908 c909 p907, .row true (cInt .i64) 3 A911 c912 p910]) q_ := fun q_ h1_ h2_ => by have hs_ := HS1099.size; have h4_ : q_ = g1299 := h2_; exfalso; omega
         replace HS1099 := HS1099.ext hc1301
         replace H := H_; clear H_; try dsimp only [setn, addE, goneL] at H
         refine nl_ <| th_n ⟨HS1099, ?_⟩
         refine wpAnyH_all (rs := [9]) (by kernel_rfl) (by simp) ?_
         refine all1 ?_
         refine wpOp_of_list rfl ?_
         refine h_append cS83 (xs := p907) (ys := ([((List.getD r765.1 x918.toNat 0), (List.getD r794.1 x918.toNat 0))] : List (Int × Int))) ((0, 0) : Int × Int) H 8 rfl E rfl rfl tbok rfl rfl rfl rfl rfl (fun _ _ => rfl) rfl rfl (fun _ HF_ => HF_.srcB 19 rfl (⟨_, _, rfl, rfl, rfl⟩)) g1065 ?_
         intro w1305 A1306 c1307 a hc1308 hA1309 H_ E_
         replace E := E_ _ rfl; clear E_
         have hin1310 : ∀ q_, q_ < w1087.heap.size → At A1306 q_ → (atL [.row true cS83 84 A908 c909 p907, .row true (cInt .i64) 3 A911 c912 p910]) q_ := fun q_ h1_ h2_ => (hA1309 q_ h2_).elim ((fun _ _ h_ => Or.inl h_) q_ h1_) (fun h3_ => by have hs_ := HS1099.size; exfalso; omega)
         replace HS1099 := HS1099.trans hc1308 (fun k_ hk_ h_ => (fun _ _ h_ => Or.inl h_) k_ hk_ h_)
         replace H := H_; clear H_; try dsimp only [setn, addE, goneL] at H
         refine nl_ <| th_n ⟨HS1099, ?_⟩
         refine wpAnyH_all (rs := [16]) (by kernel_rfl) (by simp) ?_
         refine all1 ?_
         refine wpOp_of_list rfl ?_
         refine h_append (cInt .i64) (xs := p910) (ys := ([i450] : List Int)) (0 : Int) H 10 rfl E rfl rfl tbok rfl rfl rfl rfl rfl (fun _ _ => rfl) rfl rfl (fun _ HF_ => HF_.srcB 18 rfl (⟨_, _, rfl, rfl, rfl⟩)) g1076 ?_
         intro w1311 A1312 c1313 a hc1314 hA1315 H_ E_
         replace E := E_ _ rfl; clear E_
         have hin1316 : ∀ q_, q_ < w1087.heap.size → At A1312 q_ → (atL [.row true cS83 84 A908 c909 p907, .row true (cInt .i64) 3 A911 c912 p910]) q_ := fun q_ h1_ h2_ => (hA1315 q_ h2_).elim ((fun _ _ h_ => Or.inr (Or.inl h_)) q_ h1_) (fun h3_ => by have hs_ := HS1099.size; exfalso; omega)
         replace HS1099 := HS1099.trans hc1314 (fun k_ hk_ h_ => (fun _ _ h_ => Or.inr (Or.inl h_)) k_ hk_ h_)
         replace H := H_; clear H_; try dsimp only [setn, addE, goneL] at H
         refine nl_ <| th_n ⟨HS1099, ?_⟩
         refine dr_doneM (by kernel_rfl) ?_
         replace H := H.boxRow (cInt .u8) true ([IntKind.u8.wrap x918] : List Int) 20 rfl (fun _ _ => ⟨_, _, rfl, rfl, rfl⟩) (Nat.le_of_ble_eq_true rfl); try dsimp only [setn, addE, goneL] at H
         replace H := H.rowx 20 rfl; try dsimp only [setn, addE, goneL] at H
         exact ⟨A1306, c1307, A1312, c1313, (some ⟨g1299, 0, none⟩), (List.length ([IntKind.u8.wrap x918] : List Int)), E.pk, H.sel [0, 1, 2, 3, 4, 5, 6, 7, 8, 9, 10, 11, 12, 13, 14, 15, 16, 20] rfl⟩
        refine wpOp_of_list rfl ?_
        refine h_buildSlice (ps := [(0, .int .u8 (IntKind.u8.wrap x918))]) (cs := [.int .u8 (IntKind.u8.wrap x918)]) H E rfl rfl tbok rfl rfl (by kernel_rfl) ?_
        intro w1318 g1317 a hc1319 hg1321 H_ E_
        replace E := E_ _ rfl; clear E_
        have hin1322 : ∀ q_, q_ < w1087.heap.size → q_ = g1317 → (atL [.row true cS83 84 A908 c909 p907, .row true (cInt .i64) 3 A911 c912 p910]) q_ := fun q_ h1_ h2_ => by have hs_ := HS1099.size; have h4_ : q_ = g1317 := h2_; exfalso; omega
        replace HS1099 := HS1099.ext hc1319
        replace H := H_; clear H_; try dsimp only [setn, addE, goneL] at H
        refine nl_ <| th_n ⟨HS1099, ?_⟩
        refine wpAnyH_all (rs := [8]) (by kernel_rfl) (by simp) ?_
        refine all1 ?_
        refine wpOp_of_list rfl ?_
        refine h_buildSlice (ps := [(0, .agg #[.int .i64 (List.getD r765.1 x918.toNat 0), .int .i64 (List.getD r794.1 x918.toNat 0)])]) (cs := [.int .i64 (List.getD r765.1 x918.toNat 0), .int .i64 (List.getD r794.1 x918.toNat 0)]) H E rfl rfl tbok rfl rfl (by kernel_rfl) ?_
        intro w1324 g1323 a hc1325 hg1327 H_ E_
        replace E := E_ _ rfl; clear E_
        have hin1328 : ∀ q_, q_ < w1087.heap.size → q_ = g1323 → (atL [.row true cS83 84 A908 c909 p907, .row true (cInt .i64) 3 A911 c912 p910]) q_ := fun q_ h1_ h2_ => by have hs_ := HS1099.size; have h4_ : q_ = g1323 := h2_; exfalso; omega
        replace HS1099 := HS1099.ext hc1325
        replace H := H_; clear H_; try dsimp only [setn, addE, goneL] at H
        refine nl_ <| th_n ⟨HS1099, ?_⟩
        refine wpAnyH_all (rs := [9]) (by kernel_rfl) (by simp) ?_
        refine all1 ?_
        refine wpOp_of_list rfl ?_
        refine h_append cS83 (xs := p907) (ys := ([((List.getD r765.1 x918.toNat 0), (List.getD r794.1 x918.toNat 0))] : List (Int × Int))) ((0, 0) : Int × Int) H 8 rfl E rfl rfl tbok rfl rfl rfl rfl rfl (fun _ _ => rfl) rfl rfl (fun _ HF_ => HF_.srcB 20 rfl (⟨_, _, rfl, rfl, rfl⟩)) g1065 ?_
        intro w1329 A1330 c1331 a hc1332 hA1333 H_ E_
        replace E := E_ _ rfl; clear E_
        have hin1334 : ∀ q_, q_ < w1087.heap.size → At A1330 q_ → (atL [.row true cS83 84 A908 c909 p907, .row true (cInt .i64) 3 A911 c912 p910]) q_ := fun q_ h1_ h2_ => (hA1333 q_ h2_).elim ((fun _ _ h_ => Or.inl h_) q_ h1_) (fun h3_ => by have hs_ := HS1099.size; exfalso; omega)
        replace HS1099 := HS1099.trans hc1332 (fun k_ hk_ h_ => (fun _ _ h_ => Or.inl h_) k_ hk_ h_)
        replace H := H_; clear H_; try dsimp only [setn, addE, goneL] at H
        refine nl_ <| th_n ⟨HS1099, ?_⟩
        refine wpAnyH_all (rs := [16]) (by kernel_rfl) (by simp) ?_
        refine all1 ?_
        refine wpOp_of_list rfl ?_
        refine h_append (cInt .i64) (xs := p910) (ys := ([i450] : List Int)) (0 : Int) H 10 rfl E rfl rfl tbok rfl rfl rfl rfl rfl (fun _ _ => rfl) rfl rfl (fun _ HF_ => HF_.srcB 18 rfl (⟨_, _, rfl, rfl, rfl⟩)) g1076 ?_
        intro w1335 A1336 c1337 a hc1338 hA1339 H_ E_
        replace E := E_ _ rfl; clear E_
        have hin1340 : ∀ q_, q_ < w1087.heap.size → At A1336 q_ → (atL [.row true cS83 84 A908 c909 p907, .row true (cInt .i64) 3 A911 c912 p910]) q_ := fun q_ h1_ h2_ => (hA1339 q_ h2_).elim ((fun _ _ h_ => Or.inr (Or.inl h_)) q_ h1_) (fun h3_ => by have hs_ := HS1099.size; exfalso; omega)
        replace HS1099 := HS1099.trans hc1338 (fun k_ hk_ h_ => (fun _ _ h_ => Or.inr (Or.inl h_)) k_ hk_ h_)
        replace H := H_; clear H_; try dsimp only [setn, addE, goneL] at H
        refine nl_ <| th_n ⟨HS1099, ?_⟩
        refine dr_doneM (by kernel_rfl) ?_
        replace H := H.boxRow (cInt .u8) true ([IntKind.u8.wrap x918] : List Int) 19 rfl (fun _ _ => ⟨_, _, rfl, rfl, rfl⟩) (Nat.le_of_ble_eq_true rfl); try dsimp only [setn, addE, goneL] at H
        replace H := H.rowx 19 rfl; try dsimp only [setn, addE, goneL] at H
        exact ⟨A1330, c1331, A1336, c1337, (some ⟨g1317, 0, none⟩), (List.length ([IntKind.u8.wrap x918] : List Int)), E.pk, H.sel [0, 1, 2, 3, 4, 5, 6, 7, 8, 9, 10, 11, 12, 13, 14, 15, 16, 19] rfl⟩
       refine wpOp_of_list rfl ?_
       refine h_buildSlice (ps := [(0, .int .u8 (IntKind.u8.wrap x918))]) (cs := [.int .u8 (IntKind.u8.wrap x918)]) H E rfl rfl tbok rfl rfl (by kernel_rfl) ?_
       intro w1342 g1341 a hc1343 hg1345 H_ E_
       replace E := E_ _ rfl; clear E_
       have hin1346 : ∀ q_, q_ < w1087.heap.size → q_ = g1341 → (atL [.row true cS83 84 A908 c909 p907, .row true (cInt .i64) 3 A911 c912 p910]) q_ := fun q_ h1_ h2_ => by have hs_ := HS1099.size; have h4_ : q_ = g1341 := h2_; exfalso; omega
       replace HS1099 := HS1099.ext hc1343
       replace H := H_; clear H_; try dsimp only [setn, addE, goneL] at H
       refine nl_ <| th_n ⟨HS1099, ?_⟩
       refine wpAnyH_all (rs := [8, 15]) (by kernel_rfl) (by simp) ?_
       refine all2 ?_ ?_
       ·
        refine wpOp_of_list rfl ?_
        refine h_buildSlice (ps := [(0, .agg #[.int .i64 (List.getD r765.1 x918.toNat 0), .int .i64 (List.getD r794.1 x918.toNat 0)])]) (cs := [.int .i64 (List.getD r765.1 x918.toNat 0), .int .i64 (List.getD r794.1 x918.toNat 0)]) H E rfl rfl tbok rfl rfl (by kernel_rfl) ?_
        intro w1348 g1347 a hc1349 hg1351 H_ E_
        replace E := E_ _ rfl; clear E_
        have hin1352 : ∀ q_, q_ < w1087.heap.size → q_ = g1347 → (atL [.row true cS83 84 A908 c909 p907, .row true (cInt .i64) 3 A911 c912 p910]) q_ := fun q_ h1_ h2_ => by have hs_ := HS1099.size; have h4_ : q_ = g1347 := h2_; exfalso; omega
        replace HS1099 := HS1099.ext hc1349
        replace H := H_; clear H_; try dsimp only [setn, addE, goneL] at H
        refine nl_ <| th_n ⟨HS1099, ?_⟩
        refine wpAnyH_all (rs := [9, 15]) (by kernel_rfl) (by simp) ?_
        refine all2 ?_ ?_
        ·
         refine wpOp_of_list rfl ?_
         refine h_append cS83 (xs := p907) (ys := ([((List.getD r765.1 x918.toNat 0), (List.getD r794.1 x918.toNat 0))] : List (Int × Int))) ((0, 0) : Int × Int) H 8 rfl E rfl rfl tbok rfl rfl rfl rfl rfl (fun _ _ => rfl) rfl rfl (fun _ HF_ => HF_.srcB 19 rfl (⟨_, _, rfl, rfl, rfl⟩)) g1065 ?_
         intro w1353 A1354 c1355 a hc1356 hA1357 H_ E_
         replace E := E_ _ rfl; clear E_
         have hin1358 : ∀ q_, q_ < w1087.heap.size → At A1354 q_ → (atL [.row true cS83 84 A908 c909 p907, .row true (cInt .i64) 3 A911 c912 p910]) q_ := fun q_ h1_ h2_ => (hA1357 q_ h2_).elim ((fun _ _ h_ => Or.inl h_) q_ h1_) (fun h3_ => by have hs_ := HS1099.size; exfalso; omega)
         replace HS1099 := HS1099.trans hc1356 (fun k_ hk_ h_ => (fun _ _ h_ => Or.inl h_) k_ hk_ h_)
         replace H := H_; clear H_; try dsimp only [setn, addE, goneL] at H
         refine nl_ <| th_n ⟨HS1099, ?_⟩
         refine wpAnyH_all (rs := [15]) (by kernel_rfl) (by simp) ?_
         refine all1 ?_
         refine wpOp_of_list rfl ?_
         refine h_buildSlice (ps := [(0, .int .i64 i450)]) (cs := [.int .i64 i450]) H E rfl rfl tbok rfl rfl (by kernel_rfl) ?_
         intro w1360 g1359 a hc1361 hg1363 H_ E_
         replace E := E_ _ rfl; clear E_
         have hin1364 : ∀ q_, q_ < w1087.heap.size → q_ = g1359 → (atL [.row true cS83 84 A908 c909 p907, .row true (cInt .i64) 3 A911 c912 p910]) q_ := fun q_ h1_ h2_ => by have hs_ := HS1099.size; have h4_ : q_ = g1359 := h2_; exfalso; omega
         replace HS1099 := HS1099.ext hc1361
         replace H := H_; clear H_; try dsimp only [setn, addE, goneL] at H
         refine nl_ <| th_n ⟨HS1099, ?_⟩
         refine wpAnyH_all (rs := [16]) (by kernel_rfl) (by simp) ?_
         refine all1 ?_
         refine wpOp_of_list rfl ?_
         refine h_append (cInt .i64) (xs := p910) (ys := ([i450] : List Int)) (0 : Int) H 10 rfl E rfl rfl tbok rfl rfl rfl rfl rfl (fun _ _ => rfl) rfl rfl (fun _ HF_ => HF_.srcB 20 rfl (⟨_, _, rfl, rfl, rfl⟩)) g1076 ?_
         intro w1365 A1366 c1367 a hc1368 hA1369 H_ E_
         replace E := E_ _ rfl; clear E_
         have hin1370 : ∀ q_, q_ < w1087.heap.size → At A1366 q_ → (atL [.row true cS83 84 A908 c909 p907, .row true (cInt .i64) 3 A911 c912 p910]) q_ := fun q_ h1_ h2_ => (hA1369 q_ h2_).elim ((fun _ _ h_ => Or.inr (Or.inl h_)) q_ h1_) (fun h3_ => by have hs_ := HS1099.size; exfalso; omega)
         replace HS1099 := HS1099.trans hc1368 (fun k_ hk_ h_ => (fun _ _ h_ => Or.inr (Or.inl h_)) k_ hk_ h_)
         replace H := H_; clear H_; try dsimp only [setn, addE, goneL] at H
         refine nl_ <| th_n ⟨HS1099, ?_⟩
         refine dr_doneM (by kernel_rfl) ?_
         replace H := H.boxRow (cInt .u8) true ([IntKind.u8.wrap x918] : List Int) 18 rfl (fun _ _ => ⟨_, _, rfl, rfl, rfl⟩) (Nat.le_of_ble_eq_true rfl); try dsimp only [setn, addE, goneL] at H
         replace H := H.rowx 18 rfl; try dsimp only [setn, addE, goneL] at H
         exact ⟨A1354, c1355, A1366, c1367, (some ⟨g1341, 0, none⟩), (List.length ([IntKind.u8.wrap x918] : List Int)), E.pk, H.sel [0, 1, 2, 3, 4, 5, 6, 7, 8, 9, 10, 11, 12, 13, 14, 15, 16, 18] rfl⟩
        refine wpOp_of_list rfl ?_
        refine h_buildSlice (ps := [(0, .int .i64 i450)]) (cs := [.int .i64 i450]) H E rfl rfl tbok rfl rfl (by kernel_rfl) ?_
        intro w1372 g1371 a hc1373 hg1375 H_ E_
        replace E := E_ _ rfl; clear E_
        have hin1376 : ∀ q_, q_ < w1087.heap.size → q_ = g1371 → (atL [.row true cS83 84 A908 c909 p907, .row true (cInt .i64) 3 A911 c912 p910]) q_ := fun q_ h1_ h2_ => by have hs_ := HS1099.size; have h4_ : q_ = g1371 := h2_; exfalso; omega
        replace HS1099 := HS1099.ext hc1373
        replace H := H_; clear H_; try dsimp only [setn, addE, goneL] at H
        refine nl_ <| th_n ⟨HS1099, ?_⟩
        refine wpAnyH_all (rs := [9]) (by kernel_rfl) (by simp) ?_
        refine all1 ?_
        refine wpOp_of_list rfl ?_
        refine h_append cS83 (xs := p907) (ys := ([((List.getD r765.1 x918.toNat 0), (List.getD r794.1 x918.toNat 0))] : List (Int × Int))) ((0, 0) : Int × Int) H 8 rfl E rfl rfl tbok rfl rfl rfl rfl rfl (fun _ _ => rfl) rfl rfl (fun _ HF_ => HF_.srcB 19 rfl (⟨_, _, rfl, rfl, rfl⟩)) g1065 ?_
        intro w1377 A1378 c1379 a hc1380 hA1381 H_ E_
        replace E := E_ _ rfl; clear E_
        have hin1382 : ∀ q_, q_ < w1087.heap.size → At A1378 q_ → (atL [.row true cS83 84 A908 c909 p907, .row true (cInt .i64) 3 A911 c912 p910]) q_ := fun q_ h1_ h2_ => (hA1381 q_ h2_).elim ((fun _ _ h_ => Or.inl h_) q_ h1_) (fun h3_ => by have hs_ := HS1099.size; exfalso; omega)
        replace HS1099 := HS1099.trans hc1380 (fun k_ hk_ h_ => (fun _ _ h_ => Or.inl h_) k_ hk_ h_)
        replace H := H_; clear H_; try dsimp only [setn, addE, goneL] at H
        refine nl_ <| th_n ⟨HS1099, ?_⟩
        refine wpAnyH_all (rs := [16]) (by kernel_rfl) (by simp) ?_
        refine all1 ?_
        refine wpOp_of_list rfl ?_
        refine h_append (cInt .i64) (xs := p910) (ys := ([i450] : List Int)) (0 : Int) H 10 rfl E rfl rfl tbok rfl rfl rfl rfl rfl (fun _ _ => rfl) rfl rfl (fun _ HF_ => HF_.srcB 20 rfl (⟨_, _, rfl, rfl, rfl⟩)) g1076 ?_
        intro w1383 A1384 c1385 a hc1386 hA1387 H_ E_
        replace E := E_ _ rfl; clear E_
        have hin1388 : ∀ q_, q_ < w1087.heap.size → At A1384 q_ → (atL [.row true cS83 84 A908 c909 p907, .row true (cInt .i64) 3 A911 c912 p910]) q_ := fun q_ h1_ h2_ => (hA1387 q_ h2_).elim ((fun _ _ h_ => Or.inr (Or.inl h_)) q_ h1_) (fun h3_ => by have hs_ := HS1099.size; exfalso; omega)
        replace HS1099 := HS1099.trans hc1386 (fun k_ hk_ h_ => (fun _ _ h_ => Or.inr (Or.inl h_)) k_ hk_ h_)
        replace H := H_; clear H_; try dsimp only [setn, addE, goneL] at H
        refine nl_ <| th_n ⟨HS1099, ?_⟩
        refine dr_doneM (by kernel_rfl) ?_
        replace H := H.boxRow (cInt .u8) true ([IntKind.u8.wrap x918] : List Int) 18 rfl (fun _ _ => ⟨_, _, rfl, rfl, rfl⟩) (Nat.le_of_ble_eq_true rfl); try dsimp only [setn, addE, goneL] at H
        replace H := H.rowx 18 rfl; try dsimp only [setn, addE, goneL] at H
        exact ⟨A1378, c1379, A1384, c1385, (some ⟨g1341, 0, none⟩), (List.length ([IntKind.u8.wrap x918] : List Int)), E.pk, H.sel [0, 1, 2, 3, 4, 5, 6, 7, 8, 9, 10, 11, 12, 13, 14, 15, 16, 18] rfl⟩
       refine wpOp_of_list rfl ?_
       refine h_buildSlice (ps := [(0, .int .i64 i450)]) (cs := [.int .i64 i450]) H E rfl rfl tbok rfl rfl (by kernel_rfl) ?_
       intro w1390 g1389 a hc1391 hg1393 H_ E_
       replace E := E_ _ rfl; clear E_
       have hin1394 : ∀ q_, q_ < w1087.heap.size → q_ = g1389 → (atL [.row true cS83 84 A908 c909 p907, .row true (cInt .i64) 3 A911 c912 p910]) q_ := fun q_ h1_ h2_ => by have hs_ := HS1099.size; have h4_ : q_ = g1389 := h2_; exfalso; omega
       replace HS1099 := HS1099.ext hc1391
       replace H := H_; clear H_; try dsimp only [setn, addE, goneL] at H
       refine nl_ <| th_n ⟨HS1099, ?_⟩
       refine wpAnyH_all (rs := [8]) (by kernel_rfl) (by simp) ?_
       refine all1 ?_
       refine wpOp_of_list rfl ?_
       refine h_buildSlice (ps := [(0, .agg #[.int .i64 (List.getD r765.1 x918.toNat 0), .int .i64 (List.getD r794.1 x918.toNat 0)])]) (cs := [.int .i64 (List.getD r765.1 x918.toNat 0), .int .i64 (List.getD r794.1 x918.toNat 0)]) H E rfl rfl tbok rfl rfl (by kernel_rfl) ?_
       intro w1396 g1395 a hc1397 hg1399 H_ E_
       replace E := E_ _ rfl; clear E_
       have hin1400 : ∀ q_, q_ < w1087.heap.size → q_ = g1395 → (atL [.row true cS83 84 A908 c909 p907, .row true (cInt .i64) 3 A911 c912 p910]) q_ := fun q_ h1_ h2_ => by have hs_ := HS1099.size; have h4_ : q_ = g1395 := h2_; exfalso; omega
       replace HS1099 := HS1099.ext hc1397
       replace H := H_; clear H_; try dsimp only [setn, addE, goneL] at H
       refine nl_ <| th_n ⟨HS1099, ?_⟩
       refine wpAnyH_all (rs := [9]) (by kernel_rfl) (by simp) ?_
       refine all1 ?_
       refine wpOp_of_list rfl ?_
       refine h_append cS83 (xs := p907) (ys := ([((List.getD r765.1 x918.toNat 0), (List.getD r794.1 x918.toNat 0))] : List (Int × Int))) ((0, 0) : Int × Int) H 8 rfl E rfl rfl tbok rfl rfl rfl rfl rfl (fun _ _ => rfl) rfl rfl (fun _ HF_ => HF_.srcB 20 rfl (⟨_, _, rfl, rfl, rfl⟩)) g1065 ?_
       intro w1401 A1402 c1403 a hc1404 hA1405 H_ E_
       replace E := E_ _ rfl; clear E_
       have hin1406 : ∀ q_, q_ < w1087.heap.size → At A1402 q_ → (atL [.row true cS83 84 A908 c909 p907, .row true (cInt .i64) 3 A911 c912 p910]) q_ := fun q_ h1_ h2_ => (hA1405 q_ h2_).elim ((fun _ _ h_ => Or.inl h_) q_ h1_) (fun h3_ => by have hs_ := HS1099.size; exfalso; omega)
       replace HS1099 := HS1099.trans hc1404 (fun k_ hk_ h_ => (fun _ _ h_ => Or.inl h_) k_ hk_ h_)
       replace H := H_; clear H_; try dsimp only [setn, addE, goneL] at H
       refine nl_ <| th_n ⟨HS1099, ?_⟩
       refine wpAnyH_all (rs := [16]) (by kernel_rfl) (by simp) ?_
       refine all1 ?_
       refine wpOp_of_list rfl ?_
       refine h_append (cInt .i64) (xs := p910) (ys := ([i450] : List Int)) (0 : Int) H 10 rfl E rfl rfl tbok rfl rfl rfl rfl rfl (fun _ _ => rfl) rfl rfl (fun _ HF_ => HF_.srcB 19 rfl (⟨_, _, rfl, rfl, rfl⟩)) g1076 ?_
       intro w1407 A1408 c1409 a hc1410 hA1411 H_ E_
       replace E := E_ _ rfl; clear E_
       have hin1412 : ∀ q_, q_ < w1087.heap.size → At A1408 q_ → (atL [.row true cS83 84 A908 c909 p907, .row true (cInt .i64) 3 A911 c912 p910]) q_ := fun q_ h1_ h2_ => (hA1411 q_ h2_).elim ((fun _ _ h_ => Or.inr (Or.inl h_)) q_ h1_) (fun h3_ => by have hs_ := HS1099.size; exfalso; omega)
       replace HS1099 := HS1099.trans hc1410 (fun k_ hk_ h_ => (fun _ _ h_ => Or.inr (Or.inl h_)) k_ hk_ h_)
       replace H := H_; clear H_; try dsimp only [setn, addE, goneL] at H
       refine nl_ <| th_n ⟨HS1099, ?_⟩
       refine dr_doneM (by kernel_rfl) ?_
       replace H := H.boxRow (cInt .u8) true ([IntKind.u8.wrap x918] : List Int) 18 rfl (fun _ _ => ⟨_, _, rfl, rfl, rfl⟩) (Nat.le_of_ble_eq_true rfl); try dsimp only [setn, addE, goneL] at H
       replace H := H.rowx 18 rfl; try dsimp only [setn, addE, goneL] at H
       exact ⟨A1402, c1403, A1408, c1409, (some ⟨g1341, 0, none⟩), (List.length ([IntKind.u8.wrap x918] : List Int)), E.pk, H.sel [0, 1, 2, 3, 4, 5, 6, 7, 8, 9, 10, 11, 12, 13, 14, 15, 16, 18] rfl⟩
      clear E H; rintro a w1096 ⟨A1089, c1090, A1091, c1092, A1094, c1095, E, H⟩
      obtain ⟨g1413, hP⟩ := ask_inv hP
      refine h_append (cInt .u8) (xs := p913) (ys := ([IntKind.u8.wrap x918])) (0 : Int) H 11 rfl E rfl rfl tbok rfl rfl rfl rfl rfl (fun _ _ => rfl) rfl rfl (fun _ HF_ => HF_.srcF flat_plain 17 rds_row) g1413 ?_
      clear H E; intro w1414 A1415 c1416 a hc1417 hA1418 H E; replace E := E _ rfl; try dsimp only [setn, addE, goneL] at H
      refine vp 2 [(128, .pointer (some ⟨g153, 0, none⟩))] E ?_
      clear E; intro a E
      refine h_store (g := g153) (off := 0) H 12 rfl E rfl rfl rfl rfl tbok rfl rfl rfl rfl rfl ?_
      clear E; intro w1419 a hc1420 H_ E
      replace H := H_; clear H_; try dsimp only [setn, addE, goneL] at H
      refine vp 2 [(130, .pointer (some ⟨g153, 2, none⟩))] E ?_
      clear E; intro a E
      refine h_store (g := g153) (off := 2) H 12 rfl E rfl rfl rfl rfl tbok rfl rfl rfl rfl rfl ?_
      clear E; intro w1421 a hc1422 H_ E
      replace H := H_; clear H_; try dsimp only [setn, addE, goneL] at H
      refine vp 2 [(132, .pointer (some ⟨g153, 3, none⟩))] E ?_
      clear E; intro a E
      refine h_store (g := g153) (off := 3) H 12 rfl E rfl rfl rfl rfl tbok rfl rfl rfl rfl rfl ?_
      clear E; intro w1423 a hc1424 H_ E
      replace H := H_; clear H_; try dsimp only [setn, addE, goneL] at H
      refine nl_ <| NoPanic.normal ?_
      refine th_n <| rl_ ?_
      obtain ⟨g1425, hP⟩ := ask_inv hP
      refine vq 4 [] [(135, .int .i64 (p907.length : Int)), (136, .pointer (some ⟨g821, 0 + x918.toNat * 1, none⟩))] [0 ≤ x918 ∧ x918 < (row917.length : Int)] E (g1425) ?_
      clear E; intro a E
      refine h_setx (g := g821) (i := x918) (p907.length : Int) H 16 rfl E rfl rfl rfl rfl tbok rfl (fun _ HF_ => rfl) rfl g1425 rfl ?_
      clear E; intro w1426 a hc1427 H_ E
      replace H := H_; clear H_; try dsimp only [setn, addE, goneL] at H
      have hn1428 : row917.length = (List.length (List.set row917 x918.toNat (p907.length : Int))) := by simp only [List.length_set]
      replace E := E.same (t := 13) (u := .slice (some ⟨g821, 0, none⟩) (List.length (List.set row917 x918.toNat (p907.length : Int))) (Int.toNat (r765.1.length : Int))) rfl (congrArg (fun n_ => Value.slice (some ⟨g821, 0, none⟩) n_ (Int.toNat (r765.1.length : Int))) hn1428)
      refine nl_ <| bl_n <| th_n <| rl_ ?_
      obtain ⟨g1429, hP⟩ := ask_inv hP
      refine vq 2 [.int .i64 (x918 + 1)] [(74, .int .i64 (x918 + 1))] [IntKind.i64.wrap (x918 + 1) = x918 + 1] E (wrap_in g1429) ?_
      clear E; intro a E
      refine nl_ ?_
      exact th_n ⟨m1013, Nat.lt_succ_self _, p907 ++ ([((List.getD r765.1 x918.toNat 0), (List.getD r794.1 x918.toNat 0))] : List (Int × Int)), p910 ++ ([i450] : List Int), p913 ++ ([IntKind.u8.wrap x918]), x916 ++ [(((List.getD r765.1 x918.toNat 0), (List.getD r794.1 x918.toNat 0)), (p907.length : Int))], List.set row917 x918.toNat (p907.length : Int), x918 + 1, A1089, c1090, A1091, c1092, A1415, c1416, E.pk, H.sel [0, 1, 2, 3, 4, 5, 6, 7, 12, 8, 9, 10, 11, 13, 14, 15, 16] rfl, hP⟩
     have h1430 : (Option.isSome (mget x916 ((List.getD r765.1 x918.toNat 0), (List.getD r794.1 x918.toNat 0)))) = true := (not_f hb_)
     replace hP := ite_t h1430 hP
     refine c_false E rfl <| wp_skip <| th_n <| rl_ ?_
     obtain ⟨g1431, hP⟩ := ask_inv hP
     refine vq 4 [] [(135, .int .i64 (Option.getD (mget x916 ((List.getD r765.1 x918.toNat 0), (List.getD r794.1 x918.toNat 0))) 0)), (136, .pointer (some ⟨g821, 0 + x918.toNat * 1, none⟩))] [0 ≤ x918 ∧ x918 < (row917.length : Int)] E (g1431) ?_
     clear E; intro a E
     refine h_setx (g := g821) (i := x918) (Option.getD (mget x916 ((List.getD r765.1 x918.toNat 0), (List.getD r794.1 x918.toNat 0))) 0) H 16 rfl E rfl rfl rfl rfl tbok rfl (fun _ HF_ => rfl) rfl g1431 rfl ?_
     clear E; intro w1432 a hc1433 H_ E
     replace H := H_; clear H_; try dsimp only [setn, addE, goneL] at H
     have hn1434 : row917.length = (List.length (List.set row917 x918.toNat (Option.getD (mget x916 ((List.getD r765.1 x918.toNat 0), (List.getD r794.1 x918.toNat 0))) 0))) := by simp only [List.length_set]
     replace E := E.same (t := 13) (u := .slice (some ⟨g821, 0, none⟩) (List.length (List.set row917 x918.toNat (Option.getD (mget x916 ((List.getD r765.1 x918.toNat 0), (List.getD r794.1 x918.toNat 0))) 0))) (Int.toNat (r765.1.length : Int))) rfl (congrArg (fun n_ => Value.slice (some ⟨g821, 0, none⟩) n_ (Int.toNat (r765.1.length : Int))) hn1434)
     refine nl_ <| bl_n <| th_n <| rl_ ?_
     obtain ⟨g1435, hP⟩ := ask_inv hP
     refine vq 2 [.int .i64 (x918 + 1)] [(74, .int .i64 (x918 + 1))] [IntKind.i64.wrap (x918 + 1) = x918 + 1] E (wrap_in g1435) ?_
     clear E; intro a E
     refine nl_ ?_
     exact th_n ⟨m1013, Nat.lt_succ_self _, p907, p910, p913, x916, List.set row917 x918.toNat (Option.getD (mget x916 ((List.getD r765.1 x918.toNat 0), (List.getD r794.1 x918.toNat 0))) 0), x918 + 1, A908, c909, A911, c912, A914, c915, E.pk, H.sel [0, 1, 2, 3, 4, 5, 6, 7, 12, 8, 9, 10, 11, 13, 14, 15, 16] rfl, hP⟩
    have h1436 : ¬ (x918 < (r765.1.length : Int)) := of_decide_eq_false hb_
    replace hP := ite_f h1436 hP
    refine c_false E rfl <| wp_exit <| th_exit ?_
    have hx_ := Option.some.inj hP
    refine th_exit (.inl ⟨2, rfl, ?_⟩)
    exact ⟨rfl, (p907, p910, p913, x916, row917), A908, c909, A911, c912, A914, c915, E.pk, H.sel [0, 1, 2, 3, 4, 5, 6, 7, 8, 9, 10, 11, 12, 13, 16] rfl, hx_.symm⟩
   clear E H hL1015; intro i_ a w1017 hM_
   obtain ⟨rfl, x1019, A1003, c1004, A1006, c1007, A1009, c1010, E, H, hx_⟩ := hM_
   subst hx_; have hP := hK1016; clear hK1016
   refine bl_hit <| th_n <| rl_ <| vq 6 [.slice A441 p440.length c442] [(138, .pointer (some ⟨g153, 0, none⟩)), (142, .slice A441 p440.length c442), (143, .slice (some ⟨g821, 0, none⟩) x1014.2.2.2.2.length (Int.toNat (r765.1.length : Int)))] [World.cell? w1017 ⟨g153, 1, none⟩ = some (.slice A441 p440.length c442)] E ((H.box 8 rfl).cell (j := 1) rfl) ?_
   clear E; intro a E
   refine h_buildSlice (ps := [(0, .slice (some ⟨g821, 0, none⟩) x1014.2.2.2.2.length (Int.toNat (r765.1.length : Int)))]) (cs := [.slice (some ⟨g821, 0, none⟩) x1014.2.2.2.2.length (Int.toNat (r765.1.length : Int))]) H E rfl rfl tbok rfl rfl (by kernel_rfl) ?_
   clear H E; intro w1438 g1437 a hc1439 hg1441 H E; replace E := E _ rfl; try dsimp only [setn, addE, goneL] at H
   replace H := H.rowx 14 rfl; try dsimp only [setn, addE, goneL] at H
   have hk1442 := H.rcap 14 rfl
   replace H := H.frz 14 rfl; try dsimp only [setn, addE, goneL] at H
   obtain ⟨g1443, hP⟩ := ask_inv hP
   refine h_append (cSl (cInt .i64)) (xs := p440) (ys := ([x1014.2.2.2.2] : List (List Int))) ([] : List Int) H 10 rfl E rfl rfl tbok rfl rfl rfl rfl rfl (fun _ _ => kSl_nil) rfl rfl (fun _ HF_ => HF_.srcB 15 rfl ⟨_, _, rfl, ⟨_, _, rfl, hk1442, (HF_.roC 14 rfl)⟩, rfl⟩) g1443 ?_
   clear H E; intro w1444 A1445 c1446 a hc1447 hA1448 H E; replace E := E _ rfl; try dsimp only [setn, addE, goneL] at H
   refine vp 2 [(147, .pointer (some ⟨g153, 1, none⟩))] E ?_
   clear E; intro a E
   refine h_store (g := g153) (off := 1) H 8 rfl E rfl rfl rfl rfl tbok rfl rfl rfl rfl rfl ?_
   clear E; intro w1449 a hc1450 H_ E
   replace H := H_; clear H_; try dsimp only [setn, addE, goneL] at H
   refine nl_ <| bl_n <| th_n <| rl_ ?_
   obtain ⟨g1451, hP⟩ := ask_inv hP
   refine vq 3 [.int .i64 (i450 + 1)] [(7, .int .i64 (i450 + 1))] [IntKind.i64.wrap (i450 + 1) = i450 + 1] E (wrap_in g1451) ?_
   clear E; intro a E
   refine nl_ ?_
   exact th_n ⟨m743, Nat.lt_succ_self _, x1014.1, p440 ++ ([x1014.2.2.2.2] : List (List Int)), x1014.2.1, x1014.2.2.1, x1014.2.2.2.1, i450 + 1, A1003, c1004, A1445, c1446, A1006, c1007, A1009, c1010, E.pk, H.sel (up 14) rfl, hP⟩
  have h1452 : ¬ (i450 < (p436.length : Int)) := of_decide_eq_false hb_
  replace hP := ite_f h1452 hP
  refine c_false E rfl <| wp_exit <| th_exit ?_
  have hx_ := Option.some.inj hP
  refine th_exit (.inl ⟨0, rfl, ?_⟩)
  exact ⟨rfl, (p436, p440, p443, p446), A437, c438, A441, c442, A444, c445, A447, c448, E.pk, H.sel [8, 9, 10, 11, 12] rfl, hx_.symm⟩
 clear E H hL745; intro i_ a w748 hM_
 obtain ⟨rfl, x750, A731, c732, A735, c736, A738, c739, A741, c742, E, H, hx_⟩ := hM_
 subst hx_; have hP := hK746; clear hK746
 refine bl_hit <| th_n <| sr_ <| vp 2 [(4, .pointer (some ⟨g153, 0, none⟩))] E ?_
 clear E; intro a E
 refine nn_ <| wp_ret ?_
 have hk1453 := H.rcap 1 rfl
 replace H := H.frz 1 rfl; try dsimp only [setn, addE, goneL] at H
 have hk1454 := H.rcap 2 rfl
 replace H := H.frz 2 rfl; try dsimp only [setn, addE, goneL] at H
 have hk1455 := H.rcap 3 rfl
 replace H := H.frz 3 rfl; try dsimp only [setn, addE, goneL] at H
 have hk1456 := H.rcap 4 rfl
 replace H := H.frz 4 rfl; try dsimp only [setn, addE, goneL] at H
 replace H := H.frzbox cS81 true ((x744.1, x744.2.1, x744.2.2.1, x744.2.2.2) : (List (Int × Int)) × (List (List Int)) × (List Int) × (List Int)) 0 rfl (fun _ HF_ => ⟨_, _, rfl, ⟨_, _, rfl, hk1453, (HF_.roC 1 rfl)⟩, ⟨_, _, rfl, ⟨_, _, rfl, hk1454, (HF_.roC 2 rfl)⟩, ⟨_, _, rfl, ⟨_, _, rfl, hk1455, (HF_.roC 3 rfl)⟩, ⟨_, _, rfl, hk1456, (HF_.roC 4 rfl)⟩⟩⟩⟩); try dsimp only [setn, addE, goneL] at H
 obtain rfl := Option.some.inj hP
 refine ret1 E rfl rfl ?_
 exact ⟨_, rfl, ⟨(x744.1, x744.2.1, x744.2.2.1, x744.2.2.2), g153, rfl, rfl, H.sel [0] rfl⟩⟩

end Go.V
