/- Plain functions, and the calls that give them. -/
import Derived.Test.YtihindpnnbllkaaA8
set_option linter.all false
set_option linter.unusedVariables false
set_option linter.unnecessarySimpa false
set_option linter.unusedSimpArgs false
set_option maxRecDepth 100000
set_option maxHeartbeats 4000000
namespace Go.V
open Go Go.Proofs
/-! rejoinder/both.Part$1 -/
def both_Part_1 (N : Nat) (one : Bool) (two : Bool) : Option Bool :=
  some (!(one == two))
def both_Part_1_p (x y : Bool) : Bool := Option.getD (both_Part_1 0 x y) false
theorem both_Part_1_calls {N : Nat} {S Fa : Nat → Prop} {w0 : World} {r : Bool} (one : Bool) (two : Bool) (H : Hp S Fa w0 w0 []) (hP : both_Part_1 N one two = some r) :
    Calls Try.prog 44 #[.bool one, .bool two] w0 fun e w' => ∃ v, e = .returned v ∧ v = .bool r ∧ Hp S Fa w0 w' [] := by
 refine enterV (n := 8) Try.func44 rfl rfl rfl ?_
 intro a E
 replace E := E.pick [(0, .bool one), (1, .bool two)] ⟨rfl, rfl, trivial⟩
 rw [both_Part_1] at hP
 refine sr_ <| vp 1 [] E ?_
 clear E; intro a E
 refine nn_ <| sr_ <| vp 4 [(4, .bool (!(one == two)))] E ?_
 clear E; intro a E
 refine nn_ <| wp_ret ?_
 obtain rfl := Option.some.inj hP
 refine ret1 E rfl rfl ?_
 exact ⟨_, rfl, rfl, H.sel [] rfl⟩
theorem both_Part_1_pure : PureF2 Try.prog (.func (.func 44) #[] #[]) both_Part_1_p := ⟨44, _, #[], rfl, Try.func44, rfl, rfl, fun w x y => (both_Part_1_calls (N := 0) x y (Hp.start w) (by cases x <;> cases y <;> rfl)).mono fun e w' ⟨v, he, hv, H⟩ => ⟨v, he, hv, H.chgd.own⟩⟩

/-! rejoinder/both.Part -/
def both_Part (N : Nat) (aProps : Int) (aAccept : List Bool) (aGuard : List Int) (aNodes : List Nd) (bProps : Int) (bAccept : List Bool) (bGuard : List Int) (bNodes : List Nd) : Option ((List Int) × Bool × Int) :=
  Option.bind (both_together N aProps aAccept aGuard aNodes bProps bAccept bGuard bNodes) fun r35 =>
  if (r35 : Int) = 0 then
    Option.bind (both_first N aProps aAccept aGuard aNodes bProps bAccept bGuard bNodes both_Part_1_p) fun r47 =>
    some (r47.1, r47.2, 0)
  else
    some ([], false, r35)
theorem both_Part_calls {N : Nat} {S Fa : Nat → Prop} {w0 : World} {r : (List Int) × Bool × Int} (A1 : Option Addr) (c2 : Nat) (A5 : Option Addr) (c6 : Nat) (A9 : Option Addr) (c10 : Nat) (A13 : Option Addr) (c14 : Nat) (A17 : Option Addr) (c18 : Nat) (A21 : Option Addr) (c22 : Nat) (aProps : Int) (aAccept : List Bool) (aGuard : List Int) (aNodes : List Nd) (bProps : Int) (bAccept : List Bool) (bGuard : List Int) (bNodes : List Nd) (hk3 : List.length aAccept ≤ c2) (hk7 : List.length aGuard ≤ c6) (hk11 : List.length aNodes ≤ c10) (hk15 : List.length bAccept ≤ c14) (hk19 : List.length bGuard ≤ c18) (hk23 : List.length bNodes ≤ c22) (H : Hp S Fa w0 w0 [.ro false cBool A1 aAccept, .ro false (cInt .i64) A5 aGuard, .ro false cNode A9 aNodes, .ro false cBool A13 bAccept, .ro false (cInt .i64) A17 bGuard, .ro false cNode A21 bNodes]) (hP : both_Part N aProps aAccept aGuard aNodes bProps bAccept bGuard bNodes = some r) :
    Calls Try.prog 17 #[.agg #[.int .i64 aProps, .slice A1 aAccept.length c2, .slice A5 aGuard.length c6, .slice A9 aNodes.length c10], .agg #[.int .i64 bProps, .slice A13 bAccept.length c14, .slice A17 bGuard.length c18, .slice A21 bNodes.length c22]] w0 fun e w' => ∃ v, e = .returned v ∧ ∃ (A59 : Option Addr) (c60 : Nat), v = .tuple #[.slice A59 r.1.length c60, .bool r.2.1, .int .i64 r.2.2] ∧ Hp S Fa w0 w' [.row true (cInt .u8) 50 A59 c60 r.1] := by
 refine enterV (n := 24) Try.func17 rfl rfl rfl ?_
 intro a E
 replace E := E.pick [(0, .agg #[.int .i64 aProps, .slice A1 aAccept.length c2, .slice A5 aGuard.length c6, .slice A9 aNodes.length c10]), (1, .agg #[.int .i64 bProps, .slice A13 bAccept.length c14, .slice A17 bGuard.length c18, .slice A21 bNodes.length c22])] ⟨rfl, rfl, trivial⟩
 rw [both_Part] at hP
 refine sr_ <| h_box H E rfl rfl rfl ?_
 clear H E; intro w26 g25 a hc27 hg29 H E; replace E := E _ rfl; try dsimp only [setn, addE, goneL] at H
 refine h_box H E rfl rfl rfl ?_
 clear H E; intro w31 g30 a hc32 hg34 H E; replace E := E _ rfl; try dsimp only [setn, addE, goneL] at H
 refine vp 3 [] E ?_
 clear E; intro a E
 refine nn_ <| wp_seq <| sr_ <| vq 2 [.agg #[.int .i64 aProps, .slice A1 aAccept.length c2, .slice A5 aGuard.length c6, .slice A9 aNodes.length c10], .agg #[.int .i64 bProps, .slice A13 bAccept.length c14, .slice A17 bGuard.length c18, .slice A21 bNodes.length c22]] [(10, .agg #[.int .i64 aProps, .slice A1 aAccept.length c2, .slice A5 aGuard.length c6, .slice A9 aNodes.length c10]), (11, .agg #[.int .i64 bProps, .slice A13 bAccept.length c14, .slice A17 bGuard.length c18, .slice A21 bNodes.length c22])] [cellsAt w31 g25 (0) [.int .i64 aProps, .slice A1 aAccept.length c2, .slice A5 aGuard.length c6, .slice A9 aNodes.length c10], cellsAt w31 g30 (0) [.int .i64 bProps, .slice A13 bAccept.length c14, .slice A17 bGuard.length c18, .slice A21 bNodes.length c22]] E ⟨(H.box 6 rfl).sub 0 _ rfl, (H.box 7 rfl).sub 0 _ rfl⟩ ?_
 clear E; intro a E
 obtain ⟨r35, h36, hP⟩ := bind_inv hP
 obtain ⟨Fa37, Hc38, hb39⟩ := H.call [] [(0, false), (1, false), (2, false), (3, false), (4, false), (5, false)] rfl rfl trivial
 refine e_call E rfl rfl Try.func42 rfl rfl rfl (both_together_calls A1 c2 A5 c6 A9 c10 A13 c14 A17 c18 A21 c22 aProps aAccept aGuard aNodes bProps bAccept bGuard bNodes hk3 hk7 hk11 hk15 hk19 hk23 Hc38 h36) ?_
 rintro v40 w41 a ⟨rfl, HR42⟩ E_
 replace E := E_ _ rfl; clear E_
 obtain ⟨H_, hc43⟩ := hb39 _ _ HR42 rfl
 replace H := H_; clear H_; try dsimp only [setn, addE, goneL] at H
 refine vp 1 [(7, .int .i64 r35)] E ?_
 clear E; intro a E
 refine nn_ <| sr_ <| vp 2 [(14, .bool ((r35 : Int) != 0))] E ?_
 clear E; intro a E
 refine nn_ ?_
 revert E; refine csE 14 rfl (fun hb_ E => ?_) fun hb_ E => ?_
 ·
  have h44 : ¬ ((r35 : Int) = 0) := bne_iff_ne.1 hb_
  replace hP := ite_f h44 hP
  refine c_true E rfl <| sr_ <| vp 4 [(4, .slice none 0 0), (5, .bool false), (6, .int .i64 r35)] E ?_
  clear E; intro a E
  refine nn_ <| wp_ret <| th_ret ?_
  replace H := H.nilrow (cInt .u8) 50; try dsimp only [setn, addE, goneL] at H
  obtain rfl := Option.some.inj hP
  refine ret3 E rfl rfl rfl rfl ?_
  exact ⟨_, rfl, none, 0, rfl, H.sel [8] rfl⟩
 have h46 : (r35 : Int) = 0 := bne_eq_false_iff_eq.1 hb_
 replace hP := ite_t h46 hP
 refine c_false E rfl <| wp_skip <| th_n <| sr_ <| vq 2 [.agg #[.int .i64 aProps, .slice A1 aAccept.length c2, .slice A5 aGuard.length c6, .slice A9 aNodes.length c10], .agg #[.int .i64 bProps, .slice A13 bAccept.length c14, .slice A17 bGuard.length c18, .slice A21 bNodes.length c22]] [(17, .agg #[.int .i64 aProps, .slice A1 aAccept.length c2, .slice A5 aGuard.length c6, .slice A9 aNodes.length c10]), (18, .agg #[.int .i64 bProps, .slice A13 bAccept.length c14, .slice A17 bGuard.length c18, .slice A21 bNodes.length c22])] [cellsAt w41 g25 (0) [.int .i64 aProps, .slice A1 aAccept.length c2, .slice A5 aGuard.length c6, .slice A9 aNodes.length c10], cellsAt w41 g30 (0) [.int .i64 bProps, .slice A13 bAccept.length c14, .slice A17 bGuard.length c18, .slice A21 bNodes.length c22]] E ⟨(H.box 6 rfl).sub 0 _ rfl, (H.box 7 rfl).sub 0 _ rfl⟩ ?_
 clear E; intro a E
 obtain ⟨r47, h48, hP⟩ := bind_inv hP
 obtain ⟨Fa49, Hc50, hb51⟩ := H.call [] [(0, false), (1, false), (2, false), (3, false), (4, false), (5, false)] rfl rfl trivial
 refine e_call E rfl rfl Try.func43 rfl rfl rfl (both_first_calls A1 c2 A5 c6 A9 c10 A13 c14 A17 c18 A21 c22 (.func (.func 44) #[] #[]) aProps aAccept aGuard aNodes bProps bAccept bGuard bNodes both_Part_1_p hk3 hk7 hk11 hk15 hk19 hk23 both_Part_1_pure Hc50 h48) ?_
 rintro v52 w53 a ⟨A56, c57, rfl, HR54⟩ E_
 replace E := E_ _ rfl; clear E_
 obtain ⟨H_, hc55⟩ := hb51 _ _ HR54 rfl
 replace H := H_; clear H_; try dsimp only [setn, addE, goneL] at H
 refine vp 5 [(8, .slice A56 r47.1.length c57), (9, .bool r47.2)] E ?_
 clear E; intro a E
 refine nn_ <| sr_ <| vp 5 [(4, .slice A56 r47.1.length c57), (5, .bool r47.2), (6, .int .i64 0)] E ?_
 clear E; intro a E
 refine nn_ <| wp_ret ?_
 obtain rfl := Option.some.inj hP
 refine ret3 E rfl rfl rfl rfl ?_
 exact ⟨_, rfl, A56, c57, rfl, H.sel [8] rfl⟩

/-! rejoinder/both.Implies$1 -/
/-! rejoinder/both.Implies -/
/-! slices.Equal[[]bool,bool] -/
def slices_Equal_bool_bool_l0 (N : Nat) (s : List Bool) (s_ : List Bool) : Nat → Int → Option (Unit ⊕ Bool)
  | 0, _ => none
  | m41 + 1, x25 =>
    if x25 < (s.length : Int) then
      ask (idx x25 s.length) <|
      ask (idx x25 s_.length) <|
      if (List.getD s x25.toNat false) = (List.getD s_ x25.toNat false) then
        ask (in64 (x25 + 1)) <|
        slices_Equal_bool_bool_l0 N s s_ m41 (x25 + 1)
      else
        some (Sum.inr false)
    else
      some (Sum.inl ())
def slices_Equal_bool_bool (N : Nat) (s : List Bool) (s_ : List Bool) : Option Bool :=
  if ((s.length : Int) : Int) = (s_.length : Int) then
    Option.bind (slices_Equal_bool_bool_l0 N s s_ N 0) fun x42 =>
    Sum.elim (fun x47 =>
      some true)
     (fun x63 =>
      some x63) x42
  else
    some false
theorem slices_Equal_bool_bool_calls {N : Nat} {S Fa : Nat → Prop} {w0 : World} {r : Bool} (A1 : Option Addr) (c2 : Nat) (A5 : Option Addr) (c6 : Nat) (s : List Bool) (s_ : List Bool) (hk3 : List.length s ≤ c2) (hk7 : List.length s_ ≤ c6) (H : Hp S Fa w0 w0 [.ro false cBool A1 s, .ro false cBool A5 s_]) (hP : slices_Equal_bool_bool N s s_ = some r) :
    Calls Try.prog 56 #[.slice A1 s.length c2, .slice A5 s_.length c6] w0 fun e w' => ∃ v, e = .returned v ∧ v = .bool r ∧ Hp S Fa w0 w' [] := by
 refine enterV (n := 26) Try.func56 rfl rfl rfl ?_
 intro a E
 replace E := E.pick [(0, .slice A1 s.length c2), (1, .slice A5 s_.length c6)] ⟨rfl, rfl, trivial⟩
 rw [slices_Equal_bool_bool] at hP
 refine sr_ <| vp 1 [] E ?_
 clear E; intro a E
 refine nn_ <| wp_seq <| sr_ <| vp 5 [(10, .bool (((s.length : Int) : Int) != (s_.length : Int)))] E ?_
 clear E; intro a E
 refine nn_ ?_
 revert E; refine csE 10 rfl (fun hb_ E => ?_) fun hb_ E => ?_
 ·
  have h9 : ¬ (((s.length : Int) : Int) = (s_.length : Int)) := bne_iff_ne.1 hb_
  replace hP := ite_f h9 hP
  refine c_true E rfl <| sr_ <| vp 1 [(4, .bool false)] E ?_
  clear E; intro a E
  refine nn_ <| wp_ret <| th_ret ?_
  obtain rfl := Option.some.inj hP
  refine ret1 E rfl rfl ?_
  exact ⟨_, rfl, rfl, H.sel [] rfl⟩
 have h10 : ((s.length : Int) : Int) = (s_.length : Int) := bne_eq_false_iff_eq.1 hb_
 replace hP := ite_t h10 hP
 refine c_false E rfl <| wp_skip <| th_n <| wp_seq <| sr_ <| vp 3 [(12, .int .i64 (s.length : Int)), (13, .int .i64 0)] E ?_
 clear E; intro a E
 refine nn_ <| wp_block ?_
 obtain ⟨x42, hL43, hK44⟩ := bind_inv hP
 clear hP
 refine loop_cut (fun i_ a w_ => (i_ = 0 ∧ ∃ (x47 : Unit), Fr a 26 [] ∧ Hp S Fa w0 w_ [] ∧ x42 = Sum.inl x47)) ?_ ?_
 ·
  refine loopV (fun m46 a w45 => ∃ (x25 : Int), Fr a 26 [(0, .slice A1 s.length c2), (1, .slice A5 s_.length c6), (12, .int .i64 (s.length : Int)), (13, .int .i64 x25)] ∧ Hp S Fa w0 w45 [.ro false cBool A1 s, .ro false cBool A5 s_] ∧ slices_Equal_bool_bool_l0 N s s_ m46 x25 = some x42) N ?_ ?_
  ·
   exact ⟨0, E.pk, H.sel [0, 1] rfl, hL43⟩
  clear E H hL43; intro m46 a w45 hI_
  obtain ⟨x25, E, H, hP⟩ := hI_
  obtain ⟨m41, rfl⟩ : ∃ q_, m46 = q_ + 1 := by cases m46 with | zero => rw [slices_Equal_bool_bool_l0] at hP; cases hP | succ q_ => exact ⟨q_, rfl⟩
  rw [slices_Equal_bool_bool_l0] at hP
  refine sr_ <| vp 1 [(14, .bool (decide (x25 < (s.length : Int))))] E ?_
  clear E; intro a E
  refine nn_ <| wp_seq ?_
  revert E; refine csE 14 rfl (fun hb_ E => ?_) fun hb_ E => ?_
  ·
   have h48 : x25 < (s.length : Int) := of_decide_eq_true hb_
   replace hP := ite_t h48 hP
   refine c_true E rfl <| wp_skip <| th_n <| wp_seq <| wp_block <| sr_ <| vp 2 [(5, .int .i64 x25)] E ?_
   clear E; intro a E
   refine nn_ <| wp_seq ?_
   obtain ⟨g49, hP⟩ := ask_inv hP
   obtain ⟨b50, o51, e_b50⟩ := (H.rd 0 rds_ro).addr (idx_pos g49)
   subst e_b50
   obtain ⟨g52, hP⟩ := ask_inv hP
   obtain ⟨b53, o54, e_b53⟩ := (H.rd 1 rds_ro).addr (idx_pos g52)
   subst e_b53
   have HR58 := H
   refine dr_start (S := fun w_ => Chg (atL []) w45 w_) (by kernel_rfl) ?_
   intro w55 hc56
   have HS57 : Chg (atL []) w45 w55 := hc56.mono (fun _ _ h_ => h_.elim)
   replace H := H.ext hc56
   refine dn tbok (by kernel_rfl) [0, 1, 2, 3, 4, 5, 6, 7, 8] [.bool (List.getD s x25.toNat false), .bool (List.getD s_ x25.toNat false)] [(24, .bool (!((List.getD s x25.toNat false) == (List.getD s_ x25.toNat false))))] (fun w_ => [0 ≤ x25 ∧ x25 < (s.length : Int), World.cell? w_ ⟨b50, o51 + x25.toNat * 1, none⟩ = some (.bool (List.getD s x25.toNat false)), 0 ≤ x25 ∧ x25 < (s_.length : Int), World.cell? w_ ⟨b53, o54 + x25.toNat * 1, none⟩ = some (.bool (List.getD s_ x25.toNat false))]) 0 E (fun _ _ => by kernel_rfl) (by kernel_rfl) (fun w_ hS_ => ⟨g49, Rds.at1 (HR58.rdk [] hS_ 0 rds_ro rfl) false g49, g52, Rds.at1 (HR58.rdk [] hS_ 1 rds_ro rfl) false g52⟩) (by kernel_rfl) HS57 ?_
   clear E; intro a E
   refine dr_done (by kernel_rfl) ?_
   clear HS57 HR58
   refine th_n ?_
   revert E; refine csE 24 rfl (fun hb_ E => ?_) fun hb_ E => ?_
   ·
    have h59 : ¬ ((List.getD s x25.toNat false) = (List.getD s_ x25.toNat false)) := (by simpa using hb_)
    replace hP := ite_f h59 hP
    refine c_true E rfl <| sr_ <| vp 1 [(4, .bool false)] E ?_
    clear E; intro a E
    refine nn_ <| wp_ret <| bl_ret <| th_ret <| th_ret <| .inr ⟨rfl, ?_⟩
    refine bl_ret <| th_ret ?_
    have hx_ := Option.some.inj hP; subst hx_
    have hP : some (false) = some r := hK44
    obtain rfl := Option.some.inj hP
    refine ret1 E rfl rfl ?_
    exact ⟨_, rfl, rfl, H.sel [] rfl⟩
   have h60 : (List.getD s x25.toNat false) = (List.getD s_ x25.toNat false) := (by simpa using hb_)
   replace hP := ite_t h60 hP
   refine c_false E rfl <| wp_skip <| bl_n <| th_n <| rl_ ?_
   obtain ⟨g61, hP⟩ := ask_inv hP
   refine vq 2 [.int .i64 (x25 + 1)] [(13, .int .i64 (x25 + 1))] [IntKind.i64.wrap (x25 + 1) = x25 + 1] E (wrap_in g61) ?_
   clear E; intro a E
   refine nl_ ?_
   exact th_n ⟨m41, Nat.lt_succ_self _, x25 + 1, E.pk, H.sel [0, 1] rfl, hP⟩
  have h62 : ¬ (x25 < (s.length : Int)) := of_decide_eq_false hb_
  replace hP := ite_f h62 hP
  refine c_false E rfl <| wp_exit <| th_exit ?_
  have hx_ := Option.some.inj hP
  refine th_exit (.inl ⟨0, rfl, ?_⟩)
  exact ⟨rfl, (), E.pick _ trivial, H.sel [] rfl, hx_.symm⟩
 clear E H hL43; intro i_ a w45 hM_
 obtain ⟨rfl, x47, E, H, hx_⟩ := hM_
 subst hx_; have hP := elim_l hK44
 clear hK44
 refine bl_hit <| th_n <| sr_ <| vp 1 [(4, .bool true)] E ?_
 clear E; intro a E
 refine nn_ <| wp_ret ?_
 obtain rfl := Option.some.inj hP
 refine ret1 E rfl rfl ?_
 exact ⟨_, rfl, rfl, H.sel [] rfl⟩

/-! slices.Equal[[]int,int] -/
def slices_Equal_int_int_l0 (N : Nat) (s : List Int) (s_ : List Int) : Nat → Int → Option (Unit ⊕ Bool)
  | 0, _ => none
  | m41 + 1, x25 =>
    if x25 < (s.length : Int) then
      ask (idx x25 s.length) <|
      ask (idx x25 s_.length) <|
      if ((List.getD s x25.toNat 0) : Int) = (List.getD s_ x25.toNat 0) then
        ask (in64 (x25 + 1)) <|
        slices_Equal_int_int_l0 N s s_ m41 (x25 + 1)
      else
        some (Sum.inr false)
    else
      some (Sum.inl ())
def slices_Equal_int_int (N : Nat) (s : List Int) (s_ : List Int) : Option Bool :=
  if ((s.length : Int) : Int) = (s_.length : Int) then
    Option.bind (slices_Equal_int_int_l0 N s s_ N 0) fun x42 =>
    Sum.elim (fun x47 =>
      some true)
     (fun x63 =>
      some x63) x42
  else
    some false
theorem slices_Equal_int_int_calls {N : Nat} {S Fa : Nat → Prop} {w0 : World} {r : Bool} (A1 : Option Addr) (c2 : Nat) (A5 : Option Addr) (c6 : Nat) (s : List Int) (s_ : List Int) (hk3 : List.length s ≤ c2) (hk7 : List.length s_ ≤ c6) (H : Hp S Fa w0 w0 [.ro false (cInt .i64) A1 s, .ro false (cInt .i64) A5 s_]) (hP : slices_Equal_int_int N s s_ = some r) :
    Calls Try.prog 57 #[.slice A1 s.length c2, .slice A5 s_.length c6] w0 fun e w' => ∃ v, e = .returned v ∧ v = .bool r ∧ Hp S Fa w0 w' [] := by
 refine enterV (n := 26) Try.func57 rfl rfl rfl ?_
 intro a E
 replace E := E.pick [(0, .slice A1 s.length c2), (1, .slice A5 s_.length c6)] ⟨rfl, rfl, trivial⟩
 rw [slices_Equal_int_int] at hP
 refine sr_ <| vp 1 [] E ?_
 clear E; intro a E
 refine nn_ <| wp_seq <| sr_ <| vp 5 [(10, .bool (((s.length : Int) : Int) != (s_.length : Int)))] E ?_
 clear E; intro a E
 refine nn_ ?_
 revert E; refine csE 10 rfl (fun hb_ E => ?_) fun hb_ E => ?_
 ·
  have h9 : ¬ (((s.length : Int) : Int) = (s_.length : Int)) := bne_iff_ne.1 hb_
  replace hP := ite_f h9 hP
  refine c_true E rfl <| sr_ <| vp 1 [(4, .bool false)] E ?_
  clear E; intro a E
  refine nn_ <| wp_ret <| th_ret ?_
  obtain rfl := Option.some.inj hP
  refine ret1 E rfl rfl ?_
  exact ⟨_, rfl, rfl, H.sel [] rfl⟩
 have h10 : ((s.length : Int) : Int) = (s_.length : Int) := bne_eq_false_iff_eq.1 hb_
 replace hP := ite_t h10 hP
 refine c_false E rfl <| wp_skip <| th_n <| wp_seq <| sr_ <| vp 3 [(12, .int .i64 (s.length : Int)), (13, .int .i64 0)] E ?_
 clear E; intro a E
 refine nn_ <| wp_block ?_
 obtain ⟨x42, hL43, hK44⟩ := bind_inv hP
 clear hP
 refine loop_cut (fun i_ a w_ => (i_ = 0 ∧ ∃ (x47 : Unit), Fr a 26 [] ∧ Hp S Fa w0 w_ [] ∧ x42 = Sum.inl x47)) ?_ ?_
 ·
  refine loopV (fun m46 a w45 => ∃ (x25 : Int), Fr a 26 [(0, .slice A1 s.length c2), (1, .slice A5 s_.length c6), (12, .int .i64 (s.length : Int)), (13, .int .i64 x25)] ∧ Hp S Fa w0 w45 [.ro false (cInt .i64) A1 s, .ro false (cInt .i64) A5 s_] ∧ slices_Equal_int_int_l0 N s s_ m46 x25 = some x42) N ?_ ?_
  ·
   exact ⟨0, E.pk, H.sel [0, 1] rfl, hL43⟩
  clear E H hL43; intro m46 a w45 hI_
  obtain ⟨x25, E, H, hP⟩ := hI_
  obtain ⟨m41, rfl⟩ : ∃ q_, m46 = q_ + 1 := by cases m46 with | zero => rw [slices_Equal_int_int_l0] at hP; cases hP | succ q_ => exact ⟨q_, rfl⟩
  rw [slices_Equal_int_int_l0] at hP
  refine sr_ <| vp 1 [(14, .bool (decide (x25 < (s.length : Int))))] E ?_
  clear E; intro a E
  refine nn_ <| wp_seq ?_
  revert E; refine csE 14 rfl (fun hb_ E => ?_) fun hb_ E => ?_
  ·
   have h48 : x25 < (s.length : Int) := of_decide_eq_true hb_
   replace hP := ite_t h48 hP
   refine c_true E rfl <| wp_skip <| th_n <| wp_seq <| wp_block <| sr_ <| vp 2 [(5, .int .i64 x25)] E ?_
   clear E; intro a E
   refine nn_ <| wp_seq ?_
   obtain ⟨g49, hP⟩ := ask_inv hP
   obtain ⟨b50, o51, e_b50⟩ := (H.rd 0 rds_ro).addr (idx_pos g49)
   subst e_b50
   obtain ⟨g52, hP⟩ := ask_inv hP
   obtain ⟨b53, o54, e_b53⟩ := (H.rd 1 rds_ro).addr (idx_pos g52)
   subst e_b53
   have HR58 := H
   refine dr_start (S := fun w_ => Chg (atL []) w45 w_) (by kernel_rfl) ?_
   intro w55 hc56
   have HS57 : Chg (atL []) w45 w55 := hc56.mono (fun _ _ h_ => h_.elim)
   replace H := H.ext hc56
   refine dn tbok (by kernel_rfl) [0, 1, 2, 3, 4, 5, 6, 7, 8] [.int .i64 (List.getD s x25.toNat 0), .int .i64 (List.getD s_ x25.toNat 0)] [(24, .bool (((List.getD s x25.toNat 0) : Int) != (List.getD s_ x25.toNat 0)))] (fun w_ => [0 ≤ x25 ∧ x25 < (s.length : Int), World.cell? w_ ⟨b50, o51 + x25.toNat * 1, none⟩ = some (.int .i64 (List.getD s x25.toNat 0)), 0 ≤ x25 ∧ x25 < (s_.length : Int), World.cell? w_ ⟨b53, o54 + x25.toNat * 1, none⟩ = some (.int .i64 (List.getD s_ x25.toNat 0))]) 0 E (fun _ _ => by kernel_rfl) (by kernel_rfl) (fun w_ hS_ => ⟨g49, Rds.at1 (HR58.rdk [] hS_ 0 rds_ro rfl) 0 g49, g52, Rds.at1 (HR58.rdk [] hS_ 1 rds_ro rfl) 0 g52⟩) (by kernel_rfl) HS57 ?_
   clear E; intro a E
   refine dr_done (by kernel_rfl) ?_
   clear HS57 HR58
   refine th_n ?_
   revert E; refine csE 24 rfl (fun hb_ E => ?_) fun hb_ E => ?_
   ·
    have h59 : ¬ (((List.getD s x25.toNat 0) : Int) = (List.getD s_ x25.toNat 0)) := bne_iff_ne.1 hb_
    replace hP := ite_f h59 hP
    refine c_true E rfl <| sr_ <| vp 1 [(4, .bool false)] E ?_
    clear E; intro a E
    refine nn_ <| wp_ret <| bl_ret <| th_ret <| th_ret <| .inr ⟨rfl, ?_⟩
    refine bl_ret <| th_ret ?_
    have hx_ := Option.some.inj hP; subst hx_
    have hP : some (false) = some r := hK44
    obtain rfl := Option.some.inj hP
    refine ret1 E rfl rfl ?_
    exact ⟨_, rfl, rfl, H.sel [] rfl⟩
   have h60 : ((List.getD s x25.toNat 0) : Int) = (List.getD s_ x25.toNat 0) := bne_eq_false_iff_eq.1 hb_
   replace hP := ite_t h60 hP
   refine c_false E rfl <| wp_skip <| bl_n <| th_n <| rl_ ?_
   obtain ⟨g61, hP⟩ := ask_inv hP
   refine vq 2 [.int .i64 (x25 + 1)] [(13, .int .i64 (x25 + 1))] [IntKind.i64.wrap (x25 + 1) = x25 + 1] E (wrap_in g61) ?_
   clear E; intro a E
   refine nl_ ?_
   exact th_n ⟨m41, Nat.lt_succ_self _, x25 + 1, E.pk, H.sel [0, 1] rfl, hP⟩
  have h62 : ¬ (x25 < (s.length : Int)) := of_decide_eq_false hb_
  replace hP := ite_f h62 hP
  refine c_false E rfl <| wp_exit <| th_exit ?_
  have hx_ := Option.some.inj hP
  refine th_exit (.inl ⟨0, rfl, ?_⟩)
  exact ⟨rfl, (), E.pick _ trivial, H.sel [] rfl, hx_.symm⟩
 clear E H hL43; intro i_ a w45 hM_
 obtain ⟨rfl, x47, E, H, hx_⟩ := hM_
 subst hx_; have hP := elim_l hK44
 clear hK44
 refine bl_hit <| th_n <| sr_ <| vp 1 [(4, .bool true)] E ?_
 clear E; intro a E
 refine nn_ <| wp_ret ?_
 obtain rfl := Option.some.inj hP
 refine ret1 E rfl rfl ?_
 exact ⟨_, rfl, rfl, H.sel [] rfl⟩

/-! slices.Equal[[]rejoinder/api.Node,rejoinder/api.Node] -/
def slices_Equal_api_Node_api_Node_l0 (N : Nat) (s : List Nd) (s_ : List Nd) : Nat → Int → Option (Unit ⊕ Bool)
  | 0, _ => none
  | m41 + 1, x25 =>
    if x25 < (s.length : Int) then
      ask (idx x25 s.length) <|
      ask (idx x25 s_.length) <|
      if (List.getD s x25.toNat (default : Nd)) = (List.getD s_ x25.toNat (default : Nd)) then
        ask (in64 (x25 + 1)) <|
        slices_Equal_api_Node_api_Node_l0 N s s_ m41 (x25 + 1)
      else
        some (Sum.inr false)
    else
      some (Sum.inl ())
def slices_Equal_api_Node_api_Node (N : Nat) (s : List Nd) (s_ : List Nd) : Option Bool :=
  if ((s.length : Int) : Int) = (s_.length : Int) then
    Option.bind (slices_Equal_api_Node_api_Node_l0 N s s_ N 0) fun x42 =>
    Sum.elim (fun x47 =>
      some true)
     (fun x63 =>
      some x63) x42
  else
    some false
theorem slices_Equal_api_Node_api_Node_calls {N : Nat} {S Fa : Nat → Prop} {w0 : World} {r : Bool} (A1 : Option Addr) (c2 : Nat) (A5 : Option Addr) (c6 : Nat) (s : List Nd) (s_ : List Nd) (hk3 : List.length s ≤ c2) (hk7 : List.length s_ ≤ c6) (H : Hp S Fa w0 w0 [.ro false cNode A1 s, .ro false cNode A5 s_]) (hP : slices_Equal_api_Node_api_Node N s s_ = some r) :
    Calls Try.prog 58 #[.slice A1 s.length c2, .slice A5 s_.length c6] w0 fun e w' => ∃ v, e = .returned v ∧ v = .bool r ∧ Hp S Fa w0 w' [] := by
 refine enterV (n := 26) Try.func58 rfl rfl rfl ?_
 intro a E
 replace E := E.pick [(0, .slice A1 s.length c2), (1, .slice A5 s_.length c6)] ⟨rfl, rfl, trivial⟩
 rw [slices_Equal_api_Node_api_Node] at hP
 refine sr_ <| vp 1 [] E ?_
 clear E; intro a E
 refine nn_ <| wp_seq <| sr_ <| vp 5 [(10, .bool (((s.length : Int) : Int) != (s_.length : Int)))] E ?_
 clear E; intro a E
 refine nn_ ?_
 revert E; refine csE 10 rfl (fun hb_ E => ?_) fun hb_ E => ?_
 ·
  have h9 : ¬ (((s.length : Int) : Int) = (s_.length : Int)) := bne_iff_ne.1 hb_
  replace hP := ite_f h9 hP
  refine c_true E rfl <| sr_ <| vp 1 [(4, .bool false)] E ?_
  clear E; intro a E
  refine nn_ <| wp_ret <| th_ret ?_
  obtain rfl := Option.some.inj hP
  refine ret1 E rfl rfl ?_
  exact ⟨_, rfl, rfl, H.sel [] rfl⟩
 have h10 : ((s.length : Int) : Int) = (s_.length : Int) := bne_eq_false_iff_eq.1 hb_
 replace hP := ite_t h10 hP
 refine c_false E rfl <| wp_skip <| th_n <| wp_seq <| sr_ <| vp 3 [(12, .int .i64 (s.length : Int)), (13, .int .i64 0)] E ?_
 clear E; intro a E
 refine nn_ <| wp_block ?_
 obtain ⟨x42, hL43, hK44⟩ := bind_inv hP
 clear hP
 refine loop_cut (fun i_ a w_ => (i_ = 0 ∧ ∃ (x47 : Unit), Fr a 26 [] ∧ Hp S Fa w0 w_ [] ∧ x42 = Sum.inl x47)) ?_ ?_
 ·
  refine loopV (fun m46 a w45 => ∃ (x25 : Int), Fr a 26 [(0, .slice A1 s.length c2), (1, .slice A5 s_.length c6), (12, .int .i64 (s.length : Int)), (13, .int .i64 x25)] ∧ Hp S Fa w0 w45 [.ro false cNode A1 s, .ro false cNode A5 s_] ∧ slices_Equal_api_Node_api_Node_l0 N s s_ m46 x25 = some x42) N ?_ ?_
  ·
   exact ⟨0, E.pk, H.sel [0, 1] rfl, hL43⟩
  clear E H hL43; intro m46 a w45 hI_
  obtain ⟨x25, E, H, hP⟩ := hI_
  obtain ⟨m41, rfl⟩ : ∃ q_, m46 = q_ + 1 := by cases m46 with | zero => rw [slices_Equal_api_Node_api_Node_l0] at hP; cases hP | succ q_ => exact ⟨q_, rfl⟩
  rw [slices_Equal_api_Node_api_Node_l0] at hP
  refine sr_ <| vp 1 [(14, .bool (decide (x25 < (s.length : Int))))] E ?_
  clear E; intro a E
  refine nn_ <| wp_seq ?_
  revert E; refine csE 14 rfl (fun hb_ E => ?_) fun hb_ E => ?_
  ·
   have h48 : x25 < (s.length : Int) := of_decide_eq_true hb_
   replace hP := ite_t h48 hP
   refine c_true E rfl <| wp_skip <| th_n <| wp_seq <| wp_block <| sr_ <| vp 2 [(5, .int .i64 x25)] E ?_
   clear E; intro a E
   refine nn_ <| wp_seq ?_
   obtain ⟨g49, hP⟩ := ask_inv hP
   obtain ⟨b50, o51, e_b50⟩ := (H.rd 0 rds_ro).addr (idx_pos g49)
   subst e_b50
   obtain ⟨g52, hP⟩ := ask_inv hP
   obtain ⟨b53, o54, e_b53⟩ := (H.rd 1 rds_ro).addr (idx_pos g52)
   subst e_b53
   have HR58 := H
   refine dr_start (S := fun w_ => Chg (atL []) w45 w_) (by kernel_rfl) ?_
   intro w55 hc56
   have HS57 : Chg (atL []) w45 w55 := hc56.mono (fun _ _ h_ => h_.elim)
   replace H := H.ext hc56
   refine dn tbok (by kernel_rfl) [0, 1, 2, 3, 4, 5, 6, 7] [.agg #[.int .i64 ((List.getD s x25.toNat (default : Nd)).P), .int .i64 ((List.getD s x25.toNat (default : Nd)).Lo), .int .i64 ((List.getD s x25.toNat (default : Nd)).Hi)], .agg #[.int .i64 ((List.getD s_ x25.toNat (default : Nd)).P), .int .i64 ((List.getD s_ x25.toNat (default : Nd)).Lo), .int .i64 ((List.getD s_ x25.toNat (default : Nd)).Hi)]] [(19, .agg #[.int .i64 ((List.getD s x25.toNat (default : Nd)).P), .int .i64 ((List.getD s x25.toNat (default : Nd)).Lo), .int .i64 ((List.getD s x25.toNat (default : Nd)).Hi)]), (23, .agg #[.int .i64 ((List.getD s_ x25.toNat (default : Nd)).P), .int .i64 ((List.getD s_ x25.toNat (default : Nd)).Lo), .int .i64 ((List.getD s_ x25.toNat (default : Nd)).Hi)])] (fun w_ => [0 ≤ x25 ∧ x25 < (s.length : Int), cellsAt w_ b50 (o51 + x25.toNat * 3) [.int .i64 ((List.getD s x25.toNat (default : Nd)).P), .int .i64 ((List.getD s x25.toNat (default : Nd)).Lo), .int .i64 ((List.getD s x25.toNat (default : Nd)).Hi)], 0 ≤ x25 ∧ x25 < (s_.length : Int), cellsAt w_ b53 (o54 + x25.toNat * 3) [.int .i64 ((List.getD s_ x25.toNat (default : Nd)).P), .int .i64 ((List.getD s_ x25.toNat (default : Nd)).Lo), .int .i64 ((List.getD s_ x25.toNat (default : Nd)).Hi)]]) 1 E (fun _ _ => by kernel_rfl) (by kernel_rfl) (fun w_ hS_ => ⟨g49, Rds.atP (HR58.rdk [] hS_ 0 rds_ro rfl) (default : Nd) g49, g52, Rds.atP (HR58.rdk [] hS_ 1 rds_ro rfl) (default : Nd) g52⟩) (by kernel_rfl) HS57 ?_
   clear E; intro a E
   refine wpAnyH_all (rs := [8]) (by kernel_rfl) (by simp) ?_
   refine all1 ?_
   refine wpOp_of_list rfl ?_
   refine e_eqS E rfl rfl rfl rfl grdNd (eqNd (List.getD s x25.toNat (default : Nd)) (List.getD s_ x25.toNat (default : Nd)) _) (!decide ((List.getD s x25.toNat (default : Nd)) = (List.getD s_ x25.toNat (default : Nd)))) (.inr ⟨rfl, rfl⟩) rfl ?_
   clear E; intro a E
   refine nl_ <| th_n ⟨HS57, ?_⟩
   refine dr_done (by kernel_rfl) ?_
   clear HS57 HR58
   refine th_n ?_
   revert E; refine csE 24 rfl (fun hb_ E => ?_) fun hb_ E => ?_
   ·
    have h59 : ¬ ((List.getD s x25.toNat (default : Nd)) = (List.getD s_ x25.toNat (default : Nd))) := of_decide_eq_false (not_t hb_)
    replace hP := ite_f h59 hP
    refine c_true E rfl <| sr_ <| vp 1 [(4, .bool false)] E ?_
    clear E; intro a E
    refine nn_ <| wp_ret <| bl_ret <| th_ret <| th_ret <| .inr ⟨rfl, ?_⟩
    refine bl_ret <| th_ret ?_
    have hx_ := Option.some.inj hP; subst hx_
    have hP : some (false) = some r := hK44
    obtain rfl := Option.some.inj hP
    refine ret1 E rfl rfl ?_
    exact ⟨_, rfl, rfl, H.sel [] rfl⟩
   have h60 : (List.getD s x25.toNat (default : Nd)) = (List.getD s_ x25.toNat (default : Nd)) := of_decide_eq_true (not_f hb_)
   replace hP := ite_t h60 hP
   refine c_false E rfl <| wp_skip <| bl_n <| th_n <| rl_ ?_
   obtain ⟨g61, hP⟩ := ask_inv hP
   refine vq 2 [.int .i64 (x25 + 1)] [(13, .int .i64 (x25 + 1))] [IntKind.i64.wrap (x25 + 1) = x25 + 1] E (wrap_in g61) ?_
   clear E; intro a E
   refine nl_ ?_
   exact th_n ⟨m41, Nat.lt_succ_self _, x25 + 1, E.pk, H.sel [0, 1] rfl, hP⟩
  have h62 : ¬ (x25 < (s.length : Int)) := of_decide_eq_false hb_
  replace hP := ite_f h62 hP
  refine c_false E rfl <| wp_exit <| th_exit ?_
  have hx_ := Option.some.inj hP
  refine th_exit (.inl ⟨0, rfl, ?_⟩)
  exact ⟨rfl, (), E.pick _ trivial, H.sel [] rfl, hx_.symm⟩
 clear E H hL43; intro i_ a w45 hM_
 obtain ⟨rfl, x47, E, H, hx_⟩ := hM_
 subst hx_; have hP := elim_l hK44
 clear hK44
 refine bl_hit <| th_n <| sr_ <| vp 1 [(4, .bool true)] E ?_
 clear E; intro a E
 refine nn_ <| wp_ret ?_
 obtain rfl := Option.some.inj hP
 refine ret1 E rfl rfl ?_
 exact ⟨_, rfl, rfl, H.sel [] rfl⟩

/-! rejoinder/canon.Same -/
def canon_Same (N : Nat) (aProps : Int) (aAccept : List Bool) (aGuard : List Int) (aNodes : List Nd) (bProps : Int) (bAccept : List Bool) (bGuard : List Int) (bNodes : List Nd) : Option Bool :=
  if (aProps : Int) = bProps then
    Option.bind (slices_Equal_bool_bool N aAccept bAccept) fun r36 =>
    if r36 = true then
      Option.bind (slices_Equal_int_int N aGuard bGuard) fun r46 =>
      if r46 = true then
        Option.bind (slices_Equal_api_Node_api_Node N aNodes bNodes) fun r56 =>
        some r56
      else
        some false
    else
      some false
  else
    some false
theorem canon_Same_calls {N : Nat} {S Fa : Nat → Prop} {w0 : World} {r : Bool} (A1 : Option Addr) (c2 : Nat) (A5 : Option Addr) (c6 : Nat) (A9 : Option Addr) (c10 : Nat) (A13 : Option Addr) (c14 : Nat) (A17 : Option Addr) (c18 : Nat) (A21 : Option Addr) (c22 : Nat) (aProps : Int) (aAccept : List Bool) (aGuard : List Int) (aNodes : List Nd) (bProps : Int) (bAccept : List Bool) (bGuard : List Int) (bNodes : List Nd) (hk3 : List.length aAccept ≤ c2) (hk7 : List.length aGuard ≤ c6) (hk11 : List.length aNodes ≤ c10) (hk15 : List.length bAccept ≤ c14) (hk19 : List.length bGuard ≤ c18) (hk23 : List.length bNodes ≤ c22) (H : Hp S Fa w0 w0 [.ro false cBool A1 aAccept, .ro false (cInt .i64) A5 aGuard, .ro false cNode A9 aNodes, .ro false cBool A13 bAccept, .ro false (cInt .i64) A17 bGuard, .ro false cNode A21 bNodes]) (hP : canon_Same N aProps aAccept aGuard aNodes bProps bAccept bGuard bNodes = some r) :
    Calls Try.prog 27 #[.agg #[.int .i64 aProps, .slice A1 aAccept.length c2, .slice A5 aGuard.length c6, .slice A9 aNodes.length c10], .agg #[.int .i64 bProps, .slice A13 bAccept.length c14, .slice A17 bGuard.length c18, .slice A21 bNodes.length c22]] w0 fun e w' => ∃ v, e = .returned v ∧ v = .bool r ∧ Hp S Fa w0 w' [] := by
 refine enterV (n := 31) Try.func27 rfl rfl rfl ?_
 intro a E
 replace E := E.pick [(0, .agg #[.int .i64 aProps, .slice A1 aAccept.length c2, .slice A5 aGuard.length c6, .slice A9 aNodes.length c10]), (1, .agg #[.int .i64 bProps, .slice A13 bAccept.length c14, .slice A17 bGuard.length c18, .slice A21 bNodes.length c22])] ⟨rfl, rfl, trivial⟩
 rw [canon_Same] at hP
 refine sr_ <| h_box H E rfl rfl rfl ?_
 clear H E; intro w26 g25 a hc27 hg29 H E; replace E := E _ rfl; try dsimp only [setn, addE, goneL] at H
 refine h_box H E rfl rfl rfl ?_
 clear H E; intro w31 g30 a hc32 hg34 H E; replace E := E _ rfl; try dsimp only [setn, addE, goneL] at H
 refine vp 1 [] E ?_
 clear E; intro a E
 refine nn_ <| sr_ <| vq 6 [.int .i64 aProps, .int .i64 bProps] [(10, .bool ((aProps : Int) == bProps))] [World.cell? w31 ⟨g25, 0, none⟩ = some (.int .i64 aProps), World.cell? w31 ⟨g30, 0, none⟩ = some (.int .i64 bProps)] E ⟨(H.box 6 rfl).cell (j := 0) rfl, (H.box 7 rfl).cell (j := 0) rfl⟩ ?_
 clear E; intro a E
 revert E; refine csE 10 rfl (fun hb_ E => ?_) fun hb_ E => ?_
 ·
  have h35 : (aProps : Int) = bProps := eq_of_beq hb_
  replace hP := ite_t h35 hP
  refine vq 4 [.slice A1 aAccept.length c2, .slice A13 bAccept.length c14] [(12, .slice A1 aAccept.length c2), (14, .slice A13 bAccept.length c14)] [World.cell? w31 ⟨g25, 1, none⟩ = some (.slice A1 aAccept.length c2), World.cell? w31 ⟨g30, 1, none⟩ = some (.slice A13 bAccept.length c14)] E ⟨(H.box 6 rfl).cell (j := 1) rfl, (H.box 7 rfl).cell (j := 1) rfl⟩ ?_
  clear E; intro a E
  obtain ⟨r36, h37, hP⟩ := bind_inv hP
  obtain ⟨Fa38, Hc39, hb40⟩ := H.call [] [(0, false), (3, false)] rfl rfl trivial
  refine e_call E rfl rfl Try.func56 rfl rfl rfl (slices_Equal_bool_bool_calls A1 c2 A13 c14 aAccept bAccept hk3 hk15 Hc39 h37) ?_
  rintro v41 w42 a ⟨rfl, HR43⟩ E_
  replace E := E_ _ rfl; clear E_
  obtain ⟨H_, hc44⟩ := hb40 _ _ HR43 rfl
  replace H := H_; clear H_; try dsimp only [setn, addE, goneL] at H
  refine vp 2 [(17, .bool r36)] E ?_
  clear E; intro a E
  revert E; refine csE 17 rfl (fun hb_ E => ?_) fun hb_ E => ?_
  ·
   have h45 : r36 = true := hb_
   replace hP := ite_t h45 hP
   refine vq 4 [.slice A5 aGuard.length c6, .slice A17 bGuard.length c18] [(19, .slice A5 aGuard.length c6), (21, .slice A17 bGuard.length c18)] [World.cell? w42 ⟨g25, 2, none⟩ = some (.slice A5 aGuard.length c6), World.cell? w42 ⟨g30, 2, none⟩ = some (.slice A17 bGuard.length c18)] E ⟨(H.box 6 rfl).cell (j := 2) rfl, (H.box 7 rfl).cell (j := 2) rfl⟩ ?_
   clear E; intro a E
   obtain ⟨r46, h47, hP⟩ := bind_inv hP
   obtain ⟨Fa48, Hc49, hb50⟩ := H.call [] [(1, false), (4, false)] rfl rfl trivial
   refine e_call E rfl rfl Try.func57 rfl rfl rfl (slices_Equal_int_int_calls A5 c6 A17 c18 aGuard bGuard hk7 hk19 Hc49 h47) ?_
   rintro v51 w52 a ⟨rfl, HR53⟩ E_
   replace E := E_ _ rfl; clear E_
   obtain ⟨H_, hc54⟩ := hb50 _ _ HR53 rfl
   replace H := H_; clear H_; try dsimp only [setn, addE, goneL] at H
   refine vp 2 [(24, .bool r46)] E ?_
   clear E; intro a E
   revert E; refine csE 24 rfl (fun hb_ E => ?_) fun hb_ E => ?_
   ·
    have h55 : r46 = true := hb_
    replace hP := ite_t h55 hP
    refine vq 4 [.slice A9 aNodes.length c10, .slice A21 bNodes.length c22] [(26, .slice A9 aNodes.length c10), (28, .slice A21 bNodes.length c22)] [World.cell? w52 ⟨g25, 3, none⟩ = some (.slice A9 aNodes.length c10), World.cell? w52 ⟨g30, 3, none⟩ = some (.slice A21 bNodes.length c22)] E ⟨(H.box 6 rfl).cell (j := 3) rfl, (H.box 7 rfl).cell (j := 3) rfl⟩ ?_
    clear E; intro a E
    obtain ⟨r56, h57, hP⟩ := bind_inv hP
    obtain ⟨Fa58, Hc59, hb60⟩ := H.call [] [(2, false), (5, false)] rfl rfl trivial
    refine e_call E rfl rfl Try.func58 rfl rfl rfl (slices_Equal_api_Node_api_Node_calls A9 c10 A21 c22 aNodes bNodes hk11 hk23 Hc59 h57) ?_
    rintro v61 w62 a ⟨rfl, HR63⟩ E_
    replace E := E_ _ rfl; clear E_
    obtain ⟨H_, hc64⟩ := hb60 _ _ HR63 rfl
    replace H := H_; clear H_; try dsimp only [setn, addE, goneL] at H
    refine vp 2 [(4, .bool r56)] E ?_
    clear E; intro a E
    refine nn_ <| wp_ret ?_
    obtain rfl := Option.some.inj hP
    refine ret1 E rfl rfl ?_
    exact ⟨_, rfl, rfl, H.sel [] rfl⟩
   have h65 : ¬ (r46 = true) := (ne_true_of_eq_false hb_)
   replace hP := ite_f h65 hP
   refine vp 7 [(4, .bool false)] E ?_
   clear E; intro a E
   refine nn_ <| wp_ret ?_
   obtain rfl := Option.some.inj hP
   refine ret1 E rfl rfl ?_
   exact ⟨_, rfl, rfl, H.sel [] rfl⟩
  have h66 : ¬ (r36 = true) := (ne_true_of_eq_false hb_)
  replace hP := ite_f h66 hP
  refine vp 14 [(4, .bool false)] E ?_
  clear E; intro a E
  refine nn_ <| wp_ret ?_
  obtain rfl := Option.some.inj hP
  refine ret1 E rfl rfl ?_
  exact ⟨_, rfl, rfl, H.sel [] rfl⟩
 have h67 : ¬ ((aProps : Int) = bProps) := ne_of_beq_false hb_
 replace hP := ite_f h67 hP
 refine vp 21 [(4, .bool false)] E ?_
 clear E; intro a E
 refine nn_ <| wp_ret ?_
 obtain rfl := Option.some.inj hP
 refine ret1 E rfl rfl ?_
 exact ⟨_, rfl, rfl, H.sel [] rfl⟩

/-! rejoinder/both.Equal -/
end Go.V
