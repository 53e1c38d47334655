/- Plain functions, and the calls that give them. -/
import Derived.Test.YtflangjkfaalkaaA2
set_option linter.all false
set_option linter.unusedVariables false
set_option linter.unnecessarySimpa false
set_option linter.unusedSimpArgs false
namespace Go.V
open Go Go.Proofs
/-! rejoinder/board.Moves -/
def board_Moves_l0 (N : Nat) (mask : Int) : Nat → (List Int) → Int → Option (List Int)
  | 0, _, _ => none
  | m38 + 1, out16, sub19 =>
    ask (List.length out16 + List.length ([sub19] : List Int) ≤ 1000000000) <|
    if (sub19 : Int) = 0 then
      some (out16 ++ ([sub19] : List Int))
    else
      board_Moves_l0 N mask m38 (out16 ++ ([sub19] : List Int)) (andV .u8 (IntKind.u8.wrap (sub19 - 1)) mask)
def board_Moves (N : Nat) (mask : Int) : Option (List Int) :=
  Option.bind (board_Moves_l0 N mask N [] mask) fun x39 =>
  Option.bind (slices_Reverse_api_Letter_api_Letter N x39) fun r59 =>
  some r59
set_option maxRecDepth 100000 in
set_option maxHeartbeats 4000000 in
theorem board_Moves_calls {N : Nat} {S Fa : Nat → Prop} {w0 : World} {r : List Int} (mask : Int) (H : Hp S Fa w0 w0 []) (hP : board_Moves N mask = some r) :
    Calls Try.prog 29 #[.int .u8 mask] w0 fun e w' => ∃ v, e = .returned v ∧ ∃ (A71 : Option Addr) (c72 : Nat), v = .slice A71 (List.length r) c72 ∧ Hp S Fa w0 w' [.row true (cInt .u8) 27 A71 c72 r] := by
 refine enterV (n := 19) Try.func29 rfl rfl rfl ?_
 intro a E
 replace E := E.pick [(0, .int .u8 mask)] ⟨rfl, trivial⟩
 rw [board_Moves] at hP
 refine wp_seq ?_
 refine wp_region_lit ?_
 refine vr tbok 1 [] [(0, .int .u8 mask)] [] E (by kernel_rfl) trivial ?_
 clear E; intro a E
 refine wpList_nil ?_
 refine th_n ?_
 refine wp_seq ?_
 refine wp_region_lit ?_
 refine vr tbok 1 [] [(0, .int .u8 mask), (3, .slice none 0 0)] [] E (by kernel_rfl) trivial ?_
 clear E; intro a E
 refine wpList_nil ?_
 refine th_n ?_
 refine wp_seq ?_
 refine wp_seq ?_
 refine wp_region_lit ?_
 refine vr tbok 2 [] [(0, .int .u8 mask), (3, .slice none 0 0), (4, .int .u8 mask)] [] E (by kernel_rfl) trivial ?_
 clear E; intro a E
 refine wpList_nil ?_
 refine th_n ?_
 refine wp_block ?_
 obtain ⟨x39, hL40, hK41⟩ := bind_inv hP
 clear hP
 replace H := H.nilrow (cInt .u8) 27; try dsimp only [setn, addE, goneL] at H
 refine loop_cut (fun i_ a w_ => (i_ = 0 ∧ ∃ (x45 : List Int), ∃ (A36 : Option Addr) (c37 : Nat), Fr a 19 [(3, .slice A36 (List.length x45) c37)] ∧ Hp S Fa w0 w_ [.row true (cInt .u8) 27 A36 c37 x45] ∧ x39 = x45)) ?_ ?_
 ·
  refine loopV (fun m44 a w43 => ∃ (out16 : List Int) (sub19 : Int), ∃ (A17 : Option Addr) (c18 : Nat), Fr a 19 [(0, .int .u8 mask), (3, .slice A17 (List.length out16) c18), (4, .int .u8 sub19)] ∧ Hp S Fa w0 w43 [.row true (cInt .u8) 27 A17 c18 out16] ∧ board_Moves_l0 N mask m44 out16 sub19 = some x39) N ?_ ?_
  ·
   exact ⟨[], mask, none, 0, E.pick _ ⟨rfl, rfl, rfl, trivial⟩, H.sel [0] rfl, hL40⟩
  ·
   clear E H hL40; intro m44 a w43 hI_
   obtain ⟨out16, sub19, A17, c18, E, H, hP⟩ := hI_
   obtain ⟨m38, rfl⟩ : ∃ q_, m44 = q_ + 1 := by cases m44 with | zero => rw [board_Moves_l0] at hP; cases hP | succ q_ => exact ⟨q_, rfl⟩
   rw [board_Moves_l0] at hP
   refine wp_seq ?_
   refine wp_block ?_
   refine wp_seq ?_
   refine wp_region_lit ?_
   refine vr tbok 2 [] [(0, .int .u8 mask), (4, .int .u8 sub19), (10, .slice A17 (List.length out16) c18), (11, .int .u8 sub19)] [] E (by kernel_rfl) trivial ?_
   clear E; intro a E
   refine h_buildSlice (ps := [(0, .int .u8 sub19)]) (cs := [.int .u8 sub19]) H E rfl rfl tbok rfl rfl (by kernel_rfl) ?_
   intro w47 g46 a hc48 hg50 H_ E_
   replace E := E_ _ rfl; clear E_
   replace H := H_; clear H_; try dsimp only [setn, addE, goneL] at H
   obtain ⟨g51, hP⟩ := ask_inv hP
   refine h_append (cInt .u8) (xs := out16) (ys := ([sub19] : List Int)) (0 : Int) H 0 rfl E rfl rfl tbok rfl rfl rfl rfl rfl (fun _ _ => rfl) rfl rfl (fun _ HF_ => HF_.srcB 1 rfl (⟨_, _, rfl, rfl, rfl⟩)) g51 ?_
   intro w52 A53 c54 a hc55 hA56 H_ E_
   replace E := E_ _ rfl; clear E_
   replace H := H_; clear H_; try dsimp only [setn, addE, goneL] at H
   refine vr tbok 1 [] [(0, .int .u8 mask), (3, .slice A53 (List.length (out16 ++ ([sub19] : List Int))) c54), (4, .int .u8 sub19)] [] E (by kernel_rfl) trivial ?_
   clear E; intro a E
   refine wpList_nil ?_
   refine th_n ?_
   refine wp_seq ?_
   refine wp_region_lit ?_
   refine vr tbok 2 [] [(0, .int .u8 mask), (3, .slice A53 (List.length (out16 ++ ([sub19] : List Int))) c54), (4, .int .u8 sub19), (15, .bool ((sub19 : Int) == 0))] [] E (by kernel_rfl) trivial ?_
   clear E; intro a E
   refine wpList_nil ?_
   refine th_n ?_
   refine E.cases (t := 15) rfl (fun hb_ E_ => ?_) (fun hb_ E_ => ?_)
   ·
    replace E := E_; clear E_
    have h57 : (sub19 : Int) = 0 := eq_of_beq hb_
    clear hb_; replace hP := ite_t h57 hP
    refine c_true E rfl ?_
    refine wp_exit ?_
    refine bl_miss rfl ?_
    refine th_exit ?_
    have hx_ := Option.some.inj hP
    refine th_exit (.inl ⟨0, rfl, ?_⟩)
    exact ⟨rfl, out16 ++ ([sub19] : List Int), A53, c54, E.pick _ ⟨rfl, trivial⟩, H.sel [0] rfl, hx_.symm⟩
   ·
    replace E := E_; clear E_
    have h58 : ¬ ((sub19 : Int) = 0) := ne_of_beq_false hb_
    clear hb_; replace hP := ite_f h58 hP
    refine c_false E rfl ?_
    refine wp_skip ?_
    refine bl_n ?_
    refine th_n ?_
    refine wp_region_lit ?_
    refine vr tbok 5 [.int .u8 (IntKind.u8.wrap (sub19 - 1)), .int .u8 (andV .u8 (IntKind.u8.wrap (sub19 - 1)) mask)] [(0, .int .u8 mask), (3, .slice A53 (List.length (out16 ++ ([sub19] : List Int))) c54), (4, .int .u8 (andV .u8 (IntKind.u8.wrap (sub19 - 1)) mask))] [IntKind.u8.wrap (sub19 - 1) = IntKind.u8.wrap (sub19 - 1), IntKind.u8.wrap (BitVec.ofInt (IntKind.bits .u8) (IntKind.u8.wrap (sub19 - 1)) &&& BitVec.ofInt (IntKind.bits .u8) mask).toNat = andV .u8 (IntKind.u8.wrap (sub19 - 1)) mask] E (by kernel_rfl) ⟨rfl, rfl⟩ ?_
    clear E; intro a E
    refine wpList_nil ?_
    exact th_n ⟨m38, Nat.lt_succ_self _, out16 ++ ([sub19] : List Int), andV .u8 (IntKind.u8.wrap (sub19 - 1)) mask, A53, c54, E.pick _ ⟨rfl, rfl, rfl, trivial⟩, H.sel [0] rfl, hP⟩
 ·
  clear E H hL40; intro i_ a w43 hM_
  obtain ⟨rfl, x45, A36, c37, E, H, hx_⟩ := hM_
  subst hx_; have hP := hK41; clear hK41
  refine bl_hit ?_
  refine th_n ?_
  refine wp_seq ?_
  refine wp_region_lit ?_
  refine vr tbok 1 [] [(3, .slice A36 (List.length x39) c37), (16, .slice A36 (List.length x39) c37)] [] E (by kernel_rfl) trivial ?_
  clear E; intro a E
  obtain ⟨r59, h60, hP⟩ := bind_inv hP
  obtain ⟨Fa61, Hc62, hb63⟩ := H.call [0] [] rfl rfl ⟨flat_plain, trivial⟩
  refine e_call E rfl rfl Try.func57 rfl rfl rfl (slices_Reverse_api_Letter_api_Letter_calls A36 c37 x39  Hc62 h60) ?_
  rintro v64 w65 a ⟨rfl, hl68, HR66⟩ E_
  replace E := E_ _ rfl; clear E_
  obtain ⟨H_, hc67⟩ := hb63 _ _ HR66 rfl
  replace H := H_; clear H_; try dsimp only [setn, addE, goneL] at H
  have hn70 : (List.length x39) = (List.length (r59)) := hl68.symm
  replace E := E.same (t := 3) (u := .slice A36 (List.length (r59)) c37) rfl (congrArg (fun n_ => Value.slice A36 n_ c37) hn70)
  replace E := E.same (t := 16) (u := .slice A36 (List.length (r59)) c37) rfl (congrArg (fun n_ => Value.slice A36 n_ c37) hn70)
  refine wpList_nil ?_
  refine th_n ?_
  refine wp_seq ?_
  refine wp_region_lit ?_
  refine vr tbok 2 [] [(2, .slice A36 (List.length (r59)) c37)] [] E (by kernel_rfl) trivial ?_
  clear E; intro a E
  refine wpList_nil ?_
  refine th_n ?_
  refine wp_ret ?_
  obtain rfl := Option.some.inj hP
  refine ret1 E rfl rfl ?_
  exact ⟨_, rfl, A36, c37, rfl, H.sel [1] rfl⟩

/-! rejoinder/moore.begun -/
def moore_begun (N : Nat) (aProps : Int) (aAccept : List Bool) (aGuard : List Int) (aNodes : List Nd) (s : Int × Int) : Option (Int ⊕ (((Int × (List Bool) × (List Int) × (List Nd)) × (Int × Int) × (List Int) × (List Int)) × Int)) :=
  Option.bind (board_Check N aProps aAccept aGuard aNodes (s.1, s.2)) fun r128 =>
  if (r128 : Int) = 0 then
    Option.bind (board_Moves N s.2) fun r139 =>
    Option.bind (board_Moves N s.1) fun r151 =>
    some (Sum.inr (((aProps, aAccept, aGuard, aNodes), (s.1, s.2), r139, r151), 0))
  else
    some (Sum.inl r128)
set_option maxRecDepth 100000 in
set_option maxHeartbeats 4000000 in
theorem moore_begun_calls {N : Nat} {S Fa : Nat → Prop} {w0 : World} {r : Int ⊕ (((Int × (List Bool) × (List Int) × (List Nd)) × (Int × Int) × (List Int) × (List Int)) × Int)} (A1 : Option Addr) (c2 : Nat) (A5 : Option Addr) (c6 : Nat) (A9 : Option Addr) (c10 : Nat) (aProps : Int) (aAccept : List Bool) (aGuard : List Int) (aNodes : List Nd) (s : Int × Int) (hk3 : List.length aAccept ≤ c2) (hk7 : List.length aGuard ≤ c6) (hk11 : List.length aNodes ≤ c10) (H : Hp S Fa w0 w0 [.ro false cBool A1 aAccept, .ro false (cInt .i64) A5 aGuard, .ro false cNode A9 aNodes]) (hP : moore_begun N aProps aAccept aGuard aNodes s = some r) :
    Calls Try.prog 31 #[.agg #[.int .i64 aProps, .slice A1 (List.length aAccept) c2, .slice A5 (List.length aGuard) c6, .slice A9 (List.length aNodes) c10], .agg #[.int .u8 s.1, .int .u8 s.2]] w0 fun e w' => ∃ v, e = .returned v ∧ ((∃ (x_ : Int), r = Sum.inl x_ ∧ v = .tuple #[.pointer none, .int .i64 x_] ∧ Hp S Fa w0 w' []) ∨ (∃ (x_ : ((Int × (List Bool) × (List Int) × (List Nd)) × (Int × Int) × (List Int) × (List Int)) × Int) (b15 : Nat), r = Sum.inr x_ ∧ v = .tuple #[.pointer (some ⟨b15, 0, none⟩), .int .i64 x_.2] ∧ Hp S Fa w0 w' [.ro false cS87 (some ⟨b15, 0, none⟩) ([x_.1])])) := by
 refine enterV (n := 23) Try.func31 rfl rfl rfl ?_
 intro a E
 replace E := E.pick [(0, .agg #[.int .i64 aProps, .slice A1 (List.length aAccept) c2, .slice A5 (List.length aGuard) c6, .slice A9 (List.length aNodes) c10]), (1, .agg #[.int .u8 s.1, .int .u8 s.2])] ⟨rfl, rfl, trivial⟩
 rw [moore_begun] at hP
 refine wp_seq ?_
 refine wp_region_lit ?_
 refine h_box H E rfl rfl rfl ?_
 intro w119 g118 a hc120 hg122 H_ E_
 replace E := E_ _ rfl; clear E_
 replace H := H_; clear H_; try dsimp only [setn, addE, goneL] at H
 refine h_box H E rfl rfl rfl ?_
 intro w124 g123 a hc125 hg127 H_ E_
 replace E := E_ _ rfl; clear E_
 replace H := H_; clear H_; try dsimp only [setn, addE, goneL] at H
 refine vr tbok 2 [] [(2, .pointer (some ⟨g118, 0, none⟩)), (3, .pointer (some ⟨g123, 0, none⟩))] [] E (by kernel_rfl) trivial ?_
 clear E; intro a E
 refine wpList_nil ?_
 refine th_n ?_
 refine wp_seq ?_
 refine wp_seq ?_
 refine wp_region_lit ?_
 refine vr tbok 2 [.agg #[.int .i64 aProps, .slice A1 (List.length aAccept) c2, .slice A5 (List.length aGuard) c6, .slice A9 (List.length aNodes) c10], .agg #[.int .u8 s.1, .int .u8 s.2]] [(2, .pointer (some ⟨g118, 0, none⟩)), (3, .pointer (some ⟨g123, 0, none⟩)), (7, .agg #[.int .i64 aProps, .slice A1 (List.length aAccept) c2, .slice A5 (List.length aGuard) c6, .slice A9 (List.length aNodes) c10]), (8, .agg #[.int .u8 s.1, .int .u8 s.2])] [cellsAt w124 g118 (0) [.int .i64 aProps, .slice A1 (List.length aAccept) c2, .slice A5 (List.length aGuard) c6, .slice A9 (List.length aNodes) c10], cellsAt w124 g123 (0) [.int .u8 s.1, .int .u8 s.2]] E (by kernel_rfl) ⟨(H.box 3 rfl).sub 0 _ rfl, (H.box 4 rfl).sub 0 _ rfl⟩ ?_
 clear E; intro a E
 obtain ⟨r128, h129, hP⟩ := bind_inv hP
 obtain ⟨Fa130, Hc131, hb132⟩ := H.call [] [(0, false), (1, false), (2, false)] rfl rfl trivial
 refine e_call E rfl rfl Try.func28 rfl rfl rfl (board_Check_calls A1 c2 A5 c6 A9 c10 aProps aAccept aGuard aNodes (s.1, s.2) hk3 hk7 hk11 Hc131 h129) ?_
 rintro v133 w134 a ⟨rfl, HR135⟩ E_
 replace E := E_ _ rfl; clear E_
 obtain ⟨H_, hc136⟩ := hb132 _ _ HR135 rfl
 replace H := H_; clear H_; try dsimp only [setn, addE, goneL] at H
 refine vr tbok 1 [] [(2, .pointer (some ⟨g118, 0, none⟩)), (3, .pointer (some ⟨g123, 0, none⟩)), (6, .int .i64 r128)] [] E (by kernel_rfl) trivial ?_
 clear E; intro a E
 refine wpList_nil ?_
 refine th_n ?_
 refine wp_seq ?_
 refine wp_region_lit ?_
 refine vr tbok 2 [] [(2, .pointer (some ⟨g118, 0, none⟩)), (3, .pointer (some ⟨g123, 0, none⟩)), (6, .int .i64 r128), (11, .bool ((r128 : Int) != 0))] [] E (by kernel_rfl) trivial ?_
 clear E; intro a E
 refine wpList_nil ?_
 refine th_n ?_
 refine E.cases (t := 11) rfl (fun hb_ E_ => ?_) (fun hb_ E_ => ?_)
 ·
  replace E := E_; clear E_
  have h137 : ¬ ((r128 : Int) = 0) := bne_iff_ne.1 hb_
  clear hb_; replace hP := ite_f h137 hP
  refine c_true E rfl ?_
  refine wp_seq ?_
  refine wp_region_lit ?_
  refine vr tbok 3 [] [(4, .pointer none), (5, .int .i64 r128)] [] E (by kernel_rfl) trivial ?_
  clear E; intro a E
  refine wpList_nil ?_
  refine th_n ?_
  refine wp_ret ?_
  refine th_ret ?_
  obtain rfl := Option.some.inj hP
  refine ret2 E rfl rfl rfl ?_
  exact ⟨_, rfl, .inl ⟨r128, rfl, rfl, H.sel [] rfl⟩⟩
 ·
  replace E := E_; clear E_
  have h138 : (r128 : Int) = 0 := bne_eq_false_iff_eq.1 hb_
  clear hb_; replace hP := ite_t h138 hP
  refine c_false E rfl ?_
  refine wp_skip ?_
  refine th_n ?_
  refine wp_seq ?_
  obtain ⟨r139, h140, hP⟩ := bind_inv hP
  obtain ⟨r151, h152, hP⟩ := bind_inv hP
  have HR171 := H
  refine dr_start (S := fun w_ => Chg (atL []) w134 w_) (by kernel_rfl) ?_
  intro w168 hc169
  have HS170 : Chg (atL []) w134 w168 := hc169.mono (fun _ _ h_ => h_.elim)
  replace H := H.ext hc169
  refine dr tbok (by kernel_rfl) [0, 1, 2, 3, 5, 6] [.agg #[.int .i64 aProps, .slice A1 (List.length aAccept) c2, .slice A5 (List.length aGuard) c6, .slice A9 (List.length aNodes) c10], .agg #[.int .u8 s.1, .int .u8 s.2], .int .u8 s.2, .int .u8 s.1] [(13, .agg #[.int .i64 aProps, .slice A1 (List.length aAccept) c2, .slice A5 (List.length aGuard) c6, .slice A9 (List.length aNodes) c10]), (14, .agg #[.int .u8 s.1, .int .u8 s.2]), (16, .int .u8 s.2), (19, .int .u8 s.1)] (fun w_ => [cellsAt w_ g118 (0) [.int .i64 aProps, .slice A1 (List.length aAccept) c2, .slice A5 (List.length aGuard) c6, .slice A9 (List.length aNodes) c10], cellsAt w_ g123 (0) [.int .u8 s.1, .int .u8 s.2], World.cell? w_ ⟨g123, 1, none⟩ = some (.int .u8 s.2), World.cell? w_ ⟨g123, 0, none⟩ = some (.int .u8 s.1)]) 6 E (fun _ _ => by kernel_rfl) (fun w_ hS_ => ⟨(HR171.boxk [] hS_ 3 rfl rfl).sub 0 _ rfl, (HR171.boxk [] hS_ 4 rfl rfl).sub 0 _ rfl, (HR171.boxk [] hS_ 4 rfl rfl).cell (j := 1) rfl, (HR171.boxk [] hS_ 4 rfl rfl).cell (j := 0) rfl⟩) (by kernel_rfl) HS170 ?_
  clear E; intro a E
  refine wpAnyH_all (rs := [4]) (by kernel_rfl) (by simp) ?_
  refine all1 ?_
  ·
   refine wpOp_of_list rfl ?_
   obtain ⟨Fa172, Hc173, hb174⟩ := H.call [] [] rfl rfl trivial
   refine e_call E rfl rfl Try.func29 rfl rfl rfl (board_Moves_calls  s.2  Hc173 h140) ?_
   rintro v175 w176 a ⟨A179, c180, rfl, HR177⟩ E_
   replace E := E_ _ rfl; clear E_
   obtain ⟨H_, hc178⟩ := hb174 _ _ HR177 rfl
   replace HS170 := HS170.ext (callS_ext hc178)
   replace H := H_; clear H_; try dsimp only [setn, addE, goneL] at H
   refine wpList_nil ?_
   refine th_n ⟨HS170, ?_⟩
   refine wpAnyH_all (rs := [7]) (by kernel_rfl) (by simp) ?_
   refine all1 ?_
   ·
    refine wpOp_of_list rfl ?_
    obtain ⟨Fa182, Hc183, hb184⟩ := H.call [] [] rfl rfl trivial
    refine e_call E rfl rfl Try.func29 rfl rfl rfl (board_Moves_calls  s.1  Hc183 h152) ?_
    rintro v185 w186 a ⟨A189, c190, rfl, HR187⟩ E_
    replace E := E_ _ rfl; clear E_
    obtain ⟨H_, hc188⟩ := hb184 _ _ HR187 rfl
    replace HS170 := HS170.ext (callS_ext hc188)
    replace H := H_; clear H_; try dsimp only [setn, addE, goneL] at H
    refine wpList_nil ?_
    refine th_n ⟨HS170, ?_⟩
    refine wpAnyH_all (rs := [8]) (by kernel_rfl) (by simp) ?_
    refine all1 ?_
    ·
     refine wpOp_of_list rfl ?_
     refine e_build (ps := [(0, .agg #[.int .i64 aProps, .slice A1 (List.length aAccept) c2, .slice A5 (List.length aGuard) c6, .slice A9 (List.length aNodes) c10]), (1, .agg #[.int .u8 s.1, .int .u8 s.2]), (2, .slice A179 (List.length r139) c180), (3, .slice A189 (List.length r151) c190)]) (v := .agg #[.int .i64 aProps, .slice A1 (List.length aAccept) c2, .slice A5 (List.length aGuard) c6, .slice A9 (List.length aNodes) c10, .int .u8 s.1, .int .u8 s.2, .slice A179 (List.length r139) c180, .slice A189 (List.length r151) c190]) E rfl rfl tbok rfl (by kernel_rfl) rfl ?_
     clear E; intro a E
     refine wpList_nil ?_
     refine th_n ⟨HS170, ?_⟩
     refine wpAnyH_all (rs := [9]) (by kernel_rfl) (by simp) ?_
     refine all1 ?_
     ·
      refine wpOp_of_list rfl ?_
      refine h_box H E rfl rfl rfl ?_
      intro w193 g192 a hc194 hg196 H_ E_
      replace E := E_ _ rfl; clear E_
      have hin197 : ∀ q_, q_ < w134.heap.size → q_ = g192 → (atL []) q_ := fun q_ h1_ h2_ => by have hs_ := HS170.size; have h4_ : q_ = g192 := h2_; exfalso; omega
      replace HS170 := HS170.ext hc194
      replace H := H_; clear H_; try dsimp only [setn, addE, goneL] at H
      refine wpList_nil ?_
      refine th_n ⟨HS170, ?_⟩
      refine dr tbok (by kernel_rfl) [10, 11] [] [(4, .pointer (some ⟨g192, 0, none⟩)), (5, .int .i64 0)] (fun w_ => []) 0 E (fun _ _ => by kernel_rfl) (fun w_ hS_ => trivial) (by kernel_rfl) HS170 ?_
      clear E; intro a E
      refine dr_done (by kernel_rfl) ?_
      clear HS170 HR171
      refine th_n ?_
      refine wp_ret ?_
      have hk198 := H.rcap 5 rfl
      replace H := H.frz 5 rfl; try dsimp only [setn, addE, goneL] at H
      have hk199 := H.rcap 6 rfl
      replace H := H.frz 6 rfl; try dsimp only [setn, addE, goneL] at H
      replace H := H.frzbox cS87 false (((aProps, aAccept, aGuard, aNodes), (s.1, s.2), r139, r151) : (Int × (List Bool) × (List Int) × (List Nd)) × (Int × Int) × (List Int) × (List Int)) 7 rfl (fun _ HF_ => ⟨_, _, rfl, ⟨_, _, rfl, rfl, ⟨_, _, rfl, ⟨_, _, rfl, hk3, (HF_.roC 0 rfl)⟩, ⟨_, _, rfl, ⟨_, _, rfl, hk7, (HF_.roC 1 rfl)⟩, ⟨_, _, rfl, hk11, (HF_.roC 2 rfl)⟩⟩⟩⟩, ⟨_, _, rfl, rfl, ⟨_, _, rfl, ⟨_, _, rfl, hk198, (C.mono (HF_.roC 5 rfl) (fun _ h_ => Or.inr h_))⟩, ⟨_, _, rfl, hk199, (C.mono (HF_.roC 6 rfl) (fun _ h_ => Or.inr h_))⟩⟩⟩⟩); try dsimp only [setn, addE, goneL] at H
      obtain rfl := Option.some.inj hP
      refine ret2 E rfl rfl rfl ?_
      exact ⟨_, rfl, .inr (⟨(((aProps, aAccept, aGuard, aNodes), (s.1, s.2), r139, r151), 0), g192, rfl, rfl, H.sel [7] rfl⟩)⟩

/-! rejoinder/guard.Go -/
def guard_Go_l0 (N : Nat) (nodes : List Nd) (ll : Int) : Nat → Int → Int → Option (Unit ⊕ (Int × Bool))
  | 0, _, _ => none
  | m55 + 1, ref27, x28 =>
    if x28 < 9 then
      if ref27 < 0 then
        ask (in64 ((-1) - ref27)) <|
        some (Sum.inr ((-1) - ref27, true))
      else
        if (((List.length nodes) : Nat) : Int) ≤ ref27 then
          some (Sum.inr (0, false))
        else
          ask (idx ref27 (List.length nodes)) <|
          if ((List.getD nodes (Int.toNat ref27) (default : Nd)).P) < 0 then
            some (Sum.inr (0, false))
          else
            if 8 ≤ ((List.getD nodes (Int.toNat ref27) (default : Nd)).P) then
              some (Sum.inr (0, false))
            else
              ask (0 ≤ ((List.getD nodes (Int.toNat ref27) (default : Nd)).P)) <|
              if (andV .u8 (shrV .u8 ll ((List.getD nodes (Int.toNat ref27) (default : Nd)).P)) 1 : Int) = 1 then
                ask (in64 (x28 + 1)) <|
                guard_Go_l0 N nodes ll m55 ((List.getD nodes (Int.toNat ref27) (default : Nd)).Hi) (x28 + 1)
              else
                ask (in64 (x28 + 1)) <|
                guard_Go_l0 N nodes ll m55 ((List.getD nodes (Int.toNat ref27) (default : Nd)).Lo) (x28 + 1)
    else
      some (Sum.inl ())
def guard_Go (N : Nat) (nodes : List Nd) (ref : Int) (ll : Int) : Option (Int × Bool) :=
  Option.bind (guard_Go_l0 N nodes ll N ref 0) fun x56 =>
  Sum.elim (fun x61 =>
    some (0, false))
   (fun x88 =>
    some x88) x56
set_option maxRecDepth 100000 in
set_option maxHeartbeats 4000000 in
theorem guard_Go_calls {N : Nat} {S Fa : Nat → Prop} {w0 : World} {r : Int × Bool} (A1 : Option Addr) (c2 : Nat) (nodes : List Nd) (ref : Int) (ll : Int) (hk3 : List.length nodes ≤ c2) (H : Hp S Fa w0 w0 [.ro false cNode A1 nodes]) (hP : guard_Go N nodes ref ll = some r) :
    Calls Try.prog 73 #[.slice A1 (List.length nodes) c2, .int .i64 ref, .int .u8 ll] w0 fun e w' => ∃ v, e = .returned v ∧ v = .tuple #[.int .i64 r.1, .bool r.2] ∧ Hp S Fa w0 w' [] := by
 refine enterV (n := 50) Try.func73 rfl rfl rfl ?_
 intro a E
 replace E := E.pick [(0, .slice A1 (List.length nodes) c2), (1, .int .i64 ref), (2, .int .u8 ll)] ⟨rfl, rfl, rfl, trivial⟩
 rw [guard_Go] at hP
 refine wp_seq ?_
 refine wp_region_lit ?_
 refine vr tbok 2 [] [(0, .slice A1 (List.length nodes) c2), (1, .int .i64 ref), (2, .int .u8 ll)] [] E (by kernel_rfl) trivial ?_
 clear E; intro a E
 refine wpList_nil ?_
 refine th_n ?_
 refine wp_seq ?_
 refine wp_seq ?_
 refine wp_region_lit ?_
 refine vr tbok 1 [] [(0, .slice A1 (List.length nodes) c2), (1, .int .i64 ref), (2, .int .u8 ll), (9, .int .i64 0)] [] E (by kernel_rfl) trivial ?_
 clear E; intro a E
 refine wpList_nil ?_
 refine th_n ?_
 refine wp_block ?_
 obtain ⟨x56, hL57, hK58⟩ := bind_inv hP
 clear hP
 refine loop_cut (fun i_ a w_ => (i_ = 0 ∧ ∃ (x61 : Unit), Fr a 50 [] ∧ Hp S Fa w0 w_ [] ∧ x56 = Sum.inl x61)) ?_ ?_
 ·
  refine loopV (fun m60 a w59 => ∃ (ref27 : Int) (x28 : Int), Fr a 50 [(0, .slice A1 (List.length nodes) c2), (1, .int .i64 ref27), (2, .int .u8 ll), (9, .int .i64 x28)] ∧ Hp S Fa w0 w59 [.ro false cNode A1 nodes] ∧ guard_Go_l0 N nodes ll m60 ref27 x28 = some x56) N ?_ ?_
  ·
   exact ⟨ref, 0, E.pick _ ⟨rfl, rfl, rfl, rfl, trivial⟩, H.sel [0] rfl, hL57⟩
  ·
   clear E H hL57; intro m60 a w59 hI_
   obtain ⟨ref27, x28, E, H, hP⟩ := hI_
   obtain ⟨m55, rfl⟩ : ∃ q_, m60 = q_ + 1 := by cases m60 with | zero => rw [guard_Go_l0] at hP; cases hP | succ q_ => exact ⟨q_, rfl⟩
   rw [guard_Go_l0] at hP
   refine wp_seq ?_
   refine wp_region_lit ?_
   refine vr tbok 1 [] [(0, .slice A1 (List.length nodes) c2), (1, .int .i64 ref27), (2, .int .u8 ll), (9, .int .i64 x28), (10, .bool (decide (x28 < 9)))] [] E (by kernel_rfl) trivial ?_
   clear E; intro a E
   refine wpList_nil ?_
   refine th_n ?_
   refine wp_seq ?_
   refine E.cases (t := 10) rfl (fun hb_ E_ => ?_) (fun hb_ E_ => ?_)
   ·
    replace E := E_; clear E_
    have h62 : x28 < 9 := of_decide_eq_true hb_
    clear hb_; replace hP := ite_t h62 hP
    refine c_true E rfl ?_
    refine wp_skip ?_
    refine th_n ?_
    refine wp_seq ?_
    refine wp_block ?_
    refine wp_seq ?_
    refine wp_seq ?_
    refine wp_region_lit ?_
    refine vr tbok 2 [] [(0, .slice A1 (List.length nodes) c2), (1, .int .i64 ref27), (2, .int .u8 ll), (9, .int .i64 x28), (12, .bool (decide (ref27 < 0)))] [] E (by kernel_rfl) trivial ?_
    clear E; intro a E
    refine wpList_nil ?_
    refine th_n ?_
    refine E.cases (t := 12) rfl (fun hb_ E_ => ?_) (fun hb_ E_ => ?_)
    ·
     replace E := E_; clear E_
     have h63 : ref27 < 0 := of_decide_eq_true hb_
     clear hb_; replace hP := ite_t h63 hP
     refine c_true E rfl ?_
     refine wp_seq ?_
     refine wp_region_lit ?_
     obtain ⟨g64, hP⟩ := ask_inv hP
     refine vr tbok 4 [.int .i64 ((-1) - ref27)] [(6, .int .i64 ((-1) - ref27)), (7, .bool true)] [IntKind.i64.wrap ((-1) - ref27) = (-1) - ref27] E (by kernel_rfl) (wrap_in g64) ?_
     clear E; intro a E
     refine wpList_nil ?_
     refine th_n ?_
     refine wp_ret ?_
     refine th_ret ?_
     refine bl_ret ?_
     refine th_ret ?_
     refine th_ret ?_
     refine .inr ⟨rfl, ?_⟩
     refine bl_ret ?_
     refine th_ret ?_
     have hx_ := Option.some.inj hP; subst hx_
     have hP : some (((-1) - ref27, true)) = some r := hK58
     obtain rfl := Option.some.inj hP
     refine ret2 E rfl rfl rfl ?_
     exact ⟨_, rfl, rfl, H.sel [] rfl⟩
    ·
     replace E := E_; clear E_
     have h65 : ¬ (ref27 < 0) := of_decide_eq_false hb_
     clear hb_; replace hP := ite_f h65 hP
     refine c_false E rfl ?_
     refine wp_skip ?_
     refine th_n ?_
     refine wp_seq ?_
     refine wp_seq ?_
     refine wp_region_lit ?_
     refine vr tbok 5 [] [(0, .slice A1 (List.length nodes) c2), (1, .int .i64 ref27), (2, .int .u8 ll), (9, .int .i64 x28), (19, .bool (decide ((((List.length nodes) : Nat) : Int) ≤ ref27)))] [] E (by kernel_rfl) trivial ?_
     clear E; intro a E
     refine E.cases (t := 19) rfl (fun hb_ E_ => ?_) (fun hb_ E_ => ?_)
     ·
      replace E := E_; clear E_
      have h66 : (((List.length nodes) : Nat) : Int) ≤ ref27 := of_decide_eq_true hb_
      clear hb_; replace hP := ite_t h66 hP
      refine vr tbok 15 [] [(0, .slice A1 (List.length nodes) c2), (1, .int .i64 ref27), (2, .int .u8 ll), (9, .int .i64 x28), (20, .tuple #[]), (21, .tuple #[]), (22, .tuple #[]), (23, .tuple #[]), (24, .tuple #[]), (25, .tuple #[]), (28, .tuple #[]), (29, .tuple #[]), (30, .tuple #[]), (31, .tuple #[]), (32, .tuple #[]), (33, .tuple #[]), (34, .bool true)] [] E (by kernel_rfl) trivial ?_
      clear E; intro a E
      refine wpList_nil ?_
      refine th_n ?_
      refine c_true E rfl ?_
      refine wp_seq ?_
      refine wp_region_lit ?_
      refine vr tbok 2 [] [(6, .int .i64 0), (7, .bool false)] [] E (by kernel_rfl) trivial ?_
      clear E; intro a E
      refine wpList_nil ?_
      refine th_n ?_
      refine wp_ret ?_
      refine th_ret ?_
      refine bl_ret ?_
      refine th_ret ?_
      refine th_ret ?_
      refine .inr ⟨rfl, ?_⟩
      refine bl_ret ?_
      refine th_ret ?_
      have hx_ := Option.some.inj hP; subst hx_
      have hP : some ((0, false)) = some r := hK58
      obtain rfl := Option.some.inj hP
      refine ret2 E rfl rfl rfl ?_
      exact ⟨_, rfl, rfl, H.sel [] rfl⟩
     ·
      replace E := E_; clear E_
      have h67 : ¬ ((((List.length nodes) : Nat) : Int) ≤ ref27) := of_decide_eq_false hb_
      clear hb_; replace hP := ite_f h67 hP
      obtain ⟨g68, hP⟩ := ask_inv hP
      obtain ⟨b69, o70, e_b69⟩ := (H.rd 0 rds_ro).addr (idx_pos g68)
      subst e_b69
      refine vr tbok 8 [.int .i64 ((List.getD nodes (Int.toNat ref27) (default : Nd)).P)] [(0, .slice (some ⟨b69, o70, none⟩) (List.length nodes) c2), (1, .int .i64 ref27), (2, .int .u8 ll), (9, .int .i64 x28), (20, .slice (some ⟨b69, o70, none⟩) (List.length nodes) c2), (21, .int .i64 ref27), (22, .pointer (some ⟨b69, o70 + (Int.toNat ref27) * 3, none⟩)), (23, .pointer (some ⟨b69, o70 + (Int.toNat ref27) * 3, none⟩)), (24, .int .i64 ((List.getD nodes (Int.toNat ref27) (default : Nd)).P)), (25, .bool (decide (((List.getD nodes (Int.toNat ref27) (default : Nd)).P) < 0))), (27, .bool (decide (((List.getD nodes (Int.toNat ref27) (default : Nd)).P) < 0)))] [0 ≤ ref27 ∧ ref27 < (((List.length nodes) : Nat) : Int), World.cell? w59 ⟨b69, o70 + (Int.toNat ref27) * 3, none⟩ = some (.int .i64 ((List.getD nodes (Int.toNat ref27) (default : Nd)).P))] E (by kernel_rfl) ⟨g68, (Rds.atP (H.rd 0 rds_ro) (default : Nd) g68).1⟩ ?_
      clear E; intro a E
      refine E.cases (t := 27) rfl (fun hb_ E_ => ?_) (fun hb_ E_ => ?_)
      ·
       replace E := E_; clear E_
       have h71 : ((List.getD nodes (Int.toNat ref27) (default : Nd)).P) < 0 := of_decide_eq_true hb_
       clear hb_; replace hP := ite_t h71 hP
       refine vr tbok 7 [] [(0, .slice (some ⟨b69, o70, none⟩) (List.length nodes) c2), (1, .int .i64 ref27), (2, .int .u8 ll), (9, .int .i64 x28), (20, .slice (some ⟨b69, o70, none⟩) (List.length nodes) c2), (21, .int .i64 ref27), (22, .pointer (some ⟨b69, o70 + (Int.toNat ref27) * 3, none⟩)), (23, .pointer (some ⟨b69, o70 + (Int.toNat ref27) * 3, none⟩)), (24, .int .i64 ((List.getD nodes (Int.toNat ref27) (default : Nd)).P)), (25, .bool (decide (((List.getD nodes (Int.toNat ref27) (default : Nd)).P) < 0))), (28, .tuple #[]), (29, .tuple #[]), (30, .tuple #[]), (31, .tuple #[]), (32, .tuple #[]), (33, .tuple #[]), (34, .bool true)] [] E (by kernel_rfl) trivial ?_
       clear E; intro a E
       refine wpList_nil ?_
       refine th_n ?_
       refine c_true E rfl ?_
       refine wp_seq ?_
       refine wp_region_lit ?_
       refine vr tbok 2 [] [(6, .int .i64 0), (7, .bool false)] [] E (by kernel_rfl) trivial ?_
       clear E; intro a E
       refine wpList_nil ?_
       refine th_n ?_
       refine wp_ret ?_
       refine th_ret ?_
       refine bl_ret ?_
       refine th_ret ?_
       refine th_ret ?_
       refine .inr ⟨rfl, ?_⟩
       refine bl_ret ?_
       refine th_ret ?_
       have hx_ := Option.some.inj hP; subst hx_
       have hP : some ((0, false)) = some r := hK58
       obtain rfl := Option.some.inj hP
       refine ret2 E rfl rfl rfl ?_
       exact ⟨_, rfl, rfl, H.sel [] rfl⟩
      ·
       replace E := E_; clear E_
       have h72 : ¬ (((List.getD nodes (Int.toNat ref27) (default : Nd)).P) < 0) := of_decide_eq_false hb_
       clear hb_; replace hP := ite_f h72 hP
       refine vr tbok 7 [.int .i64 ((List.getD nodes (Int.toNat ref27) (default : Nd)).P)] [(0, .slice (some ⟨b69, o70, none⟩) (List.length nodes) c2), (1, .int .i64 ref27), (2, .int .u8 ll), (9, .int .i64 x28), (20, .slice (some ⟨b69, o70, none⟩) (List.length nodes) c2), (21, .int .i64 ref27), (22, .pointer (some ⟨b69, o70 + (Int.toNat ref27) * 3, none⟩)), (23, .pointer (some ⟨b69, o70 + (Int.toNat ref27) * 3, none⟩)), (24, .int .i64 ((List.getD nodes (Int.toNat ref27) (default : Nd)).P)), (25, .bool (decide (((List.getD nodes (Int.toNat ref27) (default : Nd)).P) < 0))), (28, .slice (some ⟨b69, o70, none⟩) (List.length nodes) c2), (29, .int .i64 ref27), (30, .pointer (some ⟨b69, o70 + (Int.toNat ref27) * 3, none⟩)), (31, .pointer (some ⟨b69, o70 + (Int.toNat ref27) * 3, none⟩)), (32, .int .i64 ((List.getD nodes (Int.toNat ref27) (default : Nd)).P)), (33, .bool (decide (8 ≤ ((List.getD nodes (Int.toNat ref27) (default : Nd)).P)))), (34, .bool (decide (8 ≤ ((List.getD nodes (Int.toNat ref27) (default : Nd)).P))))] [0 ≤ ref27 ∧ ref27 < (((List.length nodes) : Nat) : Int), World.cell? w59 ⟨b69, o70 + (Int.toNat ref27) * 3, none⟩ = some (.int .i64 ((List.getD nodes (Int.toNat ref27) (default : Nd)).P))] E (by kernel_rfl) ⟨g68, (Rds.atP (H.rd 0 rds_ro) (default : Nd) g68).1⟩ ?_
       clear E; intro a E
       refine wpList_nil ?_
       refine th_n ?_
       refine E.cases (t := 34) rfl (fun hb_ E_ => ?_) (fun hb_ E_ => ?_)
       ·
        replace E := E_; clear E_
        have h73 : 8 ≤ ((List.getD nodes (Int.toNat ref27) (default : Nd)).P) := of_decide_eq_true hb_
        clear hb_; replace hP := ite_t h73 hP
        refine c_true E rfl ?_
        refine wp_seq ?_
        refine wp_region_lit ?_
        refine vr tbok 2 [] [(6, .int .i64 0), (7, .bool false)] [] E (by kernel_rfl) trivial ?_
        clear E; intro a E
        refine wpList_nil ?_
        refine th_n ?_
        refine wp_ret ?_
        refine th_ret ?_
        refine bl_ret ?_
        refine th_ret ?_
        refine th_ret ?_
        refine .inr ⟨rfl, ?_⟩
        refine bl_ret ?_
        refine th_ret ?_
        have hx_ := Option.some.inj hP; subst hx_
        have hP : some ((0, false)) = some r := hK58
        obtain rfl := Option.some.inj hP
        refine ret2 E rfl rfl rfl ?_
        exact ⟨_, rfl, rfl, H.sel [] rfl⟩
       ·
        replace E := E_; clear E_
        have h74 : ¬ (8 ≤ ((List.getD nodes (Int.toNat ref27) (default : Nd)).P)) := of_decide_eq_false hb_
        clear hb_; replace hP := ite_f h74 hP
        refine c_false E rfl ?_
        refine wp_skip ?_
        refine th_n ?_
        refine wp_seq ?_
        refine wp_region_lit ?_
        refine vr tbok 4 [.agg #[.int .i64 ((List.getD nodes (Int.toNat ref27) (default : Nd)).P), .int .i64 ((List.getD nodes (Int.toNat ref27) (default : Nd)).Lo), .int .i64 ((List.getD nodes (Int.toNat ref27) (default : Nd)).Hi)]] [(0, .slice (some ⟨b69, o70, none⟩) (List.length nodes) c2), (2, .int .u8 ll), (9, .int .i64 x28), (20, .slice (some ⟨b69, o70, none⟩) (List.length nodes) c2), (21, .int .i64 ref27), (22, .pointer (some ⟨b69, o70 + (Int.toNat ref27) * 3, none⟩)), (23, .pointer (some ⟨b69, o70 + (Int.toNat ref27) * 3, none⟩)), (24, .int .i64 ((List.getD nodes (Int.toNat ref27) (default : Nd)).P)), (25, .bool (decide (((List.getD nodes (Int.toNat ref27) (default : Nd)).P) < 0))), (28, .slice (some ⟨b69, o70, none⟩) (List.length nodes) c2), (29, .int .i64 ref27), (30, .pointer (some ⟨b69, o70 + (Int.toNat ref27) * 3, none⟩)), (31, .pointer (some ⟨b69, o70 + (Int.toNat ref27) * 3, none⟩)), (32, .int .i64 ((List.getD nodes (Int.toNat ref27) (default : Nd)).P)), (33, .bool (decide (8 ≤ ((List.getD nodes (Int.toNat ref27) (default : Nd)).P)))), (38, .agg #[.int .i64 ((List.getD nodes (Int.toNat ref27) (default : Nd)).P), .int .i64 ((List.getD nodes (Int.toNat ref27) (default : Nd)).Lo), .int .i64 ((List.getD nodes (Int.toNat ref27) (default : Nd)).Hi)])] [0 ≤ ref27 ∧ ref27 < (((List.length nodes) : Nat) : Int), cellsAt w59 b69 (o70 + (Int.toNat ref27) * 3) [.int .i64 ((List.getD nodes (Int.toNat ref27) (default : Nd)).P), .int .i64 ((List.getD nodes (Int.toNat ref27) (default : Nd)).Lo), .int .i64 ((List.getD nodes (Int.toNat ref27) (default : Nd)).Hi)]] E (by kernel_rfl) ⟨g68, Rds.atP (H.rd 0 rds_ro) (default : Nd) g68⟩ ?_
        clear E; intro a E
        refine h_alloc H E rfl rfl tbok rfl ?_
        intro w76 g75 a hc77 hg79 H_ E_
        replace E := E_ _ rfl; clear E_
        replace H := H_; clear H_; try dsimp only [setn, addE, goneL] at H
        refine h_store (g := g75) (off := 0) H 1 rfl E rfl rfl rfl rfl tbok rfl rfl rfl rfl rfl ?_
        clear E; intro w80 a hc81 H_ E
        replace H := H_; clear H_; try dsimp only [setn, addE, goneL] at H
        refine wpList_nil ?_
        refine th_n ?_
        refine wp_seq ?_
        refine wp_region_lit ?_
        refine vr tbok 3 [.int .i64 ((List.getD nodes (Int.toNat ref27) (default : Nd)).Lo)] [(0, .slice (some ⟨b69, o70, none⟩) (List.length nodes) c2), (1, .int .i64 ((List.getD nodes (Int.toNat ref27) (default : Nd)).Lo)), (2, .int .u8 ll), (8, .pointer (some ⟨g75, 0, none⟩)), (9, .int .i64 x28), (20, .slice (some ⟨b69, o70, none⟩) (List.length nodes) c2), (21, .int .i64 ref27), (22, .pointer (some ⟨b69, o70 + (Int.toNat ref27) * 3, none⟩)), (23, .pointer (some ⟨b69, o70 + (Int.toNat ref27) * 3, none⟩)), (24, .int .i64 ((List.getD nodes (Int.toNat ref27) (default : Nd)).P)), (25, .bool (decide (((List.getD nodes (Int.toNat ref27) (default : Nd)).P) < 0))), (28, .slice (some ⟨b69, o70, none⟩) (List.length nodes) c2), (29, .int .i64 ref27), (30, .pointer (some ⟨b69, o70 + (Int.toNat ref27) * 3, none⟩)), (31, .pointer (some ⟨b69, o70 + (Int.toNat ref27) * 3, none⟩)), (32, .int .i64 ((List.getD nodes (Int.toNat ref27) (default : Nd)).P)), (33, .bool (decide (8 ≤ ((List.getD nodes (Int.toNat ref27) (default : Nd)).P))))] [World.cell? w80 ⟨g75, 1, none⟩ = some (.int .i64 ((List.getD nodes (Int.toNat ref27) (default : Nd)).Lo))] E (by kernel_rfl) ((H.box 1 rfl).cell (j := 1) rfl) ?_
        clear E; intro a E
        refine wpList_nil ?_
        refine th_n ?_
        refine wp_seq ?_
        refine wp_region_lit ?_
        obtain ⟨g82, hP⟩ := ask_inv hP
        refine vr tbok 6 [.int .i64 ((List.getD nodes (Int.toNat ref27) (default : Nd)).P), .int .u8 (shrV .u8 ll ((List.getD nodes (Int.toNat ref27) (default : Nd)).P)), .int .u8 (andV .u8 (shrV .u8 ll ((List.getD nodes (Int.toNat ref27) (default : Nd)).P)) 1)] [(0, .slice (some ⟨b69, o70, none⟩) (List.length nodes) c2), (1, .int .i64 ((List.getD nodes (Int.toNat ref27) (default : Nd)).Lo)), (2, .int .u8 ll), (8, .pointer (some ⟨g75, 0, none⟩)), (9, .int .i64 x28), (20, .slice (some ⟨b69, o70, none⟩) (List.length nodes) c2), (21, .int .i64 ref27), (22, .pointer (some ⟨b69, o70 + (Int.toNat ref27) * 3, none⟩)), (23, .pointer (some ⟨b69, o70 + (Int.toNat ref27) * 3, none⟩)), (24, .int .i64 ((List.getD nodes (Int.toNat ref27) (default : Nd)).P)), (25, .bool (decide (((List.getD nodes (Int.toNat ref27) (default : Nd)).P) < 0))), (28, .slice (some ⟨b69, o70, none⟩) (List.length nodes) c2), (29, .int .i64 ref27), (30, .pointer (some ⟨b69, o70 + (Int.toNat ref27) * 3, none⟩)), (31, .pointer (some ⟨b69, o70 + (Int.toNat ref27) * 3, none⟩)), (32, .int .i64 ((List.getD nodes (Int.toNat ref27) (default : Nd)).P)), (33, .bool (decide (8 ≤ ((List.getD nodes (Int.toNat ref27) (default : Nd)).P)))), (46, .bool ((andV .u8 (shrV .u8 ll ((List.getD nodes (Int.toNat ref27) (default : Nd)).P)) 1 : Int) == 1))] [World.cell? w80 ⟨g75, 0, none⟩ = some (.int .i64 ((List.getD nodes (Int.toNat ref27) (default : Nd)).P)), 0 ≤ ((List.getD nodes (Int.toNat ref27) (default : Nd)).P) ∧ Int.fdiv ll (2 ^ (min (Int.toNat ((List.getD nodes (Int.toNat ref27) (default : Nd)).P)) (IntKind.bits .u8))) = shrV .u8 ll ((List.getD nodes (Int.toNat ref27) (default : Nd)).P), IntKind.u8.wrap (BitVec.ofInt (IntKind.bits .u8) (shrV .u8 ll ((List.getD nodes (Int.toNat ref27) (default : Nd)).P)) &&& BitVec.ofInt (IntKind.bits .u8) 1).toNat = andV .u8 (shrV .u8 ll ((List.getD nodes (Int.toNat ref27) (default : Nd)).P)) 1] E (by kernel_rfl) ⟨(H.box 1 rfl).cell (j := 0) rfl, ⟨g82, rfl⟩, rfl⟩ ?_
        clear E; intro a E
        refine wpList_nil ?_
        refine th_n ?_
        refine E.cases (t := 46) rfl (fun hb_ E_ => ?_) (fun hb_ E_ => ?_)
        ·
         replace E := E_; clear E_
         have h83 : (andV .u8 (shrV .u8 ll ((List.getD nodes (Int.toNat ref27) (default : Nd)).P)) 1 : Int) = 1 := eq_of_beq hb_
         clear hb_; replace hP := ite_t h83 hP
         refine c_true E rfl ?_
         refine wp_region_lit ?_
         refine vr tbok 3 [.int .i64 ((List.getD nodes (Int.toNat ref27) (default : Nd)).Hi)] [(0, .slice (some ⟨b69, o70, none⟩) (List.length nodes) c2), (1, .int .i64 ((List.getD nodes (Int.toNat ref27) (default : Nd)).Hi)), (2, .int .u8 ll), (9, .int .i64 x28), (20, .slice (some ⟨b69, o70, none⟩) (List.length nodes) c2), (21, .int .i64 ref27), (22, .pointer (some ⟨b69, o70 + (Int.toNat ref27) * 3, none⟩)), (23, .pointer (some ⟨b69, o70 + (Int.toNat ref27) * 3, none⟩)), (24, .int .i64 ((List.getD nodes (Int.toNat ref27) (default : Nd)).P)), (25, .bool (decide (((List.getD nodes (Int.toNat ref27) (default : Nd)).P) < 0))), (28, .slice (some ⟨b69, o70, none⟩) (List.length nodes) c2), (29, .int .i64 ref27), (30, .pointer (some ⟨b69, o70 + (Int.toNat ref27) * 3, none⟩)), (31, .pointer (some ⟨b69, o70 + (Int.toNat ref27) * 3, none⟩)), (32, .int .i64 ((List.getD nodes (Int.toNat ref27) (default : Nd)).P)), (33, .bool (decide (8 ≤ ((List.getD nodes (Int.toNat ref27) (default : Nd)).P))))] [World.cell? w80 ⟨g75, 2, none⟩ = some (.int .i64 ((List.getD nodes (Int.toNat ref27) (default : Nd)).Hi))] E (by kernel_rfl) ((H.box 1 rfl).cell (j := 2) rfl) ?_
         clear E; intro a E
         refine wpList_nil ?_
         refine bl_n ?_
         refine th_n ?_
         refine wp_region_lit ?_
         obtain ⟨g84, hP⟩ := ask_inv hP
         refine vr tbok 2 [.int .i64 (x28 + 1)] [(0, .slice (some ⟨b69, o70, none⟩) (List.length nodes) c2), (1, .int .i64 ((List.getD nodes (Int.toNat ref27) (default : Nd)).Hi)), (2, .int .u8 ll), (9, .int .i64 (x28 + 1)), (20, .slice (some ⟨b69, o70, none⟩) (List.length nodes) c2), (21, .int .i64 ref27), (22, .pointer (some ⟨b69, o70 + (Int.toNat ref27) * 3, none⟩)), (23, .pointer (some ⟨b69, o70 + (Int.toNat ref27) * 3, none⟩)), (24, .int .i64 ((List.getD nodes (Int.toNat ref27) (default : Nd)).P)), (25, .bool (decide (((List.getD nodes (Int.toNat ref27) (default : Nd)).P) < 0))), (28, .slice (some ⟨b69, o70, none⟩) (List.length nodes) c2), (29, .int .i64 ref27), (30, .pointer (some ⟨b69, o70 + (Int.toNat ref27) * 3, none⟩)), (31, .pointer (some ⟨b69, o70 + (Int.toNat ref27) * 3, none⟩)), (32, .int .i64 ((List.getD nodes (Int.toNat ref27) (default : Nd)).P)), (33, .bool (decide (8 ≤ ((List.getD nodes (Int.toNat ref27) (default : Nd)).P))))] [IntKind.i64.wrap (x28 + 1) = x28 + 1] E (by kernel_rfl) (wrap_in g84) ?_
         clear E; intro a E
         refine wpList_nil ?_
         exact th_n ⟨m55, Nat.lt_succ_self _, (List.getD nodes (Int.toNat ref27) (default : Nd)).Hi, x28 + 1, E.pick _ ⟨rfl, rfl, rfl, rfl, trivial⟩, H.sel [0] rfl, hP⟩
        ·
         replace E := E_; clear E_
         have h85 : ¬ ((andV .u8 (shrV .u8 ll ((List.getD nodes (Int.toNat ref27) (default : Nd)).P)) 1 : Int) = 1) := ne_of_beq_false hb_
         clear hb_; replace hP := ite_f h85 hP
         refine c_false E rfl ?_
         refine wp_skip ?_
         refine bl_n ?_
         refine th_n ?_
         refine wp_region_lit ?_
         obtain ⟨g86, hP⟩ := ask_inv hP
         refine vr tbok 2 [.int .i64 (x28 + 1)] [(0, .slice (some ⟨b69, o70, none⟩) (List.length nodes) c2), (1, .int .i64 ((List.getD nodes (Int.toNat ref27) (default : Nd)).Lo)), (2, .int .u8 ll), (9, .int .i64 (x28 + 1)), (20, .slice (some ⟨b69, o70, none⟩) (List.length nodes) c2), (21, .int .i64 ref27), (22, .pointer (some ⟨b69, o70 + (Int.toNat ref27) * 3, none⟩)), (23, .pointer (some ⟨b69, o70 + (Int.toNat ref27) * 3, none⟩)), (24, .int .i64 ((List.getD nodes (Int.toNat ref27) (default : Nd)).P)), (25, .bool (decide (((List.getD nodes (Int.toNat ref27) (default : Nd)).P) < 0))), (28, .slice (some ⟨b69, o70, none⟩) (List.length nodes) c2), (29, .int .i64 ref27), (30, .pointer (some ⟨b69, o70 + (Int.toNat ref27) * 3, none⟩)), (31, .pointer (some ⟨b69, o70 + (Int.toNat ref27) * 3, none⟩)), (32, .int .i64 ((List.getD nodes (Int.toNat ref27) (default : Nd)).P)), (33, .bool (decide (8 ≤ ((List.getD nodes (Int.toNat ref27) (default : Nd)).P))))] [IntKind.i64.wrap (x28 + 1) = x28 + 1] E (by kernel_rfl) (wrap_in g86) ?_
         clear E; intro a E
         refine wpList_nil ?_
         exact th_n ⟨m55, Nat.lt_succ_self _, (List.getD nodes (Int.toNat ref27) (default : Nd)).Lo, x28 + 1, E.pick _ ⟨rfl, rfl, rfl, rfl, trivial⟩, H.sel [0] rfl, hP⟩
   ·
    replace E := E_; clear E_
    have h87 : ¬ (x28 < 9) := of_decide_eq_false hb_
    clear hb_; replace hP := ite_f h87 hP
    refine c_false E rfl ?_
    refine wp_exit ?_
    refine th_exit ?_
    have hx_ := Option.some.inj hP
    refine th_exit (.inl ⟨0, rfl, ?_⟩)
    exact ⟨rfl, (), E.pick _ trivial, H.sel [] rfl, hx_.symm⟩
 ·
  clear E H hL57; intro i_ a w59 hM_
  obtain ⟨rfl, x61, E, H, hx_⟩ := hM_
  subst hx_; have hP := elim_l hK58
  clear hK58
  refine bl_hit ?_
  refine th_n ?_
  refine wp_seq ?_
  refine wp_region_lit ?_
  refine vr tbok 2 [] [(6, .int .i64 0), (7, .bool false)] [] E (by kernel_rfl) trivial ?_
  clear E; intro a E
  refine wpList_nil ?_
  refine th_n ?_
  refine wp_ret ?_
  obtain rfl := Option.some.inj hP
  refine ret2 E rfl rfl rfl ?_
  exact ⟨_, rfl, rfl, H.sel [] rfl⟩

/-! (*rejoinder/moore.game).to -/
def moore_game_to (N : Nat) (g : (Int × (List Bool) × (List Int) × (List Nd)) × (Int × Int) × (List Int) × (List Int)) (q : Int) (ll : Int) : Option Int :=
  ask (idx q (List.length g.1.2.2.1)) <|
  Option.bind (guard_Go N g.1.2.2.2 (List.getD g.1.2.2.1 (Int.toNat q) 0) ll) fun r93 =>
  some r93.1
set_option maxRecDepth 100000 in
set_option maxHeartbeats 4000000 in
theorem moore_game_to_calls {N : Nat} {S Fa : Nat → Prop} {w0 : World} {r : Int} (b1 : Nat) (o2 : Nat) (g : (Int × (List Bool) × (List Int) × (List Nd)) × (Int × Int) × (List Int) × (List Int)) (q : Int) (ll : Int) (H : Hp S Fa w0 w0 [.ro false cS87 (some ⟨b1, o2, none⟩) ([g])]) (hP : moore_game_to N g q ll = some r) :
    Calls Try.prog 50 #[.pointer (some ⟨b1, o2, none⟩), .int .i64 q, .int .u8 ll] w0 fun e w' => ∃ v, e = .returned v ∧ v = .int .i64 r ∧ Hp S Fa w0 w' [] := by
 refine enterV (n := 28) Try.func50 rfl rfl rfl ?_
 intro a E
 replace E := E.pick [(0, .pointer (some ⟨b1, o2, none⟩)), (1, .int .i64 q), (2, .int .u8 ll)] ⟨rfl, rfl, rfl, trivial⟩
 rw [moore_game_to] at hP
 refine wp_seq ?_
 refine wp_region_lit ?_
 refine vr tbok 1 [] [(0, .pointer (some ⟨b1, o2, none⟩)), (1, .int .i64 q), (2, .int .u8 ll)] [] E (by kernel_rfl) trivial ?_
 clear E; intro a E
 refine wpList_nil ?_
 refine th_n ?_
 refine wp_seq ?_
 obtain ⟨Fz4, cs6, HF5, hK7, hc8⟩ := H.elem 0 false (el_ro rfl) g (idx_one _)
 obtain ⟨_, _, rfl, hK9, hK10⟩ := hK7
 obtain ⟨_, _, rfl, hK11, hK12⟩ := hK9
 obtain rfl := hK11
 obtain ⟨_, _, rfl, hK13, hK14⟩ := hK12
 obtain ⟨A15, c16, rfl, hk17, hC18⟩ := hK13
 obtain ⟨_, _, rfl, hK20, hK21⟩ := hK14
 obtain ⟨A22, c23, rfl, hk24, hC25⟩ := hK20
 obtain ⟨A27, c28, rfl, hk29, hC30⟩ := hK21
 obtain ⟨_, _, rfl, hK32, hK33⟩ := hK10
 obtain rfl := hK32
 obtain ⟨_, _, rfl, hK34, hK35⟩ := hK33
 obtain ⟨A36, c37, rfl, hk38, hC39⟩ := hK34
 obtain ⟨A41, c42, rfl, hk43, hC44⟩ := hK35
 replace HF5 := HF5.ins hC18
 replace HF5 := HF5.ins hC25
 replace HF5 := HF5.ins hC30
 replace HF5 := HF5.ins hC39
 replace HF5 := HF5.ins hC44
 replace H := HF5.hp; try dsimp only [addE] at H
 have hc46 : cellsAt w0 b1 (o2) [.int .i64 g.1.1, .slice A15 (List.length g.1.2.1) c16, .slice A22 (List.length g.1.2.2.1) c23, .slice A27 (List.length g.1.2.2.2) c28, .int .u8 g.2.1.1, .int .u8 g.2.1.2, .slice A36 (List.length g.2.2.1) c37, .slice A41 (List.length g.2.2.2) c42] := hc8
 obtain ⟨Fz47, cs49, HF48, hK50, hc51⟩ := H.elem 0 false (el_ro rfl) g (idx_one _)
 obtain ⟨_, _, rfl, hK52, hK53⟩ := hK50
 obtain ⟨_, _, rfl, hK54, hK55⟩ := hK52
 obtain rfl := hK54
 obtain ⟨_, _, rfl, hK56, hK57⟩ := hK55
 obtain ⟨A58, c59, rfl, hk60, hC61⟩ := hK56
 obtain ⟨_, _, rfl, hK63, hK64⟩ := hK57
 obtain ⟨A65, c66, rfl, hk67, hC68⟩ := hK63
 obtain ⟨A70, c71, rfl, hk72, hC73⟩ := hK64
 obtain ⟨_, _, rfl, hK75, hK76⟩ := hK53
 obtain rfl := hK75
 obtain ⟨_, _, rfl, hK77, hK78⟩ := hK76
 obtain ⟨A79, c80, rfl, hk81, hC82⟩ := hK77
 obtain ⟨A84, c85, rfl, hk86, hC87⟩ := hK78
 replace HF48 := HF48.ins hC61
 replace HF48 := HF48.ins hC68
 replace HF48 := HF48.ins hC73
 replace HF48 := HF48.ins hC82
 replace HF48 := HF48.ins hC87
 replace H := HF48.hp; try dsimp only [addE] at H
 have hc89 : cellsAt w0 b1 (o2) [.int .i64 g.1.1, .slice A58 (List.length g.1.2.1) c59, .slice A65 (List.length g.1.2.2.1) c66, .slice A70 (List.length g.1.2.2.2) c71, .int .u8 g.2.1.1, .int .u8 g.2.1.2, .slice A79 (List.length g.2.2.1) c80, .slice A84 (List.length g.2.2.2) c85] := hc51
 obtain ⟨g90, hP⟩ := ask_inv hP
 obtain ⟨b91, o92, e_b91⟩ := (H.rd 7 rds_ro).addr (idx_pos g90)
 subst e_b91
 obtain ⟨r93, h94, hP⟩ := bind_inv hP
 have HR105 := H
 refine dr_start (S := fun w_ => Chg (atL []) w0 w_) (by kernel_rfl) ?_
 intro w102 hc103
 have HS104 : Chg (atL []) w0 w102 := hc103.mono (fun _ _ h_ => h_.elim)
 replace H := H.ext hc103
 refine dr tbok (by kernel_rfl) [0, 1, 2, 3, 4, 5, 6, 7, 8, 9, 10, 11, 12, 13] [.slice A27 (List.length g.1.2.2.2) c28, .slice (some ⟨b91, o92, none⟩) (List.length g.1.2.2.1) c66, .int .i64 (List.getD g.1.2.2.1 (Int.toNat q) 0)] [(14, .slice A27 (List.length g.1.2.2.2) c28), (22, .int .i64 (List.getD g.1.2.2.1 (Int.toNat q) 0)), (23, .int .u8 ll)] (fun w_ => [World.cell? w_ ⟨b1, o2 + 3, none⟩ = some (.slice A27 (List.length g.1.2.2.2) c28), World.cell? w_ ⟨b1, o2 + 2, none⟩ = some (.slice (some ⟨b91, o92, none⟩) (List.length g.1.2.2.1) c66), 0 ≤ q ∧ q < (((List.length g.1.2.2.1) : Nat) : Int), World.cell? w_ ⟨b91, o92 + (Int.toNat q) * 1, none⟩ = some (.int .i64 (List.getD g.1.2.2.1 (Int.toNat q) 0))]) 6 E (fun _ _ => by kernel_rfl) (fun w_ hS_ => ⟨hS_.cell (hc46.get 3 _ rfl) (HR105.blk [] 0 rds_ro (idx_pos (idx_one _)) rfl), hS_.cell (hc89.get 2 _ rfl) (HR105.blk [] 0 rds_ro (idx_pos (idx_one _)) rfl), g90, Rds.at1 (HR105.rdk [] hS_ 7 rds_ro rfl) 0 g90⟩) (by kernel_rfl) HS104 ?_
 clear E; intro a E
 refine wpAnyH_all (rs := [14]) (by kernel_rfl) (by simp) ?_
 refine all1 ?_
 ·
  refine wpOp_of_list rfl ?_
  obtain ⟨Fa106, Hc107, hb108⟩ := H.call [] [(3, false)] rfl rfl trivial
  refine e_call E rfl rfl Try.func73 rfl rfl rfl (guard_Go_calls A27 c28 g.1.2.2.2 (List.getD g.1.2.2.1 (Int.toNat q) 0) ll hk29 Hc107 h94) ?_
  rintro v109 w110 a ⟨rfl, HR111⟩ E_
  replace E := E_ _ rfl; clear E_
  obtain ⟨H_, hc112⟩ := hb108 _ _ HR111 rfl
  replace HS104 := HS104.ext (callS_ext hc112)
  replace H := H_; clear H_; try dsimp only [setn, addE, goneL] at H
  refine wpList_nil ?_
  refine th_n ⟨HS104, ?_⟩
  refine dr tbok (by kernel_rfl) [15, 16, 17, 18, 19] [] [(7, .int .i64 r93.1)] (fun w_ => []) 0 E (fun _ _ => by kernel_rfl) (fun w_ hS_ => trivial) (by kernel_rfl) HS104 ?_
  clear E; intro a E
  refine dr_done (by kernel_rfl) ?_
  clear HS104 HR105
  refine th_n ?_
  refine wp_seq ?_
  refine wp_region_lit ?_
  refine vr tbok 2 [] [(6, .int .i64 r93.1)] [] E (by kernel_rfl) trivial ?_
  clear E; intro a E
  refine wpList_nil ?_
  refine th_n ?_
  refine wp_ret ?_
  obtain rfl := Option.some.inj hP
  refine ret1 E rfl rfl ?_
  exact ⟨_, rfl, rfl, H.sel [] rfl⟩

/-! (*rejoinder/moore.game).worst -/
def moore_game_worst_l0 (N : Nat) (g : (Int × (List Bool) × (List Int) × (List Nd)) × (Int × Int) × (List Int) × (List Int)) (ranks : List Int) (q : Int) (mine : Int) : Nat → Int → Bool → Int → Option (Int × Bool)
  | 0, _, _, _ => none
  | m94 + 1, out68, never69, x70 =>
    if x70 < (((List.length g.2.2.2) : Nat) : Int) then
      ask (idx x70 (List.length g.2.2.2)) <|
      Option.bind (moore_game_to N g q (orV .u8 mine (List.getD g.2.2.2 (Int.toNat x70) 0))) fun r105 =>
      ask (idx r105 (List.length ranks)) <|
      if never69 = true then
        ask (in64 (x70 + 1)) <|
        moore_game_worst_l0 N g ranks q mine m94 (maxL out68 [(List.getD ranks (Int.toNat r105) 0)]) true (x70 + 1)
      else
        ask (in64 (x70 + 1)) <|
        moore_game_worst_l0 N g ranks q mine m94 (maxL out68 [(List.getD ranks (Int.toNat r105) 0)]) (decide ((List.getD ranks (Int.toNat r105) 0) < 0)) (x70 + 1)
    else
      some (out68, never69)
def moore_game_worst (N : Nat) (g : (Int × (List Bool) × (List Int) × (List Nd)) × (Int × Int) × (List Int) × (List Int)) (ranks : List Int) (q : Int) (mine : Int) : Option Int :=
  Option.bind (moore_game_worst_l0 N g ranks q mine N 0 false 0) fun x95 =>
  if x95.2 = true then
    some (-1)
  else
    some x95.1
set_option maxRecDepth 100000 in
set_option maxHeartbeats 4000000 in
theorem moore_game_worst_calls {N : Nat} {S Fa : Nat → Prop} {w0 : World} {r : Int} (b1 : Nat) (o2 : Nat) (A4 : Option Addr) (c5 : Nat) (g : (Int × (List Bool) × (List Int) × (List Nd)) × (Int × Int) × (List Int) × (List Int)) (ranks : List Int) (q : Int) (mine : Int) (hk6 : List.length ranks ≤ c5) (H : Hp S Fa w0 w0 [.ro false cS87 (some ⟨b1, o2, none⟩) ([g]), .ro false (cInt .i64) A4 ranks]) (hP : moore_game_worst N g ranks q mine = some r) :
    Calls Try.prog 60 #[.pointer (some ⟨b1, o2, none⟩), .slice A4 (List.length ranks) c5, .int .i64 q, .int .u8 mine] w0 fun e w' => ∃ v, e = .returned v ∧ v = .int .i64 r ∧ Hp S Fa w0 w' [] := by
 refine enterV (n := 43) Try.func60 rfl rfl rfl ?_
 intro a E
 replace E := E.pick [(0, .pointer (some ⟨b1, o2, none⟩)), (1, .slice A4 (List.length ranks) c5), (2, .int .i64 q), (3, .int .u8 mine)] ⟨rfl, rfl, rfl, rfl, trivial⟩
 rw [moore_game_worst] at hP
 refine wp_seq ?_
 refine wp_region_lit ?_
 refine vr tbok 1 [] [(0, .pointer (some ⟨b1, o2, none⟩)), (1, .slice A4 (List.length ranks) c5), (2, .int .i64 q), (3, .int .u8 mine)] [] E (by kernel_rfl) trivial ?_
 clear E; intro a E
 refine wpList_nil ?_
 refine th_n ?_
 refine wp_seq ?_
 refine wp_region_lit ?_
 refine vr tbok 2 [] [(0, .pointer (some ⟨b1, o2, none⟩)), (1, .slice A4 (List.length ranks) c5), (2, .int .i64 q), (3, .int .u8 mine), (9, .int .i64 0), (10, .bool false)] [] E (by kernel_rfl) trivial ?_
 clear E; intro a E
 refine wpList_nil ?_
 refine th_n ?_
 refine wp_seq ?_
 refine wp_seq ?_
 refine wp_region_lit ?_
 obtain ⟨Fz8, cs10, HF9, hK11, hc12⟩ := H.elem 0 false (el_ro rfl) g (idx_one _)
 obtain ⟨_, _, rfl, hK13, hK14⟩ := hK11
 obtain ⟨_, _, rfl, hK15, hK16⟩ := hK13
 obtain rfl := hK15
 obtain ⟨_, _, rfl, hK17, hK18⟩ := hK16
 obtain ⟨A19, c20, rfl, hk21, hC22⟩ := hK17
 obtain ⟨_, _, rfl, hK24, hK25⟩ := hK18
 obtain ⟨A26, c27, rfl, hk28, hC29⟩ := hK24
 obtain ⟨A31, c32, rfl, hk33, hC34⟩ := hK25
 obtain ⟨_, _, rfl, hK36, hK37⟩ := hK14
 obtain rfl := hK36
 obtain ⟨_, _, rfl, hK38, hK39⟩ := hK37
 obtain ⟨A40, c41, rfl, hk42, hC43⟩ := hK38
 obtain ⟨A45, c46, rfl, hk47, hC48⟩ := hK39
 replace HF9 := HF9.ins hC22
 replace HF9 := HF9.ins hC29
 replace HF9 := HF9.ins hC34
 replace HF9 := HF9.ins hC43
 replace HF9 := HF9.ins hC48
 replace H := HF9.hp; try dsimp only [addE] at H
 have hc50 : cellsAt w0 b1 (o2) [.int .i64 g.1.1, .slice A19 (List.length g.1.2.1) c20, .slice A26 (List.length g.1.2.2.1) c27, .slice A31 (List.length g.1.2.2.2) c32, .int .u8 g.2.1.1, .int .u8 g.2.1.2, .slice A40 (List.length g.2.2.1) c41, .slice A45 (List.length g.2.2.2) c46] := hc12
 refine vr tbok 6 [.slice A45 (List.length g.2.2.2) c46] [(0, .pointer (some ⟨b1, o2, none⟩)), (1, .slice A4 (List.length ranks) c5), (2, .int .i64 q), (3, .int .u8 mine), (9, .int .i64 0), (10, .bool false), (17, .slice A45 (List.length g.2.2.2) c46), (18, .int .i64 (((List.length g.2.2.2) : Nat) : Int)), (19, .int .i64 0)] [World.cell? w0 ⟨b1, o2 + 7, none⟩ = some (.slice A45 (List.length g.2.2.2) c46)] E (by kernel_rfl) (hc50.get 7 _ rfl) ?_
 clear E; intro a E
 refine wpList_nil ?_
 refine th_n ?_
 refine wp_block ?_
 obtain ⟨x95, hL96, hK97⟩ := bind_inv hP
 clear hP
 refine loop_cut (fun i_ a w_ => (i_ = 0 ∧ ∃ (x100 : Int × Bool), Fr a 43 [(9, .int .i64 x100.1), (10, .bool x100.2)] ∧ Hp S Fa w0 w_ [] ∧ x95 = x100)) ?_ ?_
 ·
  refine loopV (fun m99 a w98 => ∃ (out68 : Int) (never69 : Bool) (x70 : Int), Fr a 43 [(0, .pointer (some ⟨b1, o2, none⟩)), (1, .slice A4 (List.length ranks) c5), (2, .int .i64 q), (3, .int .u8 mine), (9, .int .i64 out68), (10, .bool never69), (17, .slice A45 (List.length g.2.2.2) c46), (18, .int .i64 (((List.length g.2.2.2) : Nat) : Int)), (19, .int .i64 x70)] ∧ Hp S Fa w0 w98 [.ro false cS87 (some ⟨b1, o2, none⟩) ([g]), .ro false (cInt .i64) A4 ranks, .ro false (cInt .u8) A45 g.2.2.2] ∧ moore_game_worst_l0 N g ranks q mine m99 out68 never69 x70 = some x95) N ?_ ?_
  ·
   exact ⟨0, false, 0, E.pick _ ⟨rfl, rfl, rfl, rfl, rfl, rfl, rfl, rfl, rfl, trivial⟩, H.sel [0, 1, 6] rfl, hL96⟩
  ·
   clear E H hL96; intro m99 a w98 hI_
   obtain ⟨out68, never69, x70, E, H, hP⟩ := hI_
   obtain ⟨m94, rfl⟩ : ∃ q_, m99 = q_ + 1 := by cases m99 with | zero => rw [moore_game_worst_l0] at hP; cases hP | succ q_ => exact ⟨q_, rfl⟩
   rw [moore_game_worst_l0] at hP
   refine wp_seq ?_
   refine wp_region_lit ?_
   refine vr tbok 1 [] [(0, .pointer (some ⟨b1, o2, none⟩)), (1, .slice A4 (List.length ranks) c5), (2, .int .i64 q), (3, .int .u8 mine), (9, .int .i64 out68), (10, .bool never69), (17, .slice A45 (List.length g.2.2.2) c46), (18, .int .i64 (((List.length g.2.2.2) : Nat) : Int)), (19, .int .i64 x70), (20, .bool (decide (x70 < (((List.length g.2.2.2) : Nat) : Int))))] [] E (by kernel_rfl) trivial ?_
   clear E; intro a E
   refine wpList_nil ?_
   refine th_n ?_
   refine wp_seq ?_
   refine E.cases (t := 20) rfl (fun hb_ E_ => ?_) (fun hb_ E_ => ?_)
   ·
    replace E := E_; clear E_
    have h101 : x70 < (((List.length g.2.2.2) : Nat) : Int) := of_decide_eq_true hb_
    clear hb_; replace hP := ite_t h101 hP
    refine c_true E rfl ?_
    refine wp_skip ?_
    refine th_n ?_
    refine wp_seq ?_
    refine wp_block ?_
    refine wp_seq ?_
    refine wp_region_lit ?_
    obtain ⟨g102, hP⟩ := ask_inv hP
    obtain ⟨b103, o104, e_b103⟩ := (H.rd 2 rds_ro).addr (idx_pos g102)
    subst e_b103
    refine vr tbok 3 [.int .u8 (List.getD g.2.2.2 (Int.toNat x70) 0)] [(0, .pointer (some ⟨b1, o2, none⟩)), (1, .slice A4 (List.length ranks) c5), (2, .int .i64 q), (3, .int .u8 mine), (9, .int .i64 out68), (10, .bool never69), (12, .int .u8 (List.getD g.2.2.2 (Int.toNat x70) 0)), (17, .slice (some ⟨b103, o104, none⟩) (List.length g.2.2.2) c46), (18, .int .i64 (((List.length g.2.2.2) : Nat) : Int)), (19, .int .i64 x70)] [0 ≤ x70 ∧ x70 < (((List.length g.2.2.2) : Nat) : Int), World.cell? w98 ⟨b103, o104 + (Int.toNat x70) * 1, none⟩ = some (.int .u8 (List.getD g.2.2.2 (Int.toNat x70) 0))] E (by kernel_rfl) ⟨g102, Rds.at1 (H.rd 2 rds_ro) 0 g102⟩ ?_
    clear E; intro a E
    refine wpList_nil ?_
    refine th_n ?_
    refine wp_seq ?_
    refine wp_region_lit ?_
    refine vr tbok 6 [.int .u8 (orV .u8 mine (List.getD g.2.2.2 (Int.toNat x70) 0))] [(0, .pointer (some ⟨b1, o2, none⟩)), (1, .slice A4 (List.length ranks) c5), (2, .int .i64 q), (3, .int .u8 mine), (9, .int .i64 out68), (10, .bool never69), (17, .slice (some ⟨b103, o104, none⟩) (List.length g.2.2.2) c46), (18, .int .i64 (((List.length g.2.2.2) : Nat) : Int)), (19, .int .i64 x70), (23, .slice A4 (List.length ranks) c5), (24, .pointer (some ⟨b1, o2, none⟩)), (25, .int .i64 q), (28, .int .u8 (orV .u8 mine (List.getD g.2.2.2 (Int.toNat x70) 0)))] [IntKind.u8.wrap (BitVec.ofInt (IntKind.bits .u8) mine ||| BitVec.ofInt (IntKind.bits .u8) (List.getD g.2.2.2 (Int.toNat x70) 0)).toNat = orV .u8 mine (List.getD g.2.2.2 (Int.toNat x70) 0)] E (by kernel_rfl) (rfl) ?_
    clear E; intro a E
    obtain ⟨r105, h106, hP⟩ := bind_inv hP
    obtain ⟨Fa107, Hc108, hb109⟩ := H.call [] [(0, false)] rfl rfl trivial
    refine e_call E rfl rfl Try.func50 rfl rfl rfl (moore_game_to_calls b1 o2 g q (orV .u8 mine (List.getD g.2.2.2 (Int.toNat x70) 0))  Hc108 h106) ?_
    rintro v110 w111 a ⟨rfl, HR112⟩ E_
    replace E := E_ _ rfl; clear E_
    obtain ⟨H_, hc113⟩ := hb109 _ _ HR112 rfl
    replace H := H_; clear H_; try dsimp only [setn, addE, goneL] at H
    obtain ⟨g114, hP⟩ := ask_inv hP
    obtain ⟨b115, o116, e_b115⟩ := (H.rd 1 rds_ro).addr (idx_pos g114)
    subst e_b115
    refine vr tbok 3 [.int .i64 (List.getD ranks (Int.toNat r105) 0)] [(0, .pointer (some ⟨b1, o2, none⟩)), (1, .slice (some ⟨b115, o116, none⟩) (List.length ranks) c5), (2, .int .i64 q), (3, .int .u8 mine), (9, .int .i64 out68), (10, .bool never69), (13, .int .i64 (List.getD ranks (Int.toNat r105) 0)), (17, .slice (some ⟨b103, o104, none⟩) (List.length g.2.2.2) c46), (18, .int .i64 (((List.length g.2.2.2) : Nat) : Int)), (19, .int .i64 x70)] [0 ≤ r105 ∧ r105 < (((List.length ranks) : Nat) : Int), World.cell? w111 ⟨b115, o116 + (Int.toNat r105) * 1, none⟩ = some (.int .i64 (List.getD ranks (Int.toNat r105) 0))] E (by kernel_rfl) ⟨g114, Rds.at1 (H.rd 1 rds_ro) 0 g114⟩ ?_
    clear E; intro a E
    refine wpList_nil ?_
    refine th_n ?_
    refine wp_region_lit ?_
    refine vr tbok 2 [] [(0, .pointer (some ⟨b1, o2, none⟩)), (1, .slice (some ⟨b115, o116, none⟩) (List.length ranks) c5), (2, .int .i64 q), (3, .int .u8 mine), (10, .bool never69), (13, .int .i64 (List.getD ranks (Int.toNat r105) 0)), (17, .slice (some ⟨b103, o104, none⟩) (List.length g.2.2.2) c46), (18, .int .i64 (((List.length g.2.2.2) : Nat) : Int)), (19, .int .i64 x70), (32, .int .i64 out68), (33, .int .i64 (List.getD ranks (Int.toNat r105) 0))] [] E (by kernel_rfl) trivial ?_
    clear E; intro a E
    refine e_max (x := out68) (xs := [(List.getD ranks (Int.toNat r105) 0)]) E rfl rfl rfl rfl ?_
    clear E; intro a E
    refine vr tbok 2 [] [(0, .pointer (some ⟨b1, o2, none⟩)), (1, .slice (some ⟨b115, o116, none⟩) (List.length ranks) c5), (2, .int .i64 q), (3, .int .u8 mine), (13, .int .i64 (List.getD ranks (Int.toNat r105) 0)), (17, .slice (some ⟨b103, o104, none⟩) (List.length g.2.2.2) c46), (18, .int .i64 (((List.length g.2.2.2) : Nat) : Int)), (19, .int .i64 x70), (34, .int .i64 (maxL out68 [(List.getD ranks (Int.toNat r105) 0)])), (36, .bool never69)] [] E (by kernel_rfl) trivial ?_
    clear E; intro a E
    refine E.cases (t := 36) rfl (fun hb_ E_ => ?_) (fun hb_ E_ => ?_)
    ·
     replace E := E_; clear E_
     have h117 : never69 = true := hb_
     clear hb_; replace hP := ite_t h117 hP
     refine vr tbok 5 [] [(0, .pointer (some ⟨b1, o2, none⟩)), (1, .slice (some ⟨b115, o116, none⟩) (List.length ranks) c5), (2, .int .i64 q), (3, .int .u8 mine), (9, .int .i64 (maxL out68 [(List.getD ranks (Int.toNat r105) 0)])), (10, .bool true), (17, .slice (some ⟨b103, o104, none⟩) (List.length g.2.2.2) c46), (18, .int .i64 (((List.length g.2.2.2) : Nat) : Int)), (19, .int .i64 x70), (37, .tuple #[]), (38, .tuple #[])] [] E (by kernel_rfl) trivial ?_
     clear E; intro a E
     refine wpList_nil ?_
     refine bl_n ?_
     refine th_n ?_
     refine wp_region_lit ?_
     obtain ⟨g118, hP⟩ := ask_inv hP
     refine vr tbok 2 [.int .i64 (x70 + 1)] [(0, .pointer (some ⟨b1, o2, none⟩)), (1, .slice (some ⟨b115, o116, none⟩) (List.length ranks) c5), (2, .int .i64 q), (3, .int .u8 mine), (9, .int .i64 (maxL out68 [(List.getD ranks (Int.toNat r105) 0)])), (10, .bool true), (17, .slice (some ⟨b103, o104, none⟩) (List.length g.2.2.2) c46), (18, .int .i64 (((List.length g.2.2.2) : Nat) : Int)), (19, .int .i64 (x70 + 1)), (37, .tuple #[]), (38, .tuple #[])] [IntKind.i64.wrap (x70 + 1) = x70 + 1] E (by kernel_rfl) (wrap_in g118) ?_
     clear E; intro a E
     refine wpList_nil ?_
     exact th_n ⟨m94, Nat.lt_succ_self _, (maxL out68 [(List.getD ranks (Int.toNat r105) 0)]), true, x70 + 1, E.pick _ ⟨rfl, rfl, rfl, rfl, rfl, rfl, rfl, rfl, rfl, trivial⟩, H.sel [0, 1, 2] rfl, hP⟩
    ·
     replace E := E_; clear E_
     have h119 : ¬ (never69 = true) := (ne_true_of_eq_false hb_)
     clear hb_; replace hP := ite_f h119 hP
     refine vr tbok 5 [] [(0, .pointer (some ⟨b1, o2, none⟩)), (1, .slice (some ⟨b115, o116, none⟩) (List.length ranks) c5), (2, .int .i64 q), (3, .int .u8 mine), (9, .int .i64 (maxL out68 [(List.getD ranks (Int.toNat r105) 0)])), (10, .bool (decide ((List.getD ranks (Int.toNat r105) 0) < 0))), (17, .slice (some ⟨b103, o104, none⟩) (List.length g.2.2.2) c46), (18, .int .i64 (((List.length g.2.2.2) : Nat) : Int)), (19, .int .i64 x70), (37, .int .i64 (List.getD ranks (Int.toNat r105) 0)), (38, .bool (decide ((List.getD ranks (Int.toNat r105) 0) < 0)))] [] E (by kernel_rfl) trivial ?_
     clear E; intro a E
     refine wpList_nil ?_
     refine bl_n ?_
     refine th_n ?_
     refine wp_region_lit ?_
     obtain ⟨g120, hP⟩ := ask_inv hP
     refine vr tbok 2 [.int .i64 (x70 + 1)] [(0, .pointer (some ⟨b1, o2, none⟩)), (1, .slice (some ⟨b115, o116, none⟩) (List.length ranks) c5), (2, .int .i64 q), (3, .int .u8 mine), (9, .int .i64 (maxL out68 [(List.getD ranks (Int.toNat r105) 0)])), (10, .bool (decide ((List.getD ranks (Int.toNat r105) 0) < 0))), (17, .slice (some ⟨b103, o104, none⟩) (List.length g.2.2.2) c46), (18, .int .i64 (((List.length g.2.2.2) : Nat) : Int)), (19, .int .i64 (x70 + 1)), (37, .int .i64 (List.getD ranks (Int.toNat r105) 0)), (38, .bool (decide ((List.getD ranks (Int.toNat r105) 0) < 0)))] [IntKind.i64.wrap (x70 + 1) = x70 + 1] E (by kernel_rfl) (wrap_in g120) ?_
     clear E; intro a E
     refine wpList_nil ?_
     exact th_n ⟨m94, Nat.lt_succ_self _, (maxL out68 [(List.getD ranks (Int.toNat r105) 0)]), decide ((List.getD ranks (Int.toNat r105) 0) < 0), x70 + 1, E.pick _ ⟨rfl, rfl, rfl, rfl, rfl, rfl, rfl, rfl, rfl, trivial⟩, H.sel [0, 1, 2] rfl, hP⟩
   ·
    replace E := E_; clear E_
    have h121 : ¬ (x70 < (((List.length g.2.2.2) : Nat) : Int)) := of_decide_eq_false hb_
    clear hb_; replace hP := ite_f h121 hP
    refine c_false E rfl ?_
    refine wp_exit ?_
    refine th_exit ?_
    have hx_ := Option.some.inj hP
    refine th_exit (.inl ⟨0, rfl, ?_⟩)
    exact ⟨rfl, (out68, never69), E.pick _ ⟨rfl, rfl, trivial⟩, H.sel [] rfl, hx_.symm⟩
 ·
  clear E H hL96; intro i_ a w98 hM_
  obtain ⟨rfl, x100, E, H, hx_⟩ := hM_
  subst hx_; have hP := hK97; clear hK97
  refine bl_hit ?_
  refine th_n ?_
  refine wp_seq ?_
  refine wp_seq ?_
  refine wp_region_lit ?_
  refine vr tbok 1 [] [(9, .int .i64 x95.1), (41, .bool x95.2)] [] E (by kernel_rfl) trivial ?_
  clear E; intro a E
  refine wpList_nil ?_
  refine th_n ?_
  refine E.cases (t := 41) rfl (fun hb_ E_ => ?_) (fun hb_ E_ => ?_)
  ·
   replace E := E_; clear E_
   have h122 : x95.2 = true := hb_
   clear hb_; replace hP := ite_t h122 hP
   refine c_true E rfl ?_
   refine wp_seq ?_
   refine wp_region_lit ?_
   refine vr tbok 1 [] [(8, .int .i64 (-1))] [] E (by kernel_rfl) trivial ?_
   clear E; intro a E
   refine wpList_nil ?_
   refine th_n ?_
   refine wp_ret ?_
   refine th_ret ?_
   obtain rfl := Option.some.inj hP
   refine ret1 E rfl rfl ?_
   exact ⟨_, rfl, rfl, H.sel [] rfl⟩
  ·
   replace E := E_; clear E_
   have h123 : ¬ (x95.2 = true) := (ne_true_of_eq_false hb_)
   clear hb_; replace hP := ite_f h123 hP
   refine c_false E rfl ?_
   refine wp_skip ?_
   refine th_n ?_
   refine wp_seq ?_
   refine wp_region_lit ?_
   refine vr tbok 2 [] [(8, .int .i64 x95.1)] [] E (by kernel_rfl) trivial ?_
   clear E; intro a E
   refine wpList_nil ?_
   refine th_n ?_
   refine wp_ret ?_
   obtain rfl := Option.some.inj hP
   refine ret1 E rfl rfl ?_
   exact ⟨_, rfl, rfl, H.sel [] rfl⟩

end Go.V
