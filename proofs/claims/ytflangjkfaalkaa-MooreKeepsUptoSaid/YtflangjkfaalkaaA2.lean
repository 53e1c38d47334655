/- Plain functions, and the calls that give them. -/
import Derived.Test.YtflangjkfaalkaaA1
set_option linter.all false
set_option linter.unusedVariables false
set_option linter.unnecessarySimpa false
set_option linter.unusedSimpArgs false
namespace Go.V
open Go Go.Proofs
/-! rejoinder/board.Moves -/
def board_Moves_l0 (N : Nat) (mask : Int) : Nat → (List Int) → Int → Option (List Int)
  | 0, _, _ => none
  | m38 + 1, out16, sub19 =>
    ask (List.length out16 + List.length ([sub19] : List Int) ≤ 1000000000) <|
    if (sub19 : Int) = 0 then
      some (out16 ++ ([sub19] : List Int))
    else
      board_Moves_l0 N mask m38 (out16 ++ ([sub19] : List Int)) (andV .u8 (IntKind.u8.wrap (sub19 - 1)) mask)
def board_Moves (N : Nat) (mask : Int) : Option (List Int) :=
  Option.bind (board_Moves_l0 N mask N [] mask) fun x39 =>
  Option.bind (slices_Reverse_api_Letter_api_Letter N x39) fun r59 =>
  some r59
set_option maxRecDepth 100000 in
set_option maxHeartbeats 4000000 in
theorem board_Moves_calls {N : Nat} {S Fa : Nat → Prop} {w0 : World} {r : List Int} (mask : Int) (H : Hp S Fa w0 w0 []) (hP : board_Moves N mask = some r) :
    Calls Try.prog 29 #[.int .u8 mask] w0 fun e w' => ∃ v, e = .returned v ∧ ∃ (A71 : Option Addr) (c72 : Nat), v = .slice A71 (List.length r) c72 ∧ Hp S Fa w0 w' [.row true (cInt .u8) 27 A71 c72 r] := by
 refine enterV (n := 19) Try.func29 rfl rfl rfl ?_
 intro a E
 replace E := E.pick [(0, .int .u8 mask)] ⟨rfl, trivial⟩
 rw [board_Moves] at hP
 refine wp_seq ?_
 refine wp_region_lit ?_
 refine vn tbok 1 [] [] [] E (by kernel_rfl) (by kernel_rfl) trivial ?_
 clear E; intro a E
 refine wpList_nil ?_
 refine th_n ?_
 refine wp_seq ?_
 refine wp_region_lit ?_
 refine vn tbok 1 [] [(3, .slice none 0 0)] [] E (by kernel_rfl) (by kernel_rfl) trivial ?_
 clear E; intro a E
 refine wpList_nil ?_
 refine th_n ?_
 refine wp_seq ?_
 refine wp_seq ?_
 refine wp_region_lit ?_
 refine vn tbok 2 [] [(4, .int .u8 mask)] [] E (by kernel_rfl) (by kernel_rfl) trivial ?_
 clear E; intro a E
 refine wpList_nil ?_
 refine th_n ?_
 refine wp_block ?_
 obtain ⟨x39, hL40, hK41⟩ := bind_inv hP
 clear hP
 replace H := H.nilrow (cInt .u8) 27; try dsimp only [setn, addE, goneL] at H
 refine loop_cut (fun i_ a w_ => (i_ = 0 ∧ ∃ (x45 : List Int), ∃ (A36 : Option Addr) (c37 : Nat), Fr a 19 [(3, .slice A36 (List.length x45) c37)] ∧ Hp S Fa w0 w_ [.row true (cInt .u8) 27 A36 c37 x45] ∧ x39 = x45)) ?_ ?_
 ·
  refine loopV (fun m44 a w43 => ∃ (out16 : List Int) (sub19 : Int), ∃ (A17 : Option Addr) (c18 : Nat), Fr a 19 [(0, .int .u8 mask), (3, .slice A17 (List.length out16) c18), (4, .int .u8 sub19)] ∧ Hp S Fa w0 w43 [.row true (cInt .u8) 27 A17 c18 out16] ∧ board_Moves_l0 N mask m44 out16 sub19 = some x39) N ?_ ?_
  ·
   exact ⟨[], mask, none, 0, E.pick _ ⟨rfl, rfl, rfl, trivial⟩, H.sel [0] rfl, hL40⟩
  clear E H hL40; intro m44 a w43 hI_
  obtain ⟨out16, sub19, A17, c18, E, H, hP⟩ := hI_
  obtain ⟨m38, rfl⟩ : ∃ q_, m44 = q_ + 1 := by cases m44 with | zero => rw [board_Moves_l0] at hP; cases hP | succ q_ => exact ⟨q_, rfl⟩
  rw [board_Moves_l0] at hP
  refine wp_seq ?_
  refine wp_block ?_
  refine wp_seq ?_
  refine wp_region_lit ?_
  refine vn tbok 2 [] [(10, .slice A17 (List.length out16) c18), (11, .int .u8 sub19)] [] E (by kernel_rfl) (by kernel_rfl) trivial ?_
  clear E; intro a E
  refine h_buildSlice (ps := [(0, .int .u8 sub19)]) (cs := [.int .u8 sub19]) H E rfl rfl tbok rfl rfl (by kernel_rfl) ?_
  intro w47 g46 a hc48 hg50 H_ E_
  replace E := E_ _ rfl; clear E_
  replace H := H_; clear H_; try dsimp only [setn, addE, goneL] at H
  obtain ⟨g51, hP⟩ := ask_inv hP
  refine h_append (cInt .u8) (xs := out16) (ys := ([sub19] : List Int)) (0 : Int) H 0 rfl E rfl rfl tbok rfl rfl rfl rfl rfl (fun _ _ => rfl) rfl rfl (fun _ HF_ => HF_.srcB 1 rfl (⟨_, _, rfl, rfl, rfl⟩)) g51 ?_
  intro w52 A53 c54 a hc55 hA56 H_ E_
  replace E := E_ _ rfl; clear E_
  replace H := H_; clear H_; try dsimp only [setn, addE, goneL] at H
  refine vn tbok 1 [] [(3, .slice A53 (List.length (out16 ++ ([sub19] : List Int))) c54)] [] E (by kernel_rfl) (by kernel_rfl) trivial ?_
  clear E; intro a E
  refine wpList_nil ?_
  refine th_n ?_
  refine wp_seq ?_
  refine wp_region_lit ?_
  refine vn tbok 2 [] [(15, .bool ((sub19 : Int) == 0))] [] E (by kernel_rfl) (by kernel_rfl) trivial ?_
  clear E; intro a E
  refine wpList_nil ?_
  refine th_n ?_
  refine E.cases (t := 15) rfl (fun hb_ E_ => ?_) (fun hb_ E_ => ?_)
  ·
   replace E := E_; clear E_
   have h57 : (sub19 : Int) = 0 := eq_of_beq hb_
   clear hb_; replace hP := ite_t h57 hP
   refine c_true E rfl ?_
   refine wp_exit ?_
   refine bl_miss rfl ?_
   refine th_exit ?_
   have hx_ := Option.some.inj hP
   refine th_exit (.inl ⟨0, rfl, ?_⟩)
   exact ⟨rfl, out16 ++ ([sub19] : List Int), A53, c54, E.pick _ ⟨rfl, trivial⟩, H.sel [0] rfl, hx_.symm⟩
  replace E := E_; clear E_
  have h58 : ¬ ((sub19 : Int) = 0) := ne_of_beq_false hb_
  clear hb_; replace hP := ite_f h58 hP
  refine c_false E rfl ?_
  refine wp_skip ?_
  refine bl_n ?_
  refine th_n ?_
  refine wp_region_lit ?_
  refine vn tbok 5 [.int .u8 (IntKind.u8.wrap (sub19 - 1)), .int .u8 (andV .u8 (IntKind.u8.wrap (sub19 - 1)) mask)] [(4, .int .u8 (andV .u8 (IntKind.u8.wrap (sub19 - 1)) mask))] [IntKind.u8.wrap (sub19 - 1) = IntKind.u8.wrap (sub19 - 1), IntKind.u8.wrap (BitVec.ofInt (IntKind.bits .u8) (IntKind.u8.wrap (sub19 - 1)) &&& BitVec.ofInt (IntKind.bits .u8) mask).toNat = andV .u8 (IntKind.u8.wrap (sub19 - 1)) mask] E (by kernel_rfl) (by kernel_rfl) ⟨rfl, rfl⟩ ?_
  clear E; intro a E
  refine wpList_nil ?_
  exact th_n ⟨m38, Nat.lt_succ_self _, out16 ++ ([sub19] : List Int), andV .u8 (IntKind.u8.wrap (sub19 - 1)) mask, A53, c54, E.pick _ ⟨rfl, rfl, rfl, trivial⟩, H.sel [0] rfl, hP⟩
 clear E H hL40; intro i_ a w43 hM_
 obtain ⟨rfl, x45, A36, c37, E, H, hx_⟩ := hM_
 subst hx_; have hP := hK41; clear hK41
 refine bl_hit ?_
 refine th_n ?_
 refine wp_seq ?_
 refine wp_region_lit ?_
 refine vn tbok 1 [] [(16, .slice A36 (List.length x39) c37)] [] E (by kernel_rfl) (by kernel_rfl) trivial ?_
 clear E; intro a E
 obtain ⟨r59, h60, hP⟩ := bind_inv hP
 obtain ⟨Fa61, Hc62, hb63⟩ := H.call [0] [] rfl rfl ⟨flat_plain, trivial⟩
 refine e_call E rfl rfl Try.func57 rfl rfl rfl (slices_Reverse_api_Letter_api_Letter_calls A36 c37 x39  Hc62 h60) ?_
 rintro v64 w65 a ⟨rfl, hl68, HR66⟩ E_
 replace E := E_ _ rfl; clear E_
 obtain ⟨H_, hc67⟩ := hb63 _ _ HR66 rfl
 replace H := H_; clear H_; try dsimp only [setn, addE, goneL] at H
 have hn70 : (List.length x39) = (List.length (r59)) := hl68.symm
 replace E := E.same (t := 3) (u := .slice A36 (List.length (r59)) c37) rfl (congrArg (fun n_ => Value.slice A36 n_ c37) hn70)
 replace E := E.same (t := 16) (u := .slice A36 (List.length (r59)) c37) rfl (congrArg (fun n_ => Value.slice A36 n_ c37) hn70)
 refine wpList_nil ?_
 refine th_n ?_
 refine wp_seq ?_
 refine wp_region_lit ?_
 refine vn tbok 2 [] [(2, .slice A36 (List.length (r59)) c37)] [] E (by kernel_rfl) (by kernel_rfl) trivial ?_
 clear E; intro a E
 refine wpList_nil ?_
 refine th_n ?_
 refine wp_ret ?_
 obtain rfl := Option.some.inj hP
 refine ret1 E rfl rfl ?_
 exact ⟨_, rfl, A36, c37, rfl, H.sel [1] rfl⟩

/-! rejoinder/moore.begun -/
def moore_begun (N : Nat) (aProps : Int) (aAccept : List Bool) (aGuard : List Int) (aNodes : List Nd) (s : Int × Int) : Option (Int ⊕ (((Int × (List Bool) × (List Int) × (List Nd)) × (Int × Int) × (List Int) × (List Int)) × Int)) :=
  Option.bind (board_Check N aProps aAccept aGuard aNodes (s.1, s.2)) fun r128 =>
  if (r128 : Int) = 0 then
    Option.bind (board_Moves N s.2) fun r139 =>
    Option.bind (board_Moves N s.1) fun r151 =>
    some (Sum.inr (((aProps, aAccept, aGuard, aNodes), (s.1, s.2), r139, r151), 0))
  else
    some (Sum.inl r128)
set_option maxRecDepth 100000 in
set_option maxHeartbeats 4000000 in
theorem moore_begun_calls {N : Nat} {S Fa : Nat → Prop} {w0 : World} {r : Int ⊕ (((Int × (List Bool) × (List Int) × (List Nd)) × (Int × Int) × (List Int) × (List Int)) × Int)} (A1 : Option Addr) (c2 : Nat) (A5 : Option Addr) (c6 : Nat) (A9 : Option Addr) (c10 : Nat) (aProps : Int) (aAccept : List Bool) (aGuard : List Int) (aNodes : List Nd) (s : Int × Int) (hk3 : List.length aAccept ≤ c2) (hk7 : List.length aGuard ≤ c6) (hk11 : List.length aNodes ≤ c10) (H : Hp S Fa w0 w0 [.ro false cBool A1 aAccept, .ro false (cInt .i64) A5 aGuard, .ro false cNode A9 aNodes]) (hP : moore_begun N aProps aAccept aGuard aNodes s = some r) :
    Calls Try.prog 31 #[.agg #[.int .i64 aProps, .slice A1 (List.length aAccept) c2, .slice A5 (List.length aGuard) c6, .slice A9 (List.length aNodes) c10], .agg #[.int .u8 s.1, .int .u8 s.2]] w0 fun e w' => ∃ v, e = .returned v ∧ ((∃ (x_ : Int), r = Sum.inl x_ ∧ v = .tuple #[.pointer none, .int .i64 x_] ∧ Hp S Fa w0 w' []) ∨ (∃ (x_ : ((Int × (List Bool) × (List Int) × (List Nd)) × (Int × Int) × (List Int) × (List Int)) × Int) (b15 : Nat), r = Sum.inr x_ ∧ v = .tuple #[.pointer (some ⟨b15, 0, none⟩), .int .i64 x_.2] ∧ Hp S Fa w0 w' [.ro false cS87 (some ⟨b15, 0, none⟩) ([x_.1])])) := by
 refine enterV (n := 23) Try.func31 rfl rfl rfl ?_
 intro a E
 replace E := E.pick [(0, .agg #[.int .i64 aProps, .slice A1 (List.length aAccept) c2, .slice A5 (List.length aGuard) c6, .slice A9 (List.length aNodes) c10]), (1, .agg #[.int .u8 s.1, .int .u8 s.2])] ⟨rfl, rfl, trivial⟩
 rw [moore_begun] at hP
 refine wp_seq ?_
 refine wp_region_lit ?_
 refine h_box H E rfl rfl rfl ?_
 intro w119 g118 a hc120 hg122 H_ E_
 replace E := E_ _ rfl; clear E_
 replace H := H_; clear H_; try dsimp only [setn, addE, goneL] at H
 refine h_box H E rfl rfl rfl ?_
 intro w124 g123 a hc125 hg127 H_ E_
 replace E := E_ _ rfl; clear E_
 replace H := H_; clear H_; try dsimp only [setn, addE, goneL] at H
 refine vn tbok 2 [] [] [] E (by kernel_rfl) (by kernel_rfl) trivial ?_
 clear E; intro a E
 refine wpList_nil ?_
 refine th_n ?_
 refine wp_seq ?_
 refine wp_seq ?_
 refine wp_region_lit ?_
 refine vn tbok 2 [.agg #[.int .i64 aProps, .slice A1 (List.length aAccept) c2, .slice A5 (List.length aGuard) c6, .slice A9 (List.length aNodes) c10], .agg #[.int .u8 s.1, .int .u8 s.2]] [(7, .agg #[.int .i64 aProps, .slice A1 (List.length aAccept) c2, .slice A5 (List.length aGuard) c6, .slice A9 (List.length aNodes) c10]), (8, .agg #[.int .u8 s.1, .int .u8 s.2])] [cellsAt w124 g118 (0) [.int .i64 aProps, .slice A1 (List.length aAccept) c2, .slice A5 (List.length aGuard) c6, .slice A9 (List.length aNodes) c10], cellsAt w124 g123 (0) [.int .u8 s.1, .int .u8 s.2]] E (by kernel_rfl) (by kernel_rfl) ⟨(H.box 3 rfl).sub 0 _ rfl, (H.box 4 rfl).sub 0 _ rfl⟩ ?_
 clear E; intro a E
 obtain ⟨r128, h129, hP⟩ := bind_inv hP
 obtain ⟨Fa130, Hc131, hb132⟩ := H.call [] [(0, false), (1, false), (2, false)] rfl rfl trivial
 refine e_call E rfl rfl Try.func28 rfl rfl rfl (board_Check_calls A1 c2 A5 c6 A9 c10 aProps aAccept aGuard aNodes (s.1, s.2) hk3 hk7 hk11 Hc131 h129) ?_
 rintro v133 w134 a ⟨rfl, HR135⟩ E_
 replace E := E_ _ rfl; clear E_
 obtain ⟨H_, hc136⟩ := hb132 _ _ HR135 rfl
 replace H := H_; clear H_; try dsimp only [setn, addE, goneL] at H
 refine vn tbok 1 [] [(6, .int .i64 r128)] [] E (by kernel_rfl) (by kernel_rfl) trivial ?_
 clear E; intro a E
 refine wpList_nil ?_
 refine th_n ?_
 refine wp_seq ?_
 refine wp_region_lit ?_
 refine vn tbok 2 [] [(11, .bool ((r128 : Int) != 0))] [] E (by kernel_rfl) (by kernel_rfl) trivial ?_
 clear E; intro a E
 refine wpList_nil ?_
 refine th_n ?_
 refine E.cases (t := 11) rfl (fun hb_ E_ => ?_) (fun hb_ E_ => ?_)
 ·
  replace E := E_; clear E_
  have h137 : ¬ ((r128 : Int) = 0) := bne_iff_ne.1 hb_
  clear hb_; replace hP := ite_f h137 hP
  refine c_true E rfl ?_
  refine wp_seq ?_
  refine wp_region_lit ?_
  refine vn tbok 3 [] [(4, .pointer none), (5, .int .i64 r128)] [] E (by kernel_rfl) (by kernel_rfl) trivial ?_
  clear E; intro a E
  refine wpList_nil ?_
  refine th_n ?_
  refine wp_ret ?_
  refine th_ret ?_
  obtain rfl := Option.some.inj hP
  refine ret2 E rfl rfl rfl ?_
  exact ⟨_, rfl, .inl ⟨r128, rfl, rfl, H.sel [] rfl⟩⟩
 replace E := E_; clear E_
 have h138 : (r128 : Int) = 0 := bne_eq_false_iff_eq.1 hb_
 clear hb_; replace hP := ite_t h138 hP
 refine c_false E rfl ?_
 refine wp_skip ?_
 refine th_n ?_
 refine wp_seq ?_
 obtain ⟨r139, h140, hP⟩ := bind_inv hP
 obtain ⟨r151, h152, hP⟩ := bind_inv hP
 have HR171 := H
 refine dr_start (S := fun w_ => Chg (atL []) w134 w_) (by kernel_rfl) ?_
 intro w168 hc169
 have HS170 : Chg (atL []) w134 w168 := hc169.mono (fun _ _ h_ => h_.elim)
 replace H := H.ext hc169
 refine dn tbok (by kernel_rfl) [0, 1, 2, 3, 5, 6] [.agg #[.int .i64 aProps, .slice A1 (List.length aAccept) c2, .slice A5 (List.length aGuard) c6, .slice A9 (List.length aNodes) c10], .agg #[.int .u8 s.1, .int .u8 s.2], .int .u8 s.2, .int .u8 s.1] [(13, .agg #[.int .i64 aProps, .slice A1 (List.length aAccept) c2, .slice A5 (List.length aGuard) c6, .slice A9 (List.length aNodes) c10]), (14, .agg #[.int .u8 s.1, .int .u8 s.2]), (16, .int .u8 s.2), (19, .int .u8 s.1)] (fun w_ => [cellsAt w_ g118 (0) [.int .i64 aProps, .slice A1 (List.length aAccept) c2, .slice A5 (List.length aGuard) c6, .slice A9 (List.length aNodes) c10], cellsAt w_ g123 (0) [.int .u8 s.1, .int .u8 s.2], World.cell? w_ ⟨g123, 1, none⟩ = some (.int .u8 s.2), World.cell? w_ ⟨g123, 0, none⟩ = some (.int .u8 s.1)]) 6 E (fun _ _ => by kernel_rfl) (by kernel_rfl) (fun w_ hS_ => ⟨(HR171.boxk [] hS_ 3 rfl rfl).sub 0 _ rfl, (HR171.boxk [] hS_ 4 rfl rfl).sub 0 _ rfl, (HR171.boxk [] hS_ 4 rfl rfl).cell (j := 1) rfl, (HR171.boxk [] hS_ 4 rfl rfl).cell (j := 0) rfl⟩) (by kernel_rfl) HS170 ?_
 clear E; intro a E
 refine wpAnyH_all (rs := [4]) (by kernel_rfl) (by simp) ?_
 refine all1 ?_
 refine wpOp_of_list rfl ?_
 obtain ⟨Fa172, Hc173, hb174⟩ := H.call [] [] rfl rfl trivial
 refine e_call E rfl rfl Try.func29 rfl rfl rfl (board_Moves_calls  s.2  Hc173 h140) ?_
 rintro v175 w176 a ⟨A179, c180, rfl, HR177⟩ E_
 replace E := E_ _ rfl; clear E_
 obtain ⟨H_, hc178⟩ := hb174 _ _ HR177 rfl
 replace HS170 := HS170.ext (callS_ext hc178)
 replace H := H_; clear H_; try dsimp only [setn, addE, goneL] at H
 refine wpList_nil ?_
 refine th_n ⟨HS170, ?_⟩
 refine wpAnyH_all (rs := [7]) (by kernel_rfl) (by simp) ?_
 refine all1 ?_
 refine wpOp_of_list rfl ?_
 obtain ⟨Fa182, Hc183, hb184⟩ := H.call [] [] rfl rfl trivial
 refine e_call E rfl rfl Try.func29 rfl rfl rfl (board_Moves_calls  s.1  Hc183 h152) ?_
 rintro v185 w186 a ⟨A189, c190, rfl, HR187⟩ E_
 replace E := E_ _ rfl; clear E_
 obtain ⟨H_, hc188⟩ := hb184 _ _ HR187 rfl
 replace HS170 := HS170.ext (callS_ext hc188)
 replace H := H_; clear H_; try dsimp only [setn, addE, goneL] at H
 refine wpList_nil ?_
 refine th_n ⟨HS170, ?_⟩
 refine wpAnyH_all (rs := [8]) (by kernel_rfl) (by simp) ?_
 refine all1 ?_
 refine wpOp_of_list rfl ?_
 refine e_build (ps := [(0, .agg #[.int .i64 aProps, .slice A1 (List.length aAccept) c2, .slice A5 (List.length aGuard) c6, .slice A9 (List.length aNodes) c10]), (1, .agg #[.int .u8 s.1, .int .u8 s.2]), (2, .slice A179 (List.length r139) c180), (3, .slice A189 (List.length r151) c190)]) (v := .agg #[.int .i64 aProps, .slice A1 (List.length aAccept) c2, .slice A5 (List.length aGuard) c6, .slice A9 (List.length aNodes) c10, .int .u8 s.1, .int .u8 s.2, .slice A179 (List.length r139) c180, .slice A189 (List.length r151) c190]) E rfl rfl tbok rfl (by kernel_rfl) rfl ?_
 clear E; intro a E
 refine wpList_nil ?_
 refine th_n ⟨HS170, ?_⟩
 refine wpAnyH_all (rs := [9]) (by kernel_rfl) (by simp) ?_
 refine all1 ?_
 refine wpOp_of_list rfl ?_
 refine h_box H E rfl rfl rfl ?_
 intro w193 g192 a hc194 hg196 H_ E_
 replace E := E_ _ rfl; clear E_
 have hin197 : ∀ q_, q_ < w134.heap.size → q_ = g192 → (atL []) q_ := fun q_ h1_ h2_ => by have hs_ := HS170.size; have h4_ : q_ = g192 := h2_; exfalso; omega
 replace HS170 := HS170.ext hc194
 replace H := H_; clear H_; try dsimp only [setn, addE, goneL] at H
 refine wpList_nil ?_
 refine th_n ⟨HS170, ?_⟩
 refine dn tbok (by kernel_rfl) [10, 11] [] [(4, .pointer (some ⟨g192, 0, none⟩)), (5, .int .i64 0)] (fun w_ => []) 0 E (fun _ _ => by kernel_rfl) (by kernel_rfl) (fun w_ hS_ => trivial) (by kernel_rfl) HS170 ?_
 clear E; intro a E
 refine dr_done (by kernel_rfl) ?_
 clear HS170 HR171
 refine th_n ?_
 refine wp_ret ?_
 have hk198 := H.rcap 5 rfl
 replace H := H.frz 5 rfl; try dsimp only [setn, addE, goneL] at H
 have hk199 := H.rcap 6 rfl
 replace H := H.frz 6 rfl; try dsimp only [setn, addE, goneL] at H
 replace H := H.frzbox cS87 false (((aProps, aAccept, aGuard, aNodes), (s.1, s.2), r139, r151) : (Int × (List Bool) × (List Int) × (List Nd)) × (Int × Int) × (List Int) × (List Int)) 7 rfl (fun _ HF_ => ⟨_, _, rfl, ⟨_, _, rfl, rfl, ⟨_, _, rfl, ⟨_, _, rfl, hk3, (HF_.roC 0 rfl)⟩, ⟨_, _, rfl, ⟨_, _, rfl, hk7, (HF_.roC 1 rfl)⟩, ⟨_, _, rfl, hk11, (HF_.roC 2 rfl)⟩⟩⟩⟩, ⟨_, _, rfl, rfl, ⟨_, _, rfl, ⟨_, _, rfl, hk198, (C.mono (HF_.roC 5 rfl) (fun _ h_ => Or.inr h_))⟩, ⟨_, _, rfl, hk199, (C.mono (HF_.roC 6 rfl) (fun _ h_ => Or.inr h_))⟩⟩⟩⟩); try dsimp only [setn, addE, goneL] at H
 obtain rfl := Option.some.inj hP
 refine ret2 E rfl rfl rfl ?_
 exact ⟨_, rfl, .inr (⟨(((aProps, aAccept, aGuard, aNodes), (s.1, s.2), r139, r151), 0), g192, rfl, rfl, H.sel [7] rfl⟩)⟩

/-! rejoinder/guard.Go -/
def guard_Go_l0 (N : Nat) (nodes : List Nd) (ll : Int) : Nat → Int → Int → Option (Unit ⊕ (Int × Bool))
  | 0, _, _ => none
  | m55 + 1, ref27, x28 =>
    if x28 < 9 then
      if ref27 < 0 then
        ask (in64 ((-1) - ref27)) <|
        some (Sum.inr ((-1) - ref27, true))
      else
        if (((List.length nodes) : Nat) : Int) ≤ ref27 then
          some (Sum.inr (0, false))
        else
          ask (idx ref27 (List.length nodes)) <|
          if ((List.getD nodes (Int.toNat ref27) (default : Nd)).P) < 0 then
            some (Sum.inr (0, false))
          else
            if 8 ≤ ((List.getD nodes (Int.toNat ref27) (default : Nd)).P) then
              some (Sum.inr (0, false))
            else
              ask (0 ≤ ((List.getD nodes (Int.toNat ref27) (default : Nd)).P)) <|
              if (andV .u8 (shrV .u8 ll ((List.getD nodes (Int.toNat ref27) (default : Nd)).P)) 1 : Int) = 1 then
                ask (in64 (x28 + 1)) <|
                guard_Go_l0 N nodes ll m55 ((List.getD nodes (Int.toNat ref27) (default : Nd)).Hi) (x28 + 1)
              else
                ask (in64 (x28 + 1)) <|
                guard_Go_l0 N nodes ll m55 ((List.getD nodes (Int.toNat ref27) (default : Nd)).Lo) (x28 + 1)
    else
      some (Sum.inl ())
def guard_Go (N : Nat) (nodes : List Nd) (ref : Int) (ll : Int) : Option (Int × Bool) :=
  Option.bind (guard_Go_l0 N nodes ll N ref 0) fun x56 =>
  Sum.elim (fun x61 =>
    some (0, false))
   (fun x88 =>
    some x88) x56
set_option maxRecDepth 100000 in
set_option maxHeartbeats 4000000 in
theorem guard_Go_calls {N : Nat} {S Fa : Nat → Prop} {w0 : World} {r : Int × Bool} (A1 : Option Addr) (c2 : Nat) (nodes : List Nd) (ref : Int) (ll : Int) (hk3 : List.length nodes ≤ c2) (H : Hp S Fa w0 w0 [.ro false cNode A1 nodes]) (hP : guard_Go N nodes ref ll = some r) :
    Calls Try.prog 73 #[.slice A1 (List.length nodes) c2, .int .i64 ref, .int .u8 ll] w0 fun e w' => ∃ v, e = .returned v ∧ v = .tuple #[.int .i64 r.1, .bool r.2] ∧ Hp S Fa w0 w' [] := by
 refine enterV (n := 50) Try.func73 rfl rfl rfl ?_
 intro a E
 replace E := E.pick [(0, .slice A1 (List.length nodes) c2), (1, .int .i64 ref), (2, .int .u8 ll)] ⟨rfl, rfl, rfl, trivial⟩
 rw [guard_Go] at hP
 refine wp_seq ?_
 refine wp_region_lit ?_
 refine vn tbok 2 [] [] [] E (by kernel_rfl) (by kernel_rfl) trivial ?_
 clear E; intro a E
 refine wpList_nil ?_
 refine th_n ?_
 refine wp_seq ?_
 refine wp_seq ?_
 refine wp_region_lit ?_
 refine vn tbok 1 [] [(9, .int .i64 0)] [] E (by kernel_rfl) (by kernel_rfl) trivial ?_
 clear E; intro a E
 refine wpList_nil ?_
 refine th_n ?_
 refine wp_block ?_
 obtain ⟨x56, hL57, hK58⟩ := bind_inv hP
 clear hP
 refine loop_cut (fun i_ a w_ => (i_ = 0 ∧ ∃ (x61 : Unit), Fr a 50 [] ∧ Hp S Fa w0 w_ [] ∧ x56 = Sum.inl x61)) ?_ ?_
 ·
  refine loopV (fun m60 a w59 => ∃ (ref27 : Int) (x28 : Int), Fr a 50 [(0, .slice A1 (List.length nodes) c2), (1, .int .i64 ref27), (2, .int .u8 ll), (9, .int .i64 x28)] ∧ Hp S Fa w0 w59 [.ro false cNode A1 nodes] ∧ guard_Go_l0 N nodes ll m60 ref27 x28 = some x56) N ?_ ?_
  ·
   exact ⟨ref, 0, E.pick _ ⟨rfl, rfl, rfl, rfl, trivial⟩, H.sel [0] rfl, hL57⟩
  clear E H hL57; intro m60 a w59 hI_
  obtain ⟨ref27, x28, E, H, hP⟩ := hI_
  obtain ⟨m55, rfl⟩ : ∃ q_, m60 = q_ + 1 := by cases m60 with | zero => rw [guard_Go_l0] at hP; cases hP | succ q_ => exact ⟨q_, rfl⟩
  rw [guard_Go_l0] at hP
  refine wp_seq ?_
  refine wp_region_lit ?_
  refine vn tbok 1 [] [(10, .bool (decide (x28 < 9)))] [] E (by kernel_rfl) (by kernel_rfl) trivial ?_
  clear E; intro a E
  refine wpList_nil ?_
  refine th_n ?_
  refine wp_seq ?_
  refine E.cases (t := 10) rfl (fun hb_ E_ => ?_) (fun hb_ E_ => ?_)
  ·
   replace E := E_; clear E_
   have h62 : x28 < 9 := of_decide_eq_true hb_
   clear hb_; replace hP := ite_t h62 hP
   refine c_true E rfl ?_
   refine wp_skip ?_
   refine th_n ?_
   refine wp_seq ?_
   refine wp_block ?_
   refine wp_seq ?_
   refine wp_seq ?_
   refine wp_region_lit ?_
   refine vn tbok 2 [] [(12, .bool (decide (ref27 < 0)))] [] E (by kernel_rfl) (by kernel_rfl) trivial ?_
   clear E; intro a E
   refine wpList_nil ?_
   refine th_n ?_
   refine E.cases (t := 12) rfl (fun hb_ E_ => ?_) (fun hb_ E_ => ?_)
   ·
    replace E := E_; clear E_
    have h63 : ref27 < 0 := of_decide_eq_true hb_
    clear hb_; replace hP := ite_t h63 hP
    refine c_true E rfl ?_
    refine wp_seq ?_
    refine wp_region_lit ?_
    obtain ⟨g64, hP⟩ := ask_inv hP
    refine vn tbok 4 [.int .i64 ((-1) - ref27)] [(6, .int .i64 ((-1) - ref27)), (7, .bool true)] [IntKind.i64.wrap ((-1) - ref27) = (-1) - ref27] E (by kernel_rfl) (by kernel_rfl) (wrap_in g64) ?_
    clear E; intro a E
    refine wpList_nil ?_
    refine th_n ?_
    refine wp_ret ?_
    refine th_ret ?_
    refine bl_ret ?_
    refine th_ret ?_
    refine th_ret ?_
    refine .inr ⟨rfl, ?_⟩
    refine bl_ret ?_
    refine th_ret ?_
    have hx_ := Option.some.inj hP; subst hx_
    have hP : some (((-1) - ref27, true)) = some r := hK58
    obtain rfl := Option.some.inj hP
    refine ret2 E rfl rfl rfl ?_
    exact ⟨_, rfl, rfl, H.sel [] rfl⟩
   replace E := E_; clear E_
   have h65 : ¬ (ref27 < 0) := of_decide_eq_false hb_
   clear hb_; replace hP := ite_f h65 hP
   refine c_false E rfl ?_
   refine wp_skip ?_
   refine th_n ?_
   refine wp_seq ?_
   refine wp_seq ?_
   refine wp_region_lit ?_
   refine vn tbok 5 [] [(19, .bool (decide ((((List.length nodes) : Nat) : Int) ≤ ref27)))] [] E (by kernel_rfl) (by kernel_rfl) trivial ?_
   clear E; intro a E
   refine E.cases (t := 19) rfl (fun hb_ E_ => ?_) (fun hb_ E_ => ?_)
   ·
    replace E := E_; clear E_
    have h66 : (((List.length nodes) : Nat) : Int) ≤ ref27 := of_decide_eq_true hb_
    clear hb_; replace hP := ite_t h66 hP
    refine vn tbok 15 [] [(34, .bool true)] [] E (by kernel_rfl) (by kernel_rfl) trivial ?_
    clear E; intro a E
    refine wpList_nil ?_
    refine th_n ?_
    refine c_true E rfl ?_
    refine wp_seq ?_
    refine wp_region_lit ?_
    refine vn tbok 2 [] [(6, .int .i64 0), (7, .bool false)] [] E (by kernel_rfl) (by kernel_rfl) trivial ?_
    clear E; intro a E
    refine wpList_nil ?_
    refine th_n ?_
    refine wp_ret ?_
    refine th_ret ?_
    refine bl_ret ?_
    refine th_ret ?_
    refine th_ret ?_
    refine .inr ⟨rfl, ?_⟩
    refine bl_ret ?_
    refine th_ret ?_
    have hx_ := Option.some.inj hP; subst hx_
    have hP : some ((0, false)) = some r := hK58
    obtain rfl := Option.some.inj hP
    refine ret2 E rfl rfl rfl ?_
    exact ⟨_, rfl, rfl, H.sel [] rfl⟩
   replace E := E_; clear E_
   have h67 : ¬ ((((List.length nodes) : Nat) : Int) ≤ ref27) := of_decide_eq_false hb_
   clear hb_; replace hP := ite_f h67 hP
   obtain ⟨g68, hP⟩ := ask_inv hP
   obtain ⟨b69, o70, e_b69⟩ := (H.rd 0 rds_ro).addr (idx_pos g68)
   subst e_b69
   refine vn tbok 8 [.int .i64 ((List.getD nodes (Int.toNat ref27) (default : Nd)).P)] [(27, .bool (decide (((List.getD nodes (Int.toNat ref27) (default : Nd)).P) < 0)))] [0 ≤ ref27 ∧ ref27 < (((List.length nodes) : Nat) : Int), World.cell? w59 ⟨b69, o70 + (Int.toNat ref27) * 3, none⟩ = some (.int .i64 ((List.getD nodes (Int.toNat ref27) (default : Nd)).P))] E (by kernel_rfl) (by kernel_rfl) ⟨g68, (Rds.atP (H.rd 0 rds_ro) (default : Nd) g68).1⟩ ?_
   clear E; intro a E
   refine E.cases (t := 27) rfl (fun hb_ E_ => ?_) (fun hb_ E_ => ?_)
   ·
    replace E := E_; clear E_
    have h71 : ((List.getD nodes (Int.toNat ref27) (default : Nd)).P) < 0 := of_decide_eq_true hb_
    clear hb_; replace hP := ite_t h71 hP
    refine vn tbok 7 [] [(34, .bool true)] [] E (by kernel_rfl) (by kernel_rfl) trivial ?_
    clear E; intro a E
    refine wpList_nil ?_
    refine th_n ?_
    refine c_true E rfl ?_
    refine wp_seq ?_
    refine wp_region_lit ?_
    refine vn tbok 2 [] [(6, .int .i64 0), (7, .bool false)] [] E (by kernel_rfl) (by kernel_rfl) trivial ?_
    clear E; intro a E
    refine wpList_nil ?_
    refine th_n ?_
    refine wp_ret ?_
    refine th_ret ?_
    refine bl_ret ?_
    refine th_ret ?_
    refine th_ret ?_
    refine .inr ⟨rfl, ?_⟩
    refine bl_ret ?_
    refine th_ret ?_
    have hx_ := Option.some.inj hP; subst hx_
    have hP : some ((0, false)) = some r := hK58
    obtain rfl := Option.some.inj hP
    refine ret2 E rfl rfl rfl ?_
    exact ⟨_, rfl, rfl, H.sel [] rfl⟩
   replace E := E_; clear E_
   have h72 : ¬ (((List.getD nodes (Int.toNat ref27) (default : Nd)).P) < 0) := of_decide_eq_false hb_
   clear hb_; replace hP := ite_f h72 hP
   refine vn tbok 7 [.int .i64 ((List.getD nodes (Int.toNat ref27) (default : Nd)).P)] [(34, .bool (decide (8 ≤ ((List.getD nodes (Int.toNat ref27) (default : Nd)).P))))] [0 ≤ ref27 ∧ ref27 < (((List.length nodes) : Nat) : Int), World.cell? w59 ⟨b69, o70 + (Int.toNat ref27) * 3, none⟩ = some (.int .i64 ((List.getD nodes (Int.toNat ref27) (default : Nd)).P))] E (by kernel_rfl) (by kernel_rfl) ⟨g68, (Rds.atP (H.rd 0 rds_ro) (default : Nd) g68).1⟩ ?_
   clear E; intro a E
   refine wpList_nil ?_
   refine th_n ?_
   refine E.cases (t := 34) rfl (fun hb_ E_ => ?_) (fun hb_ E_ => ?_)
   ·
    replace E := E_; clear E_
    have h73 : 8 ≤ ((List.getD nodes (Int.toNat ref27) (default : Nd)).P) := of_decide_eq_true hb_
    clear hb_; replace hP := ite_t h73 hP
    refine c_true E rfl ?_
    refine wp_seq ?_
    refine wp_region_lit ?_
    refine vn tbok 2 [] [(6, .int .i64 0), (7, .bool false)] [] E (by kernel_rfl) (by kernel_rfl) trivial ?_
    clear E; intro a E
    refine wpList_nil ?_
    refine th_n ?_
    refine wp_ret ?_
    refine th_ret ?_
    refine bl_ret ?_
    refine th_ret ?_
    refine th_ret ?_
    refine .inr ⟨rfl, ?_⟩
    refine bl_ret ?_
    refine th_ret ?_
    have hx_ := Option.some.inj hP; subst hx_
    have hP : some ((0, false)) = some r := hK58
    obtain rfl := Option.some.inj hP
    refine ret2 E rfl rfl rfl ?_
    exact ⟨_, rfl, rfl, H.sel [] rfl⟩
   replace E := E_; clear E_
   have h74 : ¬ (8 ≤ ((List.getD nodes (Int.toNat ref27) (default : Nd)).P)) := of_decide_eq_false hb_
   clear hb_; replace hP := ite_f h74 hP
   refine c_false E rfl ?_
   refine wp_skip ?_
   refine th_n ?_
   refine wp_seq ?_
   refine wp_region_lit ?_
   refine vn tbok 4 [.agg #[.int .i64 ((List.getD nodes (Int.toNat ref27) (default : Nd)).P), .int .i64 ((List.getD nodes (Int.toNat ref27) (default : Nd)).Lo), .int .i64 ((List.getD nodes (Int.toNat ref27) (default : Nd)).Hi)]] [(38, .agg #[.int .i64 ((List.getD nodes (Int.toNat ref27) (default : Nd)).P), .int .i64 ((List.getD nodes (Int.toNat ref27) (default : Nd)).Lo), .int .i64 ((List.getD nodes (Int.toNat ref27) (default : Nd)).Hi)])] [0 ≤ ref27 ∧ ref27 < (((List.length nodes) : Nat) : Int), cellsAt w59 b69 (o70 + (Int.toNat ref27) * 3) [.int .i64 ((List.getD nodes (Int.toNat ref27) (default : Nd)).P), .int .i64 ((List.getD nodes (Int.toNat ref27) (default : Nd)).Lo), .int .i64 ((List.getD nodes (Int.toNat ref27) (default : Nd)).Hi)]] E (by kernel_rfl) (by kernel_rfl) ⟨g68, Rds.atP (H.rd 0 rds_ro) (default : Nd) g68⟩ ?_
   clear E; intro a E
   refine h_alloc H E rfl rfl tbok rfl ?_
   intro w76 g75 a hc77 hg79 H_ E_
   replace E := E_ _ rfl; clear E_
   replace H := H_; clear H_; try dsimp only [setn, addE, goneL] at H
   refine h_store (g := g75) (off := 0) H 1 rfl E rfl rfl rfl rfl tbok rfl rfl rfl rfl rfl ?_
   clear E; intro w80 a hc81 H_ E
   replace H := H_; clear H_; try dsimp only [setn, addE, goneL] at H
   refine wpList_nil ?_
   refine th_n ?_
   refine wp_seq ?_
   refine wp_region_lit ?_
   refine vn tbok 3 [.int .i64 ((List.getD nodes (Int.toNat ref27) (default : Nd)).Lo)] [(1, .int .i64 ((List.getD nodes (Int.toNat ref27) (default : Nd)).Lo))] [World.cell? w80 ⟨g75, 1, none⟩ = some (.int .i64 ((List.getD nodes (Int.toNat ref27) (default : Nd)).Lo))] E (by kernel_rfl) (by kernel_rfl) ((H.box 1 rfl).cell (j := 1) rfl) ?_
   clear E; intro a E
   refine wpList_nil ?_
   refine th_n ?_
   refine wp_seq ?_
   refine wp_region_lit ?_
   obtain ⟨g82, hP⟩ := ask_inv hP
   refine vn tbok 6 [.int .i64 ((List.getD nodes (Int.toNat ref27) (default : Nd)).P), .int .u8 (shrV .u8 ll ((List.getD nodes (Int.toNat ref27) (default : Nd)).P)), .int .u8 (andV .u8 (shrV .u8 ll ((List.getD nodes (Int.toNat ref27) (default : Nd)).P)) 1)] [(46, .bool ((andV .u8 (shrV .u8 ll ((List.getD nodes (Int.toNat ref27) (default : Nd)).P)) 1 : Int) == 1))] [World.cell? w80 ⟨g75, 0, none⟩ = some (.int .i64 ((List.getD nodes (Int.toNat ref27) (default : Nd)).P)), 0 ≤ ((List.getD nodes (Int.toNat ref27) (default : Nd)).P) ∧ Int.fdiv ll (2 ^ (min (Int.toNat ((List.getD nodes (Int.toNat ref27) (default : Nd)).P)) (IntKind.bits .u8))) = shrV .u8 ll ((List.getD nodes (Int.toNat ref27) (default : Nd)).P), IntKind.u8.wrap (BitVec.ofInt (IntKind.bits .u8) (shrV .u8 ll ((List.getD nodes (Int.toNat ref27) (default : Nd)).P)) &&& BitVec.ofInt (IntKind.bits .u8) 1).toNat = andV .u8 (shrV .u8 ll ((List.getD nodes (Int.toNat ref27) (default : Nd)).P)) 1] E (by kernel_rfl) (by kernel_rfl) ⟨(H.box 1 rfl).cell (j := 0) rfl, ⟨g82, rfl⟩, rfl⟩ ?_
   clear E; intro a E
   refine wpList_nil ?_
   refine th_n ?_
   refine E.cases (t := 46) rfl (fun hb_ E_ => ?_) (fun hb_ E_ => ?_)
   ·
    replace E := E_; clear E_
    have h83 : (andV .u8 (shrV .u8 ll ((List.getD nodes (Int.toNat ref27) (default : Nd)).P)) 1 : Int) = 1 := eq_of_beq hb_
    clear hb_; replace hP := ite_t h83 hP
    refine c_true E rfl ?_
    refine wp_region_lit ?_
    refine vn tbok 3 [.int .i64 ((List.getD nodes (Int.toNat ref27) (default : Nd)).Hi)] [(1, .int .i64 ((List.getD nodes (Int.toNat ref27) (default : Nd)).Hi))] [World.cell? w80 ⟨g75, 2, none⟩ = some (.int .i64 ((List.getD nodes (Int.toNat ref27) (default : Nd)).Hi))] E (by kernel_rfl) (by kernel_rfl) ((H.box 1 rfl).cell (j := 2) rfl) ?_
    clear E; intro a E
    refine wpList_nil ?_
    refine bl_n ?_
    refine th_n ?_
    refine wp_region_lit ?_
    obtain ⟨g84, hP⟩ := ask_inv hP
    refine vn tbok 2 [.int .i64 (x28 + 1)] [(9, .int .i64 (x28 + 1))] [IntKind.i64.wrap (x28 + 1) = x28 + 1] E (by kernel_rfl) (by kernel_rfl) (wrap_in g84) ?_
    clear E; intro a E
    refine wpList_nil ?_
    exact th_n ⟨m55, Nat.lt_succ_self _, (List.getD nodes (Int.toNat ref27) (default : Nd)).Hi, x28 + 1, E.pick _ ⟨rfl, rfl, rfl, rfl, trivial⟩, H.sel [0] rfl, hP⟩
   replace E := E_; clear E_
   have h85 : ¬ ((andV .u8 (shrV .u8 ll ((List.getD nodes (Int.toNat ref27) (default : Nd)).P)) 1 : Int) = 1) := ne_of_beq_false hb_
   clear hb_; replace hP := ite_f h85 hP
   refine c_false E rfl ?_
   refine wp_skip ?_
   refine bl_n ?_
   refine th_n ?_
   refine wp_region_lit ?_
   obtain ⟨g86, hP⟩ := ask_inv hP
   refine vn tbok 2 [.int .i64 (x28 + 1)] [(9, .int .i64 (x28 + 1))] [IntKind.i64.wrap (x28 + 1) = x28 + 1] E (by kernel_rfl) (by kernel_rfl) (wrap_in g86) ?_
   clear E; intro a E
   refine wpList_nil ?_
   exact th_n ⟨m55, Nat.lt_succ_self _, (List.getD nodes (Int.toNat ref27) (default : Nd)).Lo, x28 + 1, E.pick _ ⟨rfl, rfl, rfl, rfl, trivial⟩, H.sel [0] rfl, hP⟩
  replace E := E_; clear E_
  have h87 : ¬ (x28 < 9) := of_decide_eq_false hb_
  clear hb_; replace hP := ite_f h87 hP
  refine c_false E rfl ?_
  refine wp_exit ?_
  refine th_exit ?_
  have hx_ := Option.some.inj hP
  refine th_exit (.inl ⟨0, rfl, ?_⟩)
  exact ⟨rfl, (), E.pick _ trivial, H.sel [] rfl, hx_.symm⟩
 clear E H hL57; intro i_ a w59 hM_
 obtain ⟨rfl, x61, E, H, hx_⟩ := hM_
 subst hx_; have hP := elim_l hK58
 clear hK58
 refine bl_hit ?_
 refine th_n ?_
 refine wp_seq ?_
 refine wp_region_lit ?_
 refine vn tbok 2 [] [(6, .int .i64 0), (7, .bool false)] [] E (by kernel_rfl) (by kernel_rfl) trivial ?_
 clear E; intro a E
 refine wpList_nil ?_
 refine th_n ?_
 refine wp_ret ?_
 obtain rfl := Option.some.inj hP
 refine ret2 E rfl rfl rfl ?_
 exact ⟨_, rfl, rfl, H.sel [] rfl⟩

/-! (*rejoinder/moore.game).to -/
def moore_game_to (N : Nat) (g : (Int × (List Bool) × (List Int) × (List Nd)) × (Int × Int) × (List Int) × (List Int)) (q : Int) (ll : Int) : Option Int :=
  ask (idx q (List.length g.1.2.2.1)) <|
  Option.bind (guard_Go N g.1.2.2.2 (List.getD g.1.2.2.1 (Int.toNat q) 0) ll) fun r93 =>
  some r93.1
set_option maxRecDepth 100000 in
set_option maxHeartbeats 4000000 in
theorem moore_game_to_calls {N : Nat} {S Fa : Nat → Prop} {w0 : World} {r : Int} (b1 : Nat) (o2 : Nat) (g : (Int × (List Bool) × (List Int) × (List Nd)) × (Int × Int) × (List Int) × (List Int)) (q : Int) (ll : Int) (H : Hp S Fa w0 w0 [.ro false cS87 (some ⟨b1, o2, none⟩) ([g])]) (hP : moore_game_to N g q ll = some r) :
    Calls Try.prog 50 #[.pointer (some ⟨b1, o2, none⟩), .int .i64 q, .int .u8 ll] w0 fun e w' => ∃ v, e = .returned v ∧ v = .int .i64 r ∧ Hp S Fa w0 w' [] := by
 refine enterV (n := 28) Try.func50 rfl rfl rfl ?_
 intro a E
 replace E := E.pick [(0, .pointer (some ⟨b1, o2, none⟩)), (1, .int .i64 q), (2, .int .u8 ll)] ⟨rfl, rfl, rfl, trivial⟩
 rw [moore_game_to] at hP
 refine wp_seq ?_
 refine wp_region_lit ?_
 refine vn tbok 1 [] [] [] E (by kernel_rfl) (by kernel_rfl) trivial ?_
 clear E; intro a E
 refine wpList_nil ?_
 refine th_n ?_
 refine wp_seq ?_
 obtain ⟨Fz4, cs6, HF5, hK7, hc8⟩ := H.elem 0 false (el_ro rfl) g (idx_one _)
 obtain ⟨_, _, rfl, hK9, hK10⟩ := hK7
 obtain ⟨_, _, rfl, hK11, hK12⟩ := hK9
 obtain rfl := hK11
 obtain ⟨_, _, rfl, hK13, hK14⟩ := hK12
 obtain ⟨A15, c16, rfl, hk17, hC18⟩ := hK13
 obtain ⟨_, _, rfl, hK20, hK21⟩ := hK14
 obtain ⟨A22, c23, rfl, hk24, hC25⟩ := hK20
 obtain ⟨A27, c28, rfl, hk29, hC30⟩ := hK21
 obtain ⟨_, _, rfl, hK32, hK33⟩ := hK10
 obtain rfl := hK32
 obtain ⟨_, _, rfl, hK34, hK35⟩ := hK33
 obtain ⟨A36, c37, rfl, hk38, hC39⟩ := hK34
 obtain ⟨A41, c42, rfl, hk43, hC44⟩ := hK35
 replace HF5 := HF5.ins hC18
 replace HF5 := HF5.ins hC25
 replace HF5 := HF5.ins hC30
 replace HF5 := HF5.ins hC39
 replace HF5 := HF5.ins hC44
 replace H := HF5.hp; try dsimp only [addE] at H
 have hc46 : cellsAt w0 b1 (o2) [.int .i64 g.1.1, .slice A15 (List.length g.1.2.1) c16, .slice A22 (List.length g.1.2.2.1) c23, .slice A27 (List.length g.1.2.2.2) c28, .int .u8 g.2.1.1, .int .u8 g.2.1.2, .slice A36 (List.length g.2.2.1) c37, .slice A41 (List.length g.2.2.2) c42] := hc8
 obtain ⟨Fz47, cs49, HF48, hK50, hc51⟩ := H.elem 0 false (el_ro rfl) g (idx_one _)
 obtain ⟨_, _, rfl, hK52, hK53⟩ := hK50
 obtain ⟨_, _, rfl, hK54, hK55⟩ := hK52
 obtain rfl := hK54
 obtain ⟨_, _, rfl, hK56, hK57⟩ := hK55
 obtain ⟨A58, c59, rfl, hk60, hC61⟩ := hK56
 obtain ⟨_, _, rfl, hK63, hK64⟩ := hK57
 obtain ⟨A65, c66, rfl, hk67, hC68⟩ := hK63
 obtain ⟨A70, c71, rfl, hk72, hC73⟩ := hK64
 obtain ⟨_, _, rfl, hK75, hK76⟩ := hK53
 obtain rfl := hK75
 obtain ⟨_, _, rfl, hK77, hK78⟩ := hK76
 obtain ⟨A79, c80, rfl, hk81, hC82⟩ := hK77
 obtain ⟨A84, c85, rfl, hk86, hC87⟩ := hK78
 replace HF48 := HF48.ins hC61
 replace HF48 := HF48.ins hC68
 replace HF48 := HF48.ins hC73
 replace HF48 := HF48.ins hC82
 replace HF48 := HF48.ins hC87
 replace H := HF48.hp; try dsimp only [addE] at H
 have hc89 : cellsAt w0 b1 (o2) [.int .i64 g.1.1, .slice A58 (List.length g.1.2.1) c59, .slice A65 (List.length g.1.2.2.1) c66, .slice A70 (List.length g.1.2.2.2) c71, .int .u8 g.2.1.1, .int .u8 g.2.1.2, .slice A79 (List.length g.2.2.1) c80, .slice A84 (List.length g.2.2.2) c85] := hc51
 obtain ⟨g90, hP⟩ := ask_inv hP
 obtain ⟨b91, o92, e_b91⟩ := (H.rd 7 rds_ro).addr (idx_pos g90)
 subst e_b91
 obtain ⟨r93, h94, hP⟩ := bind_inv hP
 have HR105 := H
 refine dr_start (S := fun w_ => Chg (atL []) w0 w_) (by kernel_rfl) ?_
 intro w102 hc103
 have HS104 : Chg (atL []) w0 w102 := hc103.mono (fun _ _ h_ => h_.elim)
 replace H := H.ext hc103
 refine dn tbok (by kernel_rfl) [0, 1, 2, 3, 4, 5, 6, 7, 8, 9, 10, 11, 12, 13] [.slice A27 (List.length g.1.2.2.2) c28, .slice (some ⟨b91, o92, none⟩) (List.length g.1.2.2.1) c66, .int .i64 (List.getD g.1.2.2.1 (Int.toNat q) 0)] [(14, .slice A27 (List.length g.1.2.2.2) c28), (22, .int .i64 (List.getD g.1.2.2.1 (Int.toNat q) 0)), (23, .int .u8 ll)] (fun w_ => [World.cell? w_ ⟨b1, o2 + 3, none⟩ = some (.slice A27 (List.length g.1.2.2.2) c28), World.cell? w_ ⟨b1, o2 + 2, none⟩ = some (.slice (some ⟨b91, o92, none⟩) (List.length g.1.2.2.1) c66), 0 ≤ q ∧ q < (((List.length g.1.2.2.1) : Nat) : Int), World.cell? w_ ⟨b91, o92 + (Int.toNat q) * 1, none⟩ = some (.int .i64 (List.getD g.1.2.2.1 (Int.toNat q) 0))]) 6 E (fun _ _ => by kernel_rfl) (by kernel_rfl) (fun w_ hS_ => ⟨hS_.cell (hc46.get 3 _ rfl) (HR105.blk [] 0 rds_ro (idx_pos (idx_one _)) rfl), hS_.cell (hc89.get 2 _ rfl) (HR105.blk [] 0 rds_ro (idx_pos (idx_one _)) rfl), g90, Rds.at1 (HR105.rdk [] hS_ 7 rds_ro rfl) 0 g90⟩) (by kernel_rfl) HS104 ?_
 clear E; intro a E
 refine wpAnyH_all (rs := [14]) (by kernel_rfl) (by simp) ?_
 refine all1 ?_
 refine wpOp_of_list rfl ?_
 obtain ⟨Fa106, Hc107, hb108⟩ := H.call [] [(3, false)] rfl rfl trivial
 refine e_call E rfl rfl Try.func73 rfl rfl rfl (guard_Go_calls A27 c28 g.1.2.2.2 (List.getD g.1.2.2.1 (Int.toNat q) 0) ll hk29 Hc107 h94) ?_
 rintro v109 w110 a ⟨rfl, HR111⟩ E_
 replace E := E_ _ rfl; clear E_
 obtain ⟨H_, hc112⟩ := hb108 _ _ HR111 rfl
 replace HS104 := HS104.ext (callS_ext hc112)
 replace H := H_; clear H_; try dsimp only [setn, addE, goneL] at H
 refine wpList_nil ?_
 refine th_n ⟨HS104, ?_⟩
 refine dn tbok (by kernel_rfl) [15, 16, 17, 18, 19] [] [(7, .int .i64 r93.1)] (fun w_ => []) 0 E (fun _ _ => by kernel_rfl) (by kernel_rfl) (fun w_ hS_ => trivial) (by kernel_rfl) HS104 ?_
 clear E; intro a E
 refine dr_done (by kernel_rfl) ?_
 clear HS104 HR105
 refine th_n ?_
 refine wp_seq ?_
 refine wp_region_lit ?_
 refine vn tbok 2 [] [(6, .int .i64 r93.1)] [] E (by kernel_rfl) (by kernel_rfl) trivial ?_
 clear E; intro a E
 refine wpList_nil ?_
 refine th_n ?_
 refine wp_ret ?_
 obtain rfl := Option.some.inj hP
 refine ret1 E rfl rfl ?_
 exact ⟨_, rfl, rfl, H.sel [] rfl⟩

/-! (*rejoinder/moore.game).worst -/
def moore_game_worst_l0 (N : Nat) (g : (Int × (List Bool) × (List Int) × (List Nd)) × (Int × Int) × (List Int) × (List Int)) (ranks : List Int) (q : Int) (mine : Int) : Nat → Int → Bool → Int → Option (Int × Bool)
  | 0, _, _, _ => none
  | m94 + 1, out68, never69, x70 =>
    if x70 < (((List.length g.2.2.2) : Nat) : Int) then
      ask (idx x70 (List.length g.2.2.2)) <|
      Option.bind (moore_game_to N g q (orV .u8 mine (List.getD g.2.2.2 (Int.toNat x70) 0))) fun r105 =>
      ask (idx r105 (List.length ranks)) <|
      if never69 = true then
        ask (in64 (x70 + 1)) <|
        moore_game_worst_l0 N g ranks q mine m94 (maxL out68 [(List.getD ranks (Int.toNat r105) 0)]) true (x70 + 1)
      else
        ask (in64 (x70 + 1)) <|
        moore_game_worst_l0 N g ranks q mine m94 (maxL out68 [(List.getD ranks (Int.toNat r105) 0)]) (decide ((List.getD ranks (Int.toNat r105) 0) < 0)) (x70 + 1)
    else
      some (out68, never69)
def moore_game_worst (N : Nat) (g : (Int × (List Bool) × (List Int) × (List Nd)) × (Int × Int) × (List Int) × (List Int)) (ranks : List Int) (q : Int) (mine : Int) : Option Int :=
  Option.bind (moore_game_worst_l0 N g ranks q mine N 0 false 0) fun x95 =>
  if x95.2 = true then
    some (-1)
  else
    some x95.1
set_option maxRecDepth 100000 in
set_option maxHeartbeats 4000000 in
theorem moore_game_worst_calls {N : Nat} {S Fa : Nat → Prop} {w0 : World} {r : Int} (b1 : Nat) (o2 : Nat) (A4 : Option Addr) (c5 : Nat) (g : (Int × (List Bool) × (List Int) × (List Nd)) × (Int × Int) × (List Int) × (List Int)) (ranks : List Int) (q : Int) (mine : Int) (hk6 : List.length ranks ≤ c5) (H : Hp S Fa w0 w0 [.ro false cS87 (some ⟨b1, o2, none⟩) ([g]), .ro false (cInt .i64) A4 ranks]) (hP : moore_game_worst N g ranks q mine = some r) :
    Calls Try.prog 60 #[.pointer (some ⟨b1, o2, none⟩), .slice A4 (List.length ranks) c5, .int .i64 q, .int .u8 mine] w0 fun e w' => ∃ v, e = .returned v ∧ v = .int .i64 r ∧ Hp S Fa w0 w' [] := by
 refine enterV (n := 43) Try.func60 rfl rfl rfl ?_
 intro a E
 replace E := E.pick [(0, .pointer (some ⟨b1, o2, none⟩)), (1, .slice A4 (List.length ranks) c5), (2, .int .i64 q), (3, .int .u8 mine)] ⟨rfl, rfl, rfl, rfl, trivial⟩
 rw [moore_game_worst] at hP
 refine wp_seq ?_
 refine wp_region_lit ?_
 refine vn tbok 1 [] [] [] E (by kernel_rfl) (by kernel_rfl) trivial ?_
 clear E; intro a E
 refine wpList_nil ?_
 refine th_n ?_
 refine wp_seq ?_
 refine wp_region_lit ?_
 refine vn tbok 2 [] [(9, .int .i64 0), (10, .bool false)] [] E (by kernel_rfl) (by kernel_rfl) trivial ?_
 clear E; intro a E
 refine wpList_nil ?_
 refine th_n ?_
 refine wp_seq ?_
 refine wp_seq ?_
 refine wp_region_lit ?_
 obtain ⟨Fz8, cs10, HF9, hK11, hc12⟩ := H.elem 0 false (el_ro rfl) g (idx_one _)
 obtain ⟨_, _, rfl, hK13, hK14⟩ := hK11
 obtain ⟨_, _, rfl, hK15, hK16⟩ := hK13
 obtain rfl := hK15
 obtain ⟨_, _, rfl, hK17, hK18⟩ := hK16
 obtain ⟨A19, c20, rfl, hk21, hC22⟩ := hK17
 obtain ⟨_, _, rfl, hK24, hK25⟩ := hK18
 obtain ⟨A26, c27, rfl, hk28, hC29⟩ := hK24
 obtain ⟨A31, c32, rfl, hk33, hC34⟩ := hK25
 obtain ⟨_, _, rfl, hK36, hK37⟩ := hK14
 obtain rfl := hK36
 obtain ⟨_, _, rfl, hK38, hK39⟩ := hK37
 obtain ⟨A40, c41, rfl, hk42, hC43⟩ := hK38
 obtain ⟨A45, c46, rfl, hk47, hC48⟩ := hK39
 replace HF9 := HF9.ins hC22
 replace HF9 := HF9.ins hC29
 replace HF9 := HF9.ins hC34
 replace HF9 := HF9.ins hC43
 replace HF9 := HF9.ins hC48
 replace H := HF9.hp; try dsimp only [addE] at H
 have hc50 : cellsAt w0 b1 (o2) [.int .i64 g.1.1, .slice A19 (List.length g.1.2.1) c20, .slice A26 (List.length g.1.2.2.1) c27, .slice A31 (List.length g.1.2.2.2) c32, .int .u8 g.2.1.1, .int .u8 g.2.1.2, .slice A40 (List.length g.2.2.1) c41, .slice A45 (List.length g.2.2.2) c46] := hc12
 refine vn tbok 6 [.slice A45 (List.length g.2.2.2) c46] [(17, .slice A45 (List.length g.2.2.2) c46), (18, .int .i64 (((List.length g.2.2.2) : Nat) : Int)), (19, .int .i64 0)] [World.cell? w0 ⟨b1, o2 + 7, none⟩ = some (.slice A45 (List.length g.2.2.2) c46)] E (by kernel_rfl) (by kernel_rfl) (hc50.get 7 _ rfl) ?_
 clear E; intro a E
 refine wpList_nil ?_
 refine th_n ?_
 refine wp_block ?_
 obtain ⟨x95, hL96, hK97⟩ := bind_inv hP
 clear hP
 refine loop_cut (fun i_ a w_ => (i_ = 0 ∧ ∃ (x100 : Int × Bool), Fr a 43 [(9, .int .i64 x100.1), (10, .bool x100.2)] ∧ Hp S Fa w0 w_ [] ∧ x95 = x100)) ?_ ?_
 ·
  refine loopV (fun m99 a w98 => ∃ (out68 : Int) (never69 : Bool) (x70 : Int), Fr a 43 [(0, .pointer (some ⟨b1, o2, none⟩)), (1, .slice A4 (List.length ranks) c5), (2, .int .i64 q), (3, .int .u8 mine), (9, .int .i64 out68), (10, .bool never69), (17, .slice A45 (List.length g.2.2.2) c46), (18, .int .i64 (((List.length g.2.2.2) : Nat) : Int)), (19, .int .i64 x70)] ∧ Hp S Fa w0 w98 [.ro false cS87 (some ⟨b1, o2, none⟩) ([g]), .ro false (cInt .i64) A4 ranks, .ro false (cInt .u8) A45 g.2.2.2] ∧ moore_game_worst_l0 N g ranks q mine m99 out68 never69 x70 = some x95) N ?_ ?_
  ·
   exact ⟨0, false, 0, E.pick _ ⟨rfl, rfl, rfl, rfl, rfl, rfl, rfl, rfl, rfl, trivial⟩, H.sel [0, 1, 6] rfl, hL96⟩
  clear E H hL96; intro m99 a w98 hI_
  obtain ⟨out68, never69, x70, E, H, hP⟩ := hI_
  obtain ⟨m94, rfl⟩ : ∃ q_, m99 = q_ + 1 := by cases m99 with | zero => rw [moore_game_worst_l0] at hP; cases hP | succ q_ => exact ⟨q_, rfl⟩
  rw [moore_game_worst_l0] at hP
  refine wp_seq ?_
  refine wp_region_lit ?_
  refine vn tbok 1 [] [(20, .bool (decide (x70 < (((List.length g.2.2.2) : Nat) : Int))))] [] E (by kernel_rfl) (by kernel_rfl) trivial ?_
  clear E; intro a E
  refine wpList_nil ?_
  refine th_n ?_
  refine wp_seq ?_
  refine E.cases (t := 20) rfl (fun hb_ E_ => ?_) (fun hb_ E_ => ?_)
  ·
   replace E := E_; clear E_
   have h101 : x70 < (((List.length g.2.2.2) : Nat) : Int) := of_decide_eq_true hb_
   clear hb_; replace hP := ite_t h101 hP
   refine c_true E rfl ?_
   refine wp_skip ?_
   refine th_n ?_
   refine wp_seq ?_
   refine wp_block ?_
   refine wp_seq ?_
   refine wp_region_lit ?_
   obtain ⟨g102, hP⟩ := ask_inv hP
   obtain ⟨b103, o104, e_b103⟩ := (H.rd 2 rds_ro).addr (idx_pos g102)
   subst e_b103
   refine vn tbok 3 [.int .u8 (List.getD g.2.2.2 (Int.toNat x70) 0)] [(12, .int .u8 (List.getD g.2.2.2 (Int.toNat x70) 0))] [0 ≤ x70 ∧ x70 < (((List.length g.2.2.2) : Nat) : Int), World.cell? w98 ⟨b103, o104 + (Int.toNat x70) * 1, none⟩ = some (.int .u8 (List.getD g.2.2.2 (Int.toNat x70) 0))] E (by kernel_rfl) (by kernel_rfl) ⟨g102, Rds.at1 (H.rd 2 rds_ro) 0 g102⟩ ?_
   clear E; intro a E
   refine wpList_nil ?_
   refine th_n ?_
   refine wp_seq ?_
   refine wp_region_lit ?_
   refine vn tbok 6 [.int .u8 (orV .u8 mine (List.getD g.2.2.2 (Int.toNat x70) 0))] [(23, .slice A4 (List.length ranks) c5), (24, .pointer (some ⟨b1, o2, none⟩)), (25, .int .i64 q), (28, .int .u8 (orV .u8 mine (List.getD g.2.2.2 (Int.toNat x70) 0)))] [IntKind.u8.wrap (BitVec.ofInt (IntKind.bits .u8) mine ||| BitVec.ofInt (IntKind.bits .u8) (List.getD g.2.2.2 (Int.toNat x70) 0)).toNat = orV .u8 mine (List.getD g.2.2.2 (Int.toNat x70) 0)] E (by kernel_rfl) (by kernel_rfl) (rfl) ?_
   clear E; intro a E
   obtain ⟨r105, h106, hP⟩ := bind_inv hP
   obtain ⟨Fa107, Hc108, hb109⟩ := H.call [] [(0, false)] rfl rfl trivial
   refine e_call E rfl rfl Try.func50 rfl rfl rfl (moore_game_to_calls b1 o2 g q (orV .u8 mine (List.getD g.2.2.2 (Int.toNat x70) 0))  Hc108 h106) ?_
   rintro v110 w111 a ⟨rfl, HR112⟩ E_
   replace E := E_ _ rfl; clear E_
   obtain ⟨H_, hc113⟩ := hb109 _ _ HR112 rfl
   replace H := H_; clear H_; try dsimp only [setn, addE, goneL] at H
   obtain ⟨g114, hP⟩ := ask_inv hP
   obtain ⟨b115, o116, e_b115⟩ := (H.rd 1 rds_ro).addr (idx_pos g114)
   subst e_b115
   refine vn tbok 3 [.int .i64 (List.getD ranks (Int.toNat r105) 0)] [(13, .int .i64 (List.getD ranks (Int.toNat r105) 0))] [0 ≤ r105 ∧ r105 < (((List.length ranks) : Nat) : Int), World.cell? w111 ⟨b115, o116 + (Int.toNat r105) * 1, none⟩ = some (.int .i64 (List.getD ranks (Int.toNat r105) 0))] E (by kernel_rfl) (by kernel_rfl) ⟨g114, Rds.at1 (H.rd 1 rds_ro) 0 g114⟩ ?_
   clear E; intro a E
   refine wpList_nil ?_
   refine th_n ?_
   refine wp_region_lit ?_
   refine vn tbok 2 [] [(32, .int .i64 out68), (33, .int .i64 (List.getD ranks (Int.toNat r105) 0))] [] E (by kernel_rfl) (by kernel_rfl) trivial ?_
   clear E; intro a E
   refine e_max (x := out68) (xs := [(List.getD ranks (Int.toNat r105) 0)]) E rfl rfl rfl rfl ?_
   clear E; intro a E
   refine vn tbok 2 [] [(36, .bool never69)] [] E (by kernel_rfl) (by kernel_rfl) trivial ?_
   clear E; intro a E
   refine E.cases (t := 36) rfl (fun hb_ E_ => ?_) (fun hb_ E_ => ?_)
   ·
    replace E := E_; clear E_
    have h117 : never69 = true := hb_
    clear hb_; replace hP := ite_t h117 hP
    refine vn tbok 5 [] [(9, .int .i64 (maxL out68 [(List.getD ranks (Int.toNat r105) 0)])), (10, .bool true)] [] E (by kernel_rfl) (by kernel_rfl) trivial ?_
    clear E; intro a E
    refine wpList_nil ?_
    refine bl_n ?_
    refine th_n ?_
    refine wp_region_lit ?_
    obtain ⟨g118, hP⟩ := ask_inv hP
    refine vn tbok 2 [.int .i64 (x70 + 1)] [(19, .int .i64 (x70 + 1))] [IntKind.i64.wrap (x70 + 1) = x70 + 1] E (by kernel_rfl) (by kernel_rfl) (wrap_in g118) ?_
    clear E; intro a E
    refine wpList_nil ?_
    exact th_n ⟨m94, Nat.lt_succ_self _, (maxL out68 [(List.getD ranks (Int.toNat r105) 0)]), true, x70 + 1, E.pick _ ⟨rfl, rfl, rfl, rfl, rfl, rfl, rfl, rfl, rfl, trivial⟩, H.sel [0, 1, 2] rfl, hP⟩
   replace E := E_; clear E_
   have h119 : ¬ (never69 = true) := (ne_true_of_eq_false hb_)
   clear hb_; replace hP := ite_f h119 hP
   refine vn tbok 5 [] [(9, .int .i64 (maxL out68 [(List.getD ranks (Int.toNat r105) 0)])), (10, .bool (decide ((List.getD ranks (Int.toNat r105) 0) < 0)))] [] E (by kernel_rfl) (by kernel_rfl) trivial ?_
   clear E; intro a E
   refine wpList_nil ?_
   refine bl_n ?_
   refine th_n ?_
   refine wp_region_lit ?_
   obtain ⟨g120, hP⟩ := ask_inv hP
   refine vn tbok 2 [.int .i64 (x70 + 1)] [(19, .int .i64 (x70 + 1))] [IntKind.i64.wrap (x70 + 1) = x70 + 1] E (by kernel_rfl) (by kernel_rfl) (wrap_in g120) ?_
   clear E; intro a E
   refine wpList_nil ?_
   exact th_n ⟨m94, Nat.lt_succ_self _, (maxL out68 [(List.getD ranks (Int.toNat r105) 0)]), decide ((List.getD ranks (Int.toNat r105) 0) < 0), x70 + 1, E.pick _ ⟨rfl, rfl, rfl, rfl, rfl, rfl, rfl, rfl, rfl, trivial⟩, H.sel [0, 1, 2] rfl, hP⟩
  replace E := E_; clear E_
  have h121 : ¬ (x70 < (((List.length g.2.2.2) : Nat) : Int)) := of_decide_eq_false hb_
  clear hb_; replace hP := ite_f h121 hP
  refine c_false E rfl ?_
  refine wp_exit ?_
  refine th_exit ?_
  have hx_ := Option.some.inj hP
  refine th_exit (.inl ⟨0, rfl, ?_⟩)
  exact ⟨rfl, (out68, never69), E.pick _ ⟨rfl, rfl, trivial⟩, H.sel [] rfl, hx_.symm⟩
 clear E H hL96; intro i_ a w98 hM_
 obtain ⟨rfl, x100, E, H, hx_⟩ := hM_
 subst hx_; have hP := hK97; clear hK97
 refine bl_hit ?_
 refine th_n ?_
 refine wp_seq ?_
 refine wp_seq ?_
 refine wp_region_lit ?_
 refine vn tbok 1 [] [(41, .bool x95.2)] [] E (by kernel_rfl) (by kernel_rfl) trivial ?_
 clear E; intro a E
 refine wpList_nil ?_
 refine th_n ?_
 refine E.cases (t := 41) rfl (fun hb_ E_ => ?_) (fun hb_ E_ => ?_)
 ·
  replace E := E_; clear E_
  have h122 : x95.2 = true := hb_
  clear hb_; replace hP := ite_t h122 hP
  refine c_true E rfl ?_
  refine wp_seq ?_
  refine wp_region_lit ?_
  refine vn tbok 1 [] [(8, .int .i64 (-1))] [] E (by kernel_rfl) (by kernel_rfl) trivial ?_
  clear E; intro a E
  refine wpList_nil ?_
  refine th_n ?_
  refine wp_ret ?_
  refine th_ret ?_
  obtain rfl := Option.some.inj hP
  refine ret1 E rfl rfl ?_
  exact ⟨_, rfl, rfl, H.sel [] rfl⟩
 replace E := E_; clear E_
 have h123 : ¬ (x95.2 = true) := (ne_true_of_eq_false hb_)
 clear hb_; replace hP := ite_f h123 hP
 refine c_false E rfl ?_
 refine wp_skip ?_
 refine th_n ?_
 refine wp_seq ?_
 refine wp_region_lit ?_
 refine vn tbok 2 [] [(8, .int .i64 x95.1)] [] E (by kernel_rfl) (by kernel_rfl) trivial ?_
 clear E; intro a E
 refine wpList_nil ?_
 refine th_n ?_
 refine wp_ret ?_
 obtain rfl := Option.some.inj hP
 refine ret1 E rfl rfl ?_
 exact ⟨_, rfl, rfl, H.sel [] rfl⟩

/-! (*rejoinder/moore.game).ranks -/
def moore_game_ranks_l0 (N : Nat) (g : (Int × (List Bool) × (List Int) × (List Nd)) × (Int × Int) × (List Int) × (List Int)) : Nat → (List Int) → Int → Option (List Int)
  | 0, _, _ => none
  | m128 + 1, out112, x113 =>
    if x113 < (((List.length g.1.2.1) : Nat) : Int) then
      ask (idx x113 (List.length g.1.2.1)) <|
      if (List.getD g.1.2.1 (Int.toNat x113) false) = true then
        ask (in64 (x113 + 1)) <|
        moore_game_ranks_l0 N g m128 out112 (x113 + 1)
      else
        ask (idx x113 (List.length out112)) <|
        ask (in64 (x113 + 1)) <|
        moore_game_ranks_l0 N g m128 (List.set out112 (Int.toNat x113) (-1)) (x113 + 1)
    else
      some out112
def moore_game_ranks_f5 (N : Nat) (g : (Int × (List Bool) × (List Int) × (List Nd)) × (Int × Int) × (List Int) × (List Int)) (out386 : List Int) (x765 : Int) (x1002 : Int) : Option Bool :=
    Option.bind (moore_game_worst N g (([] : List Int) ++ out386) x765 (List.getD g.2.2.1 (Int.toNat x1002) 0)) fun r1047 =>
    some (decide (0 ≤ r1047))
def moore_game_ranks_l4 (N : Nat) (g : (Int × (List Bool) × (List Int) × (List Nd)) × (Int × Int) × (List Int) × (List Int)) (out386 : List Int) (x765 : Int) : Nat → Int → Option (Unit ⊕ Int)
  | 0, _ => none
  | m1023 + 1, x1002 =>
    if x1002 < (((List.length g.2.2.1) : Nat) : Int) then
      ask (idx x1002 (List.length g.2.2.1)) <|
      Option.bind (moore_game_ranks_f5 N g out386 x765 x1002) fun x1044 =>
      if x1044 = true then
        some (Sum.inr x1002)
      else
        ask (in64 (x1002 + 1)) <|
        moore_game_ranks_l4 N g out386 x765 m1023 (x1002 + 1)
    else
      some (Sum.inl ())
def moore_game_ranks_f3 (N : Nat) (g : (Int × (List Bool) × (List Int) × (List Nd)) × (Int × Int) × (List Int) × (List Int)) (out386 : List Int) (x765 : Int) : Option Int :=
    Option.bind (moore_game_ranks_l4 N g out386 x765 N 0) fun x1024 =>
    Sum.elim (fun x1029 =>
      some (-1))
     (fun x1062 =>
      some x1062) x1024
def moore_game_ranks_l2 (N : Nat) (g : (Int × (List Bool) × (List Int) × (List Nd)) × (Int × Int) × (List Int) × (List Int)) (out386 : List Int) (k387 : Int) : Nat → (List Int) → Bool → Int → Option ((List Int) × Bool)
  | 0, _, _, _ => none
  | m877 + 1, out763, more764, x765 =>
    if x765 < (((List.length (([] : List Int) ++ out386)) : Nat) : Int) then
      ask (idx x765 (List.length (([] : List Int) ++ out386))) <|
      if (List.getD (([] : List Int) ++ out386) (Int.toNat x765) 0) < 0 then
        Option.bind (moore_game_ranks_f3 N g out386 x765) fun x980 =>
        if 0 ≤ x980 then
          ask (idx x765 (List.length out763)) <|
          ask (in64 (x765 + 1)) <|
          moore_game_ranks_l2 N g out386 k387 m877 (List.set out763 (Int.toNat x765) k387) true (x765 + 1)
        else
          ask (in64 (x765 + 1)) <|
          moore_game_ranks_l2 N g out386 k387 m877 out763 more764 (x765 + 1)
      else
        ask (in64 (x765 + 1)) <|
        moore_game_ranks_l2 N g out386 k387 m877 out763 more764 (x765 + 1)
    else
      some (out763, more764)
def moore_game_ranks_l1 (N : Nat) (g : (Int × (List Bool) × (List Int) × (List Nd)) × (Int × Int) × (List Int) × (List Int)) : Nat → (List Int) → Int → Bool → Option (List Int)
  | 0, _, _, _ => none
  | m631 + 1, out386, k387, more388 =>
    if more388 = true then
      ask (List.length ([] : List Int) + List.length out386 ≤ 1000000000) <|
      Option.bind (moore_game_ranks_l2 N g out386 k387 N out386 false 0) fun x878 =>
      ask (in64 (k387 + 1)) <|
      moore_game_ranks_l1 N g m631 x878.1 (k387 + 1) x878.2
    else
      some out386
def moore_game_ranks (N : Nat) (g : (Int × (List Bool) × (List Int) × (List Nd)) × (Int × Int) × (List Int) × (List Int)) : Option (List Int) :=
  ask (0 ≤ (((List.length g.1.2.1) : Nat) : Int) ∧ (((List.length g.1.2.1) : Nat) : Int) ≤ 1000000000) <|
  Option.bind (moore_game_ranks_l0 N g N (List.replicate (Int.toNat (((List.length g.1.2.1) : Nat) : Int)) (0 : Int)) 0) fun x129 =>
  Option.bind (moore_game_ranks_l1 N g N x129 1 true) fun x632 =>
  some x632
set_option maxRecDepth 100000 in
set_option maxHeartbeats 4000000 in
theorem moore_game_ranks_calls {N : Nat} {S Fa : Nat → Prop} {w0 : World} {r : List Int} (b1 : Nat) (o2 : Nat) (g : (Int × (List Bool) × (List Int) × (List Nd)) × (Int × Int) × (List Int) × (List Int)) (H : Hp S Fa w0 w0 [.ro false cS87 (some ⟨b1, o2, none⟩) ([g])]) (hP : moore_game_ranks N g = some r) :
    Calls Try.prog 32 #[.pointer (some ⟨b1, o2, none⟩)] w0 fun e w' => ∃ v, e = .returned v ∧ ∃ (A1078 : Option Addr) (c1079 : Nat), v = .slice A1078 (List.length r) c1079 ∧ Hp S Fa w0 w' [.row true (cInt .i64) 3 A1078 c1079 r] := by
 refine enterV (n := 65) Try.func32 rfl rfl rfl ?_
 intro a E
 replace E := E.pick [(0, .pointer (some ⟨b1, o2, none⟩))] ⟨rfl, trivial⟩
 rw [moore_game_ranks] at hP
 refine wp_seq ?_
 refine wp_region_lit ?_
 refine h_box H E rfl rfl rfl ?_
 intro w5 g4 a hc6 hg8 H_ E_
 replace E := E_ _ rfl; clear E_
 replace H := H_; clear H_; try dsimp only [setn, addE, goneL] at H
 refine vn tbok 1 [] [] [] E (by kernel_rfl) (by kernel_rfl) trivial ?_
 clear E; intro a E
 refine wpList_nil ?_
 refine th_n ?_
 refine wp_seq ?_
 refine wp_region_lit ?_
 obtain ⟨Fz9, cs11, HF10, hK12, hc13⟩ := H.elem 0 false (el_ro rfl) g (idx_one _)
 obtain ⟨_, _, rfl, hK14, hK15⟩ := hK12
 obtain ⟨_, _, rfl, hK16, hK17⟩ := hK14
 obtain rfl := hK16
 obtain ⟨_, _, rfl, hK18, hK19⟩ := hK17
 obtain ⟨A20, c21, rfl, hk22, hC23⟩ := hK18
 obtain ⟨_, _, rfl, hK25, hK26⟩ := hK19
 obtain ⟨A27, c28, rfl, hk29, hC30⟩ := hK25
 obtain ⟨A32, c33, rfl, hk34, hC35⟩ := hK26
 obtain ⟨_, _, rfl, hK37, hK38⟩ := hK15
 obtain rfl := hK37
 obtain ⟨_, _, rfl, hK39, hK40⟩ := hK38
 obtain ⟨A41, c42, rfl, hk43, hC44⟩ := hK39
 obtain ⟨A46, c47, rfl, hk48, hC49⟩ := hK40
 replace HF10 := HF10.ins hC23
 replace HF10 := HF10.ins hC30
 replace HF10 := HF10.ins hC35
 replace HF10 := HF10.ins hC44
 replace HF10 := HF10.ins hC49
 replace H := HF10.hp; try dsimp only [addE] at H
 have hc51 : cellsAt w5 b1 (o2) [.int .i64 g.1.1, .slice A20 (List.length g.1.2.1) c21, .slice A27 (List.length g.1.2.2.1) c28, .slice A32 (List.length g.1.2.2.2) c33, .int .u8 g.2.1.1, .int .u8 g.2.1.2, .slice A41 (List.length g.2.2.1) c42, .slice A46 (List.length g.2.2.2) c47] := hc13
 refine vn tbok 6 [.pointer (some ⟨b1, o2, none⟩), .slice A20 (List.length g.1.2.1) c21] [(16, .int .i64 (((List.length g.1.2.1) : Nat) : Int))] [World.cell? w5 ⟨g4, 0, none⟩ = some (.pointer (some ⟨b1, o2, none⟩)), World.cell? w5 ⟨b1, o2 + 1, none⟩ = some (.slice A20 (List.length g.1.2.1) c21)] E (by kernel_rfl) (by kernel_rfl) ⟨(H.box 1 rfl).cell (j := 0) rfl, hc51.get 1 _ rfl⟩ ?_
 clear E; intro a E
 obtain ⟨g52, hP⟩ := ask_inv hP
 refine h_make (cInt .i64) (0 : Int) H E rfl rfl tbok rfl rfl rfl rfl ⟨g52.1, Int.le_refl _, g52.2⟩ rfl rfl rfl (fun _ _ => rfl) ?_
 intro w54 g53 a hc55 hg57 H_ E_
 replace E := E_ _ rfl; clear E_
 replace H := H_; clear H_; try dsimp only [setn, addE, goneL] at H
 refine vn tbok 1 [] [(3, .slice (some ⟨g53, 0, none⟩) (List.length (List.replicate (Int.toNat (((List.length g.1.2.1) : Nat) : Int)) (0 : Int))) (Int.toNat (((List.length g.1.2.1) : Nat) : Int)))] [] E (by kernel_rfl) (by kernel_rfl) trivial ?_
 clear E; intro a E
 refine wpList_nil ?_
 refine th_n ?_
 refine wp_seq ?_
 refine wp_seq ?_
 refine wp_region_lit ?_
 obtain ⟨Fz58, cs60, HF59, hK61, hc62⟩ := H.elem 0 false (el_ro rfl) g (idx_one _)
 obtain ⟨_, _, rfl, hK63, hK64⟩ := hK61
 obtain ⟨_, _, rfl, hK65, hK66⟩ := hK63
 obtain rfl := hK65
 obtain ⟨_, _, rfl, hK67, hK68⟩ := hK66
 obtain ⟨A69, c70, rfl, hk71, hC72⟩ := hK67
 obtain ⟨_, _, rfl, hK74, hK75⟩ := hK68
 obtain ⟨A76, c77, rfl, hk78, hC79⟩ := hK74
 obtain ⟨A81, c82, rfl, hk83, hC84⟩ := hK75
 obtain ⟨_, _, rfl, hK86, hK87⟩ := hK64
 obtain rfl := hK86
 obtain ⟨_, _, rfl, hK88, hK89⟩ := hK87
 obtain ⟨A90, c91, rfl, hk92, hC93⟩ := hK88
 obtain ⟨A95, c96, rfl, hk97, hC98⟩ := hK89
 replace HF59 := HF59.ins hC72
 replace HF59 := HF59.ins hC79
 replace HF59 := HF59.ins hC84
 replace HF59 := HF59.ins hC93
 replace HF59 := HF59.ins hC98
 replace H := HF59.hp; try dsimp only [addE] at H
 have hc100 : cellsAt w54 b1 (o2) [.int .i64 g.1.1, .slice A69 (List.length g.1.2.1) c70, .slice A76 (List.length g.1.2.2.1) c77, .slice A81 (List.length g.1.2.2.2) c82, .int .u8 g.2.1.1, .int .u8 g.2.1.2, .slice A90 (List.length g.2.2.1) c91, .slice A95 (List.length g.2.2.2) c96] := hc62
 refine vn tbok 7 [.pointer (some ⟨b1, o2, none⟩), .slice A69 (List.length g.1.2.1) c70] [(22, .slice A69 (List.length g.1.2.1) c70), (23, .int .i64 (((List.length g.1.2.1) : Nat) : Int)), (24, .int .i64 0)] [World.cell? w54 ⟨g4, 0, none⟩ = some (.pointer (some ⟨b1, o2, none⟩)), World.cell? w54 ⟨b1, o2 + 1, none⟩ = some (.slice A69 (List.length g.1.2.1) c70)] E (by kernel_rfl) (by kernel_rfl) ⟨(H.box 1 rfl).cell (j := 0) rfl, hc100.get 1 _ rfl⟩ ?_
 clear E; intro a E
 refine wpList_nil ?_
 refine th_n ?_
 refine wp_block ?_
 obtain ⟨x129, hL130, hK131⟩ := bind_inv hP
 clear hP
 refine loop_cut (fun i_ a w_ => (i_ = 0 ∧ ∃ (x134 : List Int), Fr a 65 [(1, .pointer (some ⟨g4, 0, none⟩)), (3, .slice (some ⟨g53, 0, none⟩) (List.length x134) (Int.toNat (((List.length g.1.2.1) : Nat) : Int)))] ∧ Hp S Fa w0 w_ [.ro false cS87 (some ⟨b1, o2, none⟩) ([g]), .box g4 62 [.pointer (some ⟨b1, o2, none⟩)], .rowx true (cInt .i64) 3 (some ⟨g53, 0, none⟩) (Int.toNat (((List.length g.1.2.1) : Nat) : Int)) x134 (List.replicate (Int.toNat (((List.length g.1.2.1) : Nat) : Int) - Int.toNat (((List.length g.1.2.1) : Nat) : Int)) (0 : Int))] ∧ x129 = x134)) ?_ ?_
 ·
  refine loopV (fun m133 a w132 => ∃ (out112 : List Int) (x113 : Int), Fr a 65 [(1, .pointer (some ⟨g4, 0, none⟩)), (3, .slice (some ⟨g53, 0, none⟩) (List.length out112) (Int.toNat (((List.length g.1.2.1) : Nat) : Int))), (22, .slice A69 (List.length g.1.2.1) c70), (23, .int .i64 (((List.length g.1.2.1) : Nat) : Int)), (24, .int .i64 x113)] ∧ Hp S Fa w0 w132 [.ro false cS87 (some ⟨b1, o2, none⟩) ([g]), .box g4 62 [.pointer (some ⟨b1, o2, none⟩)], .rowx true (cInt .i64) 3 (some ⟨g53, 0, none⟩) (Int.toNat (((List.length g.1.2.1) : Nat) : Int)) out112 (List.replicate (Int.toNat (((List.length g.1.2.1) : Nat) : Int) - Int.toNat (((List.length g.1.2.1) : Nat) : Int)) (0 : Int)), .ro false cBool A69 g.1.2.1] ∧ moore_game_ranks_l0 N g m133 out112 x113 = some x129) N ?_ ?_
  ·
   exact ⟨List.replicate (Int.toNat (((List.length g.1.2.1) : Nat) : Int)) (0 : Int), 0, E.pick _ ⟨rfl, rfl, rfl, rfl, rfl, trivial⟩, H.sel [0, 1, 7, 8] rfl, hL130⟩
  clear E H hL130; intro m133 a w132 hI_
  obtain ⟨out112, x113, E, H, hP⟩ := hI_
  obtain ⟨m128, rfl⟩ : ∃ q_, m133 = q_ + 1 := by cases m133 with | zero => rw [moore_game_ranks_l0] at hP; cases hP | succ q_ => exact ⟨q_, rfl⟩
  rw [moore_game_ranks_l0] at hP
  refine wp_seq ?_
  refine wp_region_lit ?_
  refine vn tbok 1 [] [(25, .bool (decide (x113 < (((List.length g.1.2.1) : Nat) : Int))))] [] E (by kernel_rfl) (by kernel_rfl) trivial ?_
  clear E; intro a E
  refine wpList_nil ?_
  refine th_n ?_
  refine wp_seq ?_
  refine E.cases (t := 25) rfl (fun hb_ E_ => ?_) (fun hb_ E_ => ?_)
  ·
   replace E := E_; clear E_
   have h135 : x113 < (((List.length g.1.2.1) : Nat) : Int) := of_decide_eq_true hb_
   clear hb_; replace hP := ite_t h135 hP
   refine c_true E rfl ?_
   refine wp_skip ?_
   refine th_n ?_
   refine wp_seq ?_
   refine wp_block ?_
   refine wp_seq ?_
   refine wp_region_lit ?_
   obtain ⟨g136, hP⟩ := ask_inv hP
   obtain ⟨b137, o138, e_b137⟩ := (H.rd 3 rds_ro).addr (idx_pos g136)
   subst e_b137
   refine vn tbok 5 [.bool (List.getD g.1.2.1 (Int.toNat x113) false)] [(4, .int .i64 x113), (5, .bool (List.getD g.1.2.1 (Int.toNat x113) false))] [0 ≤ x113 ∧ x113 < (((List.length g.1.2.1) : Nat) : Int), World.cell? w132 ⟨b137, o138 + (Int.toNat x113) * 1, none⟩ = some (.bool (List.getD g.1.2.1 (Int.toNat x113) false))] E (by kernel_rfl) (by kernel_rfl) ⟨g136, Rds.at1 (H.rd 3 rds_ro) false g136⟩ ?_
   clear E; intro a E
   refine wpList_nil ?_
   refine th_n ?_
   refine wp_seq ?_
   refine wp_region_lit ?_
   refine vn tbok 2 [] [(30, .bool (!(List.getD g.1.2.1 (Int.toNat x113) false)))] [] E (by kernel_rfl) (by kernel_rfl) trivial ?_
   clear E; intro a E
   refine wpList_nil ?_
   refine th_n ?_
   refine E.cases (t := 30) rfl (fun hb_ E_ => ?_) (fun hb_ E_ => ?_)
   ·
    replace E := E_; clear E_
    have h139 : ¬ ((List.getD g.1.2.1 (Int.toNat x113) false) = true) := (ne_true_of_eq_false (not_t hb_))
    clear hb_; replace hP := ite_f h139 hP
    refine c_true E rfl ?_
    refine wp_region_lit ?_
    obtain ⟨g140, hP⟩ := ask_inv hP
    refine vn tbok 3 [] [(33, .pointer (some ⟨g53, 0 + (Int.toNat x113) * 1, none⟩))] [0 ≤ x113 ∧ x113 < (((List.length out112) : Nat) : Int)] E (by kernel_rfl) (by kernel_rfl) (g140) ?_
    clear E; intro a E
    refine h_setx (g := g53) (i := x113) (-1) H 2 rfl E rfl rfl rfl rfl tbok rfl (fun _ HF_ => rfl) rfl g140 rfl ?_
    clear E; intro w141 a hc142 H_ E
    replace H := H_; clear H_; try dsimp only [setn, addE, goneL] at H
    have hn143 : (List.length out112) = (List.length (List.set out112 (Int.toNat x113) (-1))) := by simp only [List.length_set]
    replace E := E.same (t := 3) (u := .slice (some ⟨g53, 0, none⟩) (List.length (List.set out112 (Int.toNat x113) (-1))) (Int.toNat (((List.length g.1.2.1) : Nat) : Int))) rfl (congrArg (fun n_ => Value.slice (some ⟨g53, 0, none⟩) n_ (Int.toNat (((List.length g.1.2.1) : Nat) : Int))) hn143)
    refine wpList_nil ?_
    refine bl_n ?_
    refine th_n ?_
    refine wp_region_lit ?_
    obtain ⟨g144, hP⟩ := ask_inv hP
    refine vn tbok 2 [.int .i64 (x113 + 1)] [(24, .int .i64 (x113 + 1))] [IntKind.i64.wrap (x113 + 1) = x113 + 1] E (by kernel_rfl) (by kernel_rfl) (wrap_in g144) ?_
    clear E; intro a E
    refine wpList_nil ?_
    exact th_n ⟨m128, Nat.lt_succ_self _, List.set out112 (Int.toNat x113) (-1), x113 + 1, E.pick _ ⟨rfl, rfl, rfl, rfl, rfl, trivial⟩, H.sel [0, 1, 2, 3] rfl, hP⟩
   replace E := E_; clear E_
   have h145 : (List.getD g.1.2.1 (Int.toNat x113) false) = true := (not_f hb_)
   clear hb_; replace hP := ite_t h145 hP
   refine c_false E rfl ?_
   refine wp_skip ?_
   refine bl_n ?_
   refine th_n ?_
   refine wp_region_lit ?_
   obtain ⟨g146, hP⟩ := ask_inv hP
   refine vn tbok 2 [.int .i64 (x113 + 1)] [(24, .int .i64 (x113 + 1))] [IntKind.i64.wrap (x113 + 1) = x113 + 1] E (by kernel_rfl) (by kernel_rfl) (wrap_in g146) ?_
   clear E; intro a E
   refine wpList_nil ?_
   exact th_n ⟨m128, Nat.lt_succ_self _, out112, x113 + 1, E.pick _ ⟨rfl, rfl, rfl, rfl, rfl, trivial⟩, H.sel [0, 1, 2, 3] rfl, hP⟩
  replace E := E_; clear E_
  have h147 : ¬ (x113 < (((List.length g.1.2.1) : Nat) : Int)) := of_decide_eq_false hb_
  clear hb_; replace hP := ite_f h147 hP
  refine c_false E rfl ?_
  refine wp_exit ?_
  refine th_exit ?_
  have hx_ := Option.some.inj hP
  refine th_exit (.inl ⟨0, rfl, ?_⟩)
  exact ⟨rfl, out112, E.pick _ ⟨rfl, rfl, trivial⟩, H.sel [0, 1, 2] rfl, hx_.symm⟩
 clear E H hL130; intro i_ a w132 hM_
 obtain ⟨rfl, x134, E, H, hx_⟩ := hM_
 subst hx_; have hP := hK131; clear hK131
 refine bl_hit ?_
 refine th_n ?_
 refine wp_seq ?_
 refine wp_seq ?_
 refine wp_region_lit ?_
 refine vn tbok 2 [] [(6, .int .i64 1), (7, .bool true)] [] E (by kernel_rfl) (by kernel_rfl) trivial ?_
 clear E; intro a E
 refine wpList_nil ?_
 refine th_n ?_
 refine wp_block ?_
 obtain ⟨x632, hL633, hK634⟩ := bind_inv hP
 clear hP
 refine loop_cut (fun i_ a w_ => (i_ = 2 ∧ ∃ (x637 : List Int), Fr a 65 [(3, .slice (some ⟨g53, 0, none⟩) (List.length x637) (Int.toNat (((List.length g.1.2.1) : Nat) : Int)))] ∧ Hp S Fa w0 w_ [.rowx true (cInt .i64) 3 (some ⟨g53, 0, none⟩) (Int.toNat (((List.length g.1.2.1) : Nat) : Int)) x637 (List.replicate (Int.toNat (((List.length g.1.2.1) : Nat) : Int) - Int.toNat (((List.length g.1.2.1) : Nat) : Int)) (0 : Int))] ∧ x632 = x637)) ?_ ?_
 ·
  refine loopV (fun m636 a w635 => ∃ (out386 : List Int) (k387 : Int) (more388 : Bool), Fr a 65 [(1, .pointer (some ⟨g4, 0, none⟩)), (3, .slice (some ⟨g53, 0, none⟩) (List.length out386) (Int.toNat (((List.length g.1.2.1) : Nat) : Int))), (6, .int .i64 k387), (7, .bool more388)] ∧ Hp S Fa w0 w635 [.ro false cS87 (some ⟨b1, o2, none⟩) ([g]), .box g4 62 [.pointer (some ⟨b1, o2, none⟩)], .rowx true (cInt .i64) 3 (some ⟨g53, 0, none⟩) (Int.toNat (((List.length g.1.2.1) : Nat) : Int)) out386 (List.replicate (Int.toNat (((List.length g.1.2.1) : Nat) : Int) - Int.toNat (((List.length g.1.2.1) : Nat) : Int)) (0 : Int))] ∧ moore_game_ranks_l1 N g m636 out386 k387 more388 = some x632) N ?_ ?_
  ·
   exact ⟨x129, 1, true, E.pick _ ⟨rfl, rfl, rfl, rfl, trivial⟩, H.sel [0, 1, 2] rfl, hL633⟩
  clear E H hL633; intro m636 a w635 hI_
  obtain ⟨out386, k387, more388, E, H, hP⟩ := hI_
  obtain ⟨m631, rfl⟩ : ∃ q_, m636 = q_ + 1 := by cases m636 with | zero => rw [moore_game_ranks_l1] at hP; cases hP | succ q_ => exact ⟨q_, rfl⟩
  rw [moore_game_ranks_l1] at hP
  refine wp_seq ?_
  refine wp_seq ?_
  refine wp_region_lit ?_
  refine vn tbok 1 [] [(35, .bool more388)] [] E (by kernel_rfl) (by kernel_rfl) trivial ?_
  clear E; intro a E
  refine wpList_nil ?_
  refine th_n ?_
  refine E.cases (t := 35) rfl (fun hb_ E_ => ?_) (fun hb_ E_ => ?_)
  ·
   replace E := E_; clear E_
   have h638 : more388 = true := hb_
   clear hb_; replace hP := ite_t h638 hP
   refine c_true E rfl ?_
   refine wp_skip ?_
   refine th_n ?_
   refine wp_seq ?_
   refine wp_block ?_
   refine wp_seq ?_
   refine wp_region_lit ?_
   refine vn tbok 1 [] [(7, .bool false)] [] E (by kernel_rfl) (by kernel_rfl) trivial ?_
   clear E; intro a E
   refine wpList_nil ?_
   refine th_n ?_
   refine wp_seq ?_
   refine wp_region_lit ?_
   refine h_buildSlice (ps := []) (cs := []) H E rfl rfl tbok rfl rfl (by kernel_rfl) ?_
   intro w640 g639 a hc641 hg643 H_ E_
   replace E := E_ _ rfl; clear E_
   replace H := H_; clear H_; try dsimp only [setn, addE, goneL] at H
   refine vn tbok 1 [] [(39, .slice (some ⟨g53, 0, none⟩) (List.length out386) (Int.toNat (((List.length g.1.2.1) : Nat) : Int)))] [] E (by kernel_rfl) (by kernel_rfl) trivial ?_
   clear E; intro a E
   replace H := H.boxRow (cInt .i64) true ([] : List Int) 3 rfl (fun _ _ => rfl) (Nat.le_of_ble_eq_true rfl); try dsimp only [setn, addE, goneL] at H
   replace H := H.rowx 3 rfl; try dsimp only [setn, addE, goneL] at H
   obtain ⟨g644, hP⟩ := ask_inv hP
   refine h_append (cInt .i64) (xs := ([] : List Int)) (ys := out386) (0 : Int) H 3 rfl E rfl rfl tbok rfl rfl rfl rfl rfl (fun _ _ => rfl) rfl rfl (fun _ HF_ => HF_.srcF flat_plain 2 rds_rowx) g644 ?_
   intro w645 A646 c647 a hc648 hA649 H_ E_
   replace E := E_ _ rfl; clear E_
   replace H := H_; clear H_; try dsimp only [setn, addE, goneL] at H
   refine h_alloc H E rfl rfl tbok rfl ?_
   intro w651 g650 a hc652 hg654 H_ E_
   replace E := E_ _ rfl; clear E_
   replace H := H_; clear H_; try dsimp only [setn, addE, goneL] at H
   refine h_store (g := g650) (off := 0) H 4 rfl E rfl rfl rfl rfl tbok rfl rfl rfl rfl rfl ?_
   clear E; intro w655 a hc656 H_ E
   replace H := H_; clear H_; try dsimp only [setn, addE, goneL] at H
   refine wpList_nil ?_
   refine th_n ?_
   refine wp_seq ?_
   refine wp_region_lit ?_
   refine vn tbok 3 [.slice A646 (List.length (([] : List Int) ++ out386)) c647] [(41, .slice A646 (List.length (([] : List Int) ++ out386)) c647), (42, .int .i64 (((List.length (([] : List Int) ++ out386)) : Nat) : Int)), (43, .int .i64 0)] [World.cell? w655 ⟨g650, 0, none⟩ = some (.slice A646 (List.length (([] : List Int) ++ out386)) c647)] E (by kernel_rfl) (by kernel_rfl) ((H.box 4 rfl).cell (j := 0) rfl) ?_
   clear E; intro a E
   refine wpList_nil ?_
   refine th_n ?_
   refine wp_block ?_
   obtain ⟨x878, hL879, hK880⟩ := bind_inv hP
   clear hP
   refine loop_cut (fun i_ a w_ => (i_ = 4 ∧ ∃ (x883 : (List Int) × Bool), Fr a 65 [(1, .pointer (some ⟨g4, 0, none⟩)), (3, .slice (some ⟨g53, 0, none⟩) (List.length x883.1) (Int.toNat (((List.length g.1.2.1) : Nat) : Int))), (6, .int .i64 k387), (7, .bool x883.2)] ∧ Hp S Fa w0 w_ [.ro false cS87 (some ⟨b1, o2, none⟩) ([g]), .box g4 62 [.pointer (some ⟨b1, o2, none⟩)], .rowx true (cInt .i64) 3 (some ⟨g53, 0, none⟩) (Int.toNat (((List.length g.1.2.1) : Nat) : Int)) x883.1 (List.replicate (Int.toNat (((List.length g.1.2.1) : Nat) : Int) - Int.toNat (((List.length g.1.2.1) : Nat) : Int)) (0 : Int))] ∧ x878 = x883)) ?_ ?_
   ·
    refine loopV (fun m882 a w881 => ∃ (out763 : List Int) (more764 : Bool) (x765 : Int), Fr a 65 [(1, .pointer (some ⟨g4, 0, none⟩)), (3, .slice (some ⟨g53, 0, none⟩) (List.length out763) (Int.toNat (((List.length g.1.2.1) : Nat) : Int))), (6, .int .i64 k387), (7, .bool more764), (8, .pointer (some ⟨g650, 0, none⟩)), (41, .slice A646 (List.length (([] : List Int) ++ out386)) c647), (42, .int .i64 (((List.length (([] : List Int) ++ out386)) : Nat) : Int)), (43, .int .i64 x765)] ∧ Hp S Fa w0 w881 [.ro false cS87 (some ⟨b1, o2, none⟩) ([g]), .box g4 62 [.pointer (some ⟨b1, o2, none⟩)], .rowx true (cInt .i64) 3 (some ⟨g53, 0, none⟩) (Int.toNat (((List.length g.1.2.1) : Nat) : Int)) out763 (List.replicate (Int.toNat (((List.length g.1.2.1) : Nat) : Int) - Int.toNat (((List.length g.1.2.1) : Nat) : Int)) (0 : Int)), .row true (cInt .i64) 3 A646 c647 (([] : List Int) ++ out386), .box g650 23 [.slice A646 (List.length (([] : List Int) ++ out386)) c647]] ∧ moore_game_ranks_l2 N g out386 k387 m882 out763 more764 x765 = some x878) N ?_ ?_
    ·
     exact ⟨out386, false, 0, E.pick _ ⟨rfl, rfl, rfl, rfl, rfl, rfl, rfl, rfl, trivial⟩, H.sel [0, 1, 2, 3, 4] rfl, hL879⟩
    clear E H hL879; intro m882 a w881 hI_
    obtain ⟨out763, more764, x765, E, H, hP⟩ := hI_
    obtain ⟨m877, rfl⟩ : ∃ q_, m882 = q_ + 1 := by cases m882 with | zero => rw [moore_game_ranks_l2] at hP; cases hP | succ q_ => exact ⟨q_, rfl⟩
    rw [moore_game_ranks_l2] at hP
    refine wp_seq ?_
    refine wp_region_lit ?_
    refine vn tbok 1 [] [(44, .bool (decide (x765 < (((List.length (([] : List Int) ++ out386)) : Nat) : Int))))] [] E (by kernel_rfl) (by kernel_rfl) trivial ?_
    clear E; intro a E
    refine wpList_nil ?_
    refine th_n ?_
    refine wp_seq ?_
    refine E.cases (t := 44) rfl (fun hb_ E_ => ?_) (fun hb_ E_ => ?_)
    ·
     replace E := E_; clear E_
     have h884 : x765 < (((List.length (([] : List Int) ++ out386)) : Nat) : Int) := of_decide_eq_true hb_
     clear hb_; replace hP := ite_t h884 hP
     refine c_true E rfl ?_
     refine wp_skip ?_
     refine th_n ?_
     refine wp_seq ?_
     refine wp_block ?_
     refine wp_seq ?_
     refine wp_region_lit ?_
     obtain ⟨g885, hP⟩ := ask_inv hP
     obtain ⟨b886, e_b886⟩ := H.raddr 3 rfl (idx_pos g885)
     subst e_b886
     refine vn tbok 3 [.int .i64 (List.getD (([] : List Int) ++ out386) (Int.toNat x765) 0)] [(45, .int .i64 x765), (47, .int .i64 (List.getD (([] : List Int) ++ out386) (Int.toNat x765) 0))] [0 ≤ x765 ∧ x765 < (((List.length (([] : List Int) ++ out386)) : Nat) : Int), World.cell? w881 ⟨b886, 0 + (Int.toNat x765) * 1, none⟩ = some (.int .i64 (List.getD (([] : List Int) ++ out386) (Int.toNat x765) 0))] E (by kernel_rfl) (by kernel_rfl) ⟨g885, Rds.at1 (H.rd 3 rds_row) 0 g885⟩ ?_
     clear E; intro a E
     refine h_alloc H E rfl rfl tbok rfl ?_
     intro w889 g888 a hc890 hg892 H_ E_
     replace E := E_ _ rfl; clear E_
     replace H := H_; clear H_; try dsimp only [setn, addE, goneL] at H
     refine h_store (g := g888) (off := 0) H 5 rfl E rfl rfl rfl rfl tbok rfl rfl rfl rfl rfl ?_
     clear E; intro w893 a hc894 H_ E
     replace H := H_; clear H_; try dsimp only [setn, addE, goneL] at H
     refine vn tbok 1 [] [(10, .int .i64 (List.getD (([] : List Int) ++ out386) (Int.toNat x765) 0))] [] E (by kernel_rfl) (by kernel_rfl) trivial ?_
     clear E; intro a E
     refine wpList_nil ?_
     refine th_n ?_
     refine wp_seq ?_
     refine wp_region_lit ?_
     refine vn tbok 3 [] [(50, .bool (decide ((List.getD (([] : List Int) ++ out386) (Int.toNat x765) 0) < 0)))] [] E (by kernel_rfl) (by kernel_rfl) trivial ?_
     clear E; intro a E
     refine E.cases (t := 50) rfl (fun hb_ E_ => ?_) (fun hb_ E_ => ?_)
     ·
      replace E := E_; clear E_
      have h895 : (List.getD (([] : List Int) ++ out386) (Int.toNat x765) 0) < 0 := of_decide_eq_true hb_
      clear hb_; replace hP := ite_t h895 hP
      obtain ⟨Fz896, cs898, HF897, hK899, hc900⟩ := H.elem 0 false (el_ro rfl) g (idx_one _)
      obtain ⟨_, _, rfl, hK901, hK902⟩ := hK899
      obtain ⟨_, _, rfl, hK903, hK904⟩ := hK901
      obtain rfl := hK903
      obtain ⟨_, _, rfl, hK905, hK906⟩ := hK904
      obtain ⟨A907, c908, rfl, hk909, hC910⟩ := hK905
      obtain ⟨_, _, rfl, hK912, hK913⟩ := hK906
      obtain ⟨A914, c915, rfl, hk916, hC917⟩ := hK912
      obtain ⟨A919, c920, rfl, hk921, hC922⟩ := hK913
      obtain ⟨_, _, rfl, hK924, hK925⟩ := hK902
      obtain rfl := hK924
      obtain ⟨_, _, rfl, hK926, hK927⟩ := hK925
      obtain ⟨A928, c929, rfl, hk930, hC931⟩ := hK926
      obtain ⟨A933, c934, rfl, hk935, hC936⟩ := hK927
      replace HF897 := HF897.ins hC910
      replace HF897 := HF897.ins hC917
      replace HF897 := HF897.ins hC922
      replace HF897 := HF897.ins hC931
      replace HF897 := HF897.ins hC936
      replace H := HF897.hp; try dsimp only [addE] at H
      have hc938 : cellsAt w893 b1 (o2) [.int .i64 g.1.1, .slice A907 (List.length g.1.2.1) c908, .slice A914 (List.length g.1.2.2.1) c915, .slice A919 (List.length g.1.2.2.2) c920, .int .u8 g.2.1.1, .int .u8 g.2.1.2, .slice A928 (List.length g.2.2.1) c929, .slice A933 (List.length g.2.2.2) c934] := hc900
      refine vn tbok 4 [.pointer (some ⟨b1, o2, none⟩), .slice A928 (List.length g.2.2.1) c929] [(54, .slice A928 (List.length g.2.2.1) c929)] [World.cell? w893 ⟨g4, 0, none⟩ = some (.pointer (some ⟨b1, o2, none⟩)), World.cell? w893 ⟨b1, o2 + 6, none⟩ = some (.slice A928 (List.length g.2.2.1) c929)] E (by kernel_rfl) (by kernel_rfl) ⟨(H.box 1 rfl).cell (j := 0) rfl, hc938.get 6 _ rfl⟩ ?_
      clear E; intro a E
      refine e_makeFunc (vs := [.pointer (some ⟨g4, 0, none⟩), .pointer (some ⟨g650, 0, none⟩), .pointer (some ⟨g888, 0, none⟩)]) E rfl rfl rfl rfl ?_
      clear E; intro a E
      obtain ⟨x980, h981, hP⟩ := bind_inv hP
      refine e_call (R := fun v_ w_ => ∃ (x982 : Int), v_ = .int .i64 x982 ∧ Hp S Fa w0 w_ [.ro false cS87 (some ⟨b1, o2, none⟩) ([g]), .box g4 62 [.pointer (some ⟨b1, o2, none⟩)], .rowx true (cInt .i64) 3 (some ⟨g53, 0, none⟩) (Int.toNat (((List.length g.1.2.1) : Nat) : Int)) out763 (List.replicate (Int.toNat (((List.length g.1.2.1) : Nat) : Int) - Int.toNat (((List.length g.1.2.1) : Nat) : Int)) (0 : Int)), .row true (cInt .i64) 3 (some ⟨b886, 0, none⟩) c647 (([] : List Int) ++ out386), .box g650 23 [.slice (some ⟨b886, 0, none⟩) (List.length (([] : List Int) ++ out386)) c647], .box g888 3 [.int .i64 x765], .ro false (cInt .u8) A928 g.2.2.1] ∧ x980 = x982) E rfl rfl Try.func58 rfl rfl rfl ?_ ?_
      ·
       clear E hP; have hP := h981; clear h981; rw [moore_game_ranks_f3] at hP
       refine enterV (n := 19) Try.func58 rfl rfl rfl ?_
       intro a E
       replace E := E.pick [(0, .slice A928 (List.length g.2.2.1) c929), (1, .func (.func 59) #[] #[.pointer (some ⟨g4, 0, none⟩), .pointer (some ⟨g650, 0, none⟩), .pointer (some ⟨g888, 0, none⟩)])] ⟨rfl, rfl, trivial⟩
       refine wp_seq ?_
       refine wp_region_lit ?_
       refine vn tbok 1 [] [] [] E (by kernel_rfl) (by kernel_rfl) trivial ?_
       clear E; intro a E
       refine wpList_nil ?_
       refine th_n ?_
       refine wp_seq ?_
       refine wp_seq ?_
       refine wp_region_lit ?_
       refine vn tbok 3 [] [(7, .slice A928 (List.length g.2.2.1) c929), (8, .int .i64 (((List.length g.2.2.1) : Nat) : Int)), (9, .int .i64 0)] [] E (by kernel_rfl) (by kernel_rfl) trivial ?_
       clear E; intro a E
       refine wpList_nil ?_
       refine th_n ?_
       refine wp_block ?_
       obtain ⟨x1024, hL1025, hK1026⟩ := bind_inv hP
       clear hP
       refine loop_cut (fun i_ a w_ => (i_ = 0 ∧ ∃ (x1029 : Unit), Fr a 19 [] ∧ Hp S Fa w0 w_ [.ro false cS87 (some ⟨b1, o2, none⟩) ([g]), .box g4 62 [.pointer (some ⟨b1, o2, none⟩)], .rowx true (cInt .i64) 3 (some ⟨g53, 0, none⟩) (Int.toNat (((List.length g.1.2.1) : Nat) : Int)) out763 (List.replicate (Int.toNat (((List.length g.1.2.1) : Nat) : Int) - Int.toNat (((List.length g.1.2.1) : Nat) : Int)) (0 : Int)), .row true (cInt .i64) 3 (some ⟨b886, 0, none⟩) c647 (([] : List Int) ++ out386), .box g650 23 [.slice (some ⟨b886, 0, none⟩) (List.length (([] : List Int) ++ out386)) c647], .box g888 3 [.int .i64 x765], .ro false (cInt .u8) A928 g.2.2.1] ∧ x1024 = Sum.inl x1029)) ?_ ?_
       ·
        refine loopV (fun m1028 a w1027 => ∃ (x1002 : Int), Fr a 19 [(1, .func (.func 59) #[] #[.pointer (some ⟨g4, 0, none⟩), .pointer (some ⟨g650, 0, none⟩), .pointer (some ⟨g888, 0, none⟩)]), (7, .slice A928 (List.length g.2.2.1) c929), (8, .int .i64 (((List.length g.2.2.1) : Nat) : Int)), (9, .int .i64 x1002)] ∧ Hp S Fa w0 w1027 [.ro false cS87 (some ⟨b1, o2, none⟩) ([g]), .box g4 62 [.pointer (some ⟨b1, o2, none⟩)], .row true (cInt .i64) 3 (some ⟨b886, 0, none⟩) c647 (([] : List Int) ++ out386), .box g650 23 [.slice (some ⟨b886, 0, none⟩) (List.length (([] : List Int) ++ out386)) c647], .box g888 3 [.int .i64 x765], .ro false (cInt .u8) A928 g.2.2.1, .rowx true (cInt .i64) 3 (some ⟨g53, 0, none⟩) (Int.toNat (((List.length g.1.2.1) : Nat) : Int)) out763 (List.replicate (Int.toNat (((List.length g.1.2.1) : Nat) : Int) - Int.toNat (((List.length g.1.2.1) : Nat) : Int)) (0 : Int))] ∧ moore_game_ranks_l4 N g out386 x765 m1028 x1002 = some x1024) N ?_ ?_
        ·
         exact ⟨0, E.pick _ ⟨rfl, rfl, rfl, rfl, trivial⟩, H.sel [0, 1, 3, 4, 5, 9, 2] rfl, hL1025⟩
        clear E H hL1025; intro m1028 a w1027 hI_
        obtain ⟨x1002, E, H, hP⟩ := hI_
        obtain ⟨m1023, rfl⟩ : ∃ q_, m1028 = q_ + 1 := by cases m1028 with | zero => rw [moore_game_ranks_l4] at hP; cases hP | succ q_ => exact ⟨q_, rfl⟩
        rw [moore_game_ranks_l4] at hP
        refine wp_seq ?_
        refine wp_region_lit ?_
        refine vn tbok 1 [] [(10, .bool (decide (x1002 < (((List.length g.2.2.1) : Nat) : Int))))] [] E (by kernel_rfl) (by kernel_rfl) trivial ?_
        clear E; intro a E
        refine wpList_nil ?_
        refine th_n ?_
        refine wp_seq ?_
        refine E.cases (t := 10) rfl (fun hb_ E_ => ?_) (fun hb_ E_ => ?_)
        ·
         replace E := E_; clear E_
         have h1030 : x1002 < (((List.length g.2.2.1) : Nat) : Int) := of_decide_eq_true hb_
         clear hb_; replace hP := ite_t h1030 hP
         refine c_true E rfl ?_
         refine wp_skip ?_
         refine th_n ?_
         refine wp_seq ?_
         refine wp_block ?_
         refine wp_seq ?_
         refine wp_region_lit ?_
         obtain ⟨g1031, hP⟩ := ask_inv hP
         obtain ⟨b1032, o1033, e_b1032⟩ := (H.rd 5 rds_ro).addr (idx_pos g1031)
         subst e_b1032
         refine vn tbok 5 [.int .u8 (List.getD g.2.2.1 (Int.toNat x1002) 0)] [(5, .int .i64 x1002), (6, .int .u8 (List.getD g.2.2.1 (Int.toNat x1002) 0))] [0 ≤ x1002 ∧ x1002 < (((List.length g.2.2.1) : Nat) : Int), World.cell? w1027 ⟨b1032, o1033 + (Int.toNat x1002) * 1, none⟩ = some (.int .u8 (List.getD g.2.2.1 (Int.toNat x1002) 0))] E (by kernel_rfl) (by kernel_rfl) ⟨g1031, Rds.at1 (H.rd 5 rds_ro) 0 g1031⟩ ?_
         clear E; intro a E
         refine wpList_nil ?_
         refine th_n ?_
         refine wp_seq ?_
         refine wp_region_lit ?_
         refine vn tbok 2 [] [(14, .func (.func 59) #[] #[.pointer (some ⟨g4, 0, none⟩), .pointer (some ⟨g650, 0, none⟩), .pointer (some ⟨g888, 0, none⟩)]), (15, .int .u8 (List.getD g.2.2.1 (Int.toNat x1002) 0))] [] E (by kernel_rfl) (by kernel_rfl) trivial ?_
         clear E; intro a E
         obtain ⟨x1044, h1045, hP⟩ := bind_inv hP
         refine e_callv (R := fun v_ w_ => ∃ (x1046 : Bool), v_ = .bool x1046 ∧ Hp S Fa w0 w_ [.ro false cS87 (some ⟨b1, o2, none⟩) ([g]), .box g4 62 [.pointer (some ⟨b1, o2, none⟩)], .rowx true (cInt .i64) 3 (some ⟨g53, 0, none⟩) (Int.toNat (((List.length g.1.2.1) : Nat) : Int)) out763 (List.replicate (Int.toNat (((List.length g.1.2.1) : Nat) : Int) - Int.toNat (((List.length g.1.2.1) : Nat) : Int)) (0 : Int)), .row true (cInt .i64) 3 (some ⟨b886, 0, none⟩) c647 (([] : List Int) ++ out386), .box g650 23 [.slice (some ⟨b886, 0, none⟩) (List.length (([] : List Int) ++ out386)) c647], .box g888 3 [.int .i64 x765], .ro false (cInt .u8) (some ⟨b1032, o1033, none⟩) g.2.2.1] ∧ x1044 = x1046) E rfl rfl rfl Try.func59 rfl rfl rfl ?_ ?_
         ·
          clear E hP; have hP := h1045; clear h1045; rw [moore_game_ranks_f5] at hP
          refine enterV (n := 12) Try.func59 rfl rfl rfl ?_
          intro a E
          replace E := E.pick [(0, .int .u8 (List.getD g.2.2.1 (Int.toNat x1002) 0)), (1, .pointer (some ⟨g4, 0, none⟩)), (2, .pointer (some ⟨g650, 0, none⟩)), (3, .pointer (some ⟨g888, 0, none⟩))] ⟨rfl, rfl, rfl, rfl, trivial⟩
          refine wp_seq ?_
          refine wp_region_lit ?_
          refine vn tbok 1 [] [] [] E (by kernel_rfl) (by kernel_rfl) trivial ?_
          clear E; intro a E
          refine wpList_nil ?_
          refine th_n ?_
          refine wp_seq ?_
          refine wp_region_lit ?_
          refine vn tbok 4 [.pointer (some ⟨b1, o2, none⟩), .slice (some ⟨b886, 0, none⟩) (List.length (([] : List Int) ++ out386)) c647, .int .i64 x765] [(6, .pointer (some ⟨b1, o2, none⟩)), (7, .slice (some ⟨b886, 0, none⟩) (List.length (([] : List Int) ++ out386)) c647), (8, .int .i64 x765), (9, .int .u8 (List.getD g.2.2.1 (Int.toNat x1002) 0))] [World.cell? w1027 ⟨g4, 0, none⟩ = some (.pointer (some ⟨b1, o2, none⟩)), World.cell? w1027 ⟨g650, 0, none⟩ = some (.slice (some ⟨b886, 0, none⟩) (List.length (([] : List Int) ++ out386)) c647), World.cell? w1027 ⟨g888, 0, none⟩ = some (.int .i64 x765)] E (by kernel_rfl) (by kernel_rfl) ⟨(H.box 1 rfl).cell (j := 0) rfl, (H.box 3 rfl).cell (j := 0) rfl, (H.box 4 rfl).cell (j := 0) rfl⟩ ?_
          clear E; intro a E
          obtain ⟨r1047, h1048, hP⟩ := bind_inv hP
          obtain ⟨Fa1049, Hc1050, hb1051⟩ := H.call [] [(0, false), (2, false)] rfl rfl trivial
          refine e_call E rfl rfl Try.func60 rfl rfl rfl (moore_game_worst_calls b1 o2 (some ⟨b886, 0, none⟩) c647 g (([] : List Int) ++ out386) x765 (List.getD g.2.2.1 (Int.toNat x1002) 0) (H.rcap 2 rfl) Hc1050 h1048) ?_
          rintro v1052 w1053 a ⟨rfl, HR1054⟩ E_
          replace E := E_ _ rfl; clear E_
          obtain ⟨H_, hc1055⟩ := hb1051 _ _ HR1054 rfl
          replace H := H_; clear H_; try dsimp only [setn, addE, goneL] at H
          refine vn tbok 2 [] [(5, .bool (decide (0 ≤ r1047)))] [] E (by kernel_rfl) (by kernel_rfl) trivial ?_
          clear E; intro a E
          refine wpList_nil ?_
          refine th_n ?_
          refine wp_ret ?_
          have hx_ := Option.some.inj hP
          refine ret1 E rfl rfl ?_
          exact ⟨_, rfl, decide (0 ≤ r1047), rfl, H.sel [0, 1, 6, 2, 3, 4, 5] rfl, hx_.symm⟩
         clear H
         rintro v1057 w1056 a ⟨x1046, rfl, H, hx_⟩ E_
         subst hx_
         replace E := E_ _ rfl; clear E_
         refine wpList_nil ?_
         refine th_n ?_
         refine E.cases (t := 16) rfl (fun hb_ E_ => ?_) (fun hb_ E_ => ?_)
         ·
          replace E := E_; clear E_
          have h1058 : x1044 = true := hb_
          clear hb_; replace hP := ite_t h1058 hP
          refine c_true E rfl ?_
          refine wp_seq ?_
          refine wp_region_lit ?_
          refine vn tbok 2 [] [(4, .int .i64 x1002)] [] E (by kernel_rfl) (by kernel_rfl) trivial ?_
          clear E; intro a E
          refine wpList_nil ?_
          refine th_n ?_
          refine wp_ret ?_
          refine bl_ret ?_
          refine th_ret ?_
          refine th_ret ?_
          refine .inr ⟨rfl, ?_⟩
          refine bl_ret ?_
          refine th_ret ?_
          have hx_ := Option.some.inj hP; subst hx_
          have hP : some (x1002) = some x980 := hK1026
          have hx_ := Option.some.inj hP
          refine ret1 E rfl rfl ?_
          exact ⟨_, rfl, x1002, rfl, H.sel [0, 1, 2, 3, 4, 5, 6] rfl, hx_.symm⟩
         replace E := E_; clear E_
         have h1059 : ¬ (x1044 = true) := (ne_true_of_eq_false hb_)
         clear hb_; replace hP := ite_f h1059 hP
         refine c_false E rfl ?_
         refine wp_skip ?_
         refine bl_n ?_
         refine th_n ?_
         refine wp_region_lit ?_
         obtain ⟨g1060, hP⟩ := ask_inv hP
         refine vn tbok 2 [.int .i64 (x1002 + 1)] [(9, .int .i64 (x1002 + 1))] [IntKind.i64.wrap (x1002 + 1) = x1002 + 1] E (by kernel_rfl) (by kernel_rfl) (wrap_in g1060) ?_
         clear E; intro a E
         refine wpList_nil ?_
         exact th_n ⟨m1023, Nat.lt_succ_self _, x1002 + 1, E.pick _ ⟨rfl, rfl, rfl, rfl, trivial⟩, H.sel [0, 1, 3, 4, 5, 6, 2] rfl, hP⟩
        replace E := E_; clear E_
        have h1061 : ¬ (x1002 < (((List.length g.2.2.1) : Nat) : Int)) := of_decide_eq_false hb_
        clear hb_; replace hP := ite_f h1061 hP
        refine c_false E rfl ?_
        refine wp_exit ?_
        refine th_exit ?_
        have hx_ := Option.some.inj hP
        refine th_exit (.inl ⟨0, rfl, ?_⟩)
        exact ⟨rfl, (), E.pick _ trivial, H.sel [0, 1, 6, 2, 3, 4, 5] rfl, hx_.symm⟩
       clear E H hL1025; intro i_ a w1027 hM_
       obtain ⟨rfl, x1029, E, H, hx_⟩ := hM_
       subst hx_; have hP := elim_l hK1026
       clear hK1026
       refine bl_hit ?_
       refine th_n ?_
       refine wp_seq ?_
       refine wp_region_lit ?_
       refine vn tbok 1 [] [(4, .int .i64 (-1))] [] E (by kernel_rfl) (by kernel_rfl) trivial ?_
       clear E; intro a E
       refine wpList_nil ?_
       refine th_n ?_
       refine wp_ret ?_
       have hx_ := Option.some.inj hP
       refine ret1 E rfl rfl ?_
       exact ⟨_, rfl, -1, rfl, H.sel [0, 1, 2, 3, 4, 5, 6] rfl, hx_.symm⟩
      clear H
      rintro v1064 w1063 a ⟨x982, rfl, H, hx_⟩ E_
      subst hx_
      replace E := E_ _ rfl; clear E_
      refine vn tbok 2 [] [(58, .bool (decide (0 ≤ x980)))] [] E (by kernel_rfl) (by kernel_rfl) trivial ?_
      clear E; intro a E
      refine wpList_nil ?_
      refine th_n ?_
      refine E.cases (t := 58) rfl (fun hb_ E_ => ?_) (fun hb_ E_ => ?_)
      ·
       replace E := E_; clear E_
       have h1065 : 0 ≤ x980 := of_decide_eq_true hb_
       clear hb_; replace hP := ite_t h1065 hP
       refine c_true E rfl ?_
       refine wp_region_lit ?_
       obtain ⟨g1066, hP⟩ := ask_inv hP
       refine vn tbok 4 [.int .i64 x765] [(61, .int .i64 k387), (62, .pointer (some ⟨g53, 0 + (Int.toNat x765) * 1, none⟩))] [World.cell? w1063 ⟨g888, 0, none⟩ = some (.int .i64 x765), 0 ≤ x765 ∧ x765 < (((List.length out763) : Nat) : Int)] E (by kernel_rfl) (by kernel_rfl) ⟨(H.box 5 rfl).cell (j := 0) rfl, g1066⟩ ?_
       clear E; intro a E
       refine h_setx (g := g53) (i := x765) k387 H 2 rfl E rfl rfl rfl rfl tbok rfl (fun _ HF_ => rfl) rfl g1066 rfl ?_
       clear E; intro w1067 a hc1068 H_ E
       replace H := H_; clear H_; try dsimp only [setn, addE, goneL] at H
       have hn1069 : (List.length out763) = (List.length (List.set out763 (Int.toNat x765) k387)) := by simp only [List.length_set]
       replace E := E.same (t := 3) (u := .slice (some ⟨g53, 0, none⟩) (List.length (List.set out763 (Int.toNat x765) k387)) (Int.toNat (((List.length g.1.2.1) : Nat) : Int))) rfl (congrArg (fun n_ => Value.slice (some ⟨g53, 0, none⟩) n_ (Int.toNat (((List.length g.1.2.1) : Nat) : Int))) hn1069)
       refine vn tbok 1 [] [(7, .bool true)] [] E (by kernel_rfl) (by kernel_rfl) trivial ?_
       clear E; intro a E
       refine wpList_nil ?_
       refine bl_n ?_
       refine th_n ?_
       refine wp_region_lit ?_
       obtain ⟨g1070, hP⟩ := ask_inv hP
       refine vn tbok 2 [.int .i64 (x765 + 1)] [(43, .int .i64 (x765 + 1))] [IntKind.i64.wrap (x765 + 1) = x765 + 1] E (by kernel_rfl) (by kernel_rfl) (wrap_in g1070) ?_
       clear E; intro a E
       refine wpList_nil ?_
       exact th_n ⟨m877, Nat.lt_succ_self _, List.set out763 (Int.toNat x765) k387, true, x765 + 1, E.pick _ ⟨rfl, rfl, rfl, rfl, rfl, rfl, rfl, rfl, trivial⟩, H.sel [0, 1, 2, 3, 4] rfl, hP⟩
      replace E := E_; clear E_
      have h1071 : ¬ (0 ≤ x980) := of_decide_eq_false hb_
      clear hb_; replace hP := ite_f h1071 hP
      refine c_false E rfl ?_
      refine wp_skip ?_
      refine bl_n ?_
      refine th_n ?_
      refine wp_region_lit ?_
      obtain ⟨g1072, hP⟩ := ask_inv hP
      refine vn tbok 2 [.int .i64 (x765 + 1)] [(43, .int .i64 (x765 + 1))] [IntKind.i64.wrap (x765 + 1) = x765 + 1] E (by kernel_rfl) (by kernel_rfl) (wrap_in g1072) ?_
      clear E; intro a E
      refine wpList_nil ?_
      exact th_n ⟨m877, Nat.lt_succ_self _, out763, more764, x765 + 1, E.pick _ ⟨rfl, rfl, rfl, rfl, rfl, rfl, rfl, rfl, trivial⟩, H.sel [0, 1, 2, 3, 4] rfl, hP⟩
     replace E := E_; clear E_
     have h1073 : ¬ ((List.getD (([] : List Int) ++ out386) (Int.toNat x765) 0) < 0) := of_decide_eq_false hb_
     clear hb_; replace hP := ite_f h1073 hP
     refine vn tbok 8 [] [(58, .bool false)] [] E (by kernel_rfl) (by kernel_rfl) trivial ?_
     clear E; intro a E
     refine wpList_nil ?_
     refine th_n ?_
     refine c_false E rfl ?_
     refine wp_skip ?_
     refine bl_n ?_
     refine th_n ?_
     refine wp_region_lit ?_
     obtain ⟨g1074, hP⟩ := ask_inv hP
     refine vn tbok 2 [.int .i64 (x765 + 1)] [(43, .int .i64 (x765 + 1))] [IntKind.i64.wrap (x765 + 1) = x765 + 1] E (by kernel_rfl) (by kernel_rfl) (wrap_in g1074) ?_
     clear E; intro a E
     refine wpList_nil ?_
     exact th_n ⟨m877, Nat.lt_succ_self _, out763, more764, x765 + 1, E.pick _ ⟨rfl, rfl, rfl, rfl, rfl, rfl, rfl, rfl, trivial⟩, H.sel [0, 1, 2, 3, 4] rfl, hP⟩
    replace E := E_; clear E_
    have h1075 : ¬ (x765 < (((List.length (([] : List Int) ++ out386)) : Nat) : Int)) := of_decide_eq_false hb_
    clear hb_; replace hP := ite_f h1075 hP
    refine c_false E rfl ?_
    refine wp_exit ?_
    refine th_exit ?_
    have hx_ := Option.some.inj hP
    refine th_exit (.inl ⟨4, rfl, ?_⟩)
    exact ⟨rfl, (out763, more764), E.pick _ ⟨rfl, rfl, rfl, rfl, trivial⟩, H.sel [0, 1, 2] rfl, hx_.symm⟩
   clear E H hL879; intro i_ a w881 hM_
   obtain ⟨rfl, x883, E, H, hx_⟩ := hM_
   subst hx_; have hP := hK880; clear hK880
   refine bl_hit ?_
   refine bl_n ?_
   refine th_n ?_
   refine wp_region_lit ?_
   obtain ⟨g1076, hP⟩ := ask_inv hP
   refine vn tbok 3 [.int .i64 (k387 + 1)] [(6, .int .i64 (k387 + 1))] [IntKind.i64.wrap (k387 + 1) = k387 + 1] E (by kernel_rfl) (by kernel_rfl) (wrap_in g1076) ?_
   clear E; intro a E
   refine wpList_nil ?_
   exact th_n ⟨m631, Nat.lt_succ_self _, x878.1, k387 + 1, x878.2, E.pick _ ⟨rfl, rfl, rfl, rfl, trivial⟩, H.sel [0, 1, 2] rfl, hP⟩
  replace E := E_; clear E_
  have h1077 : ¬ (more388 = true) := (ne_true_of_eq_false hb_)
  clear hb_; replace hP := ite_f h1077 hP
  refine c_false E rfl ?_
  refine wp_exit ?_
  refine th_exit ?_
  have hx_ := Option.some.inj hP
  refine th_exit (.inl ⟨2, rfl, ?_⟩)
  exact ⟨rfl, out386, E.pick _ ⟨rfl, trivial⟩, H.sel [2] rfl, hx_.symm⟩
 clear E H hL633; intro i_ a w635 hM_
 obtain ⟨rfl, x637, E, H, hx_⟩ := hM_
 subst hx_; have hP := hK634; clear hK634
 refine bl_hit ?_
 refine th_n ?_
 refine wp_seq ?_
 refine wp_region_lit ?_
 refine vn tbok 2 [] [(2, .slice (some ⟨g53, 0, none⟩) (List.length x632) (Int.toNat (((List.length g.1.2.1) : Nat) : Int)))] [] E (by kernel_rfl) (by kernel_rfl) trivial ?_
 clear E; intro a E
 refine wpList_nil ?_
 refine th_n ?_
 refine wp_ret ?_
 replace H := H.rowx 0 rfl; try dsimp only [setn, addE, goneL] at H
 obtain rfl := Option.some.inj hP
 refine ret1 E rfl rfl ?_
 exact ⟨_, rfl, (some ⟨g53, 0, none⟩), (Int.toNat (((List.length g.1.2.1) : Nat) : Int)), rfl, H.sel [0] rfl⟩

end Go.V
