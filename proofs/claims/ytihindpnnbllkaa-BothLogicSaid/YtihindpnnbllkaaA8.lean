/- Plain functions, and the calls that give them. -/
import Derived.Test.YtihindpnnbllkaaA7
set_option linter.all false
set_option linter.unusedVariables false
set_option linter.unnecessarySimpa false
set_option linter.unusedSimpArgs false
set_option maxRecDepth 100000
set_option maxHeartbeats 4000000
namespace Go.V
open Go Go.Proofs
/-! rejoinder/canon.Min -/
def canon_Min (N : Nat) (aProps : Int) (aAccept : List Bool) (aGuard : List Int) (aNodes : List Nd) : Option ((Int × (List Bool) × (List Int) × (List Nd)) × Int) :=
  Option.bind (guard_Check N aProps aAccept aGuard aNodes) fun r23 =>
  if (r23 : Int) = 0 then
    Option.bind (canon_least N aProps aAccept aGuard aNodes) fun r39 =>
    some ((r39.1.1, r39.1.2.1, r39.1.2.2.1, r39.1.2.2.2), r39.2)
  else
    some ((0, [], [], []), r23)
theorem canon_Min_calls {N : Nat} {S Fa : Nat → Prop} {w0 : World} {r : (Int × (List Bool) × (List Int) × (List Nd)) × Int} (A1 : Option Addr) (c2 : Nat) (A5 : Option Addr) (c6 : Nat) (A9 : Option Addr) (c10 : Nat) (aProps : Int) (aAccept : List Bool) (aGuard : List Int) (aNodes : List Nd) (hk3 : List.length aAccept ≤ c2) (hk7 : List.length aGuard ≤ c6) (hk11 : List.length aNodes ≤ c10) (H : Hp S Fa w0 w0 [.ro false cBool A1 aAccept, .ro false (cInt .i64) A5 aGuard, .ro false cNode A9 aNodes]) (hP : canon_Min N aProps aAccept aGuard aNodes = some r) :
    Calls Try.prog 25 #[.agg #[.int .i64 aProps, .slice A1 aAccept.length c2, .slice A5 aGuard.length c6, .slice A9 aNodes.length c10]] w0 fun e w' => ∃ v, e = .returned v ∧ ∃ (A59 : Option Addr) (c60 : Nat) (A61 : Option Addr) (c62 : Nat) (A63 : Option Addr) (c64 : Nat), v = .tuple #[.agg #[.int .i64 r.1.1, .slice A59 r.1.2.1.length c60, .slice A61 r.1.2.2.1.length c62, .slice A63 r.1.2.2.2.length c64], .int .i64 r.2] ∧ Hp S Fa w0 w' [.row true cBool 4 A59 c60 r.1.2.1, .row true (cInt .i64) 3 A61 c62 r.1.2.2.1, .row true cNode 49 A63 c64 r.1.2.2.2] := by
 refine enterV (n := 15) Try.func25 rfl rfl rfl ?_
 intro a E
 replace E := E.pick [(0, .agg #[.int .i64 aProps, .slice A1 aAccept.length c2, .slice A5 aGuard.length c6, .slice A9 aNodes.length c10])] ⟨rfl, trivial⟩
 rw [canon_Min] at hP
 refine sr_ <| h_box H E rfl rfl rfl ?_
 clear H E; intro w14 g13 a hc15 hg17 H E; replace E := E _ rfl; try dsimp only [setn, addE, goneL] at H
 refine h_alloc H E rfl rfl tbok rfl ?_
 clear H E; intro w19 g18 a hc20 hg22 H E; replace E := E _ rfl; try dsimp only [setn, addE, goneL] at H
 refine vp 1 [] E ?_
 clear E; intro a E
 refine nn_ <| wp_seq <| sr_ <| vq 1 [.agg #[.int .i64 aProps, .slice A1 aAccept.length c2, .slice A5 aGuard.length c6, .slice A9 aNodes.length c10]] [(5, .agg #[.int .i64 aProps, .slice A1 aAccept.length c2, .slice A5 aGuard.length c6, .slice A9 aNodes.length c10])] [cellsAt w19 g13 (0) [.int .i64 aProps, .slice A1 aAccept.length c2, .slice A5 aGuard.length c6, .slice A9 aNodes.length c10]] E ((H.box 3 rfl).sub 0 _ rfl) ?_
 clear E; intro a E
 obtain ⟨r23, h24, hP⟩ := bind_inv hP
 obtain ⟨Fa25, Hc26, hb27⟩ := H.call [] [(0, false), (1, false), (2, false)] rfl rfl trivial
 refine e_call E rfl rfl Try.func51 rfl rfl rfl (guard_Check_calls A1 c2 A5 c6 A9 c10 aProps aAccept aGuard aNodes hk3 hk7 hk11 Hc26 h24) ?_
 rintro v28 w29 a ⟨rfl, HR30⟩ E_
 replace E := E_ _ rfl; clear E_
 obtain ⟨H_, hc31⟩ := hb27 _ _ HR30 rfl
 replace H := H_; clear H_; try dsimp only [setn, addE, goneL] at H
 refine vp 1 [(4, .int .i64 r23)] E ?_
 clear E; intro a E
 refine nn_ <| sr_ <| vp 2 [(8, .bool ((r23 : Int) != 0))] E ?_
 clear E; intro a E
 refine nn_ ?_
 revert E; refine csE 8 rfl (fun hb_ E => ?_) fun hb_ E => ?_
 ·
  have h32 : ¬ ((r23 : Int) = 0) := bne_iff_ne.1 hb_
  replace hP := ite_f h32 hP
  refine c_true E rfl <| sr_ <| e_build (ps := []) (v := .agg #[.int .i64 0, .slice none 0 0, .slice none 0 0, .slice none 0 0]) E rfl rfl tbok rfl (by kernel_rfl) rfl ?_
  clear E; intro a E
  refine vp 1 [(10, .int .i64 r23)] E ?_
  clear E; intro a E
  refine h_store (g := g18) (off := 0) H 4 rfl E rfl rfl rfl rfl tbok rfl rfl rfl rfl rfl ?_
  clear E; intro w33 a hc34 H_ E
  replace H := H_; clear H_; try dsimp only [setn, addE, goneL] at H
  refine vp 1 [(3, .int .i64 r23)] E ?_
  clear E; intro a E
  refine nn_ <| wp_ret <| th_ret ?_
  replace H := H.nilrow cBool 4; try dsimp only [setn, addE, goneL] at H
  replace H := H.nilrow (cInt .i64) 3; try dsimp only [setn, addE, goneL] at H
  replace H := H.nilrow cNode 49; try dsimp only [setn, addE, goneL] at H
  obtain rfl := Option.some.inj hP
  refine retV E [.cell 2 26, .tmp 3] [.agg #[.int .i64 0, .slice none 0 0, .slice none 0 0, .slice none 0 0], .int .i64 r23] rfl ⟨⟨_, rfl, run_loadBx tbok (H.box 4 rfl) rfl rfl rfl 0 rfl rfl⟩, rfl, trivial⟩ (.inl rfl) ?_
  exact ⟨_, rfl, none, 0, none, 0, none, 0, rfl, H.sel [5, 6, 7] rfl⟩
 have h38 : (r23 : Int) = 0 := bne_eq_false_iff_eq.1 hb_
 replace hP := ite_t h38 hP
 refine c_false E rfl <| wp_skip <| th_n <| sr_ <| vq 1 [.agg #[.int .i64 aProps, .slice A1 aAccept.length c2, .slice A5 aGuard.length c6, .slice A9 aNodes.length c10]] [(11, .agg #[.int .i64 aProps, .slice A1 aAccept.length c2, .slice A5 aGuard.length c6, .slice A9 aNodes.length c10])] [cellsAt w29 g13 (0) [.int .i64 aProps, .slice A1 aAccept.length c2, .slice A5 aGuard.length c6, .slice A9 aNodes.length c10]] E ((H.box 3 rfl).sub 0 _ rfl) ?_
 clear E; intro a E
 obtain ⟨r39, h40, hP⟩ := bind_inv hP
 obtain ⟨Fa41, Hc42, hb43⟩ := H.call [] [(0, false), (1, false), (2, false)] rfl rfl trivial
 refine e_call E rfl rfl Try.func52 rfl rfl rfl (canon_least_calls A1 c2 A5 c6 A9 c10 aProps aAccept aGuard aNodes hk3 hk7 hk11 Hc42 h40) ?_
 rintro v44 w45 a ⟨A48, c49, A51, c52, A54, c55, rfl, HR46⟩ E_
 replace E := E_ _ rfl; clear E_
 obtain ⟨H_, hc47⟩ := hb43 _ _ HR46 rfl
 replace H := H_; clear H_; try dsimp only [setn, addE, goneL] at H
 refine vp 2 [(13, .agg #[.int .i64 r39.1.1, .slice A48 r39.1.2.1.length c49, .slice A51 r39.1.2.2.1.length c52, .slice A54 r39.1.2.2.2.length c55]), (14, .int .i64 r39.2)] E ?_
 clear E; intro a E
 refine h_store (g := g18) (off := 0) H 4 rfl E rfl rfl rfl rfl tbok rfl rfl rfl rfl rfl ?_
 clear E; intro w57 a hc58 H_ E
 replace H := H_; clear H_; try dsimp only [setn, addE, goneL] at H
 refine vp 1 [(3, .int .i64 r39.2)] E ?_
 clear E; intro a E
 refine nn_ <| wp_ret ?_
 obtain rfl := Option.some.inj hP
 refine retV E [.cell 2 26, .tmp 3] [.agg #[.int .i64 r39.1.1, .slice A48 r39.1.2.1.length c49, .slice A51 r39.1.2.2.1.length c52, .slice A54 r39.1.2.2.2.length c55], .int .i64 r39.2] rfl ⟨⟨_, rfl, run_loadBx tbok (H.box 4 rfl) rfl rfl rfl 0 rfl rfl⟩, rfl, trivial⟩ (.inl rfl) ?_
 exact ⟨_, rfl, A48, c49, A51, c52, A54, c55, rfl, H.sel [5, 6, 7] rfl⟩

/-! slices.Reverse[[]rejoinder/api.Letter,rejoinder/api.Letter] -/
def slices_Reverse_api_Letter_api_Letter_l0 (N : Nat) : Nat → (List Int) → Int → Int → Option (List Int)
  | 0, _, _, _ => none
  | m45 + 1, s19, i23, j24 =>
    if i23 < j24 then
      ask (idx j24 s19.length) <|
      ask (idx i23 s19.length) <|
      ask (idx j24 (List.length (List.set s19 i23.toNat (List.getD s19 j24.toNat 0)))) <|
      ask (in64 (i23 + 1)) <|
      ask (in64 (j24 - 1)) <|
      slices_Reverse_api_Letter_api_Letter_l0 N m45 (List.set (List.set s19 i23.toNat (List.getD s19 j24.toNat 0)) j24.toNat (List.getD s19 i23.toNat 0)) (i23 + 1) (j24 - 1)
    else
      some s19
def slices_Reverse_api_Letter_api_Letter (N : Nat) (s : List Int) : Option (List Int) :=
  ask (in64 ((s.length : Int) - 1)) <|
  Option.bind (slices_Reverse_api_Letter_api_Letter_l0 N N s 0 ((s.length : Int) - 1)) fun x46 =>
  some x46
theorem slices_Reverse_api_Letter_api_Letter_calls {N : Nat} {S Fa : Nat → Prop} {w0 : World} {r : List Int} (A1 : Option Addr) (c2 : Nat) (s : List Int) (H : Hp S Fa w0 w0 [.row true (cInt .u8) 50 A1 c2 s]) (hP : slices_Reverse_api_Letter_api_Letter N s = some r) :
    Calls Try.prog 73 #[.slice A1 s.length c2] w0 fun e w' => ∃ v, e = .returned v ∧ v = .tuple #[] ∧ List.length r = List.length s ∧ Hp S Fa w0 w' [.row true (cInt .u8) 50 A1 c2 r] := by
 refine enterV (n := 28) Try.func73 rfl rfl rfl ?_
 intro a E
 replace E := E.pick [(0, .slice A1 s.length c2)] ⟨rfl, trivial⟩
 rw [slices_Reverse_api_Letter_api_Letter] at hP
 refine sr_ ?_
 obtain ⟨g4, hP⟩ := ask_inv hP
 refine vq 5 [.int .i64 ((s.length : Int) - 1)] [(2, .int .i64 0), (3, .int .i64 ((s.length : Int) - 1))] [IntKind.i64.wrap ((s.length : Int) - 1) = (s.length : Int) - 1] E (wrap_in g4) ?_
 clear E; intro a E
 refine nn_ <| wp_block ?_
 obtain ⟨x46, hL47, hK48⟩ := bind_inv hP
 clear hP
 refine loop_cut (fun i_ a w_ => (i_ = 0 ∧ ∃ (x51 : List Int), Fr a 28 [] ∧ Hp S Fa w0 w_ [.row true (cInt .u8) 50 A1 c2 x51] ∧ List.length x51 = List.length s ∧ x46 = x51)) ?_ ?_
 ·
  refine loopV (fun m50 a w49 => ∃ (s19 : List Int) (i23 : Int) (j24 : Int), Fr a 28 [(0, .slice A1 s19.length c2), (2, .int .i64 i23), (3, .int .i64 j24)] ∧ Hp S Fa w0 w49 [.row true (cInt .u8) 50 A1 c2 s19] ∧ List.length s19 = List.length s ∧ slices_Reverse_api_Letter_api_Letter_l0 N m50 s19 i23 j24 = some x46) N ?_ ?_
  ·
   exact ⟨s, 0, (s.length : Int) - 1, E.pk, H.sel [0] rfl, rfl, hL47⟩
  clear E H hL47; intro m50 a w49 hI_
  obtain ⟨s19, i23, j24, E, H, hl22, hP⟩ := hI_
  obtain ⟨m45, rfl⟩ : ∃ q_, m50 = q_ + 1 := by cases m50 with | zero => rw [slices_Reverse_api_Letter_api_Letter_l0] at hP; cases hP | succ q_ => exact ⟨q_, rfl⟩
  rw [slices_Reverse_api_Letter_api_Letter_l0] at hP
  refine wp_seq <| sr_ <| vp 3 [(9, .bool (decide (i23 < j24)))] E ?_
  clear E; intro a E
  refine nn_ ?_
  revert E; refine csE 9 rfl (fun hb_ E => ?_) fun hb_ E => ?_
  ·
   have h52 : i23 < j24 := of_decide_eq_true hb_
   replace hP := ite_t h52 hP
   refine c_true E rfl <| wp_skip <| th_n <| wp_seq <| wp_block ?_
   obtain ⟨g53, hP⟩ := ask_inv hP
   obtain ⟨b54, e_b54⟩ := H.raddr 0 rfl (idx_pos g53)
   subst e_b54
   obtain ⟨g56, hP⟩ := ask_inv hP
   obtain ⟨g60, hP⟩ := ask_inv hP
   refine meet_cut (fun a w64 => Fr a 28 [(0, .slice (some ⟨b54, 0, none⟩) (List.length (List.set (List.set s19 i23.toNat (List.getD s19 j24.toNat 0)) j24.toNat (List.getD s19 i23.toNat 0))) c2), (2, .int .i64 i23), (3, .int .i64 j24)] ∧ Hp S Fa w0 w64 [.row true (cInt .u8) 50 (some ⟨b54, 0, none⟩) c2 (List.set (List.set s19 i23.toNat (List.getD s19 j24.toNat 0)) j24.toNat (List.getD s19 i23.toNat 0))]) ?_ ?_
   ·
    have HR68 := H
    refine dr_start (S := fun w_ => Chg (atL [.row true (cInt .u8) 50 (some ⟨b54, 0, none⟩) c2 s19]) w49 w_) (by kernel_rfl) ?_
    intro w65 hc66
    have HS67 : Chg (atL [.row true (cInt .u8) 50 (some ⟨b54, 0, none⟩) c2 s19]) w49 w65 := hc66.mono (fun _ _ h_ => h_.elim)
    replace H := H.ext hc66
    refine dn tbok (by kernel_rfl) [0, 1, 2, 3, 4, 5, 8, 9] [] [(14, .slice (some ⟨b54, 0, none⟩) s19.length c2), (15, .int .i64 i23), (16, .slice (some ⟨b54, 0, none⟩) s19.length c2), (17, .int .i64 j24), (18, .slice (some ⟨b54, 0, none⟩) s19.length c2), (19, .int .i64 j24), (22, .slice (some ⟨b54, 0, none⟩) s19.length c2), (23, .int .i64 i23)] (fun w_ => []) 8 E (fun _ _ => by kernel_rfl) (by kernel_rfl) (fun w_ hS_ => trivial) (by kernel_rfl) HS67 ?_
    clear E; intro a E
    refine wpAnyH_all (rs := [6, 10]) (by kernel_rfl) (by simp) ?_
    refine all2 ?_ ?_
    ·
     refine wpOp_of_list rfl ?_
     refine vq 1 [] [(20, .pointer (some ⟨b54, 0 + j24.toNat * 1, none⟩))] [0 ≤ j24 ∧ j24 < (s19.length : Int)] E (g53) ?_
     clear E; intro a E
     refine nl_ <| th_n ⟨HS67, ?_⟩
     refine wpAnyH_all (rs := [7, 10]) (by kernel_rfl) (by simp) ?_
     refine all2 ?_ ?_
     ·
      refine wpOp_of_list rfl ?_
      refine vq 1 [.int .u8 (List.getD s19 j24.toNat 0)] [(21, .int .u8 (List.getD s19 j24.toNat 0))] [World.cell? w65 ⟨b54, 0 + j24.toNat * 1, none⟩ = some (.int .u8 (List.getD s19 j24.toNat 0))] E (Rds.at1 (H.rd 0 rds_row) 0 g53) ?_
      clear E; intro a E
      refine nl_ <| th_n ⟨HS67, ?_⟩
      refine wpAnyH_all (rs := [10]) (by kernel_rfl) (by simp) ?_
      refine all1 ?_
      refine wpOp_of_list rfl ?_
      refine vq 1 [] [(24, .pointer (some ⟨b54, 0 + i23.toNat * 1, none⟩))] [0 ≤ i23 ∧ i23 < (s19.length : Int)] E (g56) ?_
      clear E; intro a E
      refine nl_ <| th_n ⟨HS67, ?_⟩
      refine wpAnyH_all (rs := [11]) (by kernel_rfl) (by simp) ?_
      refine all1 ?_
      refine wpOp_of_list rfl ?_
      refine vq 1 [.int .u8 (List.getD s19 i23.toNat 0)] [(25, .int .u8 (List.getD s19 i23.toNat 0))] [World.cell? w65 ⟨b54, 0 + i23.toNat * 1, none⟩ = some (.int .u8 (List.getD s19 i23.toNat 0))] E (Rds.at1 (H.rd 0 rds_row) 0 g56) ?_
      clear E; intro a E
      refine nl_ <| th_n ⟨HS67, ?_⟩
      refine wpAnyH_all (rs := [12]) (by kernel_rfl) (by simp) ?_
      refine all1 ?_
      refine wpOp_of_list rfl ?_
      refine vq 1 [] [(26, .pointer (some ⟨b54, 0 + i23.toNat * 1, none⟩))] [0 ≤ i23 ∧ i23 < (s19.length : Int)] E (g56) ?_
      clear E; intro a E
      refine nl_ <| th_n ⟨HS67, ?_⟩
      refine wpAnyH_all (rs := [13]) (by kernel_rfl) (by simp) ?_
      refine all1 ?_
      refine wpOp_of_list rfl ?_
      refine h_set (g := b54) (i := i23) (List.getD s19 j24.toNat 0) H 0 rfl E rfl rfl rfl rfl tbok rfl (fun _ HF_ => rfl) rfl g56 rfl ?_
      clear E; intro w69 a hc70 H_ E
      replace HS67 := HS67.trans hc70 (fun k_ hk_ h_ => (fun _ _ h_ => Or.inl h_) k_ hk_ h_)
      replace H := H_; clear H_; try dsimp only [setn, addE, goneL] at H
      have hn71 : s19.length = (List.length (List.set s19 i23.toNat (List.getD s19 j24.toNat 0))) := by simp only [List.length_set]
      replace E := E.same (t := 0) (u := .slice (some ⟨b54, 0, none⟩) (List.length (List.set s19 i23.toNat (List.getD s19 j24.toNat 0))) c2) rfl (congrArg (fun n_ => Value.slice (some ⟨b54, 0, none⟩) n_ c2) hn71)
      replace E := E.same (t := 14) (u := .slice (some ⟨b54, 0, none⟩) (List.length (List.set s19 i23.toNat (List.getD s19 j24.toNat 0))) c2) rfl (congrArg (fun n_ => Value.slice (some ⟨b54, 0, none⟩) n_ c2) hn71)
      replace E := E.same (t := 16) (u := .slice (some ⟨b54, 0, none⟩) (List.length (List.set s19 i23.toNat (List.getD s19 j24.toNat 0))) c2) rfl (congrArg (fun n_ => Value.slice (some ⟨b54, 0, none⟩) n_ c2) hn71)
      refine nl_ <| th_n ⟨HS67, ?_⟩
      refine wpAnyH_all (rs := [14]) (by kernel_rfl) (by simp) ?_
      refine all1 ?_
      refine wpOp_of_list rfl ?_
      refine vq 1 [] [(27, .pointer (some ⟨b54, 0 + j24.toNat * 1, none⟩))] [0 ≤ j24 ∧ j24 < (((List.length (List.set s19 i23.toNat (List.getD s19 j24.toNat 0))) : Nat) : Int)] E (g60) ?_
      clear E; intro a E
      refine nl_ <| th_n ⟨HS67, ?_⟩
      refine wpAnyH_all (rs := [15]) (by kernel_rfl) (by simp) ?_
      refine all1 ?_
      refine wpOp_of_list rfl ?_
      refine h_set (g := b54) (i := j24) (List.getD s19 i23.toNat 0) H 0 rfl E rfl rfl rfl rfl tbok rfl (fun _ HF_ => rfl) rfl g60 rfl ?_
      clear E; intro w72 a hc73 H_ E
      replace HS67 := HS67.trans hc73 (fun k_ hk_ h_ => (fun _ _ h_ => Or.inl h_) k_ hk_ h_)
      replace H := H_; clear H_; try dsimp only [setn, addE, goneL] at H
      have hn74 : (List.length (List.set s19 i23.toNat (List.getD s19 j24.toNat 0))) = (List.length (List.set (List.set s19 i23.toNat (List.getD s19 j24.toNat 0)) j24.toNat (List.getD s19 i23.toNat 0))) := by simp only [List.length_set]
      replace E := E.same (t := 0) (u := .slice (some ⟨b54, 0, none⟩) (List.length (List.set (List.set s19 i23.toNat (List.getD s19 j24.toNat 0)) j24.toNat (List.getD s19 i23.toNat 0))) c2) rfl (congrArg (fun n_ => Value.slice (some ⟨b54, 0, none⟩) n_ c2) hn74)
      replace E := E.same (t := 16) (u := .slice (some ⟨b54, 0, none⟩) (List.length (List.set (List.set s19 i23.toNat (List.getD s19 j24.toNat 0)) j24.toNat (List.getD s19 i23.toNat 0))) c2) rfl (congrArg (fun n_ => Value.slice (some ⟨b54, 0, none⟩) n_ c2) hn74)
      refine nl_ <| th_n ⟨HS67, ?_⟩
      refine dr_done (by kernel_rfl) ?_
      exact .inl ⟨rfl, E.pk, H.sel [0] rfl⟩
     refine wpOp_of_list rfl ?_
     refine vq 1 [] [(24, .pointer (some ⟨b54, 0 + i23.toNat * 1, none⟩))] [0 ≤ i23 ∧ i23 < (s19.length : Int)] E (g56) ?_
     clear E; intro a E
     refine nl_ <| th_n ⟨HS67, ?_⟩
     refine wpAnyH_all (rs := [7, 11]) (by kernel_rfl) (by simp) ?_
     refine all2 ?_ ?_
     ·
      refine wpOp_of_list rfl ?_
      refine vq 1 [.int .u8 (List.getD s19 j24.toNat 0)] [(21, .int .u8 (List.getD s19 j24.toNat 0))] [World.cell? w65 ⟨b54, 0 + j24.toNat * 1, none⟩ = some (.int .u8 (List.getD s19 j24.toNat 0))] E (Rds.at1 (H.rd 0 rds_row) 0 g53) ?_
      clear E; intro a E
      refine nl_ <| th_n ⟨HS67, ?_⟩
      refine wpAnyH_all (rs := [11]) (by kernel_rfl) (by simp) ?_
      refine all1 ?_
      refine wpOp_of_list rfl ?_
      refine vq 1 [.int .u8 (List.getD s19 i23.toNat 0)] [(25, .int .u8 (List.getD s19 i23.toNat 0))] [World.cell? w65 ⟨b54, 0 + i23.toNat * 1, none⟩ = some (.int .u8 (List.getD s19 i23.toNat 0))] E (Rds.at1 (H.rd 0 rds_row) 0 g56) ?_
      clear E; intro a E
      refine nl_ <| th_n ⟨HS67, ?_⟩
      refine wpAnyH_all (rs := [12]) (by kernel_rfl) (by simp) ?_
      refine all1 ?_
      refine wpOp_of_list rfl ?_
      refine vq 1 [] [(26, .pointer (some ⟨b54, 0 + i23.toNat * 1, none⟩))] [0 ≤ i23 ∧ i23 < (s19.length : Int)] E (g56) ?_
      clear E; intro a E
      refine nl_ <| th_n ⟨HS67, ?_⟩
      refine wpAnyH_all (rs := [13]) (by kernel_rfl) (by simp) ?_
      refine all1 ?_
      refine wpOp_of_list rfl ?_
      refine h_set (g := b54) (i := i23) (List.getD s19 j24.toNat 0) H 0 rfl E rfl rfl rfl rfl tbok rfl (fun _ HF_ => rfl) rfl g56 rfl ?_
      clear E; intro w75 a hc76 H_ E
      replace HS67 := HS67.trans hc76 (fun k_ hk_ h_ => (fun _ _ h_ => Or.inl h_) k_ hk_ h_)
      replace H := H_; clear H_; try dsimp only [setn, addE, goneL] at H
      have hn77 : s19.length = (List.length (List.set s19 i23.toNat (List.getD s19 j24.toNat 0))) := by simp only [List.length_set]
      replace E := E.same (t := 0) (u := .slice (some ⟨b54, 0, none⟩) (List.length (List.set s19 i23.toNat (List.getD s19 j24.toNat 0))) c2) rfl (congrArg (fun n_ => Value.slice (some ⟨b54, 0, none⟩) n_ c2) hn77)
      replace E := E.same (t := 14) (u := .slice (some ⟨b54, 0, none⟩) (List.length (List.set s19 i23.toNat (List.getD s19 j24.toNat 0))) c2) rfl (congrArg (fun n_ => Value.slice (some ⟨b54, 0, none⟩) n_ c2) hn77)
      replace E := E.same (t := 16) (u := .slice (some ⟨b54, 0, none⟩) (List.length (List.set s19 i23.toNat (List.getD s19 j24.toNat 0))) c2) rfl (congrArg (fun n_ => Value.slice (some ⟨b54, 0, none⟩) n_ c2) hn77)
      refine nl_ <| th_n ⟨HS67, ?_⟩
      refine wpAnyH_all (rs := [14]) (by kernel_rfl) (by simp) ?_
      refine all1 ?_
      refine wpOp_of_list rfl ?_
      refine vq 1 [] [(27, .pointer (some ⟨b54, 0 + j24.toNat * 1, none⟩))] [0 ≤ j24 ∧ j24 < (((List.length (List.set s19 i23.toNat (List.getD s19 j24.toNat 0))) : Nat) : Int)] E (g60) ?_
      clear E; intro a E
      refine nl_ <| th_n ⟨HS67, ?_⟩
      refine wpAnyH_all (rs := [15]) (by kernel_rfl) (by simp) ?_
      refine all1 ?_
      refine wpOp_of_list rfl ?_
      refine h_set (g := b54) (i := j24) (List.getD s19 i23.toNat 0) H 0 rfl E rfl rfl rfl rfl tbok rfl (fun _ HF_ => rfl) rfl g60 rfl ?_
      clear E; intro w78 a hc79 H_ E
      replace HS67 := HS67.trans hc79 (fun k_ hk_ h_ => (fun _ _ h_ => Or.inl h_) k_ hk_ h_)
      replace H := H_; clear H_; try dsimp only [setn, addE, goneL] at H
      have hn80 : (List.length (List.set s19 i23.toNat (List.getD s19 j24.toNat 0))) = (List.length (List.set (List.set s19 i23.toNat (List.getD s19 j24.toNat 0)) j24.toNat (List.getD s19 i23.toNat 0))) := by simp only [List.length_set]
      replace E := E.same (t := 0) (u := .slice (some ⟨b54, 0, none⟩) (List.length (List.set (List.set s19 i23.toNat (List.getD s19 j24.toNat 0)) j24.toNat (List.getD s19 i23.toNat 0))) c2) rfl (congrArg (fun n_ => Value.slice (some ⟨b54, 0, none⟩) n_ c2) hn80)
      replace E := E.same (t := 16) (u := .slice (some ⟨b54, 0, none⟩) (List.length (List.set (List.set s19 i23.toNat (List.getD s19 j24.toNat 0)) j24.toNat (List.getD s19 i23.toNat 0))) c2) rfl (congrArg (fun n_ => Value.slice (some ⟨b54, 0, none⟩) n_ c2) hn80)
      refine nl_ <| th_n ⟨HS67, ?_⟩
      refine dr_done (by kernel_rfl) ?_
      exact .inl ⟨rfl, E.pk, H.sel [0] rfl⟩
     refine wpOp_of_list rfl ?_
     refine vq 1 [.int .u8 (List.getD s19 i23.toNat 0)] [(25, .int .u8 (List.getD s19 i23.toNat 0))] [World.cell? w65 ⟨b54, 0 + i23.toNat * 1, none⟩ = some (.int .u8 (List.getD s19 i23.toNat 0))] E (Rds.at1 (H.rd 0 rds_row) 0 g56) ?_
     clear E; intro a E
     refine nl_ <| th_n ⟨HS67, ?_⟩
     refine wpAnyH_all (rs := [7]) (by kernel_rfl) (by simp) ?_
     refine all1 ?_
     refine wpOp_of_list rfl ?_
     refine vq 1 [.int .u8 (List.getD s19 j24.toNat 0)] [(21, .int .u8 (List.getD s19 j24.toNat 0))] [World.cell? w65 ⟨b54, 0 + j24.toNat * 1, none⟩ = some (.int .u8 (List.getD s19 j24.toNat 0))] E (Rds.at1 (H.rd 0 rds_row) 0 g53) ?_
     clear E; intro a E
     refine nl_ <| th_n ⟨HS67, ?_⟩
     refine wpAnyH_all (rs := [12]) (by kernel_rfl) (by simp) ?_
     refine all1 ?_
     refine wpOp_of_list rfl ?_
     refine vq 1 [] [(26, .pointer (some ⟨b54, 0 + i23.toNat * 1, none⟩))] [0 ≤ i23 ∧ i23 < (s19.length : Int)] E (g56) ?_
     clear E; intro a E
     refine nl_ <| th_n ⟨HS67, ?_⟩
     refine wpAnyH_all (rs := [13]) (by kernel_rfl) (by simp) ?_
     refine all1 ?_
     refine wpOp_of_list rfl ?_
     refine h_set (g := b54) (i := i23) (List.getD s19 j24.toNat 0) H 0 rfl E rfl rfl rfl rfl tbok rfl (fun _ HF_ => rfl) rfl g56 rfl ?_
     clear E; intro w81 a hc82 H_ E
     replace HS67 := HS67.trans hc82 (fun k_ hk_ h_ => (fun _ _ h_ => Or.inl h_) k_ hk_ h_)
     replace H := H_; clear H_; try dsimp only [setn, addE, goneL] at H
     have hn83 : s19.length = (List.length (List.set s19 i23.toNat (List.getD s19 j24.toNat 0))) := by simp only [List.length_set]
     replace E := E.same (t := 0) (u := .slice (some ⟨b54, 0, none⟩) (List.length (List.set s19 i23.toNat (List.getD s19 j24.toNat 0))) c2) rfl (congrArg (fun n_ => Value.slice (some ⟨b54, 0, none⟩) n_ c2) hn83)
     replace E := E.same (t := 14) (u := .slice (some ⟨b54, 0, none⟩) (List.length (List.set s19 i23.toNat (List.getD s19 j24.toNat 0))) c2) rfl (congrArg (fun n_ => Value.slice (some ⟨b54, 0, none⟩) n_ c2) hn83)
     replace E := E.same (t := 16) (u := .slice (some ⟨b54, 0, none⟩) (List.length (List.set s19 i23.toNat (List.getD s19 j24.toNat 0))) c2) rfl (congrArg (fun n_ => Value.slice (some ⟨b54, 0, none⟩) n_ c2) hn83)
     refine nl_ <| th_n ⟨HS67, ?_⟩
     refine wpAnyH_all (rs := [14]) (by kernel_rfl) (by simp) ?_
     refine all1 ?_
     refine wpOp_of_list rfl ?_
     refine vq 1 [] [(27, .pointer (some ⟨b54, 0 + j24.toNat * 1, none⟩))] [0 ≤ j24 ∧ j24 < (((List.length (List.set s19 i23.toNat (List.getD s19 j24.toNat 0))) : Nat) : Int)] E (g60) ?_
     clear E; intro a E
     refine nl_ <| th_n ⟨HS67, ?_⟩
     refine wpAnyH_all (rs := [15]) (by kernel_rfl) (by simp) ?_
     refine all1 ?_
     refine wpOp_of_list rfl ?_
     refine h_set (g := b54) (i := j24) (List.getD s19 i23.toNat 0) H 0 rfl E rfl rfl rfl rfl tbok rfl (fun _ HF_ => rfl) rfl g60 rfl ?_
     clear E; intro w84 a hc85 H_ E
     replace HS67 := HS67.trans hc85 (fun k_ hk_ h_ => (fun _ _ h_ => Or.inl h_) k_ hk_ h_)
     replace H := H_; clear H_; try dsimp only [setn, addE, goneL] at H
     have hn86 : (List.length (List.set s19 i23.toNat (List.getD s19 j24.toNat 0))) = (List.length (List.set (List.set s19 i23.toNat (List.getD s19 j24.toNat 0)) j24.toNat (List.getD s19 i23.toNat 0))) := by simp only [List.length_set]
     replace E := E.same (t := 0) (u := .slice (some ⟨b54, 0, none⟩) (List.length (List.set (List.set s19 i23.toNat (List.getD s19 j24.toNat 0)) j24.toNat (List.getD s19 i23.toNat 0))) c2) rfl (congrArg (fun n_ => Value.slice (some ⟨b54, 0, none⟩) n_ c2) hn86)
     replace E := E.same (t := 16) (u := .slice (some ⟨b54, 0, none⟩) (List.length (List.set (List.set s19 i23.toNat (List.getD s19 j24.toNat 0)) j24.toNat (List.getD s19 i23.toNat 0))) c2) rfl (congrArg (fun n_ => Value.slice (some ⟨b54, 0, none⟩) n_ c2) hn86)
     refine nl_ <| th_n ⟨HS67, ?_⟩
     refine dr_done (by kernel_rfl) ?_
     exact .inl ⟨rfl, E.pk, H.sel [0] rfl⟩
    refine wpOp_of_list rfl ?_
    refine vq 1 [] [(24, .pointer (some ⟨b54, 0 + i23.toNat * 1, none⟩))] [0 ≤ i23 ∧ i23 < (s19.length : Int)] E (g56) ?_
    clear E; intro a E
    refine nl_ <| th_n ⟨HS67, ?_⟩
    refine wpAnyH_all (rs := [6, 11]) (by kernel_rfl) (by simp) ?_
    refine all2 ?_ ?_
    ·
     refine wpOp_of_list rfl ?_
     refine vq 1 [] [(20, .pointer (some ⟨b54, 0 + j24.toNat * 1, none⟩))] [0 ≤ j24 ∧ j24 < (s19.length : Int)] E (g53) ?_
     clear E; intro a E
     refine nl_ <| th_n ⟨HS67, ?_⟩
     refine wpAnyH_all (rs := [7, 11]) (by kernel_rfl) (by simp) ?_
     refine all2 ?_ ?_
     ·
      refine wpOp_of_list rfl ?_
      refine vq 1 [.int .u8 (List.getD s19 j24.toNat 0)] [(21, .int .u8 (List.getD s19 j24.toNat 0))] [World.cell? w65 ⟨b54, 0 + j24.toNat * 1, none⟩ = some (.int .u8 (List.getD s19 j24.toNat 0))] E (Rds.at1 (H.rd 0 rds_row) 0 g53) ?_
      clear E; intro a E
      refine nl_ <| th_n ⟨HS67, ?_⟩
      refine wpAnyH_all (rs := [11]) (by kernel_rfl) (by simp) ?_
      refine all1 ?_
      refine wpOp_of_list rfl ?_
      refine vq 1 [.int .u8 (List.getD s19 i23.toNat 0)] [(25, .int .u8 (List.getD s19 i23.toNat 0))] [World.cell? w65 ⟨b54, 0 + i23.toNat * 1, none⟩ = some (.int .u8 (List.getD s19 i23.toNat 0))] E (Rds.at1 (H.rd 0 rds_row) 0 g56) ?_
      clear E; intro a E
      refine nl_ <| th_n ⟨HS67, ?_⟩
      refine wpAnyH_all (rs := [12]) (by kernel_rfl) (by simp) ?_
      refine all1 ?_
      refine wpOp_of_list rfl ?_
      refine vq 1 [] [(26, .pointer (some ⟨b54, 0 + i23.toNat * 1, none⟩))] [0 ≤ i23 ∧ i23 < (s19.length : Int)] E (g56) ?_
      clear E; intro a E
      refine nl_ <| th_n ⟨HS67, ?_⟩
      refine wpAnyH_all (rs := [13]) (by kernel_rfl) (by simp) ?_
      refine all1 ?_
      refine wpOp_of_list rfl ?_
      refine h_set (g := b54) (i := i23) (List.getD s19 j24.toNat 0) H 0 rfl E rfl rfl rfl rfl tbok rfl (fun _ HF_ => rfl) rfl g56 rfl ?_
      clear E; intro w87 a hc88 H_ E
      replace HS67 := HS67.trans hc88 (fun k_ hk_ h_ => (fun _ _ h_ => Or.inl h_) k_ hk_ h_)
      replace H := H_; clear H_; try dsimp only [setn, addE, goneL] at H
      have hn89 : s19.length = (List.length (List.set s19 i23.toNat (List.getD s19 j24.toNat 0))) := by simp only [List.length_set]
      replace E := E.same (t := 0) (u := .slice (some ⟨b54, 0, none⟩) (List.length (List.set s19 i23.toNat (List.getD s19 j24.toNat 0))) c2) rfl (congrArg (fun n_ => Value.slice (some ⟨b54, 0, none⟩) n_ c2) hn89)
      replace E := E.same (t := 14) (u := .slice (some ⟨b54, 0, none⟩) (List.length (List.set s19 i23.toNat (List.getD s19 j24.toNat 0))) c2) rfl (congrArg (fun n_ => Value.slice (some ⟨b54, 0, none⟩) n_ c2) hn89)
      replace E := E.same (t := 16) (u := .slice (some ⟨b54, 0, none⟩) (List.length (List.set s19 i23.toNat (List.getD s19 j24.toNat 0))) c2) rfl (congrArg (fun n_ => Value.slice (some ⟨b54, 0, none⟩) n_ c2) hn89)
      refine nl_ <| th_n ⟨HS67, ?_⟩
      refine wpAnyH_all (rs := [14]) (by kernel_rfl) (by simp) ?_
      refine all1 ?_
      refine wpOp_of_list rfl ?_
      refine vq 1 [] [(27, .pointer (some ⟨b54, 0 + j24.toNat * 1, none⟩))] [0 ≤ j24 ∧ j24 < (((List.length (List.set s19 i23.toNat (List.getD s19 j24.toNat 0))) : Nat) : Int)] E (g60) ?_
      clear E; intro a E
      refine nl_ <| th_n ⟨HS67, ?_⟩
      refine wpAnyH_all (rs := [15]) (by kernel_rfl) (by simp) ?_
      refine all1 ?_
      refine wpOp_of_list rfl ?_
      refine h_set (g := b54) (i := j24) (List.getD s19 i23.toNat 0) H 0 rfl E rfl rfl rfl rfl tbok rfl (fun _ HF_ => rfl) rfl g60 rfl ?_
      clear E; intro w90 a hc91 H_ E
      replace HS67 := HS67.trans hc91 (fun k_ hk_ h_ => (fun _ _ h_ => Or.inl h_) k_ hk_ h_)
      replace H := H_; clear H_; try dsimp only [setn, addE, goneL] at H
      have hn92 : (List.length (List.set s19 i23.toNat (List.getD s19 j24.toNat 0))) = (List.length (List.set (List.set s19 i23.toNat (List.getD s19 j24.toNat 0)) j24.toNat (List.getD s19 i23.toNat 0))) := by simp only [List.length_set]
      replace E := E.same (t := 0) (u := .slice (some ⟨b54, 0, none⟩) (List.length (List.set (List.set s19 i23.toNat (List.getD s19 j24.toNat 0)) j24.toNat (List.getD s19 i23.toNat 0))) c2) rfl (congrArg (fun n_ => Value.slice (some ⟨b54, 0, none⟩) n_ c2) hn92)
      replace E := E.same (t := 16) (u := .slice (some ⟨b54, 0, none⟩) (List.length (List.set (List.set s19 i23.toNat (List.getD s19 j24.toNat 0)) j24.toNat (List.getD s19 i23.toNat 0))) c2) rfl (congrArg (fun n_ => Value.slice (some ⟨b54, 0, none⟩) n_ c2) hn92)
      refine nl_ <| th_n ⟨HS67, ?_⟩
      refine dr_done (by kernel_rfl) ?_
      exact .inl ⟨rfl, E.pk, H.sel [0] rfl⟩
     refine wpOp_of_list rfl ?_
     refine vq 1 [.int .u8 (List.getD s19 i23.toNat 0)] [(25, .int .u8 (List.getD s19 i23.toNat 0))] [World.cell? w65 ⟨b54, 0 + i23.toNat * 1, none⟩ = some (.int .u8 (List.getD s19 i23.toNat 0))] E (Rds.at1 (H.rd 0 rds_row) 0 g56) ?_
     clear E; intro a E
     refine nl_ <| th_n ⟨HS67, ?_⟩
     refine wpAnyH_all (rs := [7]) (by kernel_rfl) (by simp) ?_
     refine all1 ?_
     refine wpOp_of_list rfl ?_
     refine vq 1 [.int .u8 (List.getD s19 j24.toNat 0)] [(21, .int .u8 (List.getD s19 j24.toNat 0))] [World.cell? w65 ⟨b54, 0 + j24.toNat * 1, none⟩ = some (.int .u8 (List.getD s19 j24.toNat 0))] E (Rds.at1 (H.rd 0 rds_row) 0 g53) ?_
     clear E; intro a E
     refine nl_ <| th_n ⟨HS67, ?_⟩
     refine wpAnyH_all (rs := [12]) (by kernel_rfl) (by simp) ?_
     refine all1 ?_
     refine wpOp_of_list rfl ?_
     refine vq 1 [] [(26, .pointer (some ⟨b54, 0 + i23.toNat * 1, none⟩))] [0 ≤ i23 ∧ i23 < (s19.length : Int)] E (g56) ?_
     clear E; intro a E
     refine nl_ <| th_n ⟨HS67, ?_⟩
     refine wpAnyH_all (rs := [13]) (by kernel_rfl) (by simp) ?_
     refine all1 ?_
     refine wpOp_of_list rfl ?_
     refine h_set (g := b54) (i := i23) (List.getD s19 j24.toNat 0) H 0 rfl E rfl rfl rfl rfl tbok rfl (fun _ HF_ => rfl) rfl g56 rfl ?_
     clear E; intro w93 a hc94 H_ E
     replace HS67 := HS67.trans hc94 (fun k_ hk_ h_ => (fun _ _ h_ => Or.inl h_) k_ hk_ h_)
     replace H := H_; clear H_; try dsimp only [setn, addE, goneL] at H
     have hn95 : s19.length = (List.length (List.set s19 i23.toNat (List.getD s19 j24.toNat 0))) := by simp only [List.length_set]
     replace E := E.same (t := 0) (u := .slice (some ⟨b54, 0, none⟩) (List.length (List.set s19 i23.toNat (List.getD s19 j24.toNat 0))) c2) rfl (congrArg (fun n_ => Value.slice (some ⟨b54, 0, none⟩) n_ c2) hn95)
     replace E := E.same (t := 14) (u := .slice (some ⟨b54, 0, none⟩) (List.length (List.set s19 i23.toNat (List.getD s19 j24.toNat 0))) c2) rfl (congrArg (fun n_ => Value.slice (some ⟨b54, 0, none⟩) n_ c2) hn95)
     replace E := E.same (t := 16) (u := .slice (some ⟨b54, 0, none⟩) (List.length (List.set s19 i23.toNat (List.getD s19 j24.toNat 0))) c2) rfl (congrArg (fun n_ => Value.slice (some ⟨b54, 0, none⟩) n_ c2) hn95)
     refine nl_ <| th_n ⟨HS67, ?_⟩
     refine wpAnyH_all (rs := [14]) (by kernel_rfl) (by simp) ?_
     refine all1 ?_
     refine wpOp_of_list rfl ?_
     refine vq 1 [] [(27, .pointer (some ⟨b54, 0 + j24.toNat * 1, none⟩))] [0 ≤ j24 ∧ j24 < (((List.length (List.set s19 i23.toNat (List.getD s19 j24.toNat 0))) : Nat) : Int)] E (g60) ?_
     clear E; intro a E
     refine nl_ <| th_n ⟨HS67, ?_⟩
     refine wpAnyH_all (rs := [15]) (by kernel_rfl) (by simp) ?_
     refine all1 ?_
     refine wpOp_of_list rfl ?_
     refine h_set (g := b54) (i := j24) (List.getD s19 i23.toNat 0) H 0 rfl E rfl rfl rfl rfl tbok rfl (fun _ HF_ => rfl) rfl g60 rfl ?_
     clear E; intro w96 a hc97 H_ E
     replace HS67 := HS67.trans hc97 (fun k_ hk_ h_ => (fun _ _ h_ => Or.inl h_) k_ hk_ h_)
     replace H := H_; clear H_; try dsimp only [setn, addE, goneL] at H
     have hn98 : (List.length (List.set s19 i23.toNat (List.getD s19 j24.toNat 0))) = (List.length (List.set (List.set s19 i23.toNat (List.getD s19 j24.toNat 0)) j24.toNat (List.getD s19 i23.toNat 0))) := by simp only [List.length_set]
     replace E := E.same (t := 0) (u := .slice (some ⟨b54, 0, none⟩) (List.length (List.set (List.set s19 i23.toNat (List.getD s19 j24.toNat 0)) j24.toNat (List.getD s19 i23.toNat 0))) c2) rfl (congrArg (fun n_ => Value.slice (some ⟨b54, 0, none⟩) n_ c2) hn98)
     replace E := E.same (t := 16) (u := .slice (some ⟨b54, 0, none⟩) (List.length (List.set (List.set s19 i23.toNat (List.getD s19 j24.toNat 0)) j24.toNat (List.getD s19 i23.toNat 0))) c2) rfl (congrArg (fun n_ => Value.slice (some ⟨b54, 0, none⟩) n_ c2) hn98)
     refine nl_ <| th_n ⟨HS67, ?_⟩
     refine dr_done (by kernel_rfl) ?_
     exact .inl ⟨rfl, E.pk, H.sel [0] rfl⟩
    refine wpOp_of_list rfl ?_
    refine vq 1 [.int .u8 (List.getD s19 i23.toNat 0)] [(25, .int .u8 (List.getD s19 i23.toNat 0))] [World.cell? w65 ⟨b54, 0 + i23.toNat * 1, none⟩ = some (.int .u8 (List.getD s19 i23.toNat 0))] E (Rds.at1 (H.rd 0 rds_row) 0 g56) ?_
    clear E; intro a E
    refine nl_ <| th_n ⟨HS67, ?_⟩
    refine wpAnyH_all (rs := [6]) (by kernel_rfl) (by simp) ?_
    refine all1 ?_
    refine wpOp_of_list rfl ?_
    refine vq 1 [] [(20, .pointer (some ⟨b54, 0 + j24.toNat * 1, none⟩))] [0 ≤ j24 ∧ j24 < (s19.length : Int)] E (g53) ?_
    clear E; intro a E
    refine nl_ <| th_n ⟨HS67, ?_⟩
    refine wpAnyH_all (rs := [7]) (by kernel_rfl) (by simp) ?_
    refine all1 ?_
    refine wpOp_of_list rfl ?_
    refine vq 1 [.int .u8 (List.getD s19 j24.toNat 0)] [(21, .int .u8 (List.getD s19 j24.toNat 0))] [World.cell? w65 ⟨b54, 0 + j24.toNat * 1, none⟩ = some (.int .u8 (List.getD s19 j24.toNat 0))] E (Rds.at1 (H.rd 0 rds_row) 0 g53) ?_
    clear E; intro a E
    refine nl_ <| th_n ⟨HS67, ?_⟩
    refine wpAnyH_all (rs := [12]) (by kernel_rfl) (by simp) ?_
    refine all1 ?_
    refine wpOp_of_list rfl ?_
    refine vq 1 [] [(26, .pointer (some ⟨b54, 0 + i23.toNat * 1, none⟩))] [0 ≤ i23 ∧ i23 < (s19.length : Int)] E (g56) ?_
    clear E; intro a E
    refine nl_ <| th_n ⟨HS67, ?_⟩
    refine wpAnyH_all (rs := [13]) (by kernel_rfl) (by simp) ?_
    refine all1 ?_
    refine wpOp_of_list rfl ?_
    refine h_set (g := b54) (i := i23) (List.getD s19 j24.toNat 0) H 0 rfl E rfl rfl rfl rfl tbok rfl (fun _ HF_ => rfl) rfl g56 rfl ?_
    clear E; intro w99 a hc100 H_ E
    replace HS67 := HS67.trans hc100 (fun k_ hk_ h_ => (fun _ _ h_ => Or.inl h_) k_ hk_ h_)
    replace H := H_; clear H_; try dsimp only [setn, addE, goneL] at H
    have hn101 : s19.length = (List.length (List.set s19 i23.toNat (List.getD s19 j24.toNat 0))) := by simp only [List.length_set]
    replace E := E.same (t := 0) (u := .slice (some ⟨b54, 0, none⟩) (List.length (List.set s19 i23.toNat (List.getD s19 j24.toNat 0))) c2) rfl (congrArg (fun n_ => Value.slice (some ⟨b54, 0, none⟩) n_ c2) hn101)
    replace E := E.same (t := 14) (u := .slice (some ⟨b54, 0, none⟩) (List.length (List.set s19 i23.toNat (List.getD s19 j24.toNat 0))) c2) rfl (congrArg (fun n_ => Value.slice (some ⟨b54, 0, none⟩) n_ c2) hn101)
    replace E := E.same (t := 16) (u := .slice (some ⟨b54, 0, none⟩) (List.length (List.set s19 i23.toNat (List.getD s19 j24.toNat 0))) c2) rfl (congrArg (fun n_ => Value.slice (some ⟨b54, 0, none⟩) n_ c2) hn101)
    refine nl_ <| th_n ⟨HS67, ?_⟩
    refine wpAnyH_all (rs := [14]) (by kernel_rfl) (by simp) ?_
    refine all1 ?_
    refine wpOp_of_list rfl ?_
    refine vq 1 [] [(27, .pointer (some ⟨b54, 0 + j24.toNat * 1, none⟩))] [0 ≤ j24 ∧ j24 < (((List.length (List.set s19 i23.toNat (List.getD s19 j24.toNat 0))) : Nat) : Int)] E (g60) ?_
    clear E; intro a E
    refine nl_ <| th_n ⟨HS67, ?_⟩
    refine wpAnyH_all (rs := [15]) (by kernel_rfl) (by simp) ?_
    refine all1 ?_
    refine wpOp_of_list rfl ?_
    refine h_set (g := b54) (i := j24) (List.getD s19 i23.toNat 0) H 0 rfl E rfl rfl rfl rfl tbok rfl (fun _ HF_ => rfl) rfl g60 rfl ?_
    clear E; intro w102 a hc103 H_ E
    replace HS67 := HS67.trans hc103 (fun k_ hk_ h_ => (fun _ _ h_ => Or.inl h_) k_ hk_ h_)
    replace H := H_; clear H_; try dsimp only [setn, addE, goneL] at H
    have hn104 : (List.length (List.set s19 i23.toNat (List.getD s19 j24.toNat 0))) = (List.length (List.set (List.set s19 i23.toNat (List.getD s19 j24.toNat 0)) j24.toNat (List.getD s19 i23.toNat 0))) := by simp only [List.length_set]
    replace E := E.same (t := 0) (u := .slice (some ⟨b54, 0, none⟩) (List.length (List.set (List.set s19 i23.toNat (List.getD s19 j24.toNat 0)) j24.toNat (List.getD s19 i23.toNat 0))) c2) rfl (congrArg (fun n_ => Value.slice (some ⟨b54, 0, none⟩) n_ c2) hn104)
    replace E := E.same (t := 16) (u := .slice (some ⟨b54, 0, none⟩) (List.length (List.set (List.set s19 i23.toNat (List.getD s19 j24.toNat 0)) j24.toNat (List.getD s19 i23.toNat 0))) c2) rfl (congrArg (fun n_ => Value.slice (some ⟨b54, 0, none⟩) n_ c2) hn104)
    refine nl_ <| th_n ⟨HS67, ?_⟩
    refine dr_done (by kernel_rfl) ?_
    exact .inl ⟨rfl, E.pk, H.sel [0] rfl⟩
   clear E H; rintro a w64 ⟨E, H⟩
   refine bl_n <| th_n <| rl_ ?_
   obtain ⟨g105, hP⟩ := ask_inv hP
   obtain ⟨g106, hP⟩ := ask_inv hP
   refine vq 6 [.int .i64 (i23 + 1), .int .i64 (j24 - 1)] [(2, .int .i64 (i23 + 1)), (3, .int .i64 (j24 - 1))] [IntKind.i64.wrap (i23 + 1) = i23 + 1, IntKind.i64.wrap (j24 - 1) = j24 - 1] E ⟨wrap_in g105, wrap_in g106⟩ ?_
   clear E; intro a E
   refine nl_ ?_
   exact th_n ⟨m45, Nat.lt_succ_self _, List.set (List.set s19 i23.toNat (List.getD s19 j24.toNat 0)) j24.toNat (List.getD s19 i23.toNat 0), i23 + 1, j24 - 1, E.pk, H.sel [0] rfl, (Eq.trans List.length_set (Eq.trans List.length_set hl22)), hP⟩
  have h107 : ¬ (i23 < j24) := of_decide_eq_false hb_
  replace hP := ite_f h107 hP
  refine c_false E rfl <| wp_exit <| th_exit ?_
  have hx_ := Option.some.inj hP
  refine th_exit (.inl ⟨0, rfl, ?_⟩)
  exact ⟨rfl, s19, E.pick _ trivial, H.sel [0] rfl, hl22, hx_.symm⟩
 clear E H hL47; intro i_ a w49 hM_
 obtain ⟨rfl, x51, E, H, hl44, hx_⟩ := hM_
 subst hx_; have hP := hK48; clear hK48
 refine bl_hit ?_
 obtain rfl := Option.some.inj hP
 refine bodyPost_end (v := .tuple #[]) (by simp [results, Try.f73]) E.nodef ?_
 exact ⟨_, rfl, rfl, hl44, H.sel [0] rfl⟩

/-! rejoinder/both.first -/
def both_first_l1 (N : Nat) (r37 : (List (Int × Int)) × (List (List Int)) × (List Int) × (List Int)) : Nat → Int → (List Int) → Option (List Int)
  | 0, _, _ => none
  | m937 + 1, i810, t812 =>
    ask (idx i810 r37.2.2.1.length) <|
    if 0 ≤ (List.getD r37.2.2.1 i810.toNat 0) then
      ask (idx i810 r37.2.2.2.length) <|
      ask (List.length t812 + List.length ([(List.getD r37.2.2.2 i810.toNat 0)] : List Int) ≤ 1000000000) <|
      both_first_l1 N r37 m937 (List.getD r37.2.2.1 i810.toNat 0) (t812 ++ ([(List.getD r37.2.2.2 i810.toNat 0)] : List Int))
    else
      some t812
def both_first_l0 (N : Nat) (aAccept : List Bool) (bAccept : List Bool) (says : Bool → Bool → Bool) (r37 : (List (Int × Int)) × (List (List Int)) × (List Int) × (List Int)) : Nat → Int → Option (Unit ⊕ ((List Int) × Bool))
  | 0, _ => none
  | m657 + 1, x370 =>
    if x370 < (r37.1.length : Int) then
      ask (idx x370 r37.1.length) <|
      ask (idx ((List.getD r37.1 x370.toNat (0, 0)).1) aAccept.length) <|
      ask (idx ((List.getD r37.1 x370.toNat (0, 0)).2) bAccept.length) <|
      if (says (List.getD aAccept (Int.toNat ((List.getD r37.1 x370.toNat (0, 0)).1)) false) (List.getD bAccept (Int.toNat ((List.getD r37.1 x370.toNat (0, 0)).2)) false)) = true then
        Option.bind (both_first_l1 N r37 N x370 []) fun x938 =>
        Option.bind (slices_Reverse_api_Letter_api_Letter N x938) fun r1062 =>
        some (Sum.inr (r1062, true))
      else
        ask (in64 (x370 + 1)) <|
        both_first_l0 N aAccept bAccept says r37 m657 (x370 + 1)
    else
      some (Sum.inl ())
def both_first (N : Nat) (aProps : Int) (aAccept : List Bool) (aGuard : List Int) (aNodes : List Nd) (bProps : Int) (bAccept : List Bool) (bGuard : List Int) (bNodes : List Nd) (says : Bool → Bool → Bool) : Option ((List Int) × Bool) :=
  Option.bind (both_met N aProps aAccept aGuard aNodes bProps bAccept bGuard bNodes) fun r37 =>
  Option.bind (both_first_l0 N aAccept bAccept says r37 N 0) fun x658 =>
  Sum.elim (fun x663 =>
    some ([], false))
   (fun x1075 =>
    some x1075) x658
theorem both_first_calls {N : Nat} {S Fa : Nat → Prop} {w0 : World} {r : (List Int) × Bool} (A1 : Option Addr) (c2 : Nat) (A5 : Option Addr) (c6 : Nat) (A9 : Option Addr) (c10 : Nat) (A13 : Option Addr) (c14 : Nat) (A17 : Option Addr) (c18 : Nat) (A21 : Option Addr) (c22 : Nat) (fv25 : Value) (aProps : Int) (aAccept : List Bool) (aGuard : List Int) (aNodes : List Nd) (bProps : Int) (bAccept : List Bool) (bGuard : List Int) (bNodes : List Nd) (says : Bool → Bool → Bool) (hk3 : List.length aAccept ≤ c2) (hk7 : List.length aGuard ≤ c6) (hk11 : List.length aNodes ≤ c10) (hk15 : List.length bAccept ≤ c14) (hk19 : List.length bGuard ≤ c18) (hk23 : List.length bNodes ≤ c22) (hF26 : PureF2 Try.prog fv25 says) (H : Hp S Fa w0 w0 [.ro false cBool A1 aAccept, .ro false (cInt .i64) A5 aGuard, .ro false cNode A9 aNodes, .ro false cBool A13 bAccept, .ro false (cInt .i64) A17 bGuard, .ro false cNode A21 bNodes]) (hP : both_first N aProps aAccept aGuard aNodes bProps bAccept bGuard bNodes says = some r) :
    Calls Try.prog 43 #[.agg #[.int .i64 aProps, .slice A1 aAccept.length c2, .slice A5 aGuard.length c6, .slice A9 aNodes.length c10], .agg #[.int .i64 bProps, .slice A13 bAccept.length c14, .slice A17 bGuard.length c18, .slice A21 bNodes.length c22], fv25] w0 fun e w' => ∃ v, e = .returned v ∧ ∃ (A1077 : Option Addr) (c1078 : Nat), v = .tuple #[.slice A1077 r.1.length c1078, .bool r.2] ∧ Hp S Fa w0 w' [.row true (cInt .u8) 50 A1077 c1078 r.1] := by
 refine enterV (n := 69) Try.func43 rfl rfl rfl ?_
 intro a E
 replace E := E.pick [(0, .agg #[.int .i64 aProps, .slice A1 aAccept.length c2, .slice A5 aGuard.length c6, .slice A9 aNodes.length c10]), (1, .agg #[.int .i64 bProps, .slice A13 bAccept.length c14, .slice A17 bGuard.length c18, .slice A21 bNodes.length c22]), (2, fv25)] ⟨rfl, rfl, rfl, trivial⟩
 rw [both_first] at hP
 refine sr_ <| h_box H E rfl rfl rfl ?_
 clear H E; intro w28 g27 a hc29 hg31 H E; replace E := E _ rfl; try dsimp only [setn, addE, goneL] at H
 refine h_box H E rfl rfl rfl ?_
 clear H E; intro w33 g32 a hc34 hg36 H E; replace E := E _ rfl; try dsimp only [setn, addE, goneL] at H
 refine vp 2 [] E ?_
 clear E; intro a E
 refine nn_ <| sr_ <| vq 2 [.agg #[.int .i64 aProps, .slice A1 aAccept.length c2, .slice A5 aGuard.length c6, .slice A9 aNodes.length c10], .agg #[.int .i64 bProps, .slice A13 bAccept.length c14, .slice A17 bGuard.length c18, .slice A21 bNodes.length c22]] [(12, .agg #[.int .i64 aProps, .slice A1 aAccept.length c2, .slice A5 aGuard.length c6, .slice A9 aNodes.length c10]), (13, .agg #[.int .i64 bProps, .slice A13 bAccept.length c14, .slice A17 bGuard.length c18, .slice A21 bNodes.length c22])] [cellsAt w33 g27 (0) [.int .i64 aProps, .slice A1 aAccept.length c2, .slice A5 aGuard.length c6, .slice A9 aNodes.length c10], cellsAt w33 g32 (0) [.int .i64 bProps, .slice A13 bAccept.length c14, .slice A17 bGuard.length c18, .slice A21 bNodes.length c22]] E ⟨(H.box 6 rfl).sub 0 _ rfl, (H.box 7 rfl).sub 0 _ rfl⟩ ?_
 clear E; intro a E
 obtain ⟨r37, h38, hP⟩ := bind_inv hP
 obtain ⟨Fa39, Hc40, hb41⟩ := H.call [] [(0, false), (1, false), (2, false), (3, false), (4, false), (5, false)] rfl rfl trivial
 refine e_call E rfl rfl Try.func60 rfl rfl rfl (both_met_calls A1 c2 A5 c6 A9 c10 A13 c14 A17 c18 A21 c22 aProps aAccept aGuard aNodes bProps bAccept bGuard bNodes hk3 hk7 hk11 hk15 hk19 hk23 Hc40 h38) ?_
 intro v47 w46 a hR48 E_
 obtain ⟨x_, b51, hr_, rfl, HR50⟩ := hR48
 subst hr_
 replace E := E_ _ rfl; clear E_
 obtain ⟨H_, hc49⟩ := hb41 _ _ HR50 rfl
 replace H := H_; clear H_; try dsimp only [setn, addE, goneL] at H
 refine vp 1 [(8, .pointer (some ⟨b51, 0, none⟩))] E ?_
 clear E; intro a E
 refine nn_ <| wp_seq <| sr_ ?_
 obtain ⟨Fz53, cs55, HF54, hK56, hc57⟩ := H.elem 8 true (el_ro rfl) r37 (idx_one _)
 obtain ⟨_, _, rfl, hK58, hK59⟩ := hK56
 obtain ⟨A60, c61, rfl, hk62, hC63⟩ := hK58
 obtain ⟨_, _, rfl, hK65, hK66⟩ := hK59
 obtain ⟨A67, c68, rfl, hk69, hC70⟩ := hK65
 obtain ⟨_, _, rfl, hK72, hK73⟩ := hK66
 obtain ⟨A74, c75, rfl, hk76, hC77⟩ := hK72
 obtain ⟨A79, c80, rfl, hk81, hC82⟩ := hK73
 replace HF54 := HF54.ins hC63
 replace HF54 := HF54.ins hC70
 replace HF54 := HF54.ins hC77
 replace HF54 := HF54.ins hC82
 replace H := HF54.hp; try dsimp only [addE] at H
 have hc84 : cellsAt w46 b51 (0) [.slice A60 r37.1.length c61, .slice A67 r37.2.1.length c68, .slice A74 r37.2.2.1.length c75, .slice A79 r37.2.2.2.length c80] := hc57
 refine vq 6 [.slice A60 r37.1.length c61] [(18, .slice A60 r37.1.length c61), (19, .int .i64 (r37.1.length : Int)), (20, .int .i64 0)] [World.cell? w46 ⟨b51, 0, none⟩ = some (.slice A60 r37.1.length c61)] E (hc84.1) ?_
 clear E; intro a E
 refine nn_ <| wp_block ?_
 obtain ⟨x658, hL659, hK660⟩ := bind_inv hP
 clear hP
 refine loop_cut (fun i_ a w_ => (i_ = 0 ∧ ∃ (x663 : Unit), Fr a 69 [] ∧ Hp S Fa w0 w_ [] ∧ x658 = Sum.inl x663)) ?_ ?_
 ·
  refine loopV (fun m662 a w661 => ∃ (x370 : Int), Fr a 69 [(2, fv25), (3, .pointer (some ⟨g27, 0, none⟩)), (4, .pointer (some ⟨g32, 0, none⟩)), (8, .pointer (some ⟨b51, 0, none⟩)), (18, .slice A60 r37.1.length c61), (19, .int .i64 (r37.1.length : Int)), (20, .int .i64 x370)] ∧ Hp S Fa w0 w661 [.ro false cBool A1 aAccept, .ro false (cInt .i64) A5 aGuard, .ro false cNode A9 aNodes, .box g27 26 [.int .i64 aProps, .slice A1 aAccept.length c2, .slice A5 aGuard.length c6, .slice A9 aNodes.length c10], .ro false cBool A13 bAccept, .ro false (cInt .i64) A17 bGuard, .ro false cNode A21 bNodes, .box g32 26 [.int .i64 bProps, .slice A13 bAccept.length c14, .slice A17 bGuard.length c18, .slice A21 bNodes.length c22], .ro true cS81 (some ⟨b51, 0, none⟩) ([r37]), .ro true cS83 A60 r37.1] ∧ both_first_l0 N aAccept bAccept says r37 m662 x370 = some x658) N ?_ ?_
  ·
   exact ⟨0, E.pk, H.sel [0, 1, 2, 6, 3, 4, 5, 7, 8, 9] rfl, hL659⟩
  clear E H hL659; intro m662 a w661 hI_
  obtain ⟨x370, E, H, hP⟩ := hI_
  obtain ⟨m657, rfl⟩ : ∃ q_, m662 = q_ + 1 := by cases m662 with | zero => rw [both_first_l0] at hP; cases hP | succ q_ => exact ⟨q_, rfl⟩
  rw [both_first_l0] at hP
  refine sr_ <| vp 1 [(21, .bool (decide (x370 < (r37.1.length : Int))))] E ?_
  clear E; intro a E
  refine nn_ <| wp_seq ?_
  revert E; refine csE 21 rfl (fun hb_ E => ?_) fun hb_ E => ?_
  ·
   have h664 : x370 < (r37.1.length : Int) := of_decide_eq_true hb_
   replace hP := ite_t h664 hP
   refine c_true E rfl <| wp_skip <| th_n <| wp_seq <| wp_block <| sr_ ?_
   obtain ⟨g665, hP⟩ := ask_inv hP
   obtain ⟨b666, o667, e_b666⟩ := (H.rd 9 rds_ro).addr (idx_pos g665)
   subst e_b666
   refine vq 3 [.agg #[.int .i64 ((List.getD r37.1 x370.toNat (0, 0)).1), .int .i64 ((List.getD r37.1 x370.toNat (0, 0)).2)]] [(22, .int .i64 x370), (24, .agg #[.int .i64 ((List.getD r37.1 x370.toNat (0, 0)).1), .int .i64 ((List.getD r37.1 x370.toNat (0, 0)).2)])] [0 ≤ x370 ∧ x370 < (r37.1.length : Int), cellsAt w661 b666 (o667 + x370.toNat * 2) [.int .i64 ((List.getD r37.1 x370.toNat (0, 0)).1), .int .i64 ((List.getD r37.1 x370.toNat (0, 0)).2)]] E ⟨g665, Rds.atP (H.rd 9 rds_ro) (0, 0) g665⟩ ?_
   clear E; intro a E
   refine h_alloc H E rfl rfl tbok rfl ?_
   clear H E; intro w669 g668 a hc670 hg672 H E; replace E := E _ rfl; try dsimp only [setn, addE, goneL] at H
   refine vp 1 [(9, .int .i64 x370)] E ?_
   clear E; intro a E
   refine h_store (g := g668) (off := 0) H 10 rfl E rfl rfl rfl rfl tbok rfl rfl rfl rfl rfl ?_
   clear E; intro w673 a hc674 H_ E
   replace H := H_; clear H_; try dsimp only [setn, addE, goneL] at H
   refine nn_ <| wp_seq <| wp_seq ?_
   obtain ⟨g675, hP⟩ := ask_inv hP
   obtain ⟨b676, o677, e_b676⟩ := (H.rd 0 rds_ro).addr (idx_pos g675)
   subst e_b676
   obtain ⟨g678, hP⟩ := ask_inv hP
   obtain ⟨b679, o680, e_b679⟩ := (H.rd 4 rds_ro).addr (idx_pos g678)
   subst e_b679
   have HR686 := H
   refine dr_start (S := fun w_ => Chg (atL []) w673 w_) (by kernel_rfl) ?_
   intro w683 hc684
   have HS685 : Chg (atL []) w673 w683 := hc684.mono (fun _ _ h_ => h_.elim)
   replace H := H.ext hc684
   refine dn tbok (by kernel_rfl) [0, 1, 2, 3, 4, 5, 6, 7, 8, 9, 10, 11, 12] [.slice (some ⟨b676, o677, none⟩) aAccept.length c2, .int .i64 ((List.getD r37.1 x370.toNat (0, 0)).1), .bool (List.getD aAccept (Int.toNat ((List.getD r37.1 x370.toNat (0, 0)).1)) false), .slice (some ⟨b679, o680, none⟩) bAccept.length c14, .int .i64 ((List.getD r37.1 x370.toNat (0, 0)).2), .bool (List.getD bAccept (Int.toNat ((List.getD r37.1 x370.toNat (0, 0)).2)) false)] [(25, fv25), (31, .bool (List.getD aAccept (Int.toNat ((List.getD r37.1 x370.toNat (0, 0)).1)) false)), (37, .bool (List.getD bAccept (Int.toNat ((List.getD r37.1 x370.toNat (0, 0)).2)) false))] (fun w_ => [World.cell? w_ ⟨g27, 1, none⟩ = some (.slice (some ⟨b676, o677, none⟩) aAccept.length c2), 0 ≤ (0 : Int) ∧ (0 : Int) < ((2 : Nat) : Int), World.cell? w_ ⟨g668, 0, none⟩ = some (.int .i64 ((List.getD r37.1 x370.toNat (0, 0)).1)), 0 ≤ ((List.getD r37.1 x370.toNat (0, 0)).1) ∧ ((List.getD r37.1 x370.toNat (0, 0)).1) < (aAccept.length : Int), World.cell? w_ ⟨b676, o677 + (Int.toNat ((List.getD r37.1 x370.toNat (0, 0)).1)) * 1, none⟩ = some (.bool (List.getD aAccept (Int.toNat ((List.getD r37.1 x370.toNat (0, 0)).1)) false)), World.cell? w_ ⟨g32, 1, none⟩ = some (.slice (some ⟨b679, o680, none⟩) bAccept.length c14), 0 ≤ (1 : Int) ∧ (1 : Int) < ((2 : Nat) : Int), World.cell? w_ ⟨g668, 1, none⟩ = some (.int .i64 ((List.getD r37.1 x370.toNat (0, 0)).2)), 0 ≤ ((List.getD r37.1 x370.toNat (0, 0)).2) ∧ ((List.getD r37.1 x370.toNat (0, 0)).2) < (bAccept.length : Int), World.cell? w_ ⟨b679, o680 + (Int.toNat ((List.getD r37.1 x370.toNat (0, 0)).2)) * 1, none⟩ = some (.bool (List.getD bAccept (Int.toNat ((List.getD r37.1 x370.toNat (0, 0)).2)) false))]) 2 E (fun _ _ => by kernel_rfl) (by kernel_rfl) (fun w_ hS_ => ⟨(HR686.boxk [] hS_ 3 rfl rfl).cell (j := 1) rfl, ⟨by decide, by decide⟩, (HR686.boxk [] hS_ 10 rfl rfl).cell (j := 0) rfl, g675, Rds.at1 (HR686.rdk [] hS_ 0 rds_ro rfl) false g675, (HR686.boxk [] hS_ 7 rfl rfl).cell (j := 1) rfl, ⟨by decide, by decide⟩, (HR686.boxk [] hS_ 10 rfl rfl).cell (j := 1) rfl, g678, Rds.at1 (HR686.rdk [] hS_ 4 rds_ro rfl) false g678⟩) (by kernel_rfl) HS685 ?_
   clear E; intro a E
   refine wpAnyH_all (rs := [13]) (by kernel_rfl) (by simp) ?_
   refine all1 ?_
   refine wpOp_of_list rfl ?_
   refine e_callS E rfl rfl hF26 rfl rfl ?_
   intro w687 a hc688 E_
   replace E := E_ _ rfl; clear E_
   replace HS685 := HS685.ext hc688
   replace H := H.ext hc688
   refine nl_ <| th_n ⟨HS685, ?_⟩
   refine dn tbok (by kernel_rfl) [14] [] [(39, .bool (!(says (List.getD aAccept (Int.toNat ((List.getD r37.1 x370.toNat (0, 0)).1)) false) (List.getD bAccept (Int.toNat ((List.getD r37.1 x370.toNat (0, 0)).2)) false))))] (fun w_ => []) 0 E (fun _ _ => by kernel_rfl) (by kernel_rfl) (fun w_ hS_ => trivial) (by kernel_rfl) HS685 ?_
   clear E; intro a E
   refine dr_done (by kernel_rfl) ?_
   clear HS685 HR686
   refine th_n ?_
   revert E; refine csE 39 rfl (fun hb_ E => ?_) fun hb_ E => ?_
   ·
    have h689 : ¬ ((says (List.getD aAccept (Int.toNat ((List.getD r37.1 x370.toNat (0, 0)).1)) false) (List.getD bAccept (Int.toNat ((List.getD r37.1 x370.toNat (0, 0)).2)) false)) = true) := (ne_true_of_eq_false (not_t hb_))
    replace hP := ite_f h689 hP
    refine c_true E rfl <| wp_exit <| th_exit <| bl_hit <| th_n <| rl_ ?_
    obtain ⟨g690, hP⟩ := ask_inv hP
    refine vq 2 [.int .i64 (x370 + 1)] [(20, .int .i64 (x370 + 1))] [IntKind.i64.wrap (x370 + 1) = x370 + 1] E (wrap_in g690) ?_
    clear E; intro a E
    refine nl_ ?_
    exact th_n ⟨m657, Nat.lt_succ_self _, x370 + 1, E.pk, H.sel (up 10) rfl, hP⟩
   have h691 : (says (List.getD aAccept (Int.toNat ((List.getD r37.1 x370.toNat (0, 0)).1)) false) (List.getD bAccept (Int.toNat ((List.getD r37.1 x370.toNat (0, 0)).2)) false)) = true := (not_f hb_)
   replace hP := ite_t h691 hP
   refine c_false E rfl <| wp_skip <| th_n <| sr_ <| vp 1 [(11, .slice none 0 0)] E ?_
   clear E; intro a E
   refine nn_ <| wp_seq <| wp_block ?_
   obtain ⟨x938, hL939, hK940⟩ := bind_inv hP
   clear hP
   replace H := H.nilrow (cInt .u8) 50; try dsimp only [setn, addE, goneL] at H
   refine loop_cut (fun i_ a w_ => (i_ = 2 ∧ ∃ (x944 : List Int), ∃ (A935 : Option Addr) (c936 : Nat), Fr a 69 [(11, .slice A935 x944.length c936)] ∧ Hp S Fa w0 w_ [.row true (cInt .u8) 50 A935 c936 x944] ∧ x938 = x944)) ?_ ?_
   ·
    refine loopV (fun m943 a w942 => ∃ (i810 : Int) (t812 : List Int), ∃ (A813 : Option Addr) (c814 : Nat), Fr a 69 [(8, .pointer (some ⟨b51, 0, none⟩)), (9, .int .i64 i810), (11, .slice A813 t812.length c814)] ∧ Hp S Fa w0 w942 [.ro true cS81 (some ⟨b51, 0, none⟩) ([r37]), .row true (cInt .u8) 50 A813 c814 t812] ∧ both_first_l1 N r37 m943 i810 t812 = some x938) N ?_ ?_
    ·
     exact ⟨x370, [], none, 0, E.pk, H.sel [8, 11] rfl, hL939⟩
    clear E H hL939; intro m943 a w942 hI_
    obtain ⟨i810, t812, A813, c814, E, H, hP⟩ := hI_
    obtain ⟨m937, rfl⟩ : ∃ q_, m943 = q_ + 1 := by cases m943 with | zero => rw [both_first_l1] at hP; cases hP | succ q_ => exact ⟨q_, rfl⟩
    rw [both_first_l1] at hP
    refine wp_seq <| sr_ ?_
    obtain ⟨Fz945, cs947, HF946, hK948, hc949⟩ := H.elem 0 true (el_ro rfl) r37 (idx_one _)
    obtain ⟨_, _, rfl, hK950, hK951⟩ := hK948
    obtain ⟨A952, c953, rfl, hk954, hC955⟩ := hK950
    obtain ⟨_, _, rfl, hK957, hK958⟩ := hK951
    obtain ⟨A959, c960, rfl, hk961, hC962⟩ := hK957
    obtain ⟨_, _, rfl, hK964, hK965⟩ := hK958
    obtain ⟨A966, c967, rfl, hk968, hC969⟩ := hK964
    obtain ⟨A971, c972, rfl, hk973, hC974⟩ := hK965
    replace HF946 := HF946.ins hC955
    replace HF946 := HF946.ins hC962
    replace HF946 := HF946.ins hC969
    replace HF946 := HF946.ins hC974
    replace H := HF946.hp; try dsimp only [addE] at H
    have hc976 : cellsAt w942 b51 (0) [.slice A952 r37.1.length c953, .slice A959 r37.2.1.length c960, .slice A966 r37.2.2.1.length c967, .slice A971 r37.2.2.2.length c972] := hc949
    obtain ⟨g977, hP⟩ := ask_inv hP
    obtain ⟨b978, o979, e_b978⟩ := (H.rd 4 rds_ro).addr (idx_pos g977)
    subst e_b978
    refine vq 8 [.slice (some ⟨b978, o979, none⟩) r37.2.2.1.length c967, .int .i64 (List.getD r37.2.2.1 i810.toNat 0)] [(47, .bool (decide (0 ≤ (List.getD r37.2.2.1 i810.toNat 0))))] [World.cell? w942 ⟨b51, 2, none⟩ = some (.slice (some ⟨b978, o979, none⟩) r37.2.2.1.length c967), 0 ≤ i810 ∧ i810 < (r37.2.2.1.length : Int), World.cell? w942 ⟨b978, o979 + i810.toNat * 1, none⟩ = some (.int .i64 (List.getD r37.2.2.1 i810.toNat 0))] E ⟨hc976.get 2 _ rfl, g977, Rds.at1 (H.rd 4 rds_ro) 0 g977⟩ ?_
    clear E; intro a E
    refine nn_ ?_
    revert E; refine csE 47 rfl (fun hb_ E => ?_) fun hb_ E => ?_
    ·
     have h980 : 0 ≤ (List.getD r37.2.2.1 i810.toNat 0) := of_decide_eq_true hb_
     replace hP := ite_t h980 hP
     refine c_true E rfl <| wp_skip <| th_n <| wp_seq <| wp_block <| rl_ ?_
     obtain ⟨Fz981, cs983, HF982, hK984, hc985⟩ := H.elem 0 true (el_ro rfl) r37 (idx_one _)
     obtain ⟨_, _, rfl, hK986, hK987⟩ := hK984
     obtain ⟨A988, c989, rfl, hk990, hC991⟩ := hK986
     obtain ⟨_, _, rfl, hK993, hK994⟩ := hK987
     obtain ⟨A995, c996, rfl, hk997, hC998⟩ := hK993
     obtain ⟨_, _, rfl, hK1000, hK1001⟩ := hK994
     obtain ⟨A1002, c1003, rfl, hk1004, hC1005⟩ := hK1000
     obtain ⟨A1007, c1008, rfl, hk1009, hC1010⟩ := hK1001
     replace HF982 := HF982.ins hC991
     replace HF982 := HF982.ins hC998
     replace HF982 := HF982.ins hC1005
     replace HF982 := HF982.ins hC1010
     replace H := HF982.hp; try dsimp only [addE] at H
     have hc1012 : cellsAt w942 b51 (0) [.slice A988 r37.1.length c989, .slice A995 r37.2.1.length c996, .slice A1002 r37.2.2.1.length c1003, .slice A1007 r37.2.2.2.length c1008] := hc985
     obtain ⟨g1013, hP⟩ := ask_inv hP
     obtain ⟨b1014, o1015, e_b1014⟩ := (H.rd 9 rds_ro).addr (idx_pos g1013)
     subst e_b1014
     refine vq 8 [.slice (some ⟨b1014, o1015, none⟩) r37.2.2.2.length c1008, .int .u8 (List.getD r37.2.2.2 i810.toNat 0)] [(55, .slice A813 t812.length c814), (62, .int .u8 (List.getD r37.2.2.2 i810.toNat 0))] [World.cell? w942 ⟨b51, 3, none⟩ = some (.slice (some ⟨b1014, o1015, none⟩) r37.2.2.2.length c1008), 0 ≤ i810 ∧ i810 < (r37.2.2.2.length : Int), World.cell? w942 ⟨b1014, o1015 + i810.toNat * 1, none⟩ = some (.int .u8 (List.getD r37.2.2.2 i810.toNat 0))] E ⟨hc1012.get 3 _ rfl, g1013, Rds.at1 (H.rd 9 rds_ro) 0 g1013⟩ ?_
     clear E; intro a E
     refine h_buildSlice (ps := [(0, .int .u8 (List.getD r37.2.2.2 i810.toNat 0))]) (cs := [.int .u8 (List.getD r37.2.2.2 i810.toNat 0)]) H E rfl rfl tbok rfl rfl (by kernel_rfl) ?_
     clear H E; intro w1017 g1016 a hc1018 hg1020 H E; replace E := E _ rfl; try dsimp only [setn, addE, goneL] at H
     obtain ⟨g1021, hP⟩ := ask_inv hP
     refine h_append (cInt .u8) (xs := t812) (ys := ([(List.getD r37.2.2.2 i810.toNat 0)] : List Int)) (0 : Int) H 1 rfl E rfl rfl tbok rfl rfl rfl rfl rfl (fun _ _ => rfl) rfl rfl (fun _ HF_ => HF_.srcB 10 rfl (⟨_, _, rfl, rfl, rfl⟩)) g1021 ?_
     clear H E; intro w1022 A1023 c1024 a hc1025 hA1026 H E; replace E := E _ rfl; try dsimp only [setn, addE, goneL] at H
     refine vp 1 [(11, .slice A1023 (List.length (t812 ++ ([(List.getD r37.2.2.2 i810.toNat 0)] : List Int))) c1024)] E ?_
     clear E; intro a E
     refine nl_ <| bl_n <| th_n <| rl_ ?_
     obtain ⟨Fz1027, cs1029, HF1028, hK1030, hc1031⟩ := H.elem 0 true (el_ro rfl) r37 (idx_one _)
     obtain ⟨_, _, rfl, hK1032, hK1033⟩ := hK1030
     obtain ⟨A1034, c1035, rfl, hk1036, hC1037⟩ := hK1032
     obtain ⟨_, _, rfl, hK1039, hK1040⟩ := hK1033
     obtain ⟨A1041, c1042, rfl, hk1043, hC1044⟩ := hK1039
     obtain ⟨_, _, rfl, hK1046, hK1047⟩ := hK1040
     obtain ⟨A1048, c1049, rfl, hk1050, hC1051⟩ := hK1046
     obtain ⟨A1053, c1054, rfl, hk1055, hC1056⟩ := hK1047
     replace HF1028 := HF1028.ins hC1037
     replace HF1028 := HF1028.ins hC1044
     replace HF1028 := HF1028.ins hC1051
     replace HF1028 := HF1028.ins hC1056
     replace H := HF1028.hp; try dsimp only [addE] at H
     have hc1058 : cellsAt w1022 b51 (0) [.slice A1034 r37.1.length c1035, .slice A1041 r37.2.1.length c1042, .slice A1048 r37.2.2.1.length c1049, .slice A1053 r37.2.2.2.length c1054] := hc1031
     obtain ⟨b1059, o1060, e_b1059⟩ := (H.rd 13 rds_ro).addr (idx_pos g977)
     subst e_b1059
     refine vq 8 [.slice (some ⟨b1059, o1060, none⟩) r37.2.2.1.length c1049, .int .i64 (List.getD r37.2.2.1 i810.toNat 0)] [(9, .int .i64 (List.getD r37.2.2.1 i810.toNat 0))] [World.cell? w1022 ⟨b51, 2, none⟩ = some (.slice (some ⟨b1059, o1060, none⟩) r37.2.2.1.length c1049), 0 ≤ i810 ∧ i810 < (r37.2.2.1.length : Int), World.cell? w1022 ⟨b1059, o1060 + i810.toNat * 1, none⟩ = some (.int .i64 (List.getD r37.2.2.1 i810.toNat 0))] E ⟨hc1058.get 2 _ rfl, g977, Rds.at1 (H.rd 13 rds_ro) 0 g977⟩ ?_
     clear E; intro a E
     refine nl_ ?_
     exact th_n ⟨m937, Nat.lt_succ_self _, (List.getD r37.2.2.1 i810.toNat 0), t812 ++ ([(List.getD r37.2.2.2 i810.toNat 0)] : List Int), A1023, c1024, E.pk, H.sel [0, 1] rfl, hP⟩
    have h1061 : ¬ (0 ≤ (List.getD r37.2.2.1 i810.toNat 0)) := of_decide_eq_false hb_
    replace hP := ite_f h1061 hP
    refine c_false E rfl <| wp_exit <| th_exit ?_
    have hx_ := Option.some.inj hP
    refine th_exit (.inl ⟨2, rfl, ?_⟩)
    exact ⟨rfl, t812, A813, c814, E.pk, H.sel [1] rfl, hx_.symm⟩
   clear E H hL939; intro i_ a w942 hM_
   obtain ⟨rfl, x944, A935, c936, E, H, hx_⟩ := hM_
   subst hx_; have hP := hK940; clear hK940
   refine bl_hit <| th_n <| sr_ <| vp 1 [(65, .slice A935 x938.length c936)] E ?_
   clear E; intro a E
   obtain ⟨r1062, h1063, hP⟩ := bind_inv hP
   obtain ⟨Fa1064, Hc1065, hb1066⟩ := H.call [0] [] rfl rfl ⟨flat_plain, trivial⟩
   refine e_call E rfl rfl Try.func73 rfl rfl rfl (slices_Reverse_api_Letter_api_Letter_calls A935 c936 x938  Hc1065 h1063) ?_
   rintro v1067 w1068 a ⟨rfl, hl1071, HR1069⟩ E_
   replace E := E_ _ rfl; clear E_
   obtain ⟨H_, hc1070⟩ := hb1066 _ _ HR1069 rfl
   replace H := H_; clear H_; try dsimp only [setn, addE, goneL] at H
   have hn1073 : x938.length = (List.length (r1062)) := hl1071.symm
   replace E := E.same (t := 11) (u := .slice A935 (List.length (r1062)) c936) rfl (congrArg (fun n_ => Value.slice A935 n_ c936) hn1073)
   replace E := E.same (t := 65) (u := .slice A935 (List.length (r1062)) c936) rfl (congrArg (fun n_ => Value.slice A935 n_ c936) hn1073)
   refine nn_ <| sr_ <| vp 3 [(6, .slice A935 (List.length (r1062)) c936), (7, .bool true)] E ?_
   clear E; intro a E
   refine nn_ <| wp_ret <| bl_ret <| th_ret <| th_ret <| .inr ⟨rfl, ?_⟩
   refine bl_ret <| th_ret ?_
   have hx_ := Option.some.inj hP; subst hx_
   have hP : some ((r1062, true)) = some r := hK660
   obtain rfl := Option.some.inj hP
   refine ret2 E rfl rfl rfl ?_
   exact ⟨_, rfl, A935, c936, rfl, H.sel [1] rfl⟩
  have h1074 : ¬ (x370 < (r37.1.length : Int)) := of_decide_eq_false hb_
  replace hP := ite_f h1074 hP
  refine c_false E rfl <| wp_exit <| th_exit ?_
  have hx_ := Option.some.inj hP
  refine th_exit (.inl ⟨0, rfl, ?_⟩)
  exact ⟨rfl, (), E.pick _ trivial, H.sel [] rfl, hx_.symm⟩
 clear E H hL659; intro i_ a w661 hM_
 obtain ⟨rfl, x663, E, H, hx_⟩ := hM_
 subst hx_; have hP := elim_l hK660
 clear hK660
 refine bl_hit <| th_n <| sr_ <| vp 2 [(6, .slice none 0 0), (7, .bool false)] E ?_
 clear E; intro a E
 refine nn_ <| wp_ret ?_
 replace H := H.nilrow (cInt .u8) 50; try dsimp only [setn, addE, goneL] at H
 obtain rfl := Option.some.inj hP
 refine ret2 E rfl rfl rfl ?_
 exact ⟨_, rfl, none, 0, rfl, H.sel [0] rfl⟩

end Go.V
