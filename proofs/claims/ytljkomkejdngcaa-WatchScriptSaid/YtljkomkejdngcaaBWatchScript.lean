/- Plain functions, and the calls that give them. -/
import Derived.Test.YtljkomkejdngcaaBWatchScript3
set_option linter.all false
set_option linter.unusedVariables false
set_option linter.unnecessarySimpa false
set_option linter.unusedSimpArgs false
set_option maxRecDepth 100000
set_option maxHeartbeats 4000000
namespace Go.V
open Go Go.Proofs
/-! rejoinder/rejoinderlaw21.WatchScript -/
theorem law21_WatchScript_calls {N : Nat} {S Fa : Nat → Prop} {w0 : World} {r : Bool} (A1 : Option Addr) (c2 : Nat) (A5 : Option Addr) (c6 : Nat) (A9 : Option Addr) (c10 : Nat) (A13 : Option Addr) (c14 : Nat) (aProps : Int) (aAccept : List Bool) (aGuard : List Int) (aNodes : List Nd) (script : List (Int × Int × Int)) (hk3 : List.length aAccept ≤ c2) (hk7 : List.length aGuard ≤ c6) (hk11 : List.length aNodes ≤ c10) (hk15 : List.length script ≤ c14) (H : Hp S Fa w0 w0 [.ro false cBool A1 aAccept, .ro false (cInt .i64) A5 aGuard, .ro false cNode A9 aNodes, .ro false cS70 A13 script]) (hP : law21_WatchScript N aProps aAccept aGuard aNodes script = some r) :
    Calls Try.prog 5 #[.agg #[.int .i64 aProps, .slice A1 aAccept.length c2, .slice A5 aGuard.length c6, .slice A9 aNodes.length c10], .slice A13 script.length c14] w0 fun e w' => ∃ v, e = .returned v ∧ v = .bool r ∧ Hp S Fa w0 w' [] := by
 refine enterV (n := 90) Try.func5 rfl rfl rfl ?_
 intro a E
 replace E := E.pick [(0, .agg #[.int .i64 aProps, .slice A1 aAccept.length c2, .slice A5 aGuard.length c6, .slice A9 aNodes.length c10]), (1, .slice A13 script.length c14)] ⟨rfl, rfl, trivial⟩
 rw [law21_WatchScript] at hP
 refine sr_ <| h_box H E rfl rfl rfl ?_
 clear H E; intro w18 g17 a hc19 hg21 H E; replace E := E _ rfl; try dsimp only [setn, addE, goneL] at H
 refine vp 1 [] E ?_
 clear E; intro a E
 refine nn_ <| wp_seq <| wp_seq ?_
 obtain ⟨x34, h35, hK36⟩ := bind_inv hP
 clear hP
 refine meet_cut (fun a w38 => ∃ (x37 : Bool), Fr a 90 [(1, .slice A13 script.length c14), (2, .pointer (some ⟨g17, 0, none⟩)), (21, .bool x37)] ∧ Hp S Fa w0 w38 [.ro false cS70 A13 script, .ro false cBool A1 aAccept, .ro false (cInt .i64) A5 aGuard, .ro false cNode A9 aNodes, .box g17 43 [.int .i64 aProps, .slice A1 aAccept.length c2, .slice A5 aGuard.length c6, .slice A9 aNodes.length c10]] ∧ x34 = x37) ?_ ?_
 ·
  have hP := h35; clear h35; rw [law21_WatchScript_j0] at hP
  refine rl_ <| vq 1 [.agg #[.int .i64 aProps, .slice A1 aAccept.length c2, .slice A5 aGuard.length c6, .slice A9 aNodes.length c10]] [(14, .agg #[.int .i64 aProps, .slice A1 aAccept.length c2, .slice A5 aGuard.length c6, .slice A9 aNodes.length c10])] [cellsAt w18 g17 (0) [.int .i64 aProps, .slice A1 aAccept.length c2, .slice A5 aGuard.length c6, .slice A9 aNodes.length c10]] E ((H.box 4 rfl).sub 0 _ rfl) ?_
  clear E; intro a E
  obtain ⟨r39, h40, hP⟩ := bind_inv hP
  obtain ⟨Fa41, Hc42, hb43⟩ := H.call [] [(0, false), (1, false), (2, false)] rfl rfl trivial
  refine e_call E rfl rfl Try.func16 rfl rfl rfl (law16_Small_calls A1 c2 A5 c6 A9 c10 aProps aAccept aGuard aNodes hk3 hk7 hk11 Hc42 h40) ?_
  rintro v44 w45 a ⟨rfl, HR46⟩ E_
  replace E := E_ _ rfl; clear E_
  obtain ⟨H_, hc47⟩ := hb43 _ _ HR46 rfl
  replace H := H_; clear H_; try dsimp only [setn, addE, goneL] at H
  refine vp 2 [(17, .bool (!r39))] E ?_
  clear E; intro a E
  revert E; refine csE 17 rfl (fun hb_ E => ?_) fun hb_ E => ?_
  ·
   have h48 : ¬ (r39 = true) := (ne_true_of_eq_false (not_t hb_))
   replace hP := ite_f h48 hP
   refine vp 4 [(21, .bool true)] E ?_
   clear E; intro a E
   refine nl_ ?_
   have hx_ := Option.some.inj hP
   exact .inl ⟨rfl, true, E.pk, H.sel [3, 0, 1, 2, 4] rfl, hx_.symm⟩
  have h49 : r39 = true := (not_f hb_)
  replace hP := ite_t h49 hP
  refine vp 4 [(21, .bool (decide (60 < (script.length : Int))))] E ?_
  clear E; intro a E
  refine nl_ ?_
  have hx_ := Option.some.inj hP
  exact .inl ⟨rfl, decide (60 < (script.length : Int)), E.pk, H.sel [3, 0, 1, 2, 4] rfl, hx_.symm⟩
 clear E H h35; rintro a w38 ⟨x37, E, H, hx_⟩
 subst hx_; have hP := hK36; clear hK36
 refine th_n ?_
 revert E; refine csE 21 rfl (fun hb_ E => ?_) fun hb_ E => ?_
 ·
  have h50 : x34 = true := hb_
  replace hP := ite_t h50 hP
  refine c_true E rfl <| sr_ <| vp 1 [(4, .bool true)] E ?_
  clear E; intro a E
  refine nn_ <| wp_ret <| th_ret ?_
  obtain rfl := Option.some.inj hP
  refine ret1 E rfl rfl ?_
  exact ⟨_, rfl, rfl, H.sel [] rfl⟩
 have h51 : ¬ (x34 = true) := (ne_true_of_eq_false hb_)
 replace hP := ite_f h51 hP
 refine c_false E rfl <| wp_skip <| th_n <| sr_ <| vq 1 [.agg #[.int .i64 aProps, .slice A1 aAccept.length c2, .slice A5 aGuard.length c6, .slice A9 aNodes.length c10]] [(22, .agg #[.int .i64 aProps, .slice A1 aAccept.length c2, .slice A5 aGuard.length c6, .slice A9 aNodes.length c10])] [cellsAt w38 g17 (0) [.int .i64 aProps, .slice A1 aAccept.length c2, .slice A5 aGuard.length c6, .slice A9 aNodes.length c10]] E ((H.box 4 rfl).sub 0 _ rfl) ?_
 clear E; intro a E
 obtain ⟨r52, h53, hP⟩ := bind_inv hP
 obtain ⟨Fa54, Hc55, hb56⟩ := H.call [] [(1, false), (2, false), (3, false)] rfl rfl trivial
 refine e_call E rfl rfl Try.func17 rfl rfl rfl (kit_LentAuto_calls A1 c2 A5 c6 A9 c10 aProps aAccept aGuard aNodes hk3 hk7 hk11 Hc55 h53) ?_
 rintro v57 w58 a ⟨A61, c62, A64, c65, A67, c68, rfl, HR59⟩ E_
 replace E := E_ _ rfl; clear E_
 obtain ⟨H_, hc60⟩ := hb56 _ _ HR59 rfl
 replace H := H_; clear H_; try dsimp only [setn, addE, goneL] at H
 refine h_alloc H E rfl rfl tbok rfl ?_
 clear H E; intro w71 g70 a hc72 hg74 H E; replace E := E _ rfl; try dsimp only [setn, addE, goneL] at H
 refine h_store (g := g70) (off := 0) H 8 rfl E rfl rfl rfl rfl tbok rfl rfl rfl rfl rfl ?_
 clear E; intro w75 a hc76 H_ E
 replace H := H_; clear H_; try dsimp only [setn, addE, goneL] at H
 refine nn_ <| sr_ <| vq 1 [.agg #[.int .i64 r52.1, .slice A61 r52.2.1.1.length c62, .slice A64 r52.2.2.1.1.length c65, .slice A67 r52.2.2.2.1.length c68]] [(25, .agg #[.int .i64 r52.1, .slice A61 r52.2.1.1.length c62, .slice A64 r52.2.2.1.1.length c65, .slice A67 r52.2.2.2.1.length c68])] [cellsAt w75 g70 (0) [.int .i64 r52.1, .slice A61 r52.2.1.1.length c62, .slice A64 r52.2.2.1.1.length c65, .slice A67 r52.2.2.2.1.length c68]] E ((H.box 8 rfl).sub 0 _ rfl) ?_
 clear E; intro a E
 obtain ⟨r77, h78, hP⟩ := bind_inv hP
 obtain ⟨Fa79, Hc80, hb81⟩ := H.call [] [(5, false), (6, false), (7, false)] rfl rfl trivial
 refine e_call E rfl rfl Try.func26 rfl rfl rfl (watch_New_calls A61 c62 A64 c65 A67 c68 r52.1 r52.2.1.1 r52.2.2.1.1 r52.2.2.2.1 (H.rcapx 5 rfl) (H.rcapx 6 rfl) (H.rcapx 7 rfl) Hc80 h78) ?_
 intro v87 w86 a hR88 E_
 rcases hR88 with ⟨x_, hr_, rfl, HR90⟩ | ⟨x_, g91, b92, hr_, rfl, HR93⟩
 ·
  subst hr_; have hP := elim_l hP
  obtain ⟨x94, hxx_⟩ : ∃ y_, y_ = x_ := ⟨_, rfl⟩; subst hxx_
  replace E := E_ _ rfl; clear E_
  obtain ⟨H_, hc89⟩ := hb81 _ _ HR90 rfl
  replace H := H_; clear H_; try dsimp only [setn, addE, goneL] at H
  refine vp 5 [(6, .pointer none), (7, .int .i64 x94)] E ?_
  clear E; intro a E
  refine nn_ <| sr_ <| vq 1 [.agg #[.int .i64 aProps, .slice A1 aAccept.length c2, .slice A5 aGuard.length c6, .slice A9 aNodes.length c10]] [(30, .agg #[.int .i64 aProps, .slice A1 aAccept.length c2, .slice A5 aGuard.length c6, .slice A9 aNodes.length c10])] [cellsAt w86 g17 (0) [.int .i64 aProps, .slice A1 aAccept.length c2, .slice A5 aGuard.length c6, .slice A9 aNodes.length c10]] E ((H.box 4 rfl).sub 0 _ rfl) ?_
  clear E; intro a E
  obtain ⟨r96, h97, hP⟩ := bind_inv hP
  obtain ⟨Fa98, Hc99, hb100⟩ := H.call [] [(1, false), (2, false), (3, false)] rfl rfl trivial
  refine e_call E rfl rfl Try.func27 rfl rfl rfl (ref21_New_calls A1 c2 A5 c6 A9 c10 aProps aAccept aGuard aNodes hk3 hk7 hk11 Hc99 h97) ?_
  intro v106 w105 a hR107 E_
  rcases hR107 with ⟨x_, hr_, rfl, HR109⟩ | ⟨x_, g110, hr_, rfl, HR111⟩
  ·
   subst hr_; have hP := elim_l hP
   obtain ⟨x112, hxx_⟩ : ∃ y_, y_ = x_ := ⟨_, rfl⟩; subst hxx_
   replace E := E_ _ rfl; clear E_
   obtain ⟨H_, hc108⟩ := hb100 _ _ HR109 rfl
   replace H := H_; clear H_; try dsimp only [setn, addE, goneL] at H
   refine vp 5 [(8, .pointer none), (9, .int .i64 x112)] E ?_
   clear E; intro a E
   refine nn_ <| wp_seq <| wp_seq ?_
   obtain ⟨x128, h129, hK130⟩ := bind_inv hP
   clear hP
   refine meet_cut (fun a w132 => ∃ (x131 : Bool), Fr a 90 [(1, .slice A13 script.length c14), (2, .pointer (some ⟨g17, 0, none⟩)), (5, .pointer (some ⟨g70, 0, none⟩)), (6, .pointer none), (8, .pointer none), (49, .bool x131)] ∧ Hp S Fa w0 w132 [.ro false cS70 A13 script, .ro false cBool A1 aAccept, .ro false (cInt .i64) A5 aGuard, .ro false cNode A9 aNodes, .box g17 43 [.int .i64 aProps, .slice A1 aAccept.length c2, .slice A5 aGuard.length c6, .slice A9 aNodes.length c10], .rowx true cBool 4 A61 c62 r52.2.1.1 r52.2.1.2, .rowx true (cInt .i64) 3 A64 c65 r52.2.2.1.1 r52.2.2.1.2, .rowx true cNode 75 A67 c68 r52.2.2.2.1 r52.2.2.2.2, .box g70 43 [.int .i64 r52.1, .slice A61 r52.2.1.1.length c62, .slice A64 r52.2.2.1.1.length c65, .slice A67 r52.2.2.2.1.length c68]] ∧ x128 = x131) ?_ ?_
   ·
    have hP := h129; clear h129; rw [law21_WatchScript_j1] at hP
    refine rl_ <| vp 4 [(37, .bool ((x94 : Int) != x112))] E ?_
    clear E; intro a E
    revert E; refine csE 37 rfl (fun hb_ E => ?_) fun hb_ E => ?_
    ·
     have h133 : ¬ ((x94 : Int) = x112) := bne_iff_ne.1 hb_
     replace hP := ite_f h133 hP
     refine vp 12 [(49, .bool true)] E ?_
     clear E; intro a E
     refine nl_ ?_
     have hx_ := Option.some.inj hP
     exact .inl ⟨rfl, true, E.pk, H.sel (up 9) rfl, hx_.symm⟩
    have h134 : (x94 : Int) = x112 := bne_eq_false_iff_eq.1 hb_
    replace hP := ite_t h134 hP
    refine vp 7 [(44, .bool (!(true == true)))] E ?_
    clear E; intro a E
    revert E; refine csE 44 rfl (fun hb_ E => ?_) fun hb_ E => ?_
    ·
     have h135 : ¬ (true = true) := (by simpa using hb_)
     replace hP := ite_f h135 hP
     refine vp 5 [(49, .bool true)] E ?_
     clear E; intro a E
     refine nl_ ?_
     have hx_ := Option.some.inj hP
     exact .inl ⟨rfl, true, E.pk, H.sel (up 9) rfl, hx_.symm⟩
    have h136 : true = true := (by simpa using hb_)
    replace hP := ite_t h136 hP
    refine vq 2 [.agg #[.int .i64 r52.1, .slice A61 r52.2.1.1.length c62, .slice A64 r52.2.2.1.1.length c65, .slice A67 r52.2.2.2.1.length c68], .agg #[.int .i64 aProps, .slice A1 aAccept.length c2, .slice A5 aGuard.length c6, .slice A9 aNodes.length c10]] [(45, .agg #[.int .i64 r52.1, .slice A61 r52.2.1.1.length c62, .slice A64 r52.2.2.1.1.length c65, .slice A67 r52.2.2.2.1.length c68]), (46, .agg #[.int .i64 aProps, .slice A1 aAccept.length c2, .slice A5 aGuard.length c6, .slice A9 aNodes.length c10])] [cellsAt w105 g70 (0) [.int .i64 r52.1, .slice A61 r52.2.1.1.length c62, .slice A64 r52.2.2.1.1.length c65, .slice A67 r52.2.2.2.1.length c68], cellsAt w105 g17 (0) [.int .i64 aProps, .slice A1 aAccept.length c2, .slice A5 aGuard.length c6, .slice A9 aNodes.length c10]] E ⟨(H.box 8 rfl).sub 0 _ rfl, (H.box 4 rfl).sub 0 _ rfl⟩ ?_
    clear E; intro a E
    obtain ⟨r137, h138, hP⟩ := bind_inv hP
    obtain ⟨Fa139, Hc140, hb141⟩ := H.call [] [(5, false), (5, true), (6, false), (6, true), (7, false), (7, true), (1, false), (2, false), (3, false)] rfl rfl trivial
    refine e_call E rfl rfl Try.func24 rfl rfl rfl (kit_KeptAuto_calls A61 c62 A64 c65 A67 c68 A1 c2 A5 c6 A9 c10 r52.1 r52.2.1.1 r52.2.1.2 r52.2.2.1.1 r52.2.2.1.2 r52.2.2.2.1 r52.2.2.2.2 aProps aAccept aGuard aNodes (H.rcapE 5 rfl) (H.rcapE 6 rfl) (H.rcapE 7 rfl) hk3 hk7 hk11 Hc140 h138) ?_
    rintro v142 w143 a ⟨rfl, HR144⟩ E_
    replace E := E_ _ rfl; clear E_
    obtain ⟨H_, hc145⟩ := hb141 _ _ HR144 rfl
    replace H := H_; clear H_; try dsimp only [setn, addE, goneL] at H
    refine vp 2 [(49, .bool (!r137))] E ?_
    clear E; intro a E
    refine nl_ ?_
    have hx_ := Option.some.inj hP
    exact .inl ⟨rfl, !r137, E.pk, H.sel (up 9) rfl, hx_.symm⟩
   clear E H h129; rintro a w132 ⟨x131, E, H, hx_⟩
   subst hx_; have hP := hK130; clear hK130
   refine th_n ?_
   revert E; refine csE 49 rfl (fun hb_ E => ?_) fun hb_ E => ?_
   ·
    have h146 : x128 = true := hb_
    replace hP := ite_t h146 hP
    refine c_true E rfl <| sr_ <| vp 1 [(4, .bool false)] E ?_
    clear E; intro a E
    refine nn_ <| wp_ret <| th_ret ?_
    obtain rfl := Option.some.inj hP
    refine ret1 E rfl rfl ?_
    exact ⟨_, rfl, rfl, H.sel [] rfl⟩
   have h147 : ¬ (x128 = true) := (ne_true_of_eq_false hb_)
   replace hP := ite_f h147 hP
   refine c_false E rfl <| wp_skip <| th_n <| wp_seq <| sr_ <| vp 2 [(51, .bool true)] E ?_
   clear E; intro a E
   refine nn_ <| c_true E rfl ?_
   refine sr_ <| vp 1 [(4, .bool true)] E ?_
   clear E; intro a E
   refine nn_ <| wp_ret <| th_ret ?_
   obtain rfl := Option.some.inj hP
   refine ret1 E rfl rfl ?_
   exact ⟨_, rfl, rfl, H.sel [] rfl⟩
  subst hr_; have hP := (elim_r hP)
  obtain ⟨x113, hxx_⟩ : ∃ y_, y_ = x_ := ⟨_, rfl⟩; subst hxx_
  replace E := E_ _ rfl; clear E_
  obtain ⟨H_, hc108⟩ := hb100 _ _ HR111 rfl
  replace H := H_; clear H_; try dsimp only [setn, addE, goneL] at H
  refine vp 5 [(8, .pointer (some ⟨g110, 0, none⟩)), (9, .int .i64 x113)] E ?_
  clear E; intro a E
  refine nn_ <| wp_seq <| wp_seq ?_
  obtain ⟨x163, h164, hK165⟩ := bind_inv hP
  clear hP
  refine meet_cut (fun a w167 => ∃ (x166 : Bool), Fr a 90 [(1, .slice A13 script.length c14), (2, .pointer (some ⟨g17, 0, none⟩)), (5, .pointer (some ⟨g70, 0, none⟩)), (6, .pointer none), (8, .pointer (some ⟨g110, 0, none⟩)), (49, .bool x166)] ∧ Hp S Fa w0 w167 [.ro false cS70 A13 script, .ro false cBool A1 aAccept, .ro false (cInt .i64) A5 aGuard, .ro false cNode A9 aNodes, .box g17 43 [.int .i64 aProps, .slice A1 aAccept.length c2, .slice A5 aGuard.length c6, .slice A9 aNodes.length c10], .rowx true cBool 4 A61 c62 r52.2.1.1 r52.2.1.2, .rowx true (cInt .i64) 3 A64 c65 r52.2.2.1.1 r52.2.2.1.2, .rowx true cNode 75 A67 c68 r52.2.2.2.1 r52.2.2.2.2, .box g70 43 [.int .i64 r52.1, .slice A61 r52.2.1.1.length c62, .slice A64 r52.2.2.1.1.length c65, .slice A67 r52.2.2.2.1.length c68], .box g110 67 [.int .i64 aProps, .slice A1 aAccept.length c2, .slice A5 aGuard.length c6, .slice A9 aNodes.length c10, .slice none 0 0]] ∧ x163 = x166) ?_ ?_
  ·
   have hP := h164; clear h164; rw [law21_WatchScript_j2] at hP
   refine rl_ <| vp 4 [(37, .bool ((x94 : Int) != x113))] E ?_
   clear E; intro a E
   revert E; refine csE 37 rfl (fun hb_ E => ?_) fun hb_ E => ?_
   ·
    have h168 : ¬ ((x94 : Int) = x113) := bne_iff_ne.1 hb_
    replace hP := ite_f h168 hP
    refine vp 12 [(49, .bool true)] E ?_
    clear E; intro a E
    refine nl_ ?_
    have hx_ := Option.some.inj hP
    exact .inl ⟨rfl, true, E.pk, H.sel (up 10) rfl, hx_.symm⟩
   have h169 : (x94 : Int) = x113 := bne_eq_false_iff_eq.1 hb_
   replace hP := ite_t h169 hP
   refine vp 7 [(44, .bool (!(true == false)))] E ?_
   clear E; intro a E
   revert E; refine csE 44 rfl (fun hb_ E => ?_) fun hb_ E => ?_
   ·
    have h170 : ¬ (true = false) := (by simpa using hb_)
    replace hP := ite_f h170 hP
    refine vp 5 [(49, .bool true)] E ?_
    clear E; intro a E
    refine nl_ ?_
    have hx_ := Option.some.inj hP
    exact .inl ⟨rfl, true, E.pk, H.sel (up 10) rfl, hx_.symm⟩
   have h171 : true = false := (by simpa using hb_)
   replace hP := ite_t h171 hP
   refine vq 2 [.agg #[.int .i64 r52.1, .slice A61 r52.2.1.1.length c62, .slice A64 r52.2.2.1.1.length c65, .slice A67 r52.2.2.2.1.length c68], .agg #[.int .i64 aProps, .slice A1 aAccept.length c2, .slice A5 aGuard.length c6, .slice A9 aNodes.length c10]] [(45, .agg #[.int .i64 r52.1, .slice A61 r52.2.1.1.length c62, .slice A64 r52.2.2.1.1.length c65, .slice A67 r52.2.2.2.1.length c68]), (46, .agg #[.int .i64 aProps, .slice A1 aAccept.length c2, .slice A5 aGuard.length c6, .slice A9 aNodes.length c10])] [cellsAt w105 g70 (0) [.int .i64 r52.1, .slice A61 r52.2.1.1.length c62, .slice A64 r52.2.2.1.1.length c65, .slice A67 r52.2.2.2.1.length c68], cellsAt w105 g17 (0) [.int .i64 aProps, .slice A1 aAccept.length c2, .slice A5 aGuard.length c6, .slice A9 aNodes.length c10]] E ⟨(H.box 8 rfl).sub 0 _ rfl, (H.box 4 rfl).sub 0 _ rfl⟩ ?_
   clear E; intro a E
   obtain ⟨r172, h173, hP⟩ := bind_inv hP
   obtain ⟨Fa174, Hc175, hb176⟩ := H.call [] [(5, false), (5, true), (6, false), (6, true), (7, false), (7, true), (1, false), (2, false), (3, false)] rfl rfl trivial
   refine e_call E rfl rfl Try.func24 rfl rfl rfl (kit_KeptAuto_calls A61 c62 A64 c65 A67 c68 A1 c2 A5 c6 A9 c10 r52.1 r52.2.1.1 r52.2.1.2 r52.2.2.1.1 r52.2.2.1.2 r52.2.2.2.1 r52.2.2.2.2 aProps aAccept aGuard aNodes (H.rcapE 5 rfl) (H.rcapE 6 rfl) (H.rcapE 7 rfl) hk3 hk7 hk11 Hc175 h173) ?_
   rintro v177 w178 a ⟨rfl, HR179⟩ E_
   replace E := E_ _ rfl; clear E_
   obtain ⟨H_, hc180⟩ := hb176 _ _ HR179 rfl
   replace H := H_; clear H_; try dsimp only [setn, addE, goneL] at H
   refine vp 2 [(49, .bool (!r172))] E ?_
   clear E; intro a E
   refine nl_ ?_
   have hx_ := Option.some.inj hP
   exact .inl ⟨rfl, !r172, E.pk, H.sel (up 10) rfl, hx_.symm⟩
  clear E H h164; rintro a w167 ⟨x166, E, H, hx_⟩
  subst hx_; have hP := hK165; clear hK165
  refine th_n ?_
  revert E; refine csE 49 rfl (fun hb_ E => ?_) fun hb_ E => ?_
  ·
   have h181 : x163 = true := hb_
   replace hP := ite_t h181 hP
   refine c_true E rfl <| sr_ <| vp 1 [(4, .bool false)] E ?_
   clear E; intro a E
   refine nn_ <| wp_ret <| th_ret ?_
   obtain rfl := Option.some.inj hP
   refine ret1 E rfl rfl ?_
   exact ⟨_, rfl, rfl, H.sel [] rfl⟩
  have h182 : ¬ (x163 = true) := (ne_true_of_eq_false hb_)
  replace hP := ite_f h182 hP
  refine c_false E rfl <| wp_skip <| th_n <| wp_seq <| sr_ <| vp 2 [(51, .bool false)] E ?_
  clear E; intro a E
  refine nn_ <| c_false E rfl ?_
  refine wp_skip <| th_n <| sr_ <| vq 1 [.agg #[.int .i64 r52.1, .slice A61 r52.2.1.1.length c62, .slice A64 r52.2.2.1.1.length c65, .slice A67 r52.2.2.2.1.length c68]] [(52, .agg #[.int .i64 r52.1, .slice A61 r52.2.1.1.length c62, .slice A64 r52.2.2.1.1.length c65, .slice A67 r52.2.2.2.1.length c68])] [cellsAt w167 g70 (0) [.int .i64 r52.1, .slice A61 r52.2.1.1.length c62, .slice A64 r52.2.2.1.1.length c65, .slice A67 r52.2.2.2.1.length c68]] E ((H.box 8 rfl).sub 0 _ rfl) ?_
  clear E; intro a E
  obtain ⟨x257, h258, hP⟩ := bind_inv hP
  refine e_call (R := fun v_ w_ => ∃ (x259 : (List Bool) × (List Int) × (List Nd)), v_ = .tuple #[] ∧ Hp S Fa w0 w_ [.ro false cS70 A13 script, .ro false cBool A1 aAccept, .ro false (cInt .i64) A5 aGuard, .ro false cNode A9 aNodes, .box g17 43 [.int .i64 aProps, .slice A1 aAccept.length c2, .slice A5 aGuard.length c6, .slice A9 aNodes.length c10], .box g110 67 [.int .i64 aProps, .slice A1 aAccept.length c2, .slice A5 aGuard.length c6, .slice A9 aNodes.length c10, .slice none 0 0], .rowx true cBool 4 A61 c62 x259.1 [], .rowx true (cInt .i64) 3 A64 c65 x259.2.1 [], .rowx true cNode 75 A67 c68 x259.2.2 []] ∧ x257 = x259) E rfl rfl Try.func28 rfl rfl rfl ?_ ?_
  ·
   clear E hP; have hP := h258; clear h258; rw [law21_WatchScript_f3] at hP
   refine enterV (n := 51) Try.func28 rfl rfl rfl ?_
   intro a E
   replace E := E.pick [(0, .agg #[.int .i64 r52.1, .slice A61 r52.2.1.1.length c62, .slice A64 r52.2.2.1.1.length c65, .slice A67 r52.2.2.2.1.length c68])] ⟨rfl, trivial⟩
   refine sr_ <| h_box H E rfl rfl rfl ?_
   clear H E; intro w261 g260 a hc262 hg264 H E; replace E := E _ rfl; try dsimp only [setn, addE, goneL] at H
   refine nn_ <| sr_ <| vq 2 [.slice A64 r52.2.2.1.1.length c65] [(7, .slice A64 r52.2.2.1.1.length c65)] [World.cell? w261 ⟨g260, 2, none⟩ = some (.slice A64 r52.2.2.1.1.length c65)] E ((H.box 10 rfl).cell (j := 2) rfl) ?_
   clear E; intro a E
   obtain ⟨x287, h288, hP⟩ := bind_inv hP
   refine e_call (R := fun v_ w_ => ∃ (x289 : List Int), v_ = .tuple #[] ∧ Hp S Fa w0 w_ [.ro false cS70 A13 script, .ro false cBool A1 aAccept, .ro false (cInt .i64) A5 aGuard, .ro false cNode A9 aNodes, .box g17 43 [.int .i64 aProps, .slice A1 aAccept.length c2, .slice A5 aGuard.length c6, .slice A9 aNodes.length c10], .box g110 67 [.int .i64 aProps, .slice A1 aAccept.length c2, .slice A5 aGuard.length c6, .slice A9 aNodes.length c10, .slice none 0 0], .rowx true cBool 4 A61 c62 r52.2.1.1 r52.2.1.2, .rowx true (cInt .i64) 3 A64 c65 x289 [], .rowx true cNode 75 A67 c68 r52.2.2.2.1 r52.2.2.2.2, .box g260 43 [.int .i64 r52.1, .slice A61 r52.2.1.1.length c62, .slice A64 r52.2.2.1.1.length c65, .slice A67 r52.2.2.2.1.length c68]] ∧ x287 = x289) E rfl rfl Try.func46 rfl rfl rfl ?_ ?_
   ·
    clear E hP; have hP := h288; clear h288; rw [law21_WatchScript_f4] at hP
    refine enterV (n := 22) Try.func46 rfl rfl rfl ?_
    intro a E
    replace E := E.pick [(0, .slice A64 r52.2.2.1.1.length c65)] ⟨rfl, trivial⟩
    refine sr_ <| vp 3 [(4, .slice A64 r52.2.2.1.1.length c65), (6, .int .i64 ((c65 : Nat) : Int))] E ?_
    clear E; intro a E
    refine vq 1 [] [(7, .slice A64 (Int.toNat ((c65 : Nat) : Int)) c65)] [0 ≤ ((c65 : Nat) : Int) ∧ ((c65 : Nat) : Int) ≤ ((c65 : Nat) : Int)] E (cut_all _) ?_
    clear E; intro a E
    have hk290 := H.rcapE 6 rfl
    replace H := H.allx 6 rfl; try dsimp only [setn, addE, goneL] at H
    replace E := E.same (t := 7) (u := .slice A64 (List.length (r52.2.2.1.1 ++ r52.2.2.1.2)) c65) rfl (congrArg (fun n_ => Value.slice A64 n_ c65) hk290)
    refine vp 1 [(2, .slice A64 (List.length (r52.2.2.1.1 ++ r52.2.2.1.2)) c65)] E ?_
    clear E; intro a E
    refine nn_ <| sr_ <| vp 1 [(3, .int .i64 0)] E ?_
    clear E; intro a E
    refine nn_ <| wp_block ?_
    obtain ⟨x312, hL313, hK314⟩ := bind_inv hP
    clear hP
    refine loop_cut (fun i_ a w_ => (i_ = 0 ∧ ∃ (x317 : List Int), Fr a 22 [] ∧ Hp S Fa w0 w_ [.ro false cS70 A13 script, .ro false cBool A1 aAccept, .ro false (cInt .i64) A5 aGuard, .ro false cNode A9 aNodes, .box g17 43 [.int .i64 aProps, .slice A1 aAccept.length c2, .slice A5 aGuard.length c6, .slice A9 aNodes.length c10], .box g110 67 [.int .i64 aProps, .slice A1 aAccept.length c2, .slice A5 aGuard.length c6, .slice A9 aNodes.length c10, .slice none 0 0], .rowx true cBool 4 A61 c62 r52.2.1.1 r52.2.1.2, .rowx true (cInt .i64) 3 A64 c65 x317 [], .rowx true cNode 75 A67 c68 r52.2.2.2.1 r52.2.2.2.2, .box g260 43 [.int .i64 r52.1, .slice A61 r52.2.1.1.length c62, .slice A64 r52.2.2.1.1.length c65, .slice A67 r52.2.2.2.1.length c68]] ∧ x312 = x317)) ?_ ?_
    ·
     refine loopV (fun m316 a w315 => ∃ (all299 : List Int) (i300 : Int), Fr a 22 [(2, .slice A64 all299.length c65), (3, .int .i64 i300)] ∧ Hp S Fa w0 w315 [.rowx true (cInt .i64) 3 A64 c65 all299 [], .ro false cS70 A13 script, .ro false cBool A1 aAccept, .ro false (cInt .i64) A5 aGuard, .ro false cNode A9 aNodes, .box g17 43 [.int .i64 aProps, .slice A1 aAccept.length c2, .slice A5 aGuard.length c6, .slice A9 aNodes.length c10], .box g110 67 [.int .i64 aProps, .slice A1 aAccept.length c2, .slice A5 aGuard.length c6, .slice A9 aNodes.length c10, .slice none 0 0], .rowx true cBool 4 A61 c62 r52.2.1.1 r52.2.1.2, .rowx true cNode 75 A67 c68 r52.2.2.2.1 r52.2.2.2.2, .box g260 43 [.int .i64 r52.1, .slice A61 r52.2.1.1.length c62, .slice A64 r52.2.2.1.1.length c65, .slice A67 r52.2.2.2.1.length c68]] ∧ law21_WatchScript_l5 N m316 all299 i300 = some x312) N ?_ ?_
     ·
      exact ⟨r52.2.2.1.1 ++ r52.2.2.1.2, 0, E.pk, H.sel [6, 0, 1, 2, 3, 4, 9, 5, 7, 10] rfl, hL313⟩
     clear E H hL313; intro m316 a w315 hI_
     obtain ⟨all299, i300, E, H, hP⟩ := hI_
     obtain ⟨m311, rfl⟩ : ∃ q_, m316 = q_ + 1 := by cases m316 with | zero => rw [law21_WatchScript_l5] at hP; cases hP | succ q_ => exact ⟨q_, rfl⟩
     rw [law21_WatchScript_l5] at hP
     refine wp_seq <| sr_ <| vp 4 [(11, .bool (decide (i300 < (all299.length : Int))))] E ?_
     clear E; intro a E
     refine nn_ ?_
     revert E; refine csE 11 rfl (fun hb_ E => ?_) fun hb_ E => ?_
     ·
      have h318 : i300 < (all299.length : Int) := of_decide_eq_true hb_
      replace hP := ite_t h318 hP
      refine c_true E rfl <| wp_skip <| th_n <| wp_seq <| wp_block <| rl_ ?_
      obtain ⟨g319, hP⟩ := ask_inv hP
      obtain ⟨b320, e_b320⟩ := H.raddrx 0 rfl (idx_pos g319)
      subst e_b320
      refine vq 8 [.int .i64 (List.getD all299 i300.toNat 0), .int .i64 (xorV .i64 (List.getD all299 i300.toNat 0) 21845)] [(20, .int .i64 (xorV .i64 (List.getD all299 i300.toNat 0) 21845)), (21, .pointer (some ⟨b320, 0 + i300.toNat * 1, none⟩))] [0 ≤ i300 ∧ i300 < (all299.length : Int), World.cell? w315 ⟨b320, 0 + i300.toNat * 1, none⟩ = some (.int .i64 (List.getD all299 i300.toNat 0)), IntKind.i64.wrap (BitVec.ofInt (IntKind.bits .i64) (List.getD all299 i300.toNat 0) ^^^ BitVec.ofInt (IntKind.bits .i64) 21845).toNat = xorV .i64 (List.getD all299 i300.toNat 0) 21845, 0 ≤ i300 ∧ i300 < (all299.length : Int)] E ⟨g319, Rds.at1 (H.rd 0 rds_rowx) 0 g319, rfl, g319⟩ ?_
      clear E; intro a E
      refine h_setx (g := b320) (i := i300) (xorV .i64 (List.getD all299 i300.toNat 0) 21845) H 0 rfl E rfl rfl rfl rfl tbok rfl (fun _ HF_ => rfl) rfl g319 rfl ?_
      clear E; intro w322 a hc323 H_ E
      replace H := H_; clear H_; try dsimp only [setn, addE, goneL] at H
      have hn324 : all299.length = (List.length (List.set all299 i300.toNat (xorV .i64 (List.getD all299 i300.toNat 0) 21845))) := by simp only [List.length_set]
      replace E := E.same (t := 2) (u := .slice (some ⟨b320, 0, none⟩) (List.length (List.set all299 i300.toNat (xorV .i64 (List.getD all299 i300.toNat 0) 21845))) c65) rfl (congrArg (fun n_ => Value.slice (some ⟨b320, 0, none⟩) n_ c65) hn324)
      refine nl_ <| bl_n <| th_n <| rl_ ?_
      obtain ⟨g325, hP⟩ := ask_inv hP
      refine vq 3 [.int .i64 (i300 + 1)] [(3, .int .i64 (i300 + 1))] [IntKind.i64.wrap (i300 + 1) = i300 + 1] E (wrap_in g325) ?_
      clear E; intro a E
      refine nl_ ?_
      exact th_n ⟨m311, Nat.lt_succ_self _, List.set all299 i300.toNat (xorV .i64 (List.getD all299 i300.toNat 0) 21845), i300 + 1, E.pk, H.sel (up 10) rfl, hP⟩
     have h326 : ¬ (i300 < (all299.length : Int)) := of_decide_eq_false hb_
     replace hP := ite_f h326 hP
     refine c_false E rfl <| wp_exit <| th_exit ?_
     have hx_ := Option.some.inj hP
     refine th_exit (.inl ⟨0, rfl, ?_⟩)
     exact ⟨rfl, all299, E.pick _ trivial, H.sel [1, 2, 3, 4, 5, 6, 7, 0, 8, 9] rfl, hx_.symm⟩
    clear E H hL313; intro i_ a w315 hM_
    obtain ⟨rfl, x317, E, H, hx_⟩ := hM_
    subst hx_; have hP := hK314; clear hK314
    refine bl_hit ?_
    have hx_ := Option.some.inj hP
    refine bodyPost_end (v := .tuple #[]) (by simp [results, Try.f46]) E.nodef ?_
    exact ⟨_, rfl, x312, rfl, H.sel (up 10) rfl, hx_.symm⟩
   clear H
   rintro v328 w327 a ⟨x289, rfl, H, hx_⟩ E_
   subst hx_
   replace E := E_ _ rfl; clear E_
   refine nn_ <| wp_seq <| meet_cut (fun a w331 => Fr a 51 [(2, .slice A61 (List.length (r52.2.1.1 ++ r52.2.1.2)) c62), (3, .slice A67 (List.length (r52.2.2.2.1 ++ r52.2.2.2.2)) c68)] ∧ Hp S Fa w0 w331 [.rowx true cBool 4 A61 c62 (r52.2.1.1 ++ r52.2.1.2) [], .rowx true cNode 75 A67 c68 (r52.2.2.2.1 ++ r52.2.2.2.2) [], .ro false cS70 A13 script, .ro false cBool A1 aAccept, .ro false (cInt .i64) A5 aGuard, .ro false cNode A9 aNodes, .box g17 43 [.int .i64 aProps, .slice A1 aAccept.length c2, .slice A5 aGuard.length c6, .slice A9 aNodes.length c10], .box g110 67 [.int .i64 aProps, .slice A1 aAccept.length c2, .slice A5 aGuard.length c6, .slice A9 aNodes.length c10, .slice none 0 0], .rowx true (cInt .i64) 3 A64 c65 x287 []]) ?_ ?_
   ·
    have HR335 := H
    refine dr_start (S := fun w_ => Chg (atL []) w327 w_) (by kernel_rfl) ?_
    intro w332 hc333
    have HS334 : Chg (atL []) w327 w332 := hc333.mono (fun _ _ h_ => h_.elim)
    replace H := H.ext hc333
    refine dn tbok (by kernel_rfl) [0, 1, 2, 3, 4, 6, 7, 8, 9, 10] [.slice A61 r52.2.1.1.length c62, .slice A61 r52.2.1.1.length c62, .slice A67 r52.2.2.2.1.length c68, .slice A67 r52.2.2.2.1.length c68] [(10, .slice A61 r52.2.1.1.length c62), (13, .int .i64 ((c62 : Nat) : Int)), (16, .slice A67 r52.2.2.2.1.length c68), (19, .int .i64 ((c68 : Nat) : Int))] (fun w_ => [World.cell? w_ ⟨g260, 1, none⟩ = some (.slice A61 r52.2.1.1.length c62), World.cell? w_ ⟨g260, 1, none⟩ = some (.slice A61 r52.2.1.1.length c62), World.cell? w_ ⟨g260, 3, none⟩ = some (.slice A67 r52.2.2.2.1.length c68), World.cell? w_ ⟨g260, 3, none⟩ = some (.slice A67 r52.2.2.2.1.length c68)]) 4 E (fun _ _ => by kernel_rfl) (by kernel_rfl) (fun w_ hS_ => ⟨(HR335.boxk [] hS_ 9 rfl rfl).cell (j := 1) rfl, (HR335.boxk [] hS_ 9 rfl rfl).cell (j := 1) rfl, (HR335.boxk [] hS_ 9 rfl rfl).cell (j := 3) rfl, (HR335.boxk [] hS_ 9 rfl rfl).cell (j := 3) rfl⟩) (by kernel_rfl) HS334 ?_
    clear E; intro a E
    refine wpAnyH_all (rs := [5, 11]) (by kernel_rfl) (by simp) ?_
    refine all2 ?_ ?_
    ·
     refine wpOp_of_list rfl ?_
     refine vq 1 [] [(14, .slice A61 (Int.toNat ((c62 : Nat) : Int)) c62)] [0 ≤ ((c62 : Nat) : Int) ∧ ((c62 : Nat) : Int) ≤ ((c62 : Nat) : Int)] E (cut_all _) ?_
     clear E; intro a E
     have hk336 := H.rcapE 6 rfl
     replace H := H.allx 6 rfl; try dsimp only [setn, addE, goneL] at H
     replace E := E.same (t := 14) (u := .slice A61 (List.length (r52.2.1.1 ++ r52.2.1.2)) c62) rfl (congrArg (fun n_ => Value.slice A61 n_ c62) hk336)
     refine nl_ <| th_n ⟨HS334, ?_⟩
     refine dn tbok (by kernel_rfl) [12] [] [(2, .slice A61 (List.length (r52.2.1.1 ++ r52.2.1.2)) c62)] (fun w_ => []) 2 E (fun _ _ => by kernel_rfl) (by kernel_rfl) (fun w_ hS_ => trivial) (by kernel_rfl) HS334 ?_
     clear E; intro a E
     refine wpAnyH_all (rs := [11]) (by kernel_rfl) (by simp) ?_
     refine all1 ?_
     refine wpOp_of_list rfl ?_
     refine vq 1 [] [(20, .slice A67 (Int.toNat ((c68 : Nat) : Int)) c68)] [0 ≤ ((c68 : Nat) : Int) ∧ ((c68 : Nat) : Int) ≤ ((c68 : Nat) : Int)] E (cut_all _) ?_
     clear E; intro a E
     have hk337 := H.rcapE 8 rfl
     replace H := H.allx 8 rfl; try dsimp only [setn, addE, goneL] at H
     replace E := E.same (t := 20) (u := .slice A67 (List.length (r52.2.2.2.1 ++ r52.2.2.2.2)) c68) rfl (congrArg (fun n_ => Value.slice A67 n_ c68) hk337)
     refine nl_ <| th_n ⟨HS334, ?_⟩
     refine dn tbok (by kernel_rfl) [13] [] [(3, .slice A67 (List.length (r52.2.2.2.1 ++ r52.2.2.2.2)) c68)] (fun w_ => []) 0 E (fun _ _ => by kernel_rfl) (by kernel_rfl) (fun w_ hS_ => trivial) (by kernel_rfl) HS334 ?_
     clear E; intro a E
     refine dr_done (by kernel_rfl) ?_
     exact .inl ⟨rfl, E.pk, H.sel [6, 8, 0, 1, 2, 3, 4, 5, 7] rfl⟩
    refine wpOp_of_list rfl ?_
    refine vq 1 [] [(20, .slice A67 (Int.toNat ((c68 : Nat) : Int)) c68)] [0 ≤ ((c68 : Nat) : Int) ∧ ((c68 : Nat) : Int) ≤ ((c68 : Nat) : Int)] E (cut_all _) ?_
    clear E; intro a E
    have hk338 := H.rcapE 8 rfl
    replace H := H.allx 8 rfl; try dsimp only [setn, addE, goneL] at H
    replace E := E.same (t := 20) (u := .slice A67 (List.length (r52.2.2.2.1 ++ r52.2.2.2.2)) c68) rfl (congrArg (fun n_ => Value.slice A67 n_ c68) hk338)
    refine nl_ <| th_n ⟨HS334, ?_⟩
    refine wpAnyH_all (rs := [5]) (by kernel_rfl) (by simp) ?_
    refine all1 ?_
    refine wpOp_of_list rfl ?_
    refine vq 1 [] [(14, .slice A61 (Int.toNat ((c62 : Nat) : Int)) c62)] [0 ≤ ((c62 : Nat) : Int) ∧ ((c62 : Nat) : Int) ≤ ((c62 : Nat) : Int)] E (cut_all _) ?_
    clear E; intro a E
    have hk339 := H.rcapE 6 rfl
    replace H := H.allx 6 rfl; try dsimp only [setn, addE, goneL] at H
    replace E := E.same (t := 14) (u := .slice A61 (List.length (r52.2.1.1 ++ r52.2.1.2)) c62) rfl (congrArg (fun n_ => Value.slice A61 n_ c62) hk339)
    refine nl_ <| th_n ⟨HS334, ?_⟩
    refine dn tbok (by kernel_rfl) [12, 13] [] [(2, .slice A61 (List.length (r52.2.1.1 ++ r52.2.1.2)) c62), (3, .slice A67 (List.length (r52.2.2.2.1 ++ r52.2.2.2.2)) c68)] (fun w_ => []) 0 E (fun _ _ => by kernel_rfl) (by kernel_rfl) (fun w_ hS_ => trivial) (by kernel_rfl) HS334 ?_
    clear E; intro a E
    refine dr_done (by kernel_rfl) ?_
    exact .inl ⟨rfl, E.pk, H.sel [6, 8, 0, 1, 2, 3, 4, 5, 7] rfl⟩
   clear E H; rintro a w331 ⟨E, H⟩
   refine th_n <| wp_seq <| sr_ <| vp 1 [(4, .int .i64 0)] E ?_
   clear E; intro a E
   refine nn_ <| wp_block ?_
   obtain ⟨x361, hL362, hK363⟩ := bind_inv hP
   clear hP
   refine loop_cut (fun i_ a w_ => (i_ = 0 ∧ ∃ (x366 : List Bool), Fr a 51 [(3, .slice A67 (List.length (r52.2.2.2.1 ++ r52.2.2.2.2)) c68)] ∧ Hp S Fa w0 w_ [.rowx true cNode 75 A67 c68 (r52.2.2.2.1 ++ r52.2.2.2.2) [], .ro false cS70 A13 script, .ro false cBool A1 aAccept, .ro false (cInt .i64) A5 aGuard, .ro false cNode A9 aNodes, .box g17 43 [.int .i64 aProps, .slice A1 aAccept.length c2, .slice A5 aGuard.length c6, .slice A9 aNodes.length c10], .box g110 67 [.int .i64 aProps, .slice A1 aAccept.length c2, .slice A5 aGuard.length c6, .slice A9 aNodes.length c10, .slice none 0 0], .rowx true cBool 4 A61 c62 x366 [], .rowx true (cInt .i64) 3 A64 c65 x287 []] ∧ x361 = x366)) ?_ ?_
   ·
    refine loopV (fun m365 a w364 => ∃ (accept348 : List Bool) (i349 : Int), Fr a 51 [(2, .slice A61 accept348.length c62), (3, .slice A67 (List.length (r52.2.2.2.1 ++ r52.2.2.2.2)) c68), (4, .int .i64 i349)] ∧ Hp S Fa w0 w364 [.rowx true cBool 4 A61 c62 accept348 [], .rowx true cNode 75 A67 c68 (r52.2.2.2.1 ++ r52.2.2.2.2) [], .ro false cS70 A13 script, .ro false cBool A1 aAccept, .ro false (cInt .i64) A5 aGuard, .ro false cNode A9 aNodes, .box g17 43 [.int .i64 aProps, .slice A1 aAccept.length c2, .slice A5 aGuard.length c6, .slice A9 aNodes.length c10], .box g110 67 [.int .i64 aProps, .slice A1 aAccept.length c2, .slice A5 aGuard.length c6, .slice A9 aNodes.length c10, .slice none 0 0], .rowx true (cInt .i64) 3 A64 c65 x287 []] ∧ law21_WatchScript_l6 N m365 accept348 i349 = some x361) N ?_ ?_
    ·
     exact ⟨r52.2.1.1 ++ r52.2.1.2, 0, E.pk, H.sel (up 9) rfl, hL362⟩
    clear E H hL362; intro m365 a w364 hI_
    obtain ⟨accept348, i349, E, H, hP⟩ := hI_
    obtain ⟨m360, rfl⟩ : ∃ q_, m365 = q_ + 1 := by cases m365 with | zero => rw [law21_WatchScript_l6] at hP; cases hP | succ q_ => exact ⟨q_, rfl⟩
    rw [law21_WatchScript_l6] at hP
    refine wp_seq <| sr_ <| vp 4 [(24, .bool (decide (i349 < (accept348.length : Int))))] E ?_
    clear E; intro a E
    refine nn_ ?_
    revert E; refine csE 24 rfl (fun hb_ E => ?_) fun hb_ E => ?_
    ·
     have h367 : i349 < (accept348.length : Int) := of_decide_eq_true hb_
     replace hP := ite_t h367 hP
     refine c_true E rfl <| wp_skip <| th_n <| wp_seq <| wp_block <| rl_ ?_
     obtain ⟨g368, hP⟩ := ask_inv hP
     obtain ⟨b369, e_b369⟩ := H.raddrx 0 rfl (idx_pos g368)
     subst e_b369
     refine vq 8 [.bool (List.getD accept348 i349.toNat false)] [(33, .bool (!(List.getD accept348 i349.toNat false))), (34, .pointer (some ⟨b369, 0 + i349.toNat * 1, none⟩))] [0 ≤ i349 ∧ i349 < (accept348.length : Int), World.cell? w364 ⟨b369, 0 + i349.toNat * 1, none⟩ = some (.bool (List.getD accept348 i349.toNat false)), 0 ≤ i349 ∧ i349 < (accept348.length : Int)] E ⟨g368, Rds.at1 (H.rd 0 rds_rowx) false g368, g368⟩ ?_
     clear E; intro a E
     refine h_setx (g := b369) (i := i349) (!(List.getD accept348 i349.toNat false)) H 0 rfl E rfl rfl rfl rfl tbok rfl (fun _ HF_ => rfl) rfl g368 rfl ?_
     clear E; intro w371 a hc372 H_ E
     replace H := H_; clear H_; try dsimp only [setn, addE, goneL] at H
     have hn373 : accept348.length = (List.length (List.set accept348 i349.toNat (!(List.getD accept348 i349.toNat false)))) := by simp only [List.length_set]
     replace E := E.same (t := 2) (u := .slice (some ⟨b369, 0, none⟩) (List.length (List.set accept348 i349.toNat (!(List.getD accept348 i349.toNat false)))) c62) rfl (congrArg (fun n_ => Value.slice (some ⟨b369, 0, none⟩) n_ c62) hn373)
     refine nl_ <| bl_n <| th_n <| rl_ ?_
     obtain ⟨g374, hP⟩ := ask_inv hP
     refine vq 3 [.int .i64 (i349 + 1)] [(4, .int .i64 (i349 + 1))] [IntKind.i64.wrap (i349 + 1) = i349 + 1] E (wrap_in g374) ?_
     clear E; intro a E
     refine nl_ ?_
     exact th_n ⟨m360, Nat.lt_succ_self _, List.set accept348 i349.toNat (!(List.getD accept348 i349.toNat false)), i349 + 1, E.pk, H.sel (up 9) rfl, hP⟩
    have h375 : ¬ (i349 < (accept348.length : Int)) := of_decide_eq_false hb_
    replace hP := ite_f h375 hP
    refine c_false E rfl <| wp_exit <| th_exit ?_
    have hx_ := Option.some.inj hP
    refine th_exit (.inl ⟨0, rfl, ?_⟩)
    exact ⟨rfl, accept348, E.pk, H.sel [1, 2, 3, 4, 5, 6, 7, 0, 8] rfl, hx_.symm⟩
   clear E H hL362; intro i_ a w364 hM_
   obtain ⟨rfl, x366, E, H, hx_⟩ := hM_
   subst hx_; have hP := hK363; clear hK363
   refine bl_hit <| th_n <| sr_ <| vp 1 [(5, .int .i64 0)] E ?_
   clear E; intro a E
   refine nn_ <| wp_block ?_
   obtain ⟨x397, hL398, hK399⟩ := bind_inv hP
   clear hP
   refine loop_cut (fun i_ a w_ => (i_ = 2 ∧ ∃ (x402 : List Nd), Fr a 51 [] ∧ Hp S Fa w0 w_ [.ro false cS70 A13 script, .ro false cBool A1 aAccept, .ro false (cInt .i64) A5 aGuard, .ro false cNode A9 aNodes, .box g17 43 [.int .i64 aProps, .slice A1 aAccept.length c2, .slice A5 aGuard.length c6, .slice A9 aNodes.length c10], .box g110 67 [.int .i64 aProps, .slice A1 aAccept.length c2, .slice A5 aGuard.length c6, .slice A9 aNodes.length c10, .slice none 0 0], .rowx true cBool 4 A61 c62 x361 [], .rowx true (cInt .i64) 3 A64 c65 x287 [], .rowx true cNode 75 A67 c68 x402 []] ∧ x397 = x402)) ?_ ?_
   ·
    refine loopV (fun m401 a w400 => ∃ (nodes384 : List Nd) (i385 : Int), Fr a 51 [(3, .slice A67 nodes384.length c68), (5, .int .i64 i385)] ∧ Hp S Fa w0 w400 [.rowx true cNode 75 A67 c68 nodes384 [], .ro false cS70 A13 script, .ro false cBool A1 aAccept, .ro false (cInt .i64) A5 aGuard, .ro false cNode A9 aNodes, .box g17 43 [.int .i64 aProps, .slice A1 aAccept.length c2, .slice A5 aGuard.length c6, .slice A9 aNodes.length c10], .box g110 67 [.int .i64 aProps, .slice A1 aAccept.length c2, .slice A5 aGuard.length c6, .slice A9 aNodes.length c10, .slice none 0 0], .rowx true cBool 4 A61 c62 x361 [], .rowx true (cInt .i64) 3 A64 c65 x287 []] ∧ law21_WatchScript_l7 N m401 nodes384 i385 = some x397) N ?_ ?_
    ·
     exact ⟨r52.2.2.2.1 ++ r52.2.2.2.2, 0, E.pk, H.sel (up 9) rfl, hL398⟩
    clear E H hL398; intro m401 a w400 hI_
    obtain ⟨nodes384, i385, E, H, hP⟩ := hI_
    obtain ⟨m396, rfl⟩ : ∃ q_, m401 = q_ + 1 := by cases m401 with | zero => rw [law21_WatchScript_l7] at hP; cases hP | succ q_ => exact ⟨q_, rfl⟩
    rw [law21_WatchScript_l7] at hP
    refine wp_seq <| sr_ <| vp 4 [(38, .bool (decide (i385 < (nodes384.length : Int))))] E ?_
    clear E; intro a E
    refine nn_ ?_
    revert E; refine csE 38 rfl (fun hb_ E => ?_) fun hb_ E => ?_
    ·
     have h403 : i385 < (nodes384.length : Int) := of_decide_eq_true hb_
     replace hP := ite_t h403 hP
     refine c_true E rfl <| wp_skip <| th_n <| wp_seq <| wp_block <| rl_ ?_
     obtain ⟨g404, hP⟩ := ask_inv hP
     obtain ⟨b405, e_b405⟩ := H.raddrx 0 rfl (idx_pos g404)
     subst e_b405
     refine vq 10 [.int .i64 ((List.getD nodes384 i385.toNat (default : Nd)).P), .int .i64 (xorV .i64 ((List.getD nodes384 i385.toNat (default : Nd)).P) 85)] [(48, .int .i64 (xorV .i64 ((List.getD nodes384 i385.toNat (default : Nd)).P) 85)), (50, .pointer (some ⟨b405, 0 + i385.toNat * 3, none⟩))] [0 ≤ i385 ∧ i385 < (nodes384.length : Int), World.cell? w400 ⟨b405, 0 + i385.toNat * 3, none⟩ = some (.int .i64 ((List.getD nodes384 i385.toNat (default : Nd)).P)), IntKind.i64.wrap (BitVec.ofInt (IntKind.bits .i64) ((List.getD nodes384 i385.toNat (default : Nd)).P) ^^^ BitVec.ofInt (IntKind.bits .i64) 85).toNat = xorV .i64 ((List.getD nodes384 i385.toNat (default : Nd)).P) 85, 0 ≤ i385 ∧ i385 < (nodes384.length : Int)] E ⟨g404, (Rds.atP (H.rd 0 rds_rowx) (default : Nd) g404).1, rfl, g404⟩ ?_
     clear E; intro a E
     refine h_setpx (g := b405) (i := i385) (off := 0) (fun y_ => (⟨xorV .i64 ((List.getD nodes384 i385.toNat (default : Nd)).P) 85, y_.Lo, y_.Hi⟩ : Nd)) (default : Nd) (⟨xorV .i64 ((List.getD nodes384 i385.toNat (default : Nd)).P) 85, (List.getD nodes384 i385.toNat (default : Nd)).Lo, (List.getD nodes384 i385.toNat (default : Nd)).Hi⟩ : Nd) H 0 rfl E rfl rfl rfl rfl tbok rfl rfl (fun _ y_ c_ h_ => (congrArg (fun c => splice c 0 [.int .i64 (xorV .i64 ((List.getD nodes384 i385.toNat (default : Nd)).P) 85)]) (h_ : c_ = _)).trans rfl) rfl rfl rfl g404 rfl ?_
     clear E; intro w407 a hc408 H_ E
     replace H := H_; clear H_; try dsimp only [setn, addE, goneL] at H
     have hn409 : nodes384.length = (List.length (List.set nodes384 i385.toNat (⟨xorV .i64 ((List.getD nodes384 i385.toNat (default : Nd)).P) 85, (List.getD nodes384 i385.toNat (default : Nd)).Lo, (List.getD nodes384 i385.toNat (default : Nd)).Hi⟩ : Nd))) := by simp only [List.length_set]
     replace E := E.same (t := 3) (u := .slice (some ⟨b405, 0, none⟩) (List.length (List.set nodes384 i385.toNat (⟨xorV .i64 ((List.getD nodes384 i385.toNat (default : Nd)).P) 85, (List.getD nodes384 i385.toNat (default : Nd)).Lo, (List.getD nodes384 i385.toNat (default : Nd)).Hi⟩ : Nd))) c68) rfl (congrArg (fun n_ => Value.slice (some ⟨b405, 0, none⟩) n_ c68) hn409)
     refine nl_ <| bl_n <| th_n <| rl_ ?_
     obtain ⟨g410, hP⟩ := ask_inv hP
     refine vq 3 [.int .i64 (i385 + 1)] [(5, .int .i64 (i385 + 1))] [IntKind.i64.wrap (i385 + 1) = i385 + 1] E (wrap_in g410) ?_
     clear E; intro a E
     refine nl_ ?_
     exact th_n ⟨m396, Nat.lt_succ_self _, List.set nodes384 i385.toNat (⟨xorV .i64 ((List.getD nodes384 i385.toNat (default : Nd)).P) 85, (List.getD nodes384 i385.toNat (default : Nd)).Lo, (List.getD nodes384 i385.toNat (default : Nd)).Hi⟩ : Nd), i385 + 1, E.pk, H.sel (up 9) rfl, hP⟩
    have h411 : ¬ (i385 < (nodes384.length : Int)) := of_decide_eq_false hb_
    replace hP := ite_f h411 hP
    refine c_false E rfl <| wp_exit <| th_exit ?_
    have hx_ := Option.some.inj hP
    refine th_exit (.inl ⟨2, rfl, ?_⟩)
    exact ⟨rfl, nodes384, E.pick _ trivial, H.sel [1, 2, 3, 4, 5, 6, 7, 8, 0] rfl, hx_.symm⟩
   clear E H hL398; intro i_ a w400 hM_
   obtain ⟨rfl, x402, E, H, hx_⟩ := hM_
   subst hx_; have hP := hK399; clear hK399
   refine bl_hit ?_
   have hx_ := Option.some.inj hP
   refine bodyPost_end (v := .tuple #[]) (by simp [results, Try.f28]) E.nodef ?_
   exact ⟨_, rfl, (x361, x287, x397), rfl, H.sel (up 9) rfl, hx_.symm⟩
  clear H
  rintro v413 w412 a ⟨x259, rfl, H, hx_⟩ E_
  subst hx_
  replace E := E_ _ rfl; clear E_
  refine nn_ <| sr_ <| vp 1 [(54, .pointer none)] E ?_
  clear E; intro a E
  obtain ⟨x416, h417, hP⟩ := bind_inv hP
  refine e_call (R := fun v_ w_ => ∃ (x418 : Unit), v_ = .pointer none ∧ Hp S Fa w0 w_ [.ro false cS70 A13 script, .ro false cBool A1 aAccept, .ro false (cInt .i64) A5 aGuard, .ro false cNode A9 aNodes, .box g17 43 [.int .i64 aProps, .slice A1 aAccept.length c2, .slice A5 aGuard.length c6, .slice A9 aNodes.length c10], .box g110 67 [.int .i64 aProps, .slice A1 aAccept.length c2, .slice A5 aGuard.length c6, .slice A9 aNodes.length c10, .slice none 0 0]] ∧ x416 = x418) E rfl rfl Try.func15 rfl rfl rfl ?_ ?_
  ·
   clear E hP; have hP := h417; clear h417; rw [law21_WatchScript_f8] at hP
   refine enterV (n := 17) Try.func15 rfl rfl rfl ?_
   intro a E
   replace E := E.pick [(0, .pointer none)] ⟨rfl, trivial⟩
   refine sr_ <| vp 1 [] E ?_
   clear E; intro a E
   refine nn_ <| wp_seq <| sr_ <| vp 1 [(3, .pointer none)] E ?_
   clear E; intro a E
   obtain ⟨x419, h420, hP⟩ := bind_inv hP
   refine e_call (R := fun v_ w_ => ∃ (x421 : Unit), v_ = .bool true ∧ Hp S Fa w0 w_ [.ro false cS70 A13 script, .ro false cBool A1 aAccept, .ro false (cInt .i64) A5 aGuard, .ro false cNode A9 aNodes, .box g17 43 [.int .i64 aProps, .slice A1 aAccept.length c2, .slice A5 aGuard.length c6, .slice A9 aNodes.length c10], .box g110 67 [.int .i64 aProps, .slice A1 aAccept.length c2, .slice A5 aGuard.length c6, .slice A9 aNodes.length c10, .slice none 0 0]] ∧ x419 = x421) E rfl rfl Try.func32 rfl rfl rfl ?_ ?_
   ·
    clear E hP; have hP := h420; clear h420; rw [law21_WatchScript_f9] at hP
    refine enterV (n := 12) Try.func32 rfl rfl rfl ?_
    intro a E
    replace E := E.pick [(0, .pointer none)] ⟨rfl, trivial⟩
    refine sr_ <| vp 1 [] E ?_
    clear E; intro a E
    refine nn_ <| sr_ <| vp 10 [(2, .bool true)] E ?_
    clear E; intro a E
    refine nn_ <| wp_ret ?_
    have hx_ := Option.some.inj hP
    refine ret1 E rfl rfl ?_
    exact ⟨_, rfl, (), rfl, H.sel (up 6) rfl, hx_.symm⟩
   clear H
   rintro v423 w422 a ⟨x421, rfl, H, hx_⟩ E_
   subst hx_
   replace E := E_ _ rfl; clear E_
   refine nn_ <| c_true E rfl ?_
   refine sr_ <| vp 1 [(2, .pointer none)] E ?_
   clear E; intro a E
   refine nn_ <| wp_ret <| th_ret ?_
   have hx_ := Option.some.inj hP
   refine ret1 E rfl rfl ?_
   exact ⟨_, rfl, (), rfl, H.sel (up 6) rfl, hx_.symm⟩
  clear H
  rintro v425 w424 a ⟨x418, rfl, H, hx_⟩ E_
  subst hx_
  replace E := E_ _ rfl; clear E_
  refine vp 1 [(10, .pointer none)] E ?_
  clear E; intro a E
  refine nn_ <| wp_seq <| sr_ <| vp 2 [(57, .bool true)] E ?_
  clear E; intro a E
  refine nn_ <| c_true E rfl ?_
  refine sr_ <| vp 1 [(4, .bool false)] E ?_
  clear E; intro a E
  refine nn_ <| wp_ret <| th_ret ?_
  obtain rfl := Option.some.inj hP
  refine ret1 E rfl rfl ?_
  exact ⟨_, rfl, rfl, H.sel [] rfl⟩
 subst hr_; have hP := (elim_r hP)
 obtain ⟨x95, hxx_⟩ : ∃ y_, y_ = x_ := ⟨_, rfl⟩; subst hxx_
 replace E := E_ _ rfl; clear E_
 obtain ⟨H_, hc89⟩ := hb81 _ _ HR93 rfl
 replace H := H_; clear H_; try dsimp only [setn, addE, goneL] at H
 refine vp 5 [(6, .pointer (some ⟨g91, 0, none⟩)), (7, .int .i64 x95.2)] E ?_
 clear E; intro a E
 refine nn_ <| sr_ <| vq 1 [.agg #[.int .i64 aProps, .slice A1 aAccept.length c2, .slice A5 aGuard.length c6, .slice A9 aNodes.length c10]] [(30, .agg #[.int .i64 aProps, .slice A1 aAccept.length c2, .slice A5 aGuard.length c6, .slice A9 aNodes.length c10])] [cellsAt w86 g17 (0) [.int .i64 aProps, .slice A1 aAccept.length c2, .slice A5 aGuard.length c6, .slice A9 aNodes.length c10]] E ((H.box 4 rfl).sub 0 _ rfl) ?_
 clear E; intro a E
 obtain ⟨r428, h429, hP⟩ := bind_inv hP
 obtain ⟨Fa430, Hc431, hb432⟩ := H.call [] [(1, false), (2, false), (3, false)] rfl rfl trivial
 refine e_call E rfl rfl Try.func27 rfl rfl rfl (ref21_New_calls A1 c2 A5 c6 A9 c10 aProps aAccept aGuard aNodes hk3 hk7 hk11 Hc431 h429) ?_
 intro v438 w437 a hR439 E_
 rcases hR439 with ⟨x_, hr_, rfl, HR441⟩ | ⟨x_, g442, hr_, rfl, HR443⟩
 ·
  subst hr_; have hP := elim_l hP
  obtain ⟨x444, hxx_⟩ : ∃ y_, y_ = x_ := ⟨_, rfl⟩; subst hxx_
  replace E := E_ _ rfl; clear E_
  obtain ⟨H_, hc440⟩ := hb432 _ _ HR441 rfl
  replace H := H_; clear H_; try dsimp only [setn, addE, goneL] at H
  refine vp 5 [(8, .pointer none), (9, .int .i64 x444)] E ?_
  clear E; intro a E
  refine nn_ <| wp_seq <| wp_seq ?_
  obtain ⟨x460, h461, hK462⟩ := bind_inv hP
  clear hP
  refine meet_cut (fun a w464 => ∃ (x463 : Bool), Fr a 90 [(1, .slice A13 script.length c14), (2, .pointer (some ⟨g17, 0, none⟩)), (5, .pointer (some ⟨g70, 0, none⟩)), (6, .pointer (some ⟨g91, 0, none⟩)), (8, .pointer none), (49, .bool x463)] ∧ Hp S Fa w0 w464 [.ro false cS70 A13 script, .ro false cBool A1 aAccept, .ro false (cInt .i64) A5 aGuard, .ro false cNode A9 aNodes, .box g17 43 [.int .i64 aProps, .slice A1 aAccept.length c2, .slice A5 aGuard.length c6, .slice A9 aNodes.length c10], .rowx true cBool 4 A61 c62 r52.2.1.1 r52.2.1.2, .rowx true (cInt .i64) 3 A64 c65 r52.2.2.1.1 r52.2.2.1.2, .rowx true cNode 75 A67 c68 r52.2.2.2.1 r52.2.2.2.2, .box g70 43 [.int .i64 r52.1, .slice A61 r52.2.1.1.length c62, .slice A64 r52.2.2.1.1.length c65, .slice A67 r52.2.2.2.1.length c68], .ro true cS78 (some ⟨b92, 0, none⟩) ([x95.1]), .box g91 27 [.pointer (some ⟨b92, 0, none⟩), .slice none 0 0]] ∧ x460 = x463) ?_ ?_
  ·
   have hP := h461; clear h461; rw [law21_WatchScript_j10] at hP
   refine rl_ <| vp 4 [(37, .bool ((x95.2 : Int) != x444))] E ?_
   clear E; intro a E
   revert E; refine csE 37 rfl (fun hb_ E => ?_) fun hb_ E => ?_
   ·
    have h465 : ¬ ((x95.2 : Int) = x444) := bne_iff_ne.1 hb_
    replace hP := ite_f h465 hP
    refine vp 12 [(49, .bool true)] E ?_
    clear E; intro a E
    refine nl_ ?_
    have hx_ := Option.some.inj hP
    exact .inl ⟨rfl, true, E.pk, H.sel [0, 1, 2, 3, 4, 5, 6, 7, 8, 10, 9] rfl, hx_.symm⟩
   have h466 : (x95.2 : Int) = x444 := bne_eq_false_iff_eq.1 hb_
   replace hP := ite_t h466 hP
   refine vp 7 [(44, .bool (!(false == true)))] E ?_
   clear E; intro a E
   revert E; refine csE 44 rfl (fun hb_ E => ?_) fun hb_ E => ?_
   ·
    have h467 : ¬ (false = true) := (by simpa using hb_)
    replace hP := ite_f h467 hP
    refine vp 5 [(49, .bool true)] E ?_
    clear E; intro a E
    refine nl_ ?_
    have hx_ := Option.some.inj hP
    exact .inl ⟨rfl, true, E.pk, H.sel [0, 1, 2, 3, 4, 5, 6, 7, 8, 10, 9] rfl, hx_.symm⟩
   have h468 : false = true := (by simpa using hb_)
   replace hP := ite_t h468 hP
   refine vq 2 [.agg #[.int .i64 r52.1, .slice A61 r52.2.1.1.length c62, .slice A64 r52.2.2.1.1.length c65, .slice A67 r52.2.2.2.1.length c68], .agg #[.int .i64 aProps, .slice A1 aAccept.length c2, .slice A5 aGuard.length c6, .slice A9 aNodes.length c10]] [(45, .agg #[.int .i64 r52.1, .slice A61 r52.2.1.1.length c62, .slice A64 r52.2.2.1.1.length c65, .slice A67 r52.2.2.2.1.length c68]), (46, .agg #[.int .i64 aProps, .slice A1 aAccept.length c2, .slice A5 aGuard.length c6, .slice A9 aNodes.length c10])] [cellsAt w437 g70 (0) [.int .i64 r52.1, .slice A61 r52.2.1.1.length c62, .slice A64 r52.2.2.1.1.length c65, .slice A67 r52.2.2.2.1.length c68], cellsAt w437 g17 (0) [.int .i64 aProps, .slice A1 aAccept.length c2, .slice A5 aGuard.length c6, .slice A9 aNodes.length c10]] E ⟨(H.box 8 rfl).sub 0 _ rfl, (H.box 4 rfl).sub 0 _ rfl⟩ ?_
   clear E; intro a E
   obtain ⟨r469, h470, hP⟩ := bind_inv hP
   obtain ⟨Fa471, Hc472, hb473⟩ := H.call [] [(5, false), (5, true), (6, false), (6, true), (7, false), (7, true), (1, false), (2, false), (3, false)] rfl rfl trivial
   refine e_call E rfl rfl Try.func24 rfl rfl rfl (kit_KeptAuto_calls A61 c62 A64 c65 A67 c68 A1 c2 A5 c6 A9 c10 r52.1 r52.2.1.1 r52.2.1.2 r52.2.2.1.1 r52.2.2.1.2 r52.2.2.2.1 r52.2.2.2.2 aProps aAccept aGuard aNodes (H.rcapE 5 rfl) (H.rcapE 6 rfl) (H.rcapE 7 rfl) hk3 hk7 hk11 Hc472 h470) ?_
   rintro v474 w475 a ⟨rfl, HR476⟩ E_
   replace E := E_ _ rfl; clear E_
   obtain ⟨H_, hc477⟩ := hb473 _ _ HR476 rfl
   replace H := H_; clear H_; try dsimp only [setn, addE, goneL] at H
   refine vp 2 [(49, .bool (!r469))] E ?_
   clear E; intro a E
   refine nl_ ?_
   have hx_ := Option.some.inj hP
   exact .inl ⟨rfl, !r469, E.pk, H.sel [0, 1, 2, 3, 4, 5, 6, 7, 8, 10, 9] rfl, hx_.symm⟩
  clear E H h461; rintro a w464 ⟨x463, E, H, hx_⟩
  subst hx_; have hP := hK462; clear hK462
  refine th_n ?_
  revert E; refine csE 49 rfl (fun hb_ E => ?_) fun hb_ E => ?_
  ·
   have h478 : x460 = true := hb_
   replace hP := ite_t h478 hP
   refine c_true E rfl <| sr_ <| vp 1 [(4, .bool false)] E ?_
   clear E; intro a E
   refine nn_ <| wp_ret <| th_ret ?_
   obtain rfl := Option.some.inj hP
   refine ret1 E rfl rfl ?_
   exact ⟨_, rfl, rfl, H.sel [] rfl⟩
  have h479 : ¬ (x460 = true) := (ne_true_of_eq_false hb_)
  replace hP := ite_f h479 hP
  refine c_false E rfl <| wp_skip <| th_n <| wp_seq <| sr_ <| vp 2 [(51, .bool true)] E ?_
  clear E; intro a E
  refine nn_ <| c_true E rfl ?_
  refine sr_ <| vp 1 [(4, .bool true)] E ?_
  clear E; intro a E
  refine nn_ <| wp_ret <| th_ret ?_
  obtain rfl := Option.some.inj hP
  refine ret1 E rfl rfl ?_
  exact ⟨_, rfl, rfl, H.sel [] rfl⟩
 subst hr_; have hP := (elim_r hP)
 obtain ⟨x445, hxx_⟩ : ∃ y_, y_ = x_ := ⟨_, rfl⟩; subst hxx_
 replace E := E_ _ rfl; clear E_
 obtain ⟨H_, hc440⟩ := hb432 _ _ HR443 rfl
 replace H := H_; clear H_; try dsimp only [setn, addE, goneL] at H
 refine vp 5 [(8, .pointer (some ⟨g442, 0, none⟩)), (9, .int .i64 x445)] E ?_
 clear E; intro a E
 refine nn_ <| wp_seq <| wp_seq ?_
 obtain ⟨x495, h496, hK497⟩ := bind_inv hP
 clear hP
 refine meet_cut (fun a w499 => ∃ (x498 : Bool), Fr a 90 [(1, .slice A13 script.length c14), (2, .pointer (some ⟨g17, 0, none⟩)), (5, .pointer (some ⟨g70, 0, none⟩)), (6, .pointer (some ⟨g91, 0, none⟩)), (8, .pointer (some ⟨g442, 0, none⟩)), (49, .bool x498)] ∧ Hp S Fa w0 w499 [.ro false cS70 A13 script, .ro false cBool A1 aAccept, .ro false (cInt .i64) A5 aGuard, .ro false cNode A9 aNodes, .box g17 43 [.int .i64 aProps, .slice A1 aAccept.length c2, .slice A5 aGuard.length c6, .slice A9 aNodes.length c10], .rowx true cBool 4 A61 c62 r52.2.1.1 r52.2.1.2, .rowx true (cInt .i64) 3 A64 c65 r52.2.2.1.1 r52.2.2.1.2, .rowx true cNode 75 A67 c68 r52.2.2.2.1 r52.2.2.2.2, .box g70 43 [.int .i64 r52.1, .slice A61 r52.2.1.1.length c62, .slice A64 r52.2.2.1.1.length c65, .slice A67 r52.2.2.2.1.length c68], .ro true cS78 (some ⟨b92, 0, none⟩) ([x95.1]), .box g91 27 [.pointer (some ⟨b92, 0, none⟩), .slice none 0 0], .box g442 67 [.int .i64 aProps, .slice A1 aAccept.length c2, .slice A5 aGuard.length c6, .slice A9 aNodes.length c10, .slice none 0 0]] ∧ x495 = x498) ?_ ?_
 ·
  have hP := h496; clear h496; rw [law21_WatchScript_j11] at hP
  refine rl_ <| vp 4 [(37, .bool ((x95.2 : Int) != x445))] E ?_
  clear E; intro a E
  revert E; refine csE 37 rfl (fun hb_ E => ?_) fun hb_ E => ?_
  ·
   have h500 : ¬ ((x95.2 : Int) = x445) := bne_iff_ne.1 hb_
   replace hP := ite_f h500 hP
   refine vp 12 [(49, .bool true)] E ?_
   clear E; intro a E
   refine nl_ ?_
   have hx_ := Option.some.inj hP
   exact .inl ⟨rfl, true, E.pk, H.sel [0, 1, 2, 3, 4, 5, 6, 7, 8, 10, 9, 11] rfl, hx_.symm⟩
  have h501 : (x95.2 : Int) = x445 := bne_eq_false_iff_eq.1 hb_
  replace hP := ite_t h501 hP
  refine vp 7 [(44, .bool (!(false == false)))] E ?_
  clear E; intro a E
  revert E; refine csE 44 rfl (fun hb_ E => ?_) fun hb_ E => ?_
  ·
   have h502 : ¬ (false = false) := (by simpa using hb_)
   replace hP := ite_f h502 hP
   refine vp 5 [(49, .bool true)] E ?_
   clear E; intro a E
   refine nl_ ?_
   have hx_ := Option.some.inj hP
   exact .inl ⟨rfl, true, E.pk, H.sel [0, 1, 2, 3, 4, 5, 6, 7, 8, 10, 9, 11] rfl, hx_.symm⟩
  have h503 : false = false := (by simpa using hb_)
  replace hP := ite_t h503 hP
  refine vq 2 [.agg #[.int .i64 r52.1, .slice A61 r52.2.1.1.length c62, .slice A64 r52.2.2.1.1.length c65, .slice A67 r52.2.2.2.1.length c68], .agg #[.int .i64 aProps, .slice A1 aAccept.length c2, .slice A5 aGuard.length c6, .slice A9 aNodes.length c10]] [(45, .agg #[.int .i64 r52.1, .slice A61 r52.2.1.1.length c62, .slice A64 r52.2.2.1.1.length c65, .slice A67 r52.2.2.2.1.length c68]), (46, .agg #[.int .i64 aProps, .slice A1 aAccept.length c2, .slice A5 aGuard.length c6, .slice A9 aNodes.length c10])] [cellsAt w437 g70 (0) [.int .i64 r52.1, .slice A61 r52.2.1.1.length c62, .slice A64 r52.2.2.1.1.length c65, .slice A67 r52.2.2.2.1.length c68], cellsAt w437 g17 (0) [.int .i64 aProps, .slice A1 aAccept.length c2, .slice A5 aGuard.length c6, .slice A9 aNodes.length c10]] E ⟨(H.box 8 rfl).sub 0 _ rfl, (H.box 4 rfl).sub 0 _ rfl⟩ ?_
  clear E; intro a E
  obtain ⟨r504, h505, hP⟩ := bind_inv hP
  obtain ⟨Fa506, Hc507, hb508⟩ := H.call [] [(5, false), (5, true), (6, false), (6, true), (7, false), (7, true), (1, false), (2, false), (3, false)] rfl rfl trivial
  refine e_call E rfl rfl Try.func24 rfl rfl rfl (kit_KeptAuto_calls A61 c62 A64 c65 A67 c68 A1 c2 A5 c6 A9 c10 r52.1 r52.2.1.1 r52.2.1.2 r52.2.2.1.1 r52.2.2.1.2 r52.2.2.2.1 r52.2.2.2.2 aProps aAccept aGuard aNodes (H.rcapE 5 rfl) (H.rcapE 6 rfl) (H.rcapE 7 rfl) hk3 hk7 hk11 Hc507 h505) ?_
  rintro v509 w510 a ⟨rfl, HR511⟩ E_
  replace E := E_ _ rfl; clear E_
  obtain ⟨H_, hc512⟩ := hb508 _ _ HR511 rfl
  replace H := H_; clear H_; try dsimp only [setn, addE, goneL] at H
  refine vp 2 [(49, .bool (!r504))] E ?_
  clear E; intro a E
  refine nl_ ?_
  have hx_ := Option.some.inj hP
  exact .inl ⟨rfl, !r504, E.pk, H.sel [0, 1, 2, 3, 4, 5, 6, 7, 8, 10, 9, 11] rfl, hx_.symm⟩
 clear E H h496; rintro a w499 ⟨x498, E, H, hx_⟩
 subst hx_; have hP := hK497; clear hK497
 refine th_n ?_
 revert E; refine csE 49 rfl (fun hb_ E => ?_) fun hb_ E => ?_
 ·
  have h513 : x495 = true := hb_
  replace hP := ite_t h513 hP
  refine c_true E rfl <| sr_ <| vp 1 [(4, .bool false)] E ?_
  clear E; intro a E
  refine nn_ <| wp_ret <| th_ret ?_
  obtain rfl := Option.some.inj hP
  refine ret1 E rfl rfl ?_
  exact ⟨_, rfl, rfl, H.sel [] rfl⟩
 have h514 : ¬ (x495 = true) := (ne_true_of_eq_false hb_)
 replace hP := ite_f h514 hP
 refine c_false E rfl <| wp_skip <| th_n <| wp_seq <| sr_ <| vp 2 [(51, .bool false)] E ?_
 clear E; intro a E
 refine nn_ <| c_false E rfl ?_
 refine wp_skip <| th_n <| sr_ <| vq 1 [.agg #[.int .i64 r52.1, .slice A61 r52.2.1.1.length c62, .slice A64 r52.2.2.1.1.length c65, .slice A67 r52.2.2.2.1.length c68]] [(52, .agg #[.int .i64 r52.1, .slice A61 r52.2.1.1.length c62, .slice A64 r52.2.2.1.1.length c65, .slice A67 r52.2.2.2.1.length c68])] [cellsAt w499 g70 (0) [.int .i64 r52.1, .slice A61 r52.2.1.1.length c62, .slice A64 r52.2.2.1.1.length c65, .slice A67 r52.2.2.2.1.length c68]] E ((H.box 8 rfl).sub 0 _ rfl) ?_
 clear E; intro a E
 obtain ⟨x589, h590, hP⟩ := bind_inv hP
 refine e_call (R := fun v_ w_ => ∃ (x591 : (List Bool) × (List Int) × (List Nd)), v_ = .tuple #[] ∧ Hp S Fa w0 w_ [.ro false cS70 A13 script, .ro false cBool A1 aAccept, .ro false (cInt .i64) A5 aGuard, .ro false cNode A9 aNodes, .box g17 43 [.int .i64 aProps, .slice A1 aAccept.length c2, .slice A5 aGuard.length c6, .slice A9 aNodes.length c10], .ro true cS78 (some ⟨b92, 0, none⟩) ([x95.1]), .box g91 27 [.pointer (some ⟨b92, 0, none⟩), .slice none 0 0], .box g442 67 [.int .i64 aProps, .slice A1 aAccept.length c2, .slice A5 aGuard.length c6, .slice A9 aNodes.length c10, .slice none 0 0], .rowx true cBool 4 A61 c62 x591.1 [], .rowx true (cInt .i64) 3 A64 c65 x591.2.1 [], .rowx true cNode 75 A67 c68 x591.2.2 []] ∧ x589 = x591) E rfl rfl Try.func28 rfl rfl rfl ?_ ?_
 ·
  clear E hP; have hP := h590; clear h590; rw [law21_WatchScript_f12] at hP
  refine enterV (n := 51) Try.func28 rfl rfl rfl ?_
  intro a E
  replace E := E.pick [(0, .agg #[.int .i64 r52.1, .slice A61 r52.2.1.1.length c62, .slice A64 r52.2.2.1.1.length c65, .slice A67 r52.2.2.2.1.length c68])] ⟨rfl, trivial⟩
  refine sr_ <| h_box H E rfl rfl rfl ?_
  clear H E; intro w593 g592 a hc594 hg596 H E; replace E := E _ rfl; try dsimp only [setn, addE, goneL] at H
  refine nn_ <| sr_ <| vq 2 [.slice A64 r52.2.2.1.1.length c65] [(7, .slice A64 r52.2.2.1.1.length c65)] [World.cell? w593 ⟨g592, 2, none⟩ = some (.slice A64 r52.2.2.1.1.length c65)] E ((H.box 12 rfl).cell (j := 2) rfl) ?_
  clear E; intro a E
  obtain ⟨x619, h620, hP⟩ := bind_inv hP
  refine e_call (R := fun v_ w_ => ∃ (x621 : List Int), v_ = .tuple #[] ∧ Hp S Fa w0 w_ [.ro false cS70 A13 script, .ro false cBool A1 aAccept, .ro false (cInt .i64) A5 aGuard, .ro false cNode A9 aNodes, .box g17 43 [.int .i64 aProps, .slice A1 aAccept.length c2, .slice A5 aGuard.length c6, .slice A9 aNodes.length c10], .ro true cS78 (some ⟨b92, 0, none⟩) ([x95.1]), .box g91 27 [.pointer (some ⟨b92, 0, none⟩), .slice none 0 0], .box g442 67 [.int .i64 aProps, .slice A1 aAccept.length c2, .slice A5 aGuard.length c6, .slice A9 aNodes.length c10, .slice none 0 0], .rowx true cBool 4 A61 c62 r52.2.1.1 r52.2.1.2, .rowx true (cInt .i64) 3 A64 c65 x621 [], .rowx true cNode 75 A67 c68 r52.2.2.2.1 r52.2.2.2.2, .box g592 43 [.int .i64 r52.1, .slice A61 r52.2.1.1.length c62, .slice A64 r52.2.2.1.1.length c65, .slice A67 r52.2.2.2.1.length c68]] ∧ x619 = x621) E rfl rfl Try.func46 rfl rfl rfl ?_ ?_
  ·
   clear E hP; have hP := h620; clear h620; rw [law21_WatchScript_f13] at hP
   refine enterV (n := 22) Try.func46 rfl rfl rfl ?_
   intro a E
   replace E := E.pick [(0, .slice A64 r52.2.2.1.1.length c65)] ⟨rfl, trivial⟩
   refine sr_ <| vp 3 [(4, .slice A64 r52.2.2.1.1.length c65), (6, .int .i64 ((c65 : Nat) : Int))] E ?_
   clear E; intro a E
   refine vq 1 [] [(7, .slice A64 (Int.toNat ((c65 : Nat) : Int)) c65)] [0 ≤ ((c65 : Nat) : Int) ∧ ((c65 : Nat) : Int) ≤ ((c65 : Nat) : Int)] E (cut_all _) ?_
   clear E; intro a E
   have hk622 := H.rcapE 6 rfl
   replace H := H.allx 6 rfl; try dsimp only [setn, addE, goneL] at H
   replace E := E.same (t := 7) (u := .slice A64 (List.length (r52.2.2.1.1 ++ r52.2.2.1.2)) c65) rfl (congrArg (fun n_ => Value.slice A64 n_ c65) hk622)
   refine vp 1 [(2, .slice A64 (List.length (r52.2.2.1.1 ++ r52.2.2.1.2)) c65)] E ?_
   clear E; intro a E
   refine nn_ <| sr_ <| vp 1 [(3, .int .i64 0)] E ?_
   clear E; intro a E
   refine nn_ <| wp_block ?_
   obtain ⟨x644, hL645, hK646⟩ := bind_inv hP
   clear hP
   refine loop_cut (fun i_ a w_ => (i_ = 0 ∧ ∃ (x649 : List Int), Fr a 22 [] ∧ Hp S Fa w0 w_ [.ro false cS70 A13 script, .ro false cBool A1 aAccept, .ro false (cInt .i64) A5 aGuard, .ro false cNode A9 aNodes, .box g17 43 [.int .i64 aProps, .slice A1 aAccept.length c2, .slice A5 aGuard.length c6, .slice A9 aNodes.length c10], .ro true cS78 (some ⟨b92, 0, none⟩) ([x95.1]), .box g91 27 [.pointer (some ⟨b92, 0, none⟩), .slice none 0 0], .box g442 67 [.int .i64 aProps, .slice A1 aAccept.length c2, .slice A5 aGuard.length c6, .slice A9 aNodes.length c10, .slice none 0 0], .rowx true cBool 4 A61 c62 r52.2.1.1 r52.2.1.2, .rowx true (cInt .i64) 3 A64 c65 x649 [], .rowx true cNode 75 A67 c68 r52.2.2.2.1 r52.2.2.2.2, .box g592 43 [.int .i64 r52.1, .slice A61 r52.2.1.1.length c62, .slice A64 r52.2.2.1.1.length c65, .slice A67 r52.2.2.2.1.length c68]] ∧ x644 = x649)) ?_ ?_
   ·
    refine loopV (fun m648 a w647 => ∃ (all631 : List Int) (i632 : Int), Fr a 22 [(2, .slice A64 all631.length c65), (3, .int .i64 i632)] ∧ Hp S Fa w0 w647 [.rowx true (cInt .i64) 3 A64 c65 all631 [], .ro false cS70 A13 script, .ro false cBool A1 aAccept, .ro false (cInt .i64) A5 aGuard, .ro false cNode A9 aNodes, .box g17 43 [.int .i64 aProps, .slice A1 aAccept.length c2, .slice A5 aGuard.length c6, .slice A9 aNodes.length c10], .ro true cS78 (some ⟨b92, 0, none⟩) ([x95.1]), .box g91 27 [.pointer (some ⟨b92, 0, none⟩), .slice none 0 0], .box g442 67 [.int .i64 aProps, .slice A1 aAccept.length c2, .slice A5 aGuard.length c6, .slice A9 aNodes.length c10, .slice none 0 0], .rowx true cBool 4 A61 c62 r52.2.1.1 r52.2.1.2, .rowx true cNode 75 A67 c68 r52.2.2.2.1 r52.2.2.2.2, .box g592 43 [.int .i64 r52.1, .slice A61 r52.2.1.1.length c62, .slice A64 r52.2.2.1.1.length c65, .slice A67 r52.2.2.2.1.length c68]] ∧ law21_WatchScript_l14 N m648 all631 i632 = some x644) N ?_ ?_
    ·
     exact ⟨r52.2.2.1.1 ++ r52.2.2.1.2, 0, E.pk, H.sel [6, 0, 1, 2, 3, 4, 9, 10, 11, 5, 7, 12] rfl, hL645⟩
    clear E H hL645; intro m648 a w647 hI_
    obtain ⟨all631, i632, E, H, hP⟩ := hI_
    obtain ⟨m643, rfl⟩ : ∃ q_, m648 = q_ + 1 := by cases m648 with | zero => rw [law21_WatchScript_l14] at hP; cases hP | succ q_ => exact ⟨q_, rfl⟩
    rw [law21_WatchScript_l14] at hP
    refine wp_seq <| sr_ <| vp 4 [(11, .bool (decide (i632 < (all631.length : Int))))] E ?_
    clear E; intro a E
    refine nn_ ?_
    revert E; refine csE 11 rfl (fun hb_ E => ?_) fun hb_ E => ?_
    ·
     have h650 : i632 < (all631.length : Int) := of_decide_eq_true hb_
     replace hP := ite_t h650 hP
     refine c_true E rfl <| wp_skip <| th_n <| wp_seq <| wp_block <| rl_ ?_
     obtain ⟨g651, hP⟩ := ask_inv hP
     obtain ⟨b652, e_b652⟩ := H.raddrx 0 rfl (idx_pos g651)
     subst e_b652
     refine vq 8 [.int .i64 (List.getD all631 i632.toNat 0), .int .i64 (xorV .i64 (List.getD all631 i632.toNat 0) 21845)] [(20, .int .i64 (xorV .i64 (List.getD all631 i632.toNat 0) 21845)), (21, .pointer (some ⟨b652, 0 + i632.toNat * 1, none⟩))] [0 ≤ i632 ∧ i632 < (all631.length : Int), World.cell? w647 ⟨b652, 0 + i632.toNat * 1, none⟩ = some (.int .i64 (List.getD all631 i632.toNat 0)), IntKind.i64.wrap (BitVec.ofInt (IntKind.bits .i64) (List.getD all631 i632.toNat 0) ^^^ BitVec.ofInt (IntKind.bits .i64) 21845).toNat = xorV .i64 (List.getD all631 i632.toNat 0) 21845, 0 ≤ i632 ∧ i632 < (all631.length : Int)] E ⟨g651, Rds.at1 (H.rd 0 rds_rowx) 0 g651, rfl, g651⟩ ?_
     clear E; intro a E
     refine h_setx (g := b652) (i := i632) (xorV .i64 (List.getD all631 i632.toNat 0) 21845) H 0 rfl E rfl rfl rfl rfl tbok rfl (fun _ HF_ => rfl) rfl g651 rfl ?_
     clear E; intro w654 a hc655 H_ E
     replace H := H_; clear H_; try dsimp only [setn, addE, goneL] at H
     have hn656 : all631.length = (List.length (List.set all631 i632.toNat (xorV .i64 (List.getD all631 i632.toNat 0) 21845))) := by simp only [List.length_set]
     replace E := E.same (t := 2) (u := .slice (some ⟨b652, 0, none⟩) (List.length (List.set all631 i632.toNat (xorV .i64 (List.getD all631 i632.toNat 0) 21845))) c65) rfl (congrArg (fun n_ => Value.slice (some ⟨b652, 0, none⟩) n_ c65) hn656)
     refine nl_ <| bl_n <| th_n <| rl_ ?_
     obtain ⟨g657, hP⟩ := ask_inv hP
     refine vq 3 [.int .i64 (i632 + 1)] [(3, .int .i64 (i632 + 1))] [IntKind.i64.wrap (i632 + 1) = i632 + 1] E (wrap_in g657) ?_
     clear E; intro a E
     refine nl_ ?_
     exact th_n ⟨m643, Nat.lt_succ_self _, List.set all631 i632.toNat (xorV .i64 (List.getD all631 i632.toNat 0) 21845), i632 + 1, E.pk, H.sel (up 12) rfl, hP⟩
    have h658 : ¬ (i632 < (all631.length : Int)) := of_decide_eq_false hb_
    replace hP := ite_f h658 hP
    refine c_false E rfl <| wp_exit <| th_exit ?_
    have hx_ := Option.some.inj hP
    refine th_exit (.inl ⟨0, rfl, ?_⟩)
    exact ⟨rfl, all631, E.pick _ trivial, H.sel [1, 2, 3, 4, 5, 6, 7, 8, 9, 0, 10, 11] rfl, hx_.symm⟩
   clear E H hL645; intro i_ a w647 hM_
   obtain ⟨rfl, x649, E, H, hx_⟩ := hM_
   subst hx_; have hP := hK646; clear hK646
   refine bl_hit ?_
   have hx_ := Option.some.inj hP
   refine bodyPost_end (v := .tuple #[]) (by simp [results, Try.f46]) E.nodef ?_
   exact ⟨_, rfl, x644, rfl, H.sel (up 12) rfl, hx_.symm⟩
  clear H
  rintro v660 w659 a ⟨x621, rfl, H, hx_⟩ E_
  subst hx_
  replace E := E_ _ rfl; clear E_
  refine nn_ <| wp_seq <| meet_cut (fun a w663 => Fr a 51 [(2, .slice A61 (List.length (r52.2.1.1 ++ r52.2.1.2)) c62), (3, .slice A67 (List.length (r52.2.2.2.1 ++ r52.2.2.2.2)) c68)] ∧ Hp S Fa w0 w663 [.rowx true cBool 4 A61 c62 (r52.2.1.1 ++ r52.2.1.2) [], .rowx true cNode 75 A67 c68 (r52.2.2.2.1 ++ r52.2.2.2.2) [], .ro false cS70 A13 script, .ro false cBool A1 aAccept, .ro false (cInt .i64) A5 aGuard, .ro false cNode A9 aNodes, .box g17 43 [.int .i64 aProps, .slice A1 aAccept.length c2, .slice A5 aGuard.length c6, .slice A9 aNodes.length c10], .ro true cS78 (some ⟨b92, 0, none⟩) ([x95.1]), .box g91 27 [.pointer (some ⟨b92, 0, none⟩), .slice none 0 0], .box g442 67 [.int .i64 aProps, .slice A1 aAccept.length c2, .slice A5 aGuard.length c6, .slice A9 aNodes.length c10, .slice none 0 0], .rowx true (cInt .i64) 3 A64 c65 x619 []]) ?_ ?_
  ·
   have HR667 := H
   refine dr_start (S := fun w_ => Chg (atL []) w659 w_) (by kernel_rfl) ?_
   intro w664 hc665
   have HS666 : Chg (atL []) w659 w664 := hc665.mono (fun _ _ h_ => h_.elim)
   replace H := H.ext hc665
   refine dn tbok (by kernel_rfl) [0, 1, 2, 3, 4, 6, 7, 8, 9, 10] [.slice A61 r52.2.1.1.length c62, .slice A61 r52.2.1.1.length c62, .slice A67 r52.2.2.2.1.length c68, .slice A67 r52.2.2.2.1.length c68] [(10, .slice A61 r52.2.1.1.length c62), (13, .int .i64 ((c62 : Nat) : Int)), (16, .slice A67 r52.2.2.2.1.length c68), (19, .int .i64 ((c68 : Nat) : Int))] (fun w_ => [World.cell? w_ ⟨g592, 1, none⟩ = some (.slice A61 r52.2.1.1.length c62), World.cell? w_ ⟨g592, 1, none⟩ = some (.slice A61 r52.2.1.1.length c62), World.cell? w_ ⟨g592, 3, none⟩ = some (.slice A67 r52.2.2.2.1.length c68), World.cell? w_ ⟨g592, 3, none⟩ = some (.slice A67 r52.2.2.2.1.length c68)]) 4 E (fun _ _ => by kernel_rfl) (by kernel_rfl) (fun w_ hS_ => ⟨(HR667.boxk [] hS_ 11 rfl rfl).cell (j := 1) rfl, (HR667.boxk [] hS_ 11 rfl rfl).cell (j := 1) rfl, (HR667.boxk [] hS_ 11 rfl rfl).cell (j := 3) rfl, (HR667.boxk [] hS_ 11 rfl rfl).cell (j := 3) rfl⟩) (by kernel_rfl) HS666 ?_
   clear E; intro a E
   refine wpAnyH_all (rs := [5, 11]) (by kernel_rfl) (by simp) ?_
   refine all2 ?_ ?_
   ·
    refine wpOp_of_list rfl ?_
    refine vq 1 [] [(14, .slice A61 (Int.toNat ((c62 : Nat) : Int)) c62)] [0 ≤ ((c62 : Nat) : Int) ∧ ((c62 : Nat) : Int) ≤ ((c62 : Nat) : Int)] E (cut_all _) ?_
    clear E; intro a E
    have hk668 := H.rcapE 8 rfl
    replace H := H.allx 8 rfl; try dsimp only [setn, addE, goneL] at H
    replace E := E.same (t := 14) (u := .slice A61 (List.length (r52.2.1.1 ++ r52.2.1.2)) c62) rfl (congrArg (fun n_ => Value.slice A61 n_ c62) hk668)
    refine nl_ <| th_n ⟨HS666, ?_⟩
    refine dn tbok (by kernel_rfl) [12] [] [(2, .slice A61 (List.length (r52.2.1.1 ++ r52.2.1.2)) c62)] (fun w_ => []) 2 E (fun _ _ => by kernel_rfl) (by kernel_rfl) (fun w_ hS_ => trivial) (by kernel_rfl) HS666 ?_
    clear E; intro a E
    refine wpAnyH_all (rs := [11]) (by kernel_rfl) (by simp) ?_
    refine all1 ?_
    refine wpOp_of_list rfl ?_
    refine vq 1 [] [(20, .slice A67 (Int.toNat ((c68 : Nat) : Int)) c68)] [0 ≤ ((c68 : Nat) : Int) ∧ ((c68 : Nat) : Int) ≤ ((c68 : Nat) : Int)] E (cut_all _) ?_
    clear E; intro a E
    have hk669 := H.rcapE 10 rfl
    replace H := H.allx 10 rfl; try dsimp only [setn, addE, goneL] at H
    replace E := E.same (t := 20) (u := .slice A67 (List.length (r52.2.2.2.1 ++ r52.2.2.2.2)) c68) rfl (congrArg (fun n_ => Value.slice A67 n_ c68) hk669)
    refine nl_ <| th_n ⟨HS666, ?_⟩
    refine dn tbok (by kernel_rfl) [13] [] [(3, .slice A67 (List.length (r52.2.2.2.1 ++ r52.2.2.2.2)) c68)] (fun w_ => []) 0 E (fun _ _ => by kernel_rfl) (by kernel_rfl) (fun w_ hS_ => trivial) (by kernel_rfl) HS666 ?_
    clear E; intro a E
    refine dr_done (by kernel_rfl) ?_
    exact .inl ⟨rfl, E.pk, H.sel [8, 10, 0, 1, 2, 3, 4, 5, 6, 7, 9] rfl⟩
   refine wpOp_of_list rfl ?_
   refine vq 1 [] [(20, .slice A67 (Int.toNat ((c68 : Nat) : Int)) c68)] [0 ≤ ((c68 : Nat) : Int) ∧ ((c68 : Nat) : Int) ≤ ((c68 : Nat) : Int)] E (cut_all _) ?_
   clear E; intro a E
   have hk670 := H.rcapE 10 rfl
   replace H := H.allx 10 rfl; try dsimp only [setn, addE, goneL] at H
   replace E := E.same (t := 20) (u := .slice A67 (List.length (r52.2.2.2.1 ++ r52.2.2.2.2)) c68) rfl (congrArg (fun n_ => Value.slice A67 n_ c68) hk670)
   refine nl_ <| th_n ⟨HS666, ?_⟩
   refine wpAnyH_all (rs := [5]) (by kernel_rfl) (by simp) ?_
   refine all1 ?_
   refine wpOp_of_list rfl ?_
   refine vq 1 [] [(14, .slice A61 (Int.toNat ((c62 : Nat) : Int)) c62)] [0 ≤ ((c62 : Nat) : Int) ∧ ((c62 : Nat) : Int) ≤ ((c62 : Nat) : Int)] E (cut_all _) ?_
   clear E; intro a E
   have hk671 := H.rcapE 8 rfl
   replace H := H.allx 8 rfl; try dsimp only [setn, addE, goneL] at H
   replace E := E.same (t := 14) (u := .slice A61 (List.length (r52.2.1.1 ++ r52.2.1.2)) c62) rfl (congrArg (fun n_ => Value.slice A61 n_ c62) hk671)
   refine nl_ <| th_n ⟨HS666, ?_⟩
   refine dn tbok (by kernel_rfl) [12, 13] [] [(2, .slice A61 (List.length (r52.2.1.1 ++ r52.2.1.2)) c62), (3, .slice A67 (List.length (r52.2.2.2.1 ++ r52.2.2.2.2)) c68)] (fun w_ => []) 0 E (fun _ _ => by kernel_rfl) (by kernel_rfl) (fun w_ hS_ => trivial) (by kernel_rfl) HS666 ?_
   clear E; intro a E
   refine dr_done (by kernel_rfl) ?_
   exact .inl ⟨rfl, E.pk, H.sel [8, 10, 0, 1, 2, 3, 4, 5, 6, 7, 9] rfl⟩
  clear E H; rintro a w663 ⟨E, H⟩
  refine th_n <| wp_seq <| sr_ <| vp 1 [(4, .int .i64 0)] E ?_
  clear E; intro a E
  refine nn_ <| wp_block ?_
  obtain ⟨x693, hL694, hK695⟩ := bind_inv hP
  clear hP
  refine loop_cut (fun i_ a w_ => (i_ = 0 ∧ ∃ (x698 : List Bool), Fr a 51 [(3, .slice A67 (List.length (r52.2.2.2.1 ++ r52.2.2.2.2)) c68)] ∧ Hp S Fa w0 w_ [.rowx true cNode 75 A67 c68 (r52.2.2.2.1 ++ r52.2.2.2.2) [], .ro false cS70 A13 script, .ro false cBool A1 aAccept, .ro false (cInt .i64) A5 aGuard, .ro false cNode A9 aNodes, .box g17 43 [.int .i64 aProps, .slice A1 aAccept.length c2, .slice A5 aGuard.length c6, .slice A9 aNodes.length c10], .ro true cS78 (some ⟨b92, 0, none⟩) ([x95.1]), .box g91 27 [.pointer (some ⟨b92, 0, none⟩), .slice none 0 0], .box g442 67 [.int .i64 aProps, .slice A1 aAccept.length c2, .slice A5 aGuard.length c6, .slice A9 aNodes.length c10, .slice none 0 0], .rowx true cBool 4 A61 c62 x698 [], .rowx true (cInt .i64) 3 A64 c65 x619 []] ∧ x693 = x698)) ?_ ?_
  ·
   refine loopV (fun m697 a w696 => ∃ (accept680 : List Bool) (i681 : Int), Fr a 51 [(2, .slice A61 accept680.length c62), (3, .slice A67 (List.length (r52.2.2.2.1 ++ r52.2.2.2.2)) c68), (4, .int .i64 i681)] ∧ Hp S Fa w0 w696 [.rowx true cBool 4 A61 c62 accept680 [], .rowx true cNode 75 A67 c68 (r52.2.2.2.1 ++ r52.2.2.2.2) [], .ro false cS70 A13 script, .ro false cBool A1 aAccept, .ro false (cInt .i64) A5 aGuard, .ro false cNode A9 aNodes, .box g17 43 [.int .i64 aProps, .slice A1 aAccept.length c2, .slice A5 aGuard.length c6, .slice A9 aNodes.length c10], .ro true cS78 (some ⟨b92, 0, none⟩) ([x95.1]), .box g91 27 [.pointer (some ⟨b92, 0, none⟩), .slice none 0 0], .box g442 67 [.int .i64 aProps, .slice A1 aAccept.length c2, .slice A5 aGuard.length c6, .slice A9 aNodes.length c10, .slice none 0 0], .rowx true (cInt .i64) 3 A64 c65 x619 []] ∧ law21_WatchScript_l15 N m697 accept680 i681 = some x693) N ?_ ?_
   ·
    exact ⟨r52.2.1.1 ++ r52.2.1.2, 0, E.pk, H.sel (up 11) rfl, hL694⟩
   clear E H hL694; intro m697 a w696 hI_
   obtain ⟨accept680, i681, E, H, hP⟩ := hI_
   obtain ⟨m692, rfl⟩ : ∃ q_, m697 = q_ + 1 := by cases m697 with | zero => rw [law21_WatchScript_l15] at hP; cases hP | succ q_ => exact ⟨q_, rfl⟩
   rw [law21_WatchScript_l15] at hP
   refine wp_seq <| sr_ <| vp 4 [(24, .bool (decide (i681 < (accept680.length : Int))))] E ?_
   clear E; intro a E
   refine nn_ ?_
   revert E; refine csE 24 rfl (fun hb_ E => ?_) fun hb_ E => ?_
   ·
    have h699 : i681 < (accept680.length : Int) := of_decide_eq_true hb_
    replace hP := ite_t h699 hP
    refine c_true E rfl <| wp_skip <| th_n <| wp_seq <| wp_block <| rl_ ?_
    obtain ⟨g700, hP⟩ := ask_inv hP
    obtain ⟨b701, e_b701⟩ := H.raddrx 0 rfl (idx_pos g700)
    subst e_b701
    refine vq 8 [.bool (List.getD accept680 i681.toNat false)] [(33, .bool (!(List.getD accept680 i681.toNat false))), (34, .pointer (some ⟨b701, 0 + i681.toNat * 1, none⟩))] [0 ≤ i681 ∧ i681 < (accept680.length : Int), World.cell? w696 ⟨b701, 0 + i681.toNat * 1, none⟩ = some (.bool (List.getD accept680 i681.toNat false)), 0 ≤ i681 ∧ i681 < (accept680.length : Int)] E ⟨g700, Rds.at1 (H.rd 0 rds_rowx) false g700, g700⟩ ?_
    clear E; intro a E
    refine h_setx (g := b701) (i := i681) (!(List.getD accept680 i681.toNat false)) H 0 rfl E rfl rfl rfl rfl tbok rfl (fun _ HF_ => rfl) rfl g700 rfl ?_
    clear E; intro w703 a hc704 H_ E
    replace H := H_; clear H_; try dsimp only [setn, addE, goneL] at H
    have hn705 : accept680.length = (List.length (List.set accept680 i681.toNat (!(List.getD accept680 i681.toNat false)))) := by simp only [List.length_set]
    replace E := E.same (t := 2) (u := .slice (some ⟨b701, 0, none⟩) (List.length (List.set accept680 i681.toNat (!(List.getD accept680 i681.toNat false)))) c62) rfl (congrArg (fun n_ => Value.slice (some ⟨b701, 0, none⟩) n_ c62) hn705)
    refine nl_ <| bl_n <| th_n <| rl_ ?_
    obtain ⟨g706, hP⟩ := ask_inv hP
    refine vq 3 [.int .i64 (i681 + 1)] [(4, .int .i64 (i681 + 1))] [IntKind.i64.wrap (i681 + 1) = i681 + 1] E (wrap_in g706) ?_
    clear E; intro a E
    refine nl_ ?_
    exact th_n ⟨m692, Nat.lt_succ_self _, List.set accept680 i681.toNat (!(List.getD accept680 i681.toNat false)), i681 + 1, E.pk, H.sel (up 11) rfl, hP⟩
   have h707 : ¬ (i681 < (accept680.length : Int)) := of_decide_eq_false hb_
   replace hP := ite_f h707 hP
   refine c_false E rfl <| wp_exit <| th_exit ?_
   have hx_ := Option.some.inj hP
   refine th_exit (.inl ⟨0, rfl, ?_⟩)
   exact ⟨rfl, accept680, E.pk, H.sel [1, 2, 3, 4, 5, 6, 7, 8, 9, 0, 10] rfl, hx_.symm⟩
  clear E H hL694; intro i_ a w696 hM_
  obtain ⟨rfl, x698, E, H, hx_⟩ := hM_
  subst hx_; have hP := hK695; clear hK695
  refine bl_hit <| th_n <| sr_ <| vp 1 [(5, .int .i64 0)] E ?_
  clear E; intro a E
  refine nn_ <| wp_block ?_
  obtain ⟨x729, hL730, hK731⟩ := bind_inv hP
  clear hP
  refine loop_cut (fun i_ a w_ => (i_ = 2 ∧ ∃ (x734 : List Nd), Fr a 51 [] ∧ Hp S Fa w0 w_ [.ro false cS70 A13 script, .ro false cBool A1 aAccept, .ro false (cInt .i64) A5 aGuard, .ro false cNode A9 aNodes, .box g17 43 [.int .i64 aProps, .slice A1 aAccept.length c2, .slice A5 aGuard.length c6, .slice A9 aNodes.length c10], .ro true cS78 (some ⟨b92, 0, none⟩) ([x95.1]), .box g91 27 [.pointer (some ⟨b92, 0, none⟩), .slice none 0 0], .box g442 67 [.int .i64 aProps, .slice A1 aAccept.length c2, .slice A5 aGuard.length c6, .slice A9 aNodes.length c10, .slice none 0 0], .rowx true cBool 4 A61 c62 x693 [], .rowx true (cInt .i64) 3 A64 c65 x619 [], .rowx true cNode 75 A67 c68 x734 []] ∧ x729 = x734)) ?_ ?_
  ·
   refine loopV (fun m733 a w732 => ∃ (nodes716 : List Nd) (i717 : Int), Fr a 51 [(3, .slice A67 nodes716.length c68), (5, .int .i64 i717)] ∧ Hp S Fa w0 w732 [.rowx true cNode 75 A67 c68 nodes716 [], .ro false cS70 A13 script, .ro false cBool A1 aAccept, .ro false (cInt .i64) A5 aGuard, .ro false cNode A9 aNodes, .box g17 43 [.int .i64 aProps, .slice A1 aAccept.length c2, .slice A5 aGuard.length c6, .slice A9 aNodes.length c10], .ro true cS78 (some ⟨b92, 0, none⟩) ([x95.1]), .box g91 27 [.pointer (some ⟨b92, 0, none⟩), .slice none 0 0], .box g442 67 [.int .i64 aProps, .slice A1 aAccept.length c2, .slice A5 aGuard.length c6, .slice A9 aNodes.length c10, .slice none 0 0], .rowx true cBool 4 A61 c62 x693 [], .rowx true (cInt .i64) 3 A64 c65 x619 []] ∧ law21_WatchScript_l16 N m733 nodes716 i717 = some x729) N ?_ ?_
   ·
    exact ⟨r52.2.2.2.1 ++ r52.2.2.2.2, 0, E.pk, H.sel (up 11) rfl, hL730⟩
   clear E H hL730; intro m733 a w732 hI_
   obtain ⟨nodes716, i717, E, H, hP⟩ := hI_
   obtain ⟨m728, rfl⟩ : ∃ q_, m733 = q_ + 1 := by cases m733 with | zero => rw [law21_WatchScript_l16] at hP; cases hP | succ q_ => exact ⟨q_, rfl⟩
   rw [law21_WatchScript_l16] at hP
   refine wp_seq <| sr_ <| vp 4 [(38, .bool (decide (i717 < (nodes716.length : Int))))] E ?_
   clear E; intro a E
   refine nn_ ?_
   revert E; refine csE 38 rfl (fun hb_ E => ?_) fun hb_ E => ?_
   ·
    have h735 : i717 < (nodes716.length : Int) := of_decide_eq_true hb_
    replace hP := ite_t h735 hP
    refine c_true E rfl <| wp_skip <| th_n <| wp_seq <| wp_block <| rl_ ?_
    obtain ⟨g736, hP⟩ := ask_inv hP
    obtain ⟨b737, e_b737⟩ := H.raddrx 0 rfl (idx_pos g736)
    subst e_b737
    refine vq 10 [.int .i64 ((List.getD nodes716 i717.toNat (default : Nd)).P), .int .i64 (xorV .i64 ((List.getD nodes716 i717.toNat (default : Nd)).P) 85)] [(48, .int .i64 (xorV .i64 ((List.getD nodes716 i717.toNat (default : Nd)).P) 85)), (50, .pointer (some ⟨b737, 0 + i717.toNat * 3, none⟩))] [0 ≤ i717 ∧ i717 < (nodes716.length : Int), World.cell? w732 ⟨b737, 0 + i717.toNat * 3, none⟩ = some (.int .i64 ((List.getD nodes716 i717.toNat (default : Nd)).P)), IntKind.i64.wrap (BitVec.ofInt (IntKind.bits .i64) ((List.getD nodes716 i717.toNat (default : Nd)).P) ^^^ BitVec.ofInt (IntKind.bits .i64) 85).toNat = xorV .i64 ((List.getD nodes716 i717.toNat (default : Nd)).P) 85, 0 ≤ i717 ∧ i717 < (nodes716.length : Int)] E ⟨g736, (Rds.atP (H.rd 0 rds_rowx) (default : Nd) g736).1, rfl, g736⟩ ?_
    clear E; intro a E
    refine h_setpx (g := b737) (i := i717) (off := 0) (fun y_ => (⟨xorV .i64 ((List.getD nodes716 i717.toNat (default : Nd)).P) 85, y_.Lo, y_.Hi⟩ : Nd)) (default : Nd) (⟨xorV .i64 ((List.getD nodes716 i717.toNat (default : Nd)).P) 85, (List.getD nodes716 i717.toNat (default : Nd)).Lo, (List.getD nodes716 i717.toNat (default : Nd)).Hi⟩ : Nd) H 0 rfl E rfl rfl rfl rfl tbok rfl rfl (fun _ y_ c_ h_ => (congrArg (fun c => splice c 0 [.int .i64 (xorV .i64 ((List.getD nodes716 i717.toNat (default : Nd)).P) 85)]) (h_ : c_ = _)).trans rfl) rfl rfl rfl g736 rfl ?_
    clear E; intro w739 a hc740 H_ E
    replace H := H_; clear H_; try dsimp only [setn, addE, goneL] at H
    have hn741 : nodes716.length = (List.length (List.set nodes716 i717.toNat (⟨xorV .i64 ((List.getD nodes716 i717.toNat (default : Nd)).P) 85, (List.getD nodes716 i717.toNat (default : Nd)).Lo, (List.getD nodes716 i717.toNat (default : Nd)).Hi⟩ : Nd))) := by simp only [List.length_set]
    replace E := E.same (t := 3) (u := .slice (some ⟨b737, 0, none⟩) (List.length (List.set nodes716 i717.toNat (⟨xorV .i64 ((List.getD nodes716 i717.toNat (default : Nd)).P) 85, (List.getD nodes716 i717.toNat (default : Nd)).Lo, (List.getD nodes716 i717.toNat (default : Nd)).Hi⟩ : Nd))) c68) rfl (congrArg (fun n_ => Value.slice (some ⟨b737, 0, none⟩) n_ c68) hn741)
    refine nl_ <| bl_n <| th_n <| rl_ ?_
    obtain ⟨g742, hP⟩ := ask_inv hP
    refine vq 3 [.int .i64 (i717 + 1)] [(5, .int .i64 (i717 + 1))] [IntKind.i64.wrap (i717 + 1) = i717 + 1] E (wrap_in g742) ?_
    clear E; intro a E
    refine nl_ ?_
    exact th_n ⟨m728, Nat.lt_succ_self _, List.set nodes716 i717.toNat (⟨xorV .i64 ((List.getD nodes716 i717.toNat (default : Nd)).P) 85, (List.getD nodes716 i717.toNat (default : Nd)).Lo, (List.getD nodes716 i717.toNat (default : Nd)).Hi⟩ : Nd), i717 + 1, E.pk, H.sel (up 11) rfl, hP⟩
   have h743 : ¬ (i717 < (nodes716.length : Int)) := of_decide_eq_false hb_
   replace hP := ite_f h743 hP
   refine c_false E rfl <| wp_exit <| th_exit ?_
   have hx_ := Option.some.inj hP
   refine th_exit (.inl ⟨2, rfl, ?_⟩)
   exact ⟨rfl, nodes716, E.pick _ trivial, H.sel [1, 2, 3, 4, 5, 6, 7, 8, 9, 10, 0] rfl, hx_.symm⟩
  clear E H hL730; intro i_ a w732 hM_
  obtain ⟨rfl, x734, E, H, hx_⟩ := hM_
  subst hx_; have hP := hK731; clear hK731
  refine bl_hit ?_
  have hx_ := Option.some.inj hP
  refine bodyPost_end (v := .tuple #[]) (by simp [results, Try.f28]) E.nodef ?_
  exact ⟨_, rfl, (x693, x619, x729), rfl, H.sel (up 11) rfl, hx_.symm⟩
 clear H
 rintro v745 w744 a ⟨x591, rfl, H, hx_⟩ E_
 subst hx_
 replace E := E_ _ rfl; clear E_
 refine nn_ <| sr_ <| vp 1 [(54, .pointer (some ⟨g91, 0, none⟩))] E ?_
 clear E; intro a E
 replace H := H.nilrow (cInt .i64) 3; try dsimp only [setn, addE, goneL] at H
 obtain ⟨r747, h748, hP⟩ := bind_inv hP
 obtain ⟨Fa749, Hc750, hb751⟩ := H.call [6, 11] [(5, false)] rfl rfl ⟨flat_plain, trivial⟩
 refine e_call E rfl rfl Try.func15 rfl rfl rfl (watch_Watch_Fork_calls g91 b92 0 none 0 x95.1 []  Hc750 h748) ?_
 intro v757 w756 a hR758 E_
 rcases hR758 with ⟨x_, hr_, rfl, HR760⟩ | ⟨x_, g761, A762, c763, hr_, rfl, HR764⟩
 ·
  subst hr_; have hP := elim_l hP
  obtain ⟨x765, hxx_⟩ : ∃ y_, y_ = x_ := ⟨_, rfl⟩; subst hxx_
  replace E := E_ _ rfl; clear E_
  obtain ⟨H_, hc759⟩ := hb751 _ _ HR760 rfl
  replace H := H_; clear H_; try dsimp only [setn, addE, goneL] at H
  refine vp 1 [(10, .pointer none)] E ?_
  clear E; intro a E
  refine nn_ <| wp_seq <| sr_ <| vp 2 [(57, .bool true)] E ?_
  clear E; intro a E
  refine nn_ <| c_true E rfl ?_
  refine sr_ <| vp 1 [(4, .bool false)] E ?_
  clear E; intro a E
  refine nn_ <| wp_ret <| th_ret ?_
  obtain rfl := Option.some.inj hP
  refine ret1 E rfl rfl ?_
  exact ⟨_, rfl, rfl, H.sel [] rfl⟩
 subst hr_; have hP := (elim_r hP)
 obtain ⟨x766, hxx_⟩ : ∃ y_, y_ = x_ := ⟨_, rfl⟩; subst hxx_
 replace E := E_ _ rfl; clear E_
 obtain ⟨H_, hc759⟩ := hb751 _ _ HR764 rfl
 replace H := H_; clear H_; try dsimp only [setn, addE, goneL] at H
 refine vp 1 [(10, .pointer (some ⟨g761, 0, none⟩))] E ?_
 clear E; intro a E
 refine nn_ <| wp_seq <| sr_ <| vp 2 [(57, .bool false)] E ?_
 clear E; intro a E
 refine nn_ <| c_false E rfl ?_
 refine wp_skip <| th_n <| sr_ <| vp 2 [(58, .pointer (some ⟨g91, 0, none⟩)), (59, .pointer (some ⟨g761, 0, none⟩))] E ?_
 clear E; intro a E
 refine h_buildSlice (ps := [(0, .pointer (some ⟨g91, 0, none⟩)), (1, .pointer (some ⟨g761, 0, none⟩))]) (cs := [.pointer (some ⟨g91, 0, none⟩), .pointer (some ⟨g761, 0, none⟩)]) H E rfl rfl tbok rfl rfl (by kernel_rfl) ?_
 clear H E; intro w774 g773 a hc775 hg777 H E; replace E := E _ rfl; try dsimp only [setn, addE, goneL] at H
 refine vp 1 [(11, .slice (some ⟨g773, 0, none⟩) 2 2)] E ?_
 clear E; intro a E
 refine nn_ <| sr_ <| vq 2 [.agg #[.int .i64 aProps, .slice A1 aAccept.length c2, .slice A5 aGuard.length c6, .slice A9 aNodes.length c10]] [(61, .pointer (some ⟨g442, 0, none⟩)), (62, .agg #[.int .i64 aProps, .slice A1 aAccept.length c2, .slice A5 aGuard.length c6, .slice A9 aNodes.length c10])] [cellsAt w774 g17 (0) [.int .i64 aProps, .slice A1 aAccept.length c2, .slice A5 aGuard.length c6, .slice A9 aNodes.length c10]] E ((H.box 4 rfl).sub 0 _ rfl) ?_
 clear E; intro a E
 refine e_build (ps := [(0, .agg #[.int .i64 aProps, .slice A1 aAccept.length c2, .slice A5 aGuard.length c6, .slice A9 aNodes.length c10])]) (v := .agg #[.int .i64 aProps, .slice A1 aAccept.length c2, .slice A5 aGuard.length c6, .slice A9 aNodes.length c10, .slice none 0 0]) E rfl rfl tbok rfl (by kernel_rfl) rfl ?_
 clear E; intro a E
 refine h_box H E rfl rfl rfl ?_
 clear H E; intro w779 g778 a hc780 hg782 H E; replace E := E _ rfl; try dsimp only [setn, addE, goneL] at H
 refine h_buildSlice (ps := [(0, .pointer (some ⟨g442, 0, none⟩)), (1, .pointer (some ⟨g778, 0, none⟩))]) (cs := [.pointer (some ⟨g442, 0, none⟩), .pointer (some ⟨g778, 0, none⟩)]) H E rfl rfl tbok rfl rfl (by kernel_rfl) ?_
 clear H E; intro w784 g783 a hc785 hg787 H E; replace E := E _ rfl; try dsimp only [setn, addE, goneL] at H
 refine vp 1 [(12, .slice (some ⟨g783, 0, none⟩) 2 2)] E ?_
 clear E; intro a E
 refine nn_ <| wp_seq <| sr_ <| vp 1 [(13, .int .i64 0)] E ?_
 clear E; intro a E
 refine nn_ <| wp_block ?_
 obtain ⟨x2163, hL2164, hK2165⟩ := bind_inv hP
 clear hP
 replace H := H.nilrow (cInt .u8) 22; try dsimp only [setn, addE, goneL] at H
 have hk2167 := H.rcap 19 rfl
 replace H := H.frz 19 rfl; try dsimp only [setn, addE, goneL] at H
 replace H := H.rodown 19 rfl; try dsimp only [setn, addE, goneL] at H
 replace H := H.nilrow (cInt .u8) 22; try dsimp only [setn, addE, goneL] at H
 have hk2169 := H.rcap 20 rfl
 replace H := H.frz 20 rfl; try dsimp only [setn, addE, goneL] at H
 replace H := H.rodown 20 rfl; try dsimp only [setn, addE, goneL] at H
 refine loop_cut (fun i_ a w_ => (i_ = 0 ∧ ∃ (x2172 : (List Int) × (List Int) × (List Int) × (List Int)), ∃ (g2137 : Nat) (A2140 : Option Addr) (c2141 : Nat) (g2143 : Nat) (A2146 : Option Addr) (c2147 : Nat) (g2149 : Nat) (A2152 : Option Addr) (c2153 : Nat) (g2156 : Nat) (A2159 : Option Addr) (c2160 : Nat), Fr a 90 [(11, .slice (some ⟨g773, 0, none⟩) 2 2), (12, .slice (some ⟨g783, 0, none⟩) 2 2)] ∧ Hp S Fa w0 w_ [.box g773 23 [.pointer (some ⟨g2137, 0, none⟩), .pointer (some ⟨g2143, 0, none⟩)], .box g2137 27 [.pointer (some ⟨b92, 0, none⟩), .slice A2140 x2172.1.length c2141], .ro true cS78 (some ⟨b92, 0, none⟩) ([x95.1]), .row true (cInt .i64) 3 A2140 c2141 x2172.1, .box g2143 27 [.pointer (some ⟨b92, 0, none⟩), .slice A2146 x2172.2.1.length c2147], .row true (cInt .i64) 3 A2146 c2147 x2172.2.1, .box g783 62 [.pointer (some ⟨g2149, 0, none⟩), .pointer (some ⟨g2156, 0, none⟩)], .box g2149 67 [.int .i64 aProps, .slice A1 aAccept.length c2, .slice A5 aGuard.length c6, .slice A9 aNodes.length c10, .slice A2152 x2172.2.2.1.length c2153], .ro false cBool A1 aAccept, .ro false (cInt .i64) A5 aGuard, .ro false cNode A9 aNodes, .ro false (cInt .u8) A2152 x2172.2.2.1, .box g2156 67 [.int .i64 aProps, .slice A1 aAccept.length c2, .slice A5 aGuard.length c6, .slice A9 aNodes.length c10, .slice A2159 x2172.2.2.2.length c2160], .ro false (cInt .u8) A2159 x2172.2.2.2] ∧ List.length x2172.2.2.1 ≤ c2153 ∧ List.length x2172.2.2.2 ≤ c2160 ∧ x2163 = Sum.inl x2172)) ?_ ?_
 ·
  refine loopV (fun m2171 a w2170 => ∃ (s1467 : List Int) (s1473 : List Int) (m1479 : List Int) (m1486 : List Int) (i1490 : Int), ∃ (g1465 : Nat) (A1468 : Option Addr) (c1469 : Nat) (g1471 : Nat) (A1474 : Option Addr) (c1475 : Nat) (g1477 : Nat) (A1480 : Option Addr) (c1481 : Nat) (g1484 : Nat) (A1487 : Option Addr) (c1488 : Nat), Fr a 90 [(1, .slice A13 script.length c14), (11, .slice (some ⟨g773, 0, none⟩) 2 2), (12, .slice (some ⟨g783, 0, none⟩) 2 2), (13, .int .i64 i1490)] ∧ Hp S Fa w0 w2170 [.ro false cS70 A13 script, .box g773 23 [.pointer (some ⟨g1465, 0, none⟩), .pointer (some ⟨g1471, 0, none⟩)], .box g1465 27 [.pointer (some ⟨b92, 0, none⟩), .slice A1468 s1467.length c1469], .ro true cS78 (some ⟨b92, 0, none⟩) ([x95.1]), .row true (cInt .i64) 3 A1468 c1469 s1467, .box g1471 27 [.pointer (some ⟨b92, 0, none⟩), .slice A1474 s1473.length c1475], .row true (cInt .i64) 3 A1474 c1475 s1473, .box g783 62 [.pointer (some ⟨g1477, 0, none⟩), .pointer (some ⟨g1484, 0, none⟩)], .box g1477 67 [.int .i64 aProps, .slice A1 aAccept.length c2, .slice A5 aGuard.length c6, .slice A9 aNodes.length c10, .slice A1480 m1479.length c1481], .ro false cBool A1 aAccept, .ro false (cInt .i64) A5 aGuard, .ro false cNode A9 aNodes, .ro false (cInt .u8) A1480 m1479, .box g1484 67 [.int .i64 aProps, .slice A1 aAccept.length c2, .slice A5 aGuard.length c6, .slice A9 aNodes.length c10, .slice A1487 m1486.length c1488], .ro false (cInt .u8) A1487 m1486] ∧ List.length m1479 ≤ c1481 ∧ List.length m1486 ≤ c1488 ∧ law21_WatchScript_l17 N aProps aAccept aGuard aNodes script x95 m2171 s1467 s1473 m1479 m1486 i1490 = some x2163) N ?_ ?_
  ·
   exact ⟨[], ([] : List Int) ++ [], [], [], 0, g91, none, 0, g761, A762, c763, g442, none, 0, g778, none, 0, E.pk, H.sel [0, 16, 15, 5, 14, 12, 13, 18, 7, 1, 2, 3, 19, 17, 20] rfl, (Nat.le_refl _), (Nat.le_refl _), hL2164⟩
  clear E H hL2164; intro m2171 a w2170 hI_
  obtain ⟨s1467, s1473, m1479, m1486, i1490, g1465, A1468, c1469, g1471, A1474, c1475, g1477, A1480, c1481, g1484, A1487, c1488, E, H, hk1482, hk1489, hP⟩ := hI_
  obtain ⟨m2162, rfl⟩ : ∃ q_, m2171 = q_ + 1 := by cases m2171 with | zero => rw [law21_WatchScript_l17] at hP; cases hP | succ q_ => exact ⟨q_, rfl⟩
  rw [law21_WatchScript_l17] at hP
  refine wp_seq <| sr_ <| vp 4 [(69, .bool (decide (i1490 < (script.length : Int))))] E ?_
  clear E; intro a E
  refine nn_ ?_
  revert E; refine csE 69 rfl (fun hb_ E => ?_) fun hb_ E => ?_
  ·
   have h2173 : i1490 < (script.length : Int) := of_decide_eq_true hb_
   replace hP := ite_t h2173 hP
   refine c_true E rfl <| wp_skip <| th_n <| wp_seq <| wp_block <| sr_ ?_
   obtain ⟨g2174, hP⟩ := ask_inv hP
   obtain ⟨b2175, o2176, e_b2175⟩ := (H.rd 0 rds_ro).addr (idx_pos g2174)
   subst e_b2175
   refine vq 6 [.agg #[.int .u8 ((List.getD script i1490.toNat (0, 0, 0)).1), .int .u8 ((List.getD script i1490.toNat (0, 0, 0)).2.1), .int .u8 ((List.getD script i1490.toNat (0, 0, 0)).2.2)]] [(72, .slice (some ⟨g773, 0, none⟩) 2 2), (73, .slice (some ⟨g783, 0, none⟩) 2 2), (77, .agg #[.int .u8 ((List.getD script i1490.toNat (0, 0, 0)).1), .int .u8 ((List.getD script i1490.toNat (0, 0, 0)).2.1), .int .u8 ((List.getD script i1490.toNat (0, 0, 0)).2.2)])] [0 ≤ i1490 ∧ i1490 < (script.length : Int), cellsAt w2170 b2175 (o2176 + i1490.toNat * 3) [.int .u8 ((List.getD script i1490.toNat (0, 0, 0)).1), .int .u8 ((List.getD script i1490.toNat (0, 0, 0)).2.1), .int .u8 ((List.getD script i1490.toNat (0, 0, 0)).2.2)]] E ⟨g2174, Rds.atP (H.rd 0 rds_ro) (0, 0, 0) g2174⟩ ?_
   clear E; intro a E
   obtain ⟨x2802, h2803, hP⟩ := bind_inv hP
   refine e_call (R := fun v_ w_ => ∃ (x2804 : Bool × (List Int) × (List Int) × (List Int) × (List Int)) (g2777 : Nat) (A2780 : Option Addr) (c2781 : Nat) (g2783 : Nat) (A2786 : Option Addr) (c2787 : Nat) (g2789 : Nat) (A2792 : Option Addr) (c2793 : Nat) (g2796 : Nat) (A2799 : Option Addr) (c2800 : Nat), v_ = .bool x2804.1 ∧ Hp S Fa w0 w_ [.ro false cS70 (some ⟨b2175, o2176, none⟩) script, .box g773 23 [.pointer (some ⟨g2777, 0, none⟩), .pointer (some ⟨g2783, 0, none⟩)], .box g2777 27 [.pointer (some ⟨b92, 0, none⟩), .slice A2780 x2804.2.1.length c2781], .ro true cS78 (some ⟨b92, 0, none⟩) ([x95.1]), .row true (cInt .i64) 3 A2780 c2781 x2804.2.1, .box g2783 27 [.pointer (some ⟨b92, 0, none⟩), .slice A2786 x2804.2.2.1.length c2787], .row true (cInt .i64) 3 A2786 c2787 x2804.2.2.1, .box g783 62 [.pointer (some ⟨g2789, 0, none⟩), .pointer (some ⟨g2796, 0, none⟩)], .box g2789 67 [.int .i64 aProps, .slice A1 aAccept.length c2, .slice A5 aGuard.length c6, .slice A9 aNodes.length c10, .slice A2792 x2804.2.2.2.1.length c2793], .ro false cBool A1 aAccept, .ro false (cInt .i64) A5 aGuard, .ro false cNode A9 aNodes, .ro false (cInt .u8) A2792 x2804.2.2.2.1, .box g2796 67 [.int .i64 aProps, .slice A1 aAccept.length c2, .slice A5 aGuard.length c6, .slice A9 aNodes.length c10, .slice A2799 x2804.2.2.2.2.length c2800], .ro false (cInt .u8) A2799 x2804.2.2.2.2] ∧ List.length x2804.2.2.2.1 ≤ c2793 ∧ List.length x2804.2.2.2.2 ≤ c2800 ∧ x2802 = x2804) E rfl rfl Try.func29 rfl rfl rfl (law21_WatchScript_f18_calls b2175 o2176 script g773 g1465 g1471 b92 A1468 s1467 c1469 x95 A1474 s1473 c1475 g783 g1477 g1484 aProps A1 aAccept c2 A5 aGuard c6 A9 aNodes c10 A1480 m1479 c1481 A1487 m1486 c1488 i1490 x2802 hk3 hk7 hk11 hk1482 hk1489 H h2803) ?_
   clear H
   rintro v4781 w4780 a ⟨x2804, g2777, A2780, c2781, g2783, A2786, c2787, g2789, A2792, c2793, g2796, A2799, c2800, rfl, H, hk2794, hk2801, hx_⟩ E_
   subst hx_
   replace E := E_ _ rfl; clear E_
   refine vp 1 [(79, .bool (!x2802.1))] E ?_
   clear E; intro a E
   refine nn_ ?_
   revert E; refine csE 79 rfl (fun hb_ E => ?_) fun hb_ E => ?_
   ·
    have h4782 : ¬ (x2802.1 = true) := (ne_true_of_eq_false (not_t hb_))
    replace hP := ite_f h4782 hP
    refine c_true E rfl <| sr_ <| vp 1 [(4, .bool false)] E ?_
    clear E; intro a E
    refine nn_ <| wp_ret <| bl_ret <| th_ret <| th_ret <| .inr ⟨rfl, ?_⟩
    refine bl_ret <| th_ret ?_
    have hx_ := Option.some.inj hP; subst hx_
    have hP : some (false) = some r := hK2165
    obtain rfl := Option.some.inj hP
    refine ret1 E rfl rfl ?_
    exact ⟨_, rfl, rfl, H.sel [] rfl⟩
   have h4783 : x2802.1 = true := (not_f hb_)
   replace hP := ite_t h4783 hP
   refine c_false E rfl <| wp_skip <| bl_n <| th_n <| rl_ ?_
   obtain ⟨g4784, hP⟩ := ask_inv hP
   refine vq 3 [.int .i64 (i1490 + 1)] [(13, .int .i64 (i1490 + 1))] [IntKind.i64.wrap (i1490 + 1) = i1490 + 1] E (wrap_in g4784) ?_
   clear E; intro a E
   refine nl_ ?_
   exact th_n ⟨m2162, Nat.lt_succ_self _, x2802.2.1, x2802.2.2.1, x2802.2.2.2.1, x2802.2.2.2.2, i1490 + 1, g2777, A2780, c2781, g2783, A2786, c2787, g2789, A2792, c2793, g2796, A2799, c2800, E.pk, H.sel (up 15) rfl, hk2794, hk2801, hP⟩
  have h4785 : ¬ (i1490 < (script.length : Int)) := of_decide_eq_false hb_
  replace hP := ite_f h4785 hP
  refine c_false E rfl <| wp_exit <| th_exit ?_
  have hx_ := Option.some.inj hP
  refine th_exit (.inl ⟨0, rfl, ?_⟩)
  exact ⟨rfl, (s1467, s1473, m1479, m1486), g1465, A1468, c1469, g1471, A1474, c1475, g1477, A1480, c1481, g1484, A1487, c1488, E.pk, H.sel [1, 2, 3, 4, 5, 6, 7, 8, 9, 10, 11, 12, 13, 14] rfl, hk1482, hk1489, hx_.symm⟩
 clear E H hL2164; intro i_ a w2170 hM_
 obtain ⟨rfl, x2172, g2137, A2140, c2141, g2143, A2146, c2147, g2149, A2152, c2153, g2156, A2159, c2160, E, H, hk2154, hk2161, hx_⟩ := hM_
 subst hx_; have hP := elim_l hK2165
 clear hK2165
 refine bl_hit <| th_n <| wp_seq ?_
 obtain ⟨x4994, h4995, hK4996⟩ := bind_inv hP
 clear hP
 refine meet_cut (fun a w4998 => ∃ (x4997 : Bool), Fr a 90 [(4, .bool x4997)] ∧ Hp S Fa w0 w4998 [] ∧ x4994 = x4997) ?_ ?_
 ·
  have hP := h4995; clear h4995; rw [law21_WatchScript_j27] at hP
  refine rl_ <| vp 2 [(80, .slice (some ⟨g773, 0, none⟩) 2 2), (81, .slice (some ⟨g783, 0, none⟩) 2 2)] E ?_
  clear E; intro a E
  refine e_build (ps := [(0, .int .u8 2)]) (v := .agg #[.int .u8 2, .int .u8 0, .int .u8 0]) E rfl rfl tbok rfl (by kernel_rfl) rfl ?_
  clear E; intro a E
  obtain ⟨x5099, h5100, hP⟩ := bind_inv hP
  refine e_call (R := fun v_ w_ => ∃ (x5101 : Bool), v_ = .bool x5101 ∧ Hp S Fa w0 w_ [.ro true cS78 (some ⟨b92, 0, none⟩) ([x95.1]), .row true (cInt .i64) 3 A2140 c2141 x2172.1, .box g2137 27 [.pointer (some ⟨b92, 0, none⟩), .slice A2140 x2172.1.length c2141], .row true (cInt .i64) 3 A2146 c2147 x2172.2.1, .box g2143 27 [.pointer (some ⟨b92, 0, none⟩), .slice A2146 x2172.2.1.length c2147], .box g773 23 [.pointer (some ⟨g2137, 0, none⟩), .pointer (some ⟨g2143, 0, none⟩)], .ro false cBool A1 aAccept, .ro false (cInt .i64) A5 aGuard, .ro false cNode A9 aNodes, .ro false (cInt .u8) A2152 x2172.2.2.1, .box g2149 67 [.int .i64 aProps, .slice A1 aAccept.length c2, .slice A5 aGuard.length c6, .slice A9 aNodes.length c10, .slice A2152 x2172.2.2.1.length c2153], .ro false (cInt .u8) A2159 x2172.2.2.2, .box g2156 67 [.int .i64 aProps, .slice A1 aAccept.length c2, .slice A5 aGuard.length c6, .slice A9 aNodes.length c10, .slice A2159 x2172.2.2.2.length c2160], .box g783 62 [.pointer (some ⟨g2149, 0, none⟩), .pointer (some ⟨g2156, 0, none⟩)]] ∧ x5099 = x5101) E rfl rfl Try.func29 rfl rfl rfl (law21_WatchScript_f28_calls g773 g2137 g2143 b92 A2140 x2172 c2141 x95 A2146 c2147 g783 g2149 g2156 aProps A1 aAccept c2 A5 aGuard c6 A9 aNodes c10 A2152 c2153 A2159 c2160 x5099 hk3 hk7 hk11 hk2154 hk2161 H h5100) ?_
  clear H
  rintro v5826 w5825 a ⟨x5101, rfl, H, hx_⟩ E_
  subst hx_
  replace E := E_ _ rfl; clear E_
  refine vp 1 [(84, .bool x5099)] E ?_
  clear E; intro a E
  revert E; refine csE 84 rfl (fun hb_ E => ?_) fun hb_ E => ?_
  ·
   have h5827 : x5099 = true := hb_
   replace hP := ite_t h5827 hP
   refine vp 2 [(85, .slice (some ⟨g773, 0, none⟩) 2 2), (86, .slice (some ⟨g783, 0, none⟩) 2 2)] E ?_
   clear E; intro a E
   refine e_build (ps := [(0, .int .u8 2), (1, .int .u8 1)]) (v := .agg #[.int .u8 2, .int .u8 1, .int .u8 0]) E rfl rfl tbok rfl (by kernel_rfl) rfl ?_
   clear E; intro a E
   obtain ⟨x5928, h5929, hP⟩ := bind_inv hP
   refine e_call (R := fun v_ w_ => ∃ (x5930 : Bool), v_ = .bool x5930 ∧ Hp S Fa w0 w_ [.ro true cS78 (some ⟨b92, 0, none⟩) ([x95.1]), .row true (cInt .i64) 3 A2140 c2141 x2172.1, .box g2137 27 [.pointer (some ⟨b92, 0, none⟩), .slice A2140 x2172.1.length c2141], .row true (cInt .i64) 3 A2146 c2147 x2172.2.1, .box g2143 27 [.pointer (some ⟨b92, 0, none⟩), .slice A2146 x2172.2.1.length c2147], .box g773 23 [.pointer (some ⟨g2137, 0, none⟩), .pointer (some ⟨g2143, 0, none⟩)], .ro false cBool A1 aAccept, .ro false (cInt .i64) A5 aGuard, .ro false cNode A9 aNodes, .ro false (cInt .u8) A2152 x2172.2.2.1, .box g2149 67 [.int .i64 aProps, .slice A1 aAccept.length c2, .slice A5 aGuard.length c6, .slice A9 aNodes.length c10, .slice A2152 x2172.2.2.1.length c2153], .ro false (cInt .u8) A2159 x2172.2.2.2, .box g2156 67 [.int .i64 aProps, .slice A1 aAccept.length c2, .slice A5 aGuard.length c6, .slice A9 aNodes.length c10, .slice A2159 x2172.2.2.2.length c2160], .box g783 62 [.pointer (some ⟨g2149, 0, none⟩), .pointer (some ⟨g2156, 0, none⟩)]] ∧ x5928 = x5930) E rfl rfl Try.func29 rfl rfl rfl (law21_WatchScript_f30_calls b92 x95 A2140 c2141 x2172 g2137 A2146 c2147 g2143 g773 A1 aAccept A5 aGuard A9 aNodes A2152 g2149 aProps c2 c6 c10 c2153 A2159 g2156 c2160 g783 x5928 hk3 hk7 hk11 hk2154 hk2161 H h5929) ?_
   clear H
   rintro v6655 w6654 a ⟨x5930, rfl, H, hx_⟩ E_
   subst hx_
   replace E := E_ _ rfl; clear E_
   refine vp 2 [(4, .bool x5928)] E ?_
   clear E; intro a E
   refine nl_ ?_
   have hx_ := Option.some.inj hP
   exact .inl ⟨rfl, x5928, E.pk, H.sel [] rfl, hx_.symm⟩
  have h6656 : ¬ (x5099 = true) := (ne_true_of_eq_false hb_)
  replace hP := ite_f h6656 hP
  refine vp 6 [(4, .bool false)] E ?_
  clear E; intro a E
  refine nl_ ?_
  have hx_ := Option.some.inj hP
  exact .inl ⟨rfl, false, E.pk, H.sel [] rfl, hx_.symm⟩
 clear E H h4995; rintro a w4998 ⟨x4997, E, H, hx_⟩
 subst hx_; have hP := hK4996; clear hK4996
 refine th_n <| wp_ret ?_
 obtain rfl := Option.some.inj hP
 refine ret1 E rfl rfl ?_
 exact ⟨_, rfl, rfl, H.sel [] rfl⟩

end Go.V
