/- Plain functions, and the calls that give them. -/
import Derived.Test.YtljkomkejdngcaaBWatchScript0
set_option linter.all false
set_option linter.unusedVariables false
set_option linter.unnecessarySimpa false
set_option linter.unusedSimpArgs false
set_option maxRecDepth 100000
set_option maxHeartbeats 4000000
namespace Go.V
open Go Go.Proofs
/-! law21_WatchScript_f18_calls -/
theorem law21_WatchScript_f18_calls {N : Nat} {S Fa : Nat → Prop} {w0 w2170 : World} (b2175 : Nat) (o2176 : Nat) (script : List (Int × Int × Int)) (g773 : Nat) (g1465 : Nat) (g1471 : Nat) (b92 : Nat) (A1468 : Option Addr) (s1467 : List Int) (c1469 : Nat) (x95 : ((Int × (List Bool) × (List Int) × (List Nd)) × (List Int) × (List Int)) × Int) (A1474 : Option Addr) (s1473 : List Int) (c1475 : Nat) (g783 : Nat) (g1477 : Nat) (g1484 : Nat) (aProps : Int) (A1 : Option Addr) (aAccept : List Bool) (c2 : Nat) (A5 : Option Addr) (aGuard : List Int) (c6 : Nat) (A9 : Option Addr) (aNodes : List Nd) (c10 : Nat) (A1480 : Option Addr) (m1479 : List Int) (c1481 : Nat) (A1487 : Option Addr) (m1486 : List Int) (c1488 : Nat) (i1490 : Int) (x2802 : Bool × (List Int) × (List Int) × (List Int) × (List Int)) (hk2805 : List.length aAccept ≤ c2) (hk2806 : List.length aGuard ≤ c6) (hk2807 : List.length aNodes ≤ c10) (hk2808 : List.length m1479 ≤ c1481) (hk2809 : List.length m1486 ≤ c1488) (H : Hp S Fa w0 w2170 [.ro false cS70 (some ⟨b2175, o2176, none⟩) script, .box g773 23 [.pointer (some ⟨g1465, 0, none⟩), .pointer (some ⟨g1471, 0, none⟩)], .box g1465 27 [.pointer (some ⟨b92, 0, none⟩), .slice A1468 s1467.length c1469], .ro true cS78 (some ⟨b92, 0, none⟩) ([x95.1]), .row true (cInt .i64) 3 A1468 c1469 s1467, .box g1471 27 [.pointer (some ⟨b92, 0, none⟩), .slice A1474 s1473.length c1475], .row true (cInt .i64) 3 A1474 c1475 s1473, .box g783 62 [.pointer (some ⟨g1477, 0, none⟩), .pointer (some ⟨g1484, 0, none⟩)], .box g1477 67 [.int .i64 aProps, .slice A1 aAccept.length c2, .slice A5 aGuard.length c6, .slice A9 aNodes.length c10, .slice A1480 m1479.length c1481], .ro false cBool A1 aAccept, .ro false (cInt .i64) A5 aGuard, .ro false cNode A9 aNodes, .ro false (cInt .u8) A1480 m1479, .box g1484 67 [.int .i64 aProps, .slice A1 aAccept.length c2, .slice A5 aGuard.length c6, .slice A9 aNodes.length c10, .slice A1487 m1486.length c1488], .ro false (cInt .u8) A1487 m1486]) (hP : law21_WatchScript_f18 N aProps aAccept aGuard aNodes script x95 s1467 s1473 m1479 m1486 i1490 = some x2802) :
    Calls Try.prog 29 #[.slice (some ⟨g773, 0, none⟩) 2 2, .slice (some ⟨g783, 0, none⟩) 2 2, .agg #[.int .u8 ((List.getD script i1490.toNat (0, 0, 0)).1), .int .u8 ((List.getD script i1490.toNat (0, 0, 0)).2.1), .int .u8 ((List.getD script i1490.toNat (0, 0, 0)).2.2)]] w2170 fun e_ w_ => ∃ v_, e_ = .returned v_ ∧ (∃ (x2804 : Bool × (List Int) × (List Int) × (List Int) × (List Int)) (g2777 : Nat) (A2780 : Option Addr) (c2781 : Nat) (g2783 : Nat) (A2786 : Option Addr) (c2787 : Nat) (g2789 : Nat) (A2792 : Option Addr) (c2793 : Nat) (g2796 : Nat) (A2799 : Option Addr) (c2800 : Nat), v_ = .bool x2804.1 ∧ Hp S Fa w0 w_ [.ro false cS70 (some ⟨b2175, o2176, none⟩) script, .box g773 23 [.pointer (some ⟨g2777, 0, none⟩), .pointer (some ⟨g2783, 0, none⟩)], .box g2777 27 [.pointer (some ⟨b92, 0, none⟩), .slice A2780 x2804.2.1.length c2781], .ro true cS78 (some ⟨b92, 0, none⟩) ([x95.1]), .row true (cInt .i64) 3 A2780 c2781 x2804.2.1, .box g2783 27 [.pointer (some ⟨b92, 0, none⟩), .slice A2786 x2804.2.2.1.length c2787], .row true (cInt .i64) 3 A2786 c2787 x2804.2.2.1, .box g783 62 [.pointer (some ⟨g2789, 0, none⟩), .pointer (some ⟨g2796, 0, none⟩)], .box g2789 67 [.int .i64 aProps, .slice A1 aAccept.length c2, .slice A5 aGuard.length c6, .slice A9 aNodes.length c10, .slice A2792 x2804.2.2.2.1.length c2793], .ro false cBool A1 aAccept, .ro false (cInt .i64) A5 aGuard, .ro false cNode A9 aNodes, .ro false (cInt .u8) A2792 x2804.2.2.2.1, .box g2796 67 [.int .i64 aProps, .slice A1 aAccept.length c2, .slice A5 aGuard.length c6, .slice A9 aNodes.length c10, .slice A2799 x2804.2.2.2.2.length c2800], .ro false (cInt .u8) A2799 x2804.2.2.2.2] ∧ List.length x2804.2.2.2.1 ≤ c2793 ∧ List.length x2804.2.2.2.2 ≤ c2800 ∧ x2802 = x2804) := by
 rw [law21_WatchScript_f18] at hP
 refine enterV (n := 165) Try.func29 rfl rfl rfl ?_
 intro a E
 replace E := E.pick [(0, .slice (some ⟨g773, 0, none⟩) 2 2), (1, .slice (some ⟨g783, 0, none⟩) 2 2), (2, .agg #[.int .u8 ((List.getD script i1490.toNat (0, 0, 0)).1), .int .u8 ((List.getD script i1490.toNat (0, 0, 0)).2.1), .int .u8 ((List.getD script i1490.toNat (0, 0, 0)).2.2)])] ⟨rfl, rfl, rfl, trivial⟩
 refine sr_ <| h_box H E rfl rfl rfl ?_
 clear H E; intro w2811 g2810 a hc2812 hg2814 H E; replace E := E _ rfl; try dsimp only [setn, addE, goneL] at H
 refine vp 1 [] E ?_
 clear E; intro a E
 refine nn_ <| sr_ ?_
 obtain ⟨g2815, hP⟩ := ask_inv hP
 refine vq 5 [.int .u8 ((List.getD script i1490.toNat (0, 0, 0)).2.1), .int .u8 (Int.tmod ((List.getD script i1490.toNat (0, 0, 0)).2.1) 2), .int .i64 (Int.tmod ((List.getD script i1490.toNat (0, 0, 0)).2.1) 2)] [(7, .int .i64 (Int.tmod ((List.getD script i1490.toNat (0, 0, 0)).2.1) 2))] [World.cell? w2811 ⟨g2810, 1, none⟩ = some (.int .u8 ((List.getD script i1490.toNat (0, 0, 0)).2.1)), (2 : Int) ≠ 0 ∧ Int.tmod ((List.getD script i1490.toNat (0, 0, 0)).2.1) 2 = Int.tmod ((List.getD script i1490.toNat (0, 0, 0)).2.1) 2, IntKind.i64.wrap (Int.tmod ((List.getD script i1490.toNat (0, 0, 0)).2.1) 2) = (Int.tmod ((List.getD script i1490.toNat (0, 0, 0)).2.1) 2)] E ⟨(H.box 15 rfl).cell (j := 1) rfl, ⟨by decide, rfl⟩, wrap_in g2815⟩ ?_
 clear E; intro a E
 by_cases h2816 : (Int.tmod ((List.getD script i1490.toNat (0, 0, 0)).2.1) 2 : Int) = 0
 ·
  replace hP := ite_t h2816 hP
  replace E := E.same (t := 7) (u := .int .i64 0) rfl (congrArg (Value.int .i64) h2816)
  refine nn_ <| wp_seq ?_
  have HR2820 := H
  refine dr_start (S := fun w_ => Chg (atL []) w2811 w_) (by kernel_rfl) ?_
  intro w2817 hc2818
  have HS2819 : Chg (atL []) w2811 w2817 := hc2818.mono (fun _ _ h_ => h_.elim)
  replace H := H.ext hc2818
  refine dn tbok (by kernel_rfl) [0, 1, 2, 3, 4, 5, 6, 7, 8, 9] [.pointer (some ⟨g1465, 0, none⟩), .pointer (some ⟨g1477, 0, none⟩)] [(8, .pointer (some ⟨g1465, 0, none⟩)), (9, .pointer (some ⟨g1477, 0, none⟩))] (fun w_ => [0 ≤ (0 : Int) ∧ (0 : Int) < ((2 : Nat) : Int), World.cell? w_ ⟨g773, 0, none⟩ = some (.pointer (some ⟨g1465, 0, none⟩)), 0 ≤ (0 : Int) ∧ (0 : Int) < ((2 : Nat) : Int), World.cell? w_ ⟨g783, 0, none⟩ = some (.pointer (some ⟨g1477, 0, none⟩))]) 0 E (fun _ _ => by kernel_rfl) (by kernel_rfl) (fun w_ hS_ => ⟨⟨by decide, by decide⟩, (HR2820.boxk [] hS_ 1 rfl rfl).cell (j := 0) rfl, ⟨by decide, by decide⟩, (HR2820.boxk [] hS_ 7 rfl rfl).cell (j := 0) rfl⟩) (by kernel_rfl) HS2819 ?_
  clear E; intro a E
  refine dr_done (by kernel_rfl) ?_
  clear HS2819 HR2820
  refine th_n <| wp_seq <| sr_ <| vq 2 [.int .u8 ((List.getD script i1490.toNat (0, 0, 0)).1)] [(36, .int .u8 ((List.getD script i1490.toNat (0, 0, 0)).1))] [World.cell? w2817 ⟨g2810, 0, none⟩ = some (.int .u8 ((List.getD script i1490.toNat (0, 0, 0)).1))] E ((H.box 15 rfl).cell (j := 0) rfl) ?_
  clear E; intro a E
  refine nn_ <| wp_block <| sr_ <| vp 2 [(37, .bool (((List.getD script i1490.toNat (0, 0, 0)).1 : Int) == 0))] E ?_
  clear E; intro a E
  refine nn_ ?_
  revert E; refine csE 37 rfl (fun hb_ E => ?_) fun hb_ E => ?_
  ·
   have h2821 : ((List.getD script i1490.toNat (0, 0, 0)).1 : Int) = 0 := eq_of_beq hb_
   replace hP := ite_t h2821 hP
   refine c_true E rfl <| sr_ <| vq 3 [.int .u8 ((List.getD script i1490.toNat (0, 0, 0)).2.2)] [(40, .pointer (some ⟨g1465, 0, none⟩)), (42, .int .u8 ((List.getD script i1490.toNat (0, 0, 0)).2.2))] [World.cell? w2817 ⟨g2810, 2, none⟩ = some (.int .u8 ((List.getD script i1490.toNat (0, 0, 0)).2.2))] E ((H.box 15 rfl).cell (j := 2) rfl) ?_
   clear E; intro a E
   obtain ⟨r2822, h2823, hP⟩ := bind_inv hP
   obtain ⟨Fa2824, Hc2825, hb2826⟩ := H.call [2, 4] [(3, false)] rfl rfl ⟨flat_plain, trivial⟩
   refine e_call E rfl rfl Try.func9 rfl rfl rfl (watch_Watch_Feed_calls g1465 b92 0 A1468 c1469 x95.1 s1467 ((List.getD script i1490.toNat (0, 0, 0)).2.2)  Hc2825 h2823) ?_
   intro v2832 w2831 a hR2833 E_
   obtain ⟨x_, A2836, c2837, hr_, rfl, HR2835⟩ := hR2833
   subst hr_
   replace E := E_ _ rfl; clear E_
   obtain ⟨H_, hc2834⟩ := hb2826 _ _ HR2835 rfl
   replace H := H_; clear H_; try dsimp only [setn, addE, goneL] at H
   refine vp 5 [(10, .int .u8 r2822.1), (11, .int .i64 r2822.2.1)] E ?_
   clear E; intro a E
   refine nn_ <| sr_ <| vq 3 [.int .u8 ((List.getD script i1490.toNat (0, 0, 0)).2.2)] [(47, .pointer (some ⟨g1477, 0, none⟩)), (49, .int .u8 ((List.getD script i1490.toNat (0, 0, 0)).2.2))] [World.cell? w2831 ⟨g2810, 2, none⟩ = some (.int .u8 ((List.getD script i1490.toNat (0, 0, 0)).2.2))] E ((H.box 15 rfl).cell (j := 2) rfl) ?_
   clear E; intro a E
   obtain ⟨r2840, h2841, hP⟩ := bind_inv hP
   obtain ⟨Fa2842, Hc2843, hb2844⟩ := H.callA [8] [(9, false), (10, false), (11, false), (12, false)] rfl rfl trivial
   refine e_call E rfl rfl Try.func47 rfl rfl rfl (ref21_Watch_Feed_calls g1477 A1 c2 A5 c6 A9 c10 A1480 c1481 aProps aAccept aGuard aNodes m1479 ((List.getD script i1490.toNat (0, 0, 0)).2.2) hk2805 hk2806 hk2807 hk2808 Hc2843 h2841) ?_
   intro v2850 w2849 a hR2851 E_
   obtain ⟨x_, A2854, c2855, hr_, rfl, hc2856, HR2853⟩ := hR2851
   subst hr_
   replace E := E_ _ rfl; clear E_
   obtain ⟨H_, hc2852⟩ := hb2844 _ _ HR2853
   replace H := H_; clear H_; try dsimp only [setn, addE, goneL] at H
   refine vp 5 [(12, .int .u8 r2840.1), (13, .int .i64 r2840.2.1)] E ?_
   clear E; intro a E
   refine nn_ <| wp_seq ?_
   obtain ⟨x2862, h2863, hK2864⟩ := bind_inv hP
   clear hP
   refine meet_cut (fun a w2866 => ∃ (x2865 : Bool), Fr a 165 [(6, .bool x2865)] ∧ Hp S Fa w0 w2866 [.ro false cS70 (some ⟨b2175, o2176, none⟩) script, .ro true cS78 (some ⟨b92, 0, none⟩) ([x95.1]), .row true (cInt .i64) 3 A2836 c2837 r2822.2.2, .box g1465 27 [.pointer (some ⟨b92, 0, none⟩), .slice A2836 r2822.2.2.length c2837], .row true (cInt .i64) 3 A1474 c1475 s1473, .box g1471 27 [.pointer (some ⟨b92, 0, none⟩), .slice A1474 s1473.length c1475], .box g773 23 [.pointer (some ⟨g1465, 0, none⟩), .pointer (some ⟨g1471, 0, none⟩)], .ro false cBool A1 aAccept, .ro false (cInt .i64) A5 aGuard, .ro false cNode A9 aNodes, .ro false (cInt .u8) A2854 r2840.2.2, .box g1477 67 [.int .i64 aProps, .slice A1 aAccept.length c2, .slice A5 aGuard.length c6, .slice A9 aNodes.length c10, .slice A2854 r2840.2.2.length c2855], .ro false (cInt .u8) A1487 m1486, .box g1484 67 [.int .i64 aProps, .slice A1 aAccept.length c2, .slice A5 aGuard.length c6, .slice A9 aNodes.length c10, .slice A1487 m1486.length c1488], .box g783 62 [.pointer (some ⟨g1477, 0, none⟩), .pointer (some ⟨g1484, 0, none⟩)]] ∧ x2862 = x2865) ?_ ?_
   ·
    have hP := h2863; clear h2863; rw [law21_WatchScript_j19] at hP
    refine rl_ <| vp 4 [(56, .bool ((r2822.1 : Int) == r2840.1))] E ?_
    clear E; intro a E
    revert E; refine csE 56 rfl (fun hb_ E => ?_) fun hb_ E => ?_
    ·
     have h2867 : (r2822.1 : Int) = r2840.1 := eq_of_beq hb_
     replace hP := ite_t h2867 hP
     refine vp 5 [(6, .bool ((r2822.2.1 : Int) == r2840.2.1))] E ?_
     clear E; intro a E
     refine nl_ ?_
     have hx_ := Option.some.inj hP
     exact .inl ⟨rfl, (r2822.2.1 : Int) == r2840.2.1, E.pk, H.sel [0, 3, 17, 16, 6, 5, 1, 9, 10, 11, 19, 18, 14, 13, 7] rfl, hx_.symm⟩
    have h2868 : ¬ ((r2822.1 : Int) = r2840.1) := ne_of_beq_false hb_
    replace hP := ite_f h2868 hP
    refine vp 5 [(6, .bool false)] E ?_
    clear E; intro a E
    refine nl_ ?_
    have hx_ := Option.some.inj hP
    exact .inl ⟨rfl, false, E.pk, H.sel [0, 3, 17, 16, 6, 5, 1, 9, 10, 11, 19, 18, 14, 13, 7] rfl, hx_.symm⟩
   clear E H h2863; rintro a w2866 ⟨x2865, E, H, hx_⟩
   subst hx_; have hP := hK2864; clear hK2864
   refine th_n <| wp_ret <| bl_ret <| th_ret ?_
   have hx_ := Option.some.inj hP
   refine ret1 E rfl rfl ?_
   exact ⟨_, rfl, (x2862, r2822.2.2, s1473, r2840.2.2, m1486), g1465, A2836, c2837, g1471, A1474, c1475, g1477, A2854, c2855, g1484, A1487, c1488, rfl, H.sel [0, 6, 3, 1, 2, 5, 4, 14, 11, 7, 8, 9, 10, 13, 12] rfl, hc2856, hk2809, hx_.symm⟩
  have h2869 : ¬ (((List.getD script i1490.toNat (0, 0, 0)).1 : Int) = 0) := ne_of_beq_false hb_
  replace hP := ite_f h2869 hP
  refine c_false E rfl <| sr_ <| vp 2 [(61, .bool (((List.getD script i1490.toNat (0, 0, 0)).1 : Int) == 1))] E ?_
  clear E; intro a E
  refine nn_ ?_
  revert E; refine csE 61 rfl (fun hb_ E => ?_) fun hb_ E => ?_
  ·
   have h2870 : ((List.getD script i1490.toNat (0, 0, 0)).1 : Int) = 1 := eq_of_beq hb_
   replace hP := ite_t h2870 hP
   refine c_true E rfl <| sr_ <| vp 1 [(64, .pointer (some ⟨g1465, 0, none⟩))] E ?_
   clear E; intro a E
   obtain ⟨r2871, h2872, hP⟩ := bind_inv hP
   obtain ⟨Fa2873, Hc2874, hb2875⟩ := H.call [2, 4] [(3, false)] rfl rfl ⟨flat_plain, trivial⟩
   refine e_call E rfl rfl Try.func10 rfl rfl rfl (watch_Watch_Back_calls g1465 b92 0 A1468 c1469 x95.1 s1467  Hc2874 h2872) ?_
   intro v2881 w2880 a hR2882 E_
   obtain ⟨x_, A2885, c2886, hr_, rfl, HR2884⟩ := hR2882
   subst hr_
   replace E := E_ _ rfl; clear E_
   obtain ⟨H_, hc2883⟩ := hb2875 _ _ HR2884 rfl
   replace H := H_; clear H_; try dsimp only [setn, addE, goneL] at H
   refine vp 5 [(14, .int .u8 r2871.1), (15, .int .i64 r2871.2.1)] E ?_
   clear E; intro a E
   refine nn_ <| sr_ <| vp 1 [(69, .pointer (some ⟨g1477, 0, none⟩))] E ?_
   clear E; intro a E
   obtain ⟨r2889, h2890, hP⟩ := bind_inv hP
   obtain ⟨Fa2891, Hc2892, hb2893⟩ := H.callA [8] [(9, false), (10, false), (11, false), (12, false)] rfl rfl trivial
   refine e_call E rfl rfl Try.func48 rfl rfl rfl (ref21_Watch_Back_calls g1477 A1 c2 A5 c6 A9 c10 A1480 c1481 aProps aAccept aGuard aNodes m1479 hk2805 hk2806 hk2807 hk2808 Hc2892 h2890) ?_
   intro v2899 w2898 a hR2900 E_
   obtain ⟨x_, A2903, c2904, hr_, rfl, hc2905, HR2902⟩ := hR2900
   subst hr_
   replace E := E_ _ rfl; clear E_
   obtain ⟨H_, hc2901⟩ := hb2893 _ _ HR2902
   replace H := H_; clear H_; try dsimp only [setn, addE, goneL] at H
   refine vp 5 [(16, .int .u8 r2889.1), (17, .int .i64 r2889.2.1)] E ?_
   clear E; intro a E
   refine nn_ <| wp_seq ?_
   obtain ⟨x2911, h2912, hK2913⟩ := bind_inv hP
   clear hP
   refine meet_cut (fun a w2915 => ∃ (x2914 : Bool), Fr a 165 [(6, .bool x2914)] ∧ Hp S Fa w0 w2915 [.ro false cS70 (some ⟨b2175, o2176, none⟩) script, .ro true cS78 (some ⟨b92, 0, none⟩) ([x95.1]), .row true (cInt .i64) 3 A2885 c2886 r2871.2.2, .box g1465 27 [.pointer (some ⟨b92, 0, none⟩), .slice A2885 r2871.2.2.length c2886], .row true (cInt .i64) 3 A1474 c1475 s1473, .box g1471 27 [.pointer (some ⟨b92, 0, none⟩), .slice A1474 s1473.length c1475], .box g773 23 [.pointer (some ⟨g1465, 0, none⟩), .pointer (some ⟨g1471, 0, none⟩)], .ro false cBool A1 aAccept, .ro false (cInt .i64) A5 aGuard, .ro false cNode A9 aNodes, .ro false (cInt .u8) A2903 r2889.2.2, .box g1477 67 [.int .i64 aProps, .slice A1 aAccept.length c2, .slice A5 aGuard.length c6, .slice A9 aNodes.length c10, .slice A2903 r2889.2.2.length c2904], .ro false (cInt .u8) A1487 m1486, .box g1484 67 [.int .i64 aProps, .slice A1 aAccept.length c2, .slice A5 aGuard.length c6, .slice A9 aNodes.length c10, .slice A1487 m1486.length c1488], .box g783 62 [.pointer (some ⟨g1477, 0, none⟩), .pointer (some ⟨g1484, 0, none⟩)]] ∧ x2911 = x2914) ?_ ?_
   ·
    have hP := h2912; clear h2912; rw [law21_WatchScript_j20] at hP
    refine rl_ <| vp 4 [(76, .bool ((r2871.1 : Int) == r2889.1))] E ?_
    clear E; intro a E
    revert E; refine csE 76 rfl (fun hb_ E => ?_) fun hb_ E => ?_
    ·
     have h2916 : (r2871.1 : Int) = r2889.1 := eq_of_beq hb_
     replace hP := ite_t h2916 hP
     refine vp 5 [(6, .bool ((r2871.2.1 : Int) == r2889.2.1))] E ?_
     clear E; intro a E
     refine nl_ ?_
     have hx_ := Option.some.inj hP
     exact .inl ⟨rfl, (r2871.2.1 : Int) == r2889.2.1, E.pk, H.sel [0, 3, 17, 16, 6, 5, 1, 9, 10, 11, 19, 18, 14, 13, 7] rfl, hx_.symm⟩
    have h2917 : ¬ ((r2871.1 : Int) = r2889.1) := ne_of_beq_false hb_
    replace hP := ite_f h2917 hP
    refine vp 5 [(6, .bool false)] E ?_
    clear E; intro a E
    refine nl_ ?_
    have hx_ := Option.some.inj hP
    exact .inl ⟨rfl, false, E.pk, H.sel [0, 3, 17, 16, 6, 5, 1, 9, 10, 11, 19, 18, 14, 13, 7] rfl, hx_.symm⟩
   clear E H h2912; rintro a w2915 ⟨x2914, E, H, hx_⟩
   subst hx_; have hP := hK2913; clear hK2913
   refine th_n <| wp_ret <| bl_ret <| th_ret ?_
   have hx_ := Option.some.inj hP
   refine ret1 E rfl rfl ?_
   exact ⟨_, rfl, (x2911, r2871.2.2, s1473, r2889.2.2, m1486), g1465, A2885, c2886, g1471, A1474, c1475, g1477, A2903, c2904, g1484, A1487, c1488, rfl, H.sel [0, 6, 3, 1, 2, 5, 4, 14, 11, 7, 8, 9, 10, 13, 12] rfl, hc2905, hk2809, hx_.symm⟩
  have h2918 : ¬ (((List.getD script i1490.toNat (0, 0, 0)).1 : Int) = 1) := ne_of_beq_false hb_
  replace hP := ite_f h2918 hP
  refine c_false E rfl <| sr_ <| vp 2 [(81, .bool (((List.getD script i1490.toNat (0, 0, 0)).1 : Int) == 2))] E ?_
  clear E; intro a E
  refine nn_ ?_
  revert E; refine csE 81 rfl (fun hb_ E => ?_) fun hb_ E => ?_
  ·
   have h2919 : ((List.getD script i1490.toNat (0, 0, 0)).1 : Int) = 2 := eq_of_beq hb_
   replace hP := ite_t h2919 hP
   refine c_true E rfl <| wp_seq ?_
   obtain ⟨x3010, h3011, hK3012⟩ := bind_inv hP
   clear hP
   refine meet_cut (fun a w3014 => ∃ (x3013 : Bool), Fr a 165 [(6, .bool x3013)] ∧ Hp S Fa w0 w3014 [.ro false cS70 (some ⟨b2175, o2176, none⟩) script, .ro true cS78 (some ⟨b92, 0, none⟩) ([x95.1]), .row true (cInt .i64) 3 A1468 c1469 s1467, .box g1465 27 [.pointer (some ⟨b92, 0, none⟩), .slice A1468 s1467.length c1469], .row true (cInt .i64) 3 A1474 c1475 s1473, .box g1471 27 [.pointer (some ⟨b92, 0, none⟩), .slice A1474 s1473.length c1475], .box g773 23 [.pointer (some ⟨g1465, 0, none⟩), .pointer (some ⟨g1471, 0, none⟩)], .ro false cBool A1 aAccept, .ro false (cInt .i64) A5 aGuard, .ro false cNode A9 aNodes, .ro false (cInt .u8) A1480 m1479, .box g1477 67 [.int .i64 aProps, .slice A1 aAccept.length c2, .slice A5 aGuard.length c6, .slice A9 aNodes.length c10, .slice A1480 m1479.length c1481], .ro false (cInt .u8) A1487 m1486, .box g1484 67 [.int .i64 aProps, .slice A1 aAccept.length c2, .slice A5 aGuard.length c6, .slice A9 aNodes.length c10, .slice A1487 m1486.length c1488], .box g783 62 [.pointer (some ⟨g1477, 0, none⟩), .pointer (some ⟨g1484, 0, none⟩)]] ∧ x3010 = x3013) ?_ ?_
   ·
    have hP := h3011; clear h3011; rw [law21_WatchScript_j21] at hP
    obtain ⟨r3015, h3016, hP⟩ := bind_inv hP
    obtain ⟨r3031, h3032, hP⟩ := bind_inv hP
    obtain ⟨r3046, h3047, hP⟩ := bind_inv hP
    by_cases h3055 : (r3015 : Int) = r3046
    ·
     replace hP := ite_t h3055 hP
     obtain ⟨r3056, h3057, hP⟩ := bind_inv hP
     obtain ⟨r3072, h3073, hP⟩ := bind_inv hP
     by_cases h3087 : (r3056 : Int) = r3072
     ·
      replace hP := ite_t h3087 hP
      obtain ⟨r3088, h3089, hP⟩ := bind_inv hP
      refine meet_cut (fun a w3104 => Fr a 165 [(6, .bool ((r3088 : Int) == (m1479.length : Int)))] ∧ Hp S Fa w0 w3104 [.ro false cS70 (some ⟨b2175, o2176, none⟩) script, .ro true cS78 (some ⟨b92, 0, none⟩) ([x95.1]), .row true (cInt .i64) 3 A1468 c1469 s1467, .box g1465 27 [.pointer (some ⟨b92, 0, none⟩), .slice A1468 s1467.length c1469], .row true (cInt .i64) 3 A1474 c1475 s1473, .box g1471 27 [.pointer (some ⟨b92, 0, none⟩), .slice A1474 s1473.length c1475], .box g773 23 [.pointer (some ⟨g1465, 0, none⟩), .pointer (some ⟨g1471, 0, none⟩)], .ro false cBool A1 aAccept, .ro false (cInt .i64) A5 aGuard, .ro false cNode A9 aNodes, .ro false (cInt .u8) A1480 m1479, .box g1477 67 [.int .i64 aProps, .slice A1 aAccept.length c2, .slice A5 aGuard.length c6, .slice A9 aNodes.length c10, .slice A1480 m1479.length c1481], .ro false (cInt .u8) A1487 m1486, .box g1484 67 [.int .i64 aProps, .slice A1 aAccept.length c2, .slice A5 aGuard.length c6, .slice A9 aNodes.length c10, .slice A1487 m1486.length c1488], .box g783 62 [.pointer (some ⟨g1477, 0, none⟩), .pointer (some ⟨g1484, 0, none⟩)]]) ?_ ?_
      ·
       have HR3108 := H
       refine dr_start (S := fun w_ => Chg (atL [.box g1465 27 [.pointer (some ⟨b92, 0, none⟩), .slice A1468 s1467.length c1469], .row true (cInt .i64) 3 A1468 c1469 s1467, .box g1477 67 [.int .i64 aProps, .slice A1 aAccept.length c2, .slice A5 aGuard.length c6, .slice A9 aNodes.length c10, .slice A1480 m1479.length c1481]]) w2817 w_) (by kernel_rfl) ?_
       intro w3105 hc3106
       have HS3107 : Chg (atL [.box g1465 27 [.pointer (some ⟨b92, 0, none⟩), .slice A1468 s1467.length c1469], .row true (cInt .i64) 3 A1468 c1469 s1467, .box g1477 67 [.int .i64 aProps, .slice A1 aAccept.length c2, .slice A5 aGuard.length c6, .slice A9 aNodes.length c10, .slice A1480 m1479.length c1481]]) w2817 w3105 := hc3106.mono (fun _ _ h_ => h_.elim)
       replace H := H.ext hc3106
       refine dn tbok (by kernel_rfl) [0, 2, 3, 4, 6] [] [(83, .pointer (some ⟨g1465, 0, none⟩)), (87, .pointer (some ⟨g1477, 0, none⟩)), (89, .pointer (some ⟨g1477, 0, none⟩))] (fun w_ => []) 23 E (fun _ _ => by kernel_rfl) (by kernel_rfl) (fun w_ hS_ => trivial) (by kernel_rfl) HS3107 ?_
       clear E; intro a E
       refine wpAnyH_all (rs := [1, 5]) (by kernel_rfl) (by simp) ?_
       refine all2 ?_ ?_
       ·
        refine wpOp_of_list rfl ?_
        obtain ⟨Fa3109, Hc3110, hb3111⟩ := H.call [2, 4] [(3, false)] rfl rfl ⟨flat_plain, trivial⟩
        refine e_call E rfl rfl Try.func12 rfl rfl rfl (watch_Watch_Verdict_calls g1465 b92 0 A1468 c1469 x95.1 s1467  Hc3110 h3016) ?_
        intro v3117 w3116 a hR3118 E_
        obtain ⟨x_, hr_, rfl, HR3120⟩ := hR3118
        subst hr_
        replace E := E_ _ rfl; clear E_
        obtain ⟨H_, hc3119⟩ := hb3111 _ _ HR3120 rfl
        replace HS3107 := HS3107.trans hc3119 (fun k_ hk_ h_ => h_.elim (fun h_ => by have hs_ := HS3107.size; exfalso; omega) (fun h_ => h_.elim (fun h_ => (fun _ _ h_ => Or.inl h_) k_ hk_ h_) (fun h_ => h_.elim (fun h_ => (fun _ _ h_ => Or.inr (Or.inl h_)) k_ hk_ h_) (fun h_ => h_.elim))))
        replace H := H_; clear H_; try dsimp only [setn, addE, goneL] at H
        refine nl_ <| th_n ⟨HS3107, ?_⟩
        refine wpAnyH_all (rs := [5, 7]) (by kernel_rfl) (by simp) ?_
        refine all2 ?_ ?_
        ·
         refine wpOp_of_list rfl ?_
         refine vq 1 [.agg #[.int .i64 aProps, .slice A1 aAccept.length c2, .slice A5 aGuard.length c6, .slice A9 aNodes.length c10]] [(88, .agg #[.int .i64 aProps, .slice A1 aAccept.length c2, .slice A5 aGuard.length c6, .slice A9 aNodes.length c10])] [cellsAt w3116 g1477 (0) [.int .i64 aProps, .slice A1 aAccept.length c2, .slice A5 aGuard.length c6, .slice A9 aNodes.length c10]] E ((H.box 8 rfl).sub 0 _ rfl) ?_
         clear E; intro a E
         refine nl_ <| th_n ⟨HS3107, ?_⟩
         refine wpAnyH_all (rs := [7]) (by kernel_rfl) (by simp) ?_
         refine all1 ?_
         refine wpOp_of_list rfl ?_
         obtain ⟨Fa3123, Hc3124, hb3125⟩ := H.call [8] [(9, false), (10, false), (11, false), (12, false)] rfl rfl trivial
         refine e_call E rfl rfl Try.func41 rfl rfl rfl (ref21_Watch_State_calls g1477 A1 c2 A5 c6 A9 c10 A1480 c1481 aProps aAccept aGuard aNodes m1479 hk2805 hk2806 hk2807 hk2808 Hc3124 h3032) ?_
         intro v3131 w3130 a hR3132 E_
         obtain ⟨x_, hr_, rfl, HR3134⟩ := hR3132
         subst hr_
         replace E := E_ _ rfl; clear E_
         obtain ⟨H_, hc3133⟩ := hb3125 _ _ HR3134 rfl
         replace HS3107 := HS3107.trans hc3133 (fun k_ hk_ h_ => h_.elim (fun h_ => by have hs_ := HS3107.size; exfalso; omega) (fun h_ => h_.elim (fun h_ => (fun _ _ h_ => Or.inr (Or.inr (Or.inl h_))) k_ hk_ h_) (fun h_ => h_.elim)))
         replace H := H_; clear H_; try dsimp only [setn, addE, goneL] at H
         refine nl_ <| th_n ⟨HS3107, ?_⟩
         refine wpAnyH_all (rs := [8]) (by kernel_rfl) (by simp) ?_
         refine all1 ?_
         refine wpOp_of_list rfl ?_
         obtain ⟨Fa3136, Hc3137, hb3138⟩ := H.call [] [(9, false), (10, false), (11, false)] rfl rfl trivial
         refine e_call E rfl rfl Try.func40 rfl rfl rfl (ref21_Verdict_calls A1 c2 A5 c6 A9 c10 aProps aAccept aGuard aNodes r3031 hk2805 hk2806 hk2807 Hc3137 h3047) ?_
         rintro v3139 w3140 a ⟨rfl, HR3141⟩ E_
         replace E := E_ _ rfl; clear E_
         obtain ⟨H_, hc3142⟩ := hb3138 _ _ HR3141 rfl
         replace HS3107 := HS3107.ext (callS_ext hc3142)
         replace H := H_; clear H_; try dsimp only [setn, addE, goneL] at H
         refine nl_ <| th_n ⟨HS3107, ?_⟩
         refine dn tbok (by kernel_rfl) [9, 10] [] [(93, .bool ((r3015 : Int) == r3046))] (fun w_ => []) 17 E (fun _ _ => by kernel_rfl) (by kernel_rfl) (fun w_ hS_ => trivial) (by kernel_rfl) HS3107 ?_
         clear E; intro a E
         replace E := E.same (t := 93) (u := .bool true) rfl (congrArg Value.bool (beq_iff_eq.2 h3055))
         refine dn tbok (by kernel_rfl) [11, 13] [] [(94, .pointer (some ⟨g1465, 0, none⟩)), (96, .pointer (some ⟨g1477, 0, none⟩))] (fun w_ => []) 15 E (fun _ _ => by kernel_rfl) (by kernel_rfl) (fun w_ hS_ => trivial) (by kernel_rfl) HS3107 ?_
         clear E; intro a E
         refine wpAnyH_all (rs := [12]) (by kernel_rfl) (by simp) ?_
         refine all1 ?_
         refine wpOp_of_list rfl ?_
         obtain ⟨Fa3143, Hc3144, hb3145⟩ := H.call [17, 16] [(3, false)] rfl rfl ⟨flat_plain, trivial⟩
         refine e_call E rfl rfl Try.func13 rfl rfl rfl (watch_Watch_State_calls g1465 b92 0 A1468 c1469 x95.1 s1467  Hc3144 h3057) ?_
         intro v3151 w3150 a hR3152 E_
         obtain ⟨x_, hr_, rfl, HR3154⟩ := hR3152
         subst hr_
         replace E := E_ _ rfl; clear E_
         obtain ⟨H_, hc3153⟩ := hb3145 _ _ HR3154 rfl
         replace HS3107 := HS3107.trans hc3153 (fun k_ hk_ h_ => h_.elim (fun h_ => by have hs_ := HS3107.size; exfalso; omega) (fun h_ => h_.elim (fun h_ => (fun _ _ h_ => Or.inl h_) k_ hk_ h_) (fun h_ => h_.elim (fun h_ => (fun _ _ h_ => Or.inr (Or.inl h_)) k_ hk_ h_) (fun h_ => h_.elim))))
         replace H := H_; clear H_; try dsimp only [setn, addE, goneL] at H
         refine nl_ <| th_n ⟨HS3107, ?_⟩
         refine wpAnyH_all (rs := [14]) (by kernel_rfl) (by simp) ?_
         refine all1 ?_
         refine wpOp_of_list rfl ?_
         obtain ⟨Fa3157, Hc3158, hb3159⟩ := H.call [18] [(9, false), (10, false), (11, false), (12, false)] rfl rfl trivial
         refine e_call E rfl rfl Try.func41 rfl rfl rfl (ref21_Watch_State_calls g1477 A1 c2 A5 c6 A9 c10 A1480 c1481 aProps aAccept aGuard aNodes m1479 hk2805 hk2806 hk2807 hk2808 Hc3158 h3073) ?_
         intro v3165 w3164 a hR3166 E_
         obtain ⟨x_, hr_, rfl, HR3168⟩ := hR3166
         subst hr_
         replace E := E_ _ rfl; clear E_
         obtain ⟨H_, hc3167⟩ := hb3159 _ _ HR3168 rfl
         replace HS3107 := HS3107.trans hc3167 (fun k_ hk_ h_ => h_.elim (fun h_ => by have hs_ := HS3107.size; exfalso; omega) (fun h_ => h_.elim (fun h_ => (fun _ _ h_ => Or.inr (Or.inr (Or.inl h_))) k_ hk_ h_) (fun h_ => h_.elim)))
         replace H := H_; clear H_; try dsimp only [setn, addE, goneL] at H
         refine nl_ <| th_n ⟨HS3107, ?_⟩
         refine dn tbok (by kernel_rfl) [15, 16, 17] [] [(100, .bool ((r3056 : Int) == r3072))] (fun w_ => []) 10 E (fun _ _ => by kernel_rfl) (by kernel_rfl) (fun w_ hS_ => trivial) (by kernel_rfl) HS3107 ?_
         clear E; intro a E
         replace E := E.same (t := 100) (u := .bool true) rfl (congrArg Value.bool (beq_iff_eq.2 h3087))
         refine dn tbok (by kernel_rfl) [18, 20, 21, 22] [] [(101, .pointer (some ⟨g1465, 0, none⟩)), (105, .pointer (some ⟨g1477, 4, none⟩))] (fun w_ => []) 6 E (fun _ _ => by kernel_rfl) (by kernel_rfl) (fun w_ hS_ => trivial) (by kernel_rfl) HS3107 ?_
         clear E; intro a E
         refine wpAnyH_all (rs := [19, 23]) (by kernel_rfl) (by simp) ?_
         refine all2 ?_ ?_
         ·
          refine wpOp_of_list rfl ?_
          obtain ⟨Fa3170, Hc3171, hb3172⟩ := H.call [20, 19] [(3, false)] rfl rfl ⟨flat_plain, trivial⟩
          refine e_call E rfl rfl Try.func14 rfl rfl rfl (watch_Watch_Len_calls g1465 b92 0 A1468 c1469 x95.1 s1467  Hc3171 h3089) ?_
          intro v3178 w3177 a hR3179 E_
          obtain ⟨x_, hr_, rfl, HR3181⟩ := hR3179
          subst hr_
          replace E := E_ _ rfl; clear E_
          obtain ⟨H_, hc3180⟩ := hb3172 _ _ HR3181 rfl
          replace HS3107 := HS3107.trans hc3180 (fun k_ hk_ h_ => h_.elim (fun h_ => by have hs_ := HS3107.size; exfalso; omega) (fun h_ => h_.elim (fun h_ => (fun _ _ h_ => Or.inl h_) k_ hk_ h_) (fun h_ => h_.elim (fun h_ => (fun _ _ h_ => Or.inr (Or.inl h_)) k_ hk_ h_) (fun h_ => h_.elim))))
          replace H := H_; clear H_; try dsimp only [setn, addE, goneL] at H
          refine nl_ <| th_n ⟨HS3107, ?_⟩
          refine wpAnyH_all (rs := [23]) (by kernel_rfl) (by simp) ?_
          refine all1 ?_
          refine wpOp_of_list rfl ?_
          refine vq 1 [.slice A1480 m1479.length c1481] [(106, .slice A1480 m1479.length c1481)] [World.cell? w3177 ⟨g1477, 4, none⟩ = some (.slice A1480 m1479.length c1481)] E ((H.box 21 rfl).cell (j := 4) rfl) ?_
          clear E; intro a E
          refine nl_ <| th_n ⟨HS3107, ?_⟩
          refine dn tbok (by kernel_rfl) [24, 25, 26, 27] [] [(6, .bool ((r3088 : Int) == (m1479.length : Int)))] (fun w_ => []) 0 E (fun _ _ => by kernel_rfl) (by kernel_rfl) (fun w_ hS_ => trivial) (by kernel_rfl) HS3107 ?_
          clear E; intro a E
          refine dr_done (by kernel_rfl) ?_
          exact .inl ⟨rfl, E.pk, H.sel [0, 3, 22, 23, 6, 5, 1, 9, 10, 11, 12, 21, 14, 13, 7] rfl⟩
         refine wpOp_of_list rfl ?_
         refine vq 1 [.slice A1480 m1479.length c1481] [(106, .slice A1480 m1479.length c1481)] [World.cell? w3164 ⟨g1477, 4, none⟩ = some (.slice A1480 m1479.length c1481)] E ((H.box 21 rfl).cell (j := 4) rfl) ?_
         clear E; intro a E
         refine nl_ <| th_n ⟨HS3107, ?_⟩
         refine dn tbok (by kernel_rfl) [24] [] [(107, .int .i64 (m1479.length : Int))] (fun w_ => []) 4 E (fun _ _ => by kernel_rfl) (by kernel_rfl) (fun w_ hS_ => trivial) (by kernel_rfl) HS3107 ?_
         clear E; intro a E
         refine wpAnyH_all (rs := [19]) (by kernel_rfl) (by simp) ?_
         refine all1 ?_
         refine wpOp_of_list rfl ?_
         obtain ⟨Fa3184, Hc3185, hb3186⟩ := H.call [20, 19] [(3, false)] rfl rfl ⟨flat_plain, trivial⟩
         refine e_call E rfl rfl Try.func14 rfl rfl rfl (watch_Watch_Len_calls g1465 b92 0 A1468 c1469 x95.1 s1467  Hc3185 h3089) ?_
         intro v3192 w3191 a hR3193 E_
         obtain ⟨x_, hr_, rfl, HR3195⟩ := hR3193
         subst hr_
         replace E := E_ _ rfl; clear E_
         obtain ⟨H_, hc3194⟩ := hb3186 _ _ HR3195 rfl
         replace HS3107 := HS3107.trans hc3194 (fun k_ hk_ h_ => h_.elim (fun h_ => by have hs_ := HS3107.size; exfalso; omega) (fun h_ => h_.elim (fun h_ => (fun _ _ h_ => Or.inl h_) k_ hk_ h_) (fun h_ => h_.elim (fun h_ => (fun _ _ h_ => Or.inr (Or.inl h_)) k_ hk_ h_) (fun h_ => h_.elim))))
         replace H := H_; clear H_; try dsimp only [setn, addE, goneL] at H
         refine nl_ <| th_n ⟨HS3107, ?_⟩
         refine dn tbok (by kernel_rfl) [25, 26, 27] [] [(6, .bool ((r3088 : Int) == (m1479.length : Int)))] (fun w_ => []) 0 E (fun _ _ => by kernel_rfl) (by kernel_rfl) (fun w_ hS_ => trivial) (by kernel_rfl) HS3107 ?_
         clear E; intro a E
         refine dr_done (by kernel_rfl) ?_
         exact .inl ⟨rfl, E.pk, H.sel [0, 3, 22, 23, 6, 5, 1, 9, 10, 11, 12, 21, 14, 13, 7] rfl⟩
        refine wpOp_of_list rfl ?_
        obtain ⟨Fa3198, Hc3199, hb3200⟩ := H.call [8] [(9, false), (10, false), (11, false), (12, false)] rfl rfl trivial
        refine e_call E rfl rfl Try.func41 rfl rfl rfl (ref21_Watch_State_calls g1477 A1 c2 A5 c6 A9 c10 A1480 c1481 aProps aAccept aGuard aNodes m1479 hk2805 hk2806 hk2807 hk2808 Hc3199 h3032) ?_
        intro v3206 w3205 a hR3207 E_
        obtain ⟨x_, hr_, rfl, HR3209⟩ := hR3207
        subst hr_
        replace E := E_ _ rfl; clear E_
        obtain ⟨H_, hc3208⟩ := hb3200 _ _ HR3209 rfl
        replace HS3107 := HS3107.trans hc3208 (fun k_ hk_ h_ => h_.elim (fun h_ => by have hs_ := HS3107.size; exfalso; omega) (fun h_ => h_.elim (fun h_ => (fun _ _ h_ => Or.inr (Or.inr (Or.inl h_))) k_ hk_ h_) (fun h_ => h_.elim)))
        replace H := H_; clear H_; try dsimp only [setn, addE, goneL] at H
        refine nl_ <| th_n ⟨HS3107, ?_⟩
        refine wpAnyH_all (rs := [5]) (by kernel_rfl) (by simp) ?_
        refine all1 ?_
        refine wpOp_of_list rfl ?_
        refine vq 1 [.agg #[.int .i64 aProps, .slice A1 aAccept.length c2, .slice A5 aGuard.length c6, .slice A9 aNodes.length c10]] [(88, .agg #[.int .i64 aProps, .slice A1 aAccept.length c2, .slice A5 aGuard.length c6, .slice A9 aNodes.length c10])] [cellsAt w3205 g1477 (0) [.int .i64 aProps, .slice A1 aAccept.length c2, .slice A5 aGuard.length c6, .slice A9 aNodes.length c10]] E ((H.box 18 rfl).sub 0 _ rfl) ?_
        clear E; intro a E
        refine nl_ <| th_n ⟨HS3107, ?_⟩
        refine wpAnyH_all (rs := [8]) (by kernel_rfl) (by simp) ?_
        refine all1 ?_
        refine wpOp_of_list rfl ?_
        obtain ⟨Fa3211, Hc3212, hb3213⟩ := H.call [] [(9, false), (10, false), (11, false)] rfl rfl trivial
        refine e_call E rfl rfl Try.func40 rfl rfl rfl (ref21_Verdict_calls A1 c2 A5 c6 A9 c10 aProps aAccept aGuard aNodes r3031 hk2805 hk2806 hk2807 Hc3212 h3047) ?_
        rintro v3214 w3215 a ⟨rfl, HR3216⟩ E_
        replace E := E_ _ rfl; clear E_
        obtain ⟨H_, hc3217⟩ := hb3213 _ _ HR3216 rfl
        replace HS3107 := HS3107.ext (callS_ext hc3217)
        replace H := H_; clear H_; try dsimp only [setn, addE, goneL] at H
        refine nl_ <| th_n ⟨HS3107, ?_⟩
        refine dn tbok (by kernel_rfl) [9, 10] [] [(93, .bool ((r3015 : Int) == r3046))] (fun w_ => []) 17 E (fun _ _ => by kernel_rfl) (by kernel_rfl) (fun w_ hS_ => trivial) (by kernel_rfl) HS3107 ?_
        clear E; intro a E
        replace E := E.same (t := 93) (u := .bool true) rfl (congrArg Value.bool (beq_iff_eq.2 h3055))
        refine dn tbok (by kernel_rfl) [11, 13] [] [(94, .pointer (some ⟨g1465, 0, none⟩)), (96, .pointer (some ⟨g1477, 0, none⟩))] (fun w_ => []) 15 E (fun _ _ => by kernel_rfl) (by kernel_rfl) (fun w_ hS_ => trivial) (by kernel_rfl) HS3107 ?_
        clear E; intro a E
        refine wpAnyH_all (rs := [12]) (by kernel_rfl) (by simp) ?_
        refine all1 ?_
        refine wpOp_of_list rfl ?_
        obtain ⟨Fa3218, Hc3219, hb3220⟩ := H.call [17, 16] [(3, false)] rfl rfl ⟨flat_plain, trivial⟩
        refine e_call E rfl rfl Try.func13 rfl rfl rfl (watch_Watch_State_calls g1465 b92 0 A1468 c1469 x95.1 s1467  Hc3219 h3057) ?_
        intro v3226 w3225 a hR3227 E_
        obtain ⟨x_, hr_, rfl, HR3229⟩ := hR3227
        subst hr_
        replace E := E_ _ rfl; clear E_
        obtain ⟨H_, hc3228⟩ := hb3220 _ _ HR3229 rfl
        replace HS3107 := HS3107.trans hc3228 (fun k_ hk_ h_ => h_.elim (fun h_ => by have hs_ := HS3107.size; exfalso; omega) (fun h_ => h_.elim (fun h_ => (fun _ _ h_ => Or.inl h_) k_ hk_ h_) (fun h_ => h_.elim (fun h_ => (fun _ _ h_ => Or.inr (Or.inl h_)) k_ hk_ h_) (fun h_ => h_.elim))))
        replace H := H_; clear H_; try dsimp only [setn, addE, goneL] at H
        refine nl_ <| th_n ⟨HS3107, ?_⟩
        refine wpAnyH_all (rs := [14]) (by kernel_rfl) (by simp) ?_
        refine all1 ?_
        refine wpOp_of_list rfl ?_
        obtain ⟨Fa3232, Hc3233, hb3234⟩ := H.call [18] [(9, false), (10, false), (11, false), (12, false)] rfl rfl trivial
        refine e_call E rfl rfl Try.func41 rfl rfl rfl (ref21_Watch_State_calls g1477 A1 c2 A5 c6 A9 c10 A1480 c1481 aProps aAccept aGuard aNodes m1479 hk2805 hk2806 hk2807 hk2808 Hc3233 h3073) ?_
        intro v3240 w3239 a hR3241 E_
        obtain ⟨x_, hr_, rfl, HR3243⟩ := hR3241
        subst hr_
        replace E := E_ _ rfl; clear E_
        obtain ⟨H_, hc3242⟩ := hb3234 _ _ HR3243 rfl
        replace HS3107 := HS3107.trans hc3242 (fun k_ hk_ h_ => h_.elim (fun h_ => by have hs_ := HS3107.size; exfalso; omega) (fun h_ => h_.elim (fun h_ => (fun _ _ h_ => Or.inr (Or.inr (Or.inl h_))) k_ hk_ h_) (fun h_ => h_.elim)))
        replace H := H_; clear H_; try dsimp only [setn, addE, goneL] at H
        refine nl_ <| th_n ⟨HS3107, ?_⟩
        refine dn tbok (by kernel_rfl) [15, 16, 17] [] [(100, .bool ((r3056 : Int) == r3072))] (fun w_ => []) 10 E (fun _ _ => by kernel_rfl) (by kernel_rfl) (fun w_ hS_ => trivial) (by kernel_rfl) HS3107 ?_
        clear E; intro a E
        replace E := E.same (t := 100) (u := .bool true) rfl (congrArg Value.bool (beq_iff_eq.2 h3087))
        refine dn tbok (by kernel_rfl) [18, 20, 21, 22] [] [(101, .pointer (some ⟨g1465, 0, none⟩)), (105, .pointer (some ⟨g1477, 4, none⟩))] (fun w_ => []) 6 E (fun _ _ => by kernel_rfl) (by kernel_rfl) (fun w_ hS_ => trivial) (by kernel_rfl) HS3107 ?_
        clear E; intro a E
        refine wpAnyH_all (rs := [19, 23]) (by kernel_rfl) (by simp) ?_
        refine all2 ?_ ?_
        ·
         refine wpOp_of_list rfl ?_
         obtain ⟨Fa3245, Hc3246, hb3247⟩ := H.call [20, 19] [(3, false)] rfl rfl ⟨flat_plain, trivial⟩
         refine e_call E rfl rfl Try.func14 rfl rfl rfl (watch_Watch_Len_calls g1465 b92 0 A1468 c1469 x95.1 s1467  Hc3246 h3089) ?_
         intro v3253 w3252 a hR3254 E_
         obtain ⟨x_, hr_, rfl, HR3256⟩ := hR3254
         subst hr_
         replace E := E_ _ rfl; clear E_
         obtain ⟨H_, hc3255⟩ := hb3247 _ _ HR3256 rfl
         replace HS3107 := HS3107.trans hc3255 (fun k_ hk_ h_ => h_.elim (fun h_ => by have hs_ := HS3107.size; exfalso; omega) (fun h_ => h_.elim (fun h_ => (fun _ _ h_ => Or.inl h_) k_ hk_ h_) (fun h_ => h_.elim (fun h_ => (fun _ _ h_ => Or.inr (Or.inl h_)) k_ hk_ h_) (fun h_ => h_.elim))))
         replace H := H_; clear H_; try dsimp only [setn, addE, goneL] at H
         refine nl_ <| th_n ⟨HS3107, ?_⟩
         refine wpAnyH_all (rs := [23]) (by kernel_rfl) (by simp) ?_
         refine all1 ?_
         refine wpOp_of_list rfl ?_
         refine vq 1 [.slice A1480 m1479.length c1481] [(106, .slice A1480 m1479.length c1481)] [World.cell? w3252 ⟨g1477, 4, none⟩ = some (.slice A1480 m1479.length c1481)] E ((H.box 21 rfl).cell (j := 4) rfl) ?_
         clear E; intro a E
         refine nl_ <| th_n ⟨HS3107, ?_⟩
         refine dn tbok (by kernel_rfl) [24, 25, 26, 27] [] [(6, .bool ((r3088 : Int) == (m1479.length : Int)))] (fun w_ => []) 0 E (fun _ _ => by kernel_rfl) (by kernel_rfl) (fun w_ hS_ => trivial) (by kernel_rfl) HS3107 ?_
         clear E; intro a E
         refine dr_done (by kernel_rfl) ?_
         exact .inl ⟨rfl, E.pk, H.sel [0, 3, 22, 23, 6, 5, 1, 9, 10, 11, 12, 21, 14, 13, 7] rfl⟩
        refine wpOp_of_list rfl ?_
        refine vq 1 [.slice A1480 m1479.length c1481] [(106, .slice A1480 m1479.length c1481)] [World.cell? w3239 ⟨g1477, 4, none⟩ = some (.slice A1480 m1479.length c1481)] E ((H.box 21 rfl).cell (j := 4) rfl) ?_
        clear E; intro a E
        refine nl_ <| th_n ⟨HS3107, ?_⟩
        refine dn tbok (by kernel_rfl) [24] [] [(107, .int .i64 (m1479.length : Int))] (fun w_ => []) 4 E (fun _ _ => by kernel_rfl) (by kernel_rfl) (fun w_ hS_ => trivial) (by kernel_rfl) HS3107 ?_
        clear E; intro a E
        refine wpAnyH_all (rs := [19]) (by kernel_rfl) (by simp) ?_
        refine all1 ?_
        refine wpOp_of_list rfl ?_
        obtain ⟨Fa3259, Hc3260, hb3261⟩ := H.call [20, 19] [(3, false)] rfl rfl ⟨flat_plain, trivial⟩
        refine e_call E rfl rfl Try.func14 rfl rfl rfl (watch_Watch_Len_calls g1465 b92 0 A1468 c1469 x95.1 s1467  Hc3260 h3089) ?_
        intro v3267 w3266 a hR3268 E_
        obtain ⟨x_, hr_, rfl, HR3270⟩ := hR3268
        subst hr_
        replace E := E_ _ rfl; clear E_
        obtain ⟨H_, hc3269⟩ := hb3261 _ _ HR3270 rfl
        replace HS3107 := HS3107.trans hc3269 (fun k_ hk_ h_ => h_.elim (fun h_ => by have hs_ := HS3107.size; exfalso; omega) (fun h_ => h_.elim (fun h_ => (fun _ _ h_ => Or.inl h_) k_ hk_ h_) (fun h_ => h_.elim (fun h_ => (fun _ _ h_ => Or.inr (Or.inl h_)) k_ hk_ h_) (fun h_ => h_.elim))))
        replace H := H_; clear H_; try dsimp only [setn, addE, goneL] at H
        refine nl_ <| th_n ⟨HS3107, ?_⟩
        refine dn tbok (by kernel_rfl) [25, 26, 27] [] [(6, .bool ((r3088 : Int) == (m1479.length : Int)))] (fun w_ => []) 0 E (fun _ _ => by kernel_rfl) (by kernel_rfl) (fun w_ hS_ => trivial) (by kernel_rfl) HS3107 ?_
        clear E; intro a E
        refine dr_done (by kernel_rfl) ?_
        exact .inl ⟨rfl, E.pk, H.sel [0, 3, 22, 23, 6, 5, 1, 9, 10, 11, 12, 21, 14, 13, 7] rfl⟩
       refine wpOp_of_list rfl ?_
       refine vq 1 [.agg #[.int .i64 aProps, .slice A1 aAccept.length c2, .slice A5 aGuard.length c6, .slice A9 aNodes.length c10]] [(88, .agg #[.int .i64 aProps, .slice A1 aAccept.length c2, .slice A5 aGuard.length c6, .slice A9 aNodes.length c10])] [cellsAt w3105 g1477 (0) [.int .i64 aProps, .slice A1 aAccept.length c2, .slice A5 aGuard.length c6, .slice A9 aNodes.length c10]] E ((H.box 8 rfl).sub 0 _ rfl) ?_
       clear E; intro a E
       refine nl_ <| th_n ⟨HS3107, ?_⟩
       refine wpAnyH_all (rs := [1]) (by kernel_rfl) (by simp) ?_
       refine all1 ?_
       refine wpOp_of_list rfl ?_
       obtain ⟨Fa3273, Hc3274, hb3275⟩ := H.call [2, 4] [(3, false)] rfl rfl ⟨flat_plain, trivial⟩
       refine e_call E rfl rfl Try.func12 rfl rfl rfl (watch_Watch_Verdict_calls g1465 b92 0 A1468 c1469 x95.1 s1467  Hc3274 h3016) ?_
       intro v3281 w3280 a hR3282 E_
       obtain ⟨x_, hr_, rfl, HR3284⟩ := hR3282
       subst hr_
       replace E := E_ _ rfl; clear E_
       obtain ⟨H_, hc3283⟩ := hb3275 _ _ HR3284 rfl
       replace HS3107 := HS3107.trans hc3283 (fun k_ hk_ h_ => h_.elim (fun h_ => by have hs_ := HS3107.size; exfalso; omega) (fun h_ => h_.elim (fun h_ => (fun _ _ h_ => Or.inl h_) k_ hk_ h_) (fun h_ => h_.elim (fun h_ => (fun _ _ h_ => Or.inr (Or.inl h_)) k_ hk_ h_) (fun h_ => h_.elim))))
       replace H := H_; clear H_; try dsimp only [setn, addE, goneL] at H
       refine nl_ <| th_n ⟨HS3107, ?_⟩
       refine wpAnyH_all (rs := [7]) (by kernel_rfl) (by simp) ?_
       refine all1 ?_
       refine wpOp_of_list rfl ?_
       obtain ⟨Fa3287, Hc3288, hb3289⟩ := H.call [8] [(9, false), (10, false), (11, false), (12, false)] rfl rfl trivial
       refine e_call E rfl rfl Try.func41 rfl rfl rfl (ref21_Watch_State_calls g1477 A1 c2 A5 c6 A9 c10 A1480 c1481 aProps aAccept aGuard aNodes m1479 hk2805 hk2806 hk2807 hk2808 Hc3288 h3032) ?_
       intro v3295 w3294 a hR3296 E_
       obtain ⟨x_, hr_, rfl, HR3298⟩ := hR3296
       subst hr_
       replace E := E_ _ rfl; clear E_
       obtain ⟨H_, hc3297⟩ := hb3289 _ _ HR3298 rfl
       replace HS3107 := HS3107.trans hc3297 (fun k_ hk_ h_ => h_.elim (fun h_ => by have hs_ := HS3107.size; exfalso; omega) (fun h_ => h_.elim (fun h_ => (fun _ _ h_ => Or.inr (Or.inr (Or.inl h_))) k_ hk_ h_) (fun h_ => h_.elim)))
       replace H := H_; clear H_; try dsimp only [setn, addE, goneL] at H
       refine nl_ <| th_n ⟨HS3107, ?_⟩
       refine wpAnyH_all (rs := [8]) (by kernel_rfl) (by simp) ?_
       refine all1 ?_
       refine wpOp_of_list rfl ?_
       obtain ⟨Fa3300, Hc3301, hb3302⟩ := H.call [] [(9, false), (10, false), (11, false)] rfl rfl trivial
       refine e_call E rfl rfl Try.func40 rfl rfl rfl (ref21_Verdict_calls A1 c2 A5 c6 A9 c10 aProps aAccept aGuard aNodes r3031 hk2805 hk2806 hk2807 Hc3301 h3047) ?_
       rintro v3303 w3304 a ⟨rfl, HR3305⟩ E_
       replace E := E_ _ rfl; clear E_
       obtain ⟨H_, hc3306⟩ := hb3302 _ _ HR3305 rfl
       replace HS3107 := HS3107.ext (callS_ext hc3306)
       replace H := H_; clear H_; try dsimp only [setn, addE, goneL] at H
       refine nl_ <| th_n ⟨HS3107, ?_⟩
       refine dn tbok (by kernel_rfl) [9, 10] [] [(93, .bool ((r3015 : Int) == r3046))] (fun w_ => []) 17 E (fun _ _ => by kernel_rfl) (by kernel_rfl) (fun w_ hS_ => trivial) (by kernel_rfl) HS3107 ?_
       clear E; intro a E
       replace E := E.same (t := 93) (u := .bool true) rfl (congrArg Value.bool (beq_iff_eq.2 h3055))
       refine dn tbok (by kernel_rfl) [11, 13] [] [(94, .pointer (some ⟨g1465, 0, none⟩)), (96, .pointer (some ⟨g1477, 0, none⟩))] (fun w_ => []) 15 E (fun _ _ => by kernel_rfl) (by kernel_rfl) (fun w_ hS_ => trivial) (by kernel_rfl) HS3107 ?_
       clear E; intro a E
       refine wpAnyH_all (rs := [12]) (by kernel_rfl) (by simp) ?_
       refine all1 ?_
       refine wpOp_of_list rfl ?_
       obtain ⟨Fa3307, Hc3308, hb3309⟩ := H.call [17, 16] [(3, false)] rfl rfl ⟨flat_plain, trivial⟩
       refine e_call E rfl rfl Try.func13 rfl rfl rfl (watch_Watch_State_calls g1465 b92 0 A1468 c1469 x95.1 s1467  Hc3308 h3057) ?_
       intro v3315 w3314 a hR3316 E_
       obtain ⟨x_, hr_, rfl, HR3318⟩ := hR3316
       subst hr_
       replace E := E_ _ rfl; clear E_
       obtain ⟨H_, hc3317⟩ := hb3309 _ _ HR3318 rfl
       replace HS3107 := HS3107.trans hc3317 (fun k_ hk_ h_ => h_.elim (fun h_ => by have hs_ := HS3107.size; exfalso; omega) (fun h_ => h_.elim (fun h_ => (fun _ _ h_ => Or.inl h_) k_ hk_ h_) (fun h_ => h_.elim (fun h_ => (fun _ _ h_ => Or.inr (Or.inl h_)) k_ hk_ h_) (fun h_ => h_.elim))))
       replace H := H_; clear H_; try dsimp only [setn, addE, goneL] at H
       refine nl_ <| th_n ⟨HS3107, ?_⟩
       refine wpAnyH_all (rs := [14]) (by kernel_rfl) (by simp) ?_
       refine all1 ?_
       refine wpOp_of_list rfl ?_
       obtain ⟨Fa3321, Hc3322, hb3323⟩ := H.call [18] [(9, false), (10, false), (11, false), (12, false)] rfl rfl trivial
       refine e_call E rfl rfl Try.func41 rfl rfl rfl (ref21_Watch_State_calls g1477 A1 c2 A5 c6 A9 c10 A1480 c1481 aProps aAccept aGuard aNodes m1479 hk2805 hk2806 hk2807 hk2808 Hc3322 h3073) ?_
       intro v3329 w3328 a hR3330 E_
       obtain ⟨x_, hr_, rfl, HR3332⟩ := hR3330
       subst hr_
       replace E := E_ _ rfl; clear E_
       obtain ⟨H_, hc3331⟩ := hb3323 _ _ HR3332 rfl
       replace HS3107 := HS3107.trans hc3331 (fun k_ hk_ h_ => h_.elim (fun h_ => by have hs_ := HS3107.size; exfalso; omega) (fun h_ => h_.elim (fun h_ => (fun _ _ h_ => Or.inr (Or.inr (Or.inl h_))) k_ hk_ h_) (fun h_ => h_.elim)))
       replace H := H_; clear H_; try dsimp only [setn, addE, goneL] at H
       refine nl_ <| th_n ⟨HS3107, ?_⟩
       refine dn tbok (by kernel_rfl) [15, 16, 17] [] [(100, .bool ((r3056 : Int) == r3072))] (fun w_ => []) 10 E (fun _ _ => by kernel_rfl) (by kernel_rfl) (fun w_ hS_ => trivial) (by kernel_rfl) HS3107 ?_
       clear E; intro a E
       replace E := E.same (t := 100) (u := .bool true) rfl (congrArg Value.bool (beq_iff_eq.2 h3087))
       refine dn tbok (by kernel_rfl) [18, 20, 21, 22] [] [(101, .pointer (some ⟨g1465, 0, none⟩)), (105, .pointer (some ⟨g1477, 4, none⟩))] (fun w_ => []) 6 E (fun _ _ => by kernel_rfl) (by kernel_rfl) (fun w_ hS_ => trivial) (by kernel_rfl) HS3107 ?_
       clear E; intro a E
       refine wpAnyH_all (rs := [19, 23]) (by kernel_rfl) (by simp) ?_
       refine all2 ?_ ?_
       ·
        refine wpOp_of_list rfl ?_
        obtain ⟨Fa3334, Hc3335, hb3336⟩ := H.call [20, 19] [(3, false)] rfl rfl ⟨flat_plain, trivial⟩
        refine e_call E rfl rfl Try.func14 rfl rfl rfl (watch_Watch_Len_calls g1465 b92 0 A1468 c1469 x95.1 s1467  Hc3335 h3089) ?_
        intro v3342 w3341 a hR3343 E_
        obtain ⟨x_, hr_, rfl, HR3345⟩ := hR3343
        subst hr_
        replace E := E_ _ rfl; clear E_
        obtain ⟨H_, hc3344⟩ := hb3336 _ _ HR3345 rfl
        replace HS3107 := HS3107.trans hc3344 (fun k_ hk_ h_ => h_.elim (fun h_ => by have hs_ := HS3107.size; exfalso; omega) (fun h_ => h_.elim (fun h_ => (fun _ _ h_ => Or.inl h_) k_ hk_ h_) (fun h_ => h_.elim (fun h_ => (fun _ _ h_ => Or.inr (Or.inl h_)) k_ hk_ h_) (fun h_ => h_.elim))))
        replace H := H_; clear H_; try dsimp only [setn, addE, goneL] at H
        refine nl_ <| th_n ⟨HS3107, ?_⟩
        refine wpAnyH_all (rs := [23]) (by kernel_rfl) (by simp) ?_
        refine all1 ?_
        refine wpOp_of_list rfl ?_
        refine vq 1 [.slice A1480 m1479.length c1481] [(106, .slice A1480 m1479.length c1481)] [World.cell? w3341 ⟨g1477, 4, none⟩ = some (.slice A1480 m1479.length c1481)] E ((H.box 21 rfl).cell (j := 4) rfl) ?_
        clear E; intro a E
        refine nl_ <| th_n ⟨HS3107, ?_⟩
        refine dn tbok (by kernel_rfl) [24, 25, 26, 27] [] [(6, .bool ((r3088 : Int) == (m1479.length : Int)))] (fun w_ => []) 0 E (fun _ _ => by kernel_rfl) (by kernel_rfl) (fun w_ hS_ => trivial) (by kernel_rfl) HS3107 ?_
        clear E; intro a E
        refine dr_done (by kernel_rfl) ?_
        exact .inl ⟨rfl, E.pk, H.sel [0, 3, 22, 23, 6, 5, 1, 9, 10, 11, 12, 21, 14, 13, 7] rfl⟩
       refine wpOp_of_list rfl ?_
       refine vq 1 [.slice A1480 m1479.length c1481] [(106, .slice A1480 m1479.length c1481)] [World.cell? w3328 ⟨g1477, 4, none⟩ = some (.slice A1480 m1479.length c1481)] E ((H.box 21 rfl).cell (j := 4) rfl) ?_
       clear E; intro a E
       refine nl_ <| th_n ⟨HS3107, ?_⟩
       refine dn tbok (by kernel_rfl) [24] [] [(107, .int .i64 (m1479.length : Int))] (fun w_ => []) 4 E (fun _ _ => by kernel_rfl) (by kernel_rfl) (fun w_ hS_ => trivial) (by kernel_rfl) HS3107 ?_
       clear E; intro a E
       refine wpAnyH_all (rs := [19]) (by kernel_rfl) (by simp) ?_
       refine all1 ?_
       refine wpOp_of_list rfl ?_
       obtain ⟨Fa3348, Hc3349, hb3350⟩ := H.call [20, 19] [(3, false)] rfl rfl ⟨flat_plain, trivial⟩
       refine e_call E rfl rfl Try.func14 rfl rfl rfl (watch_Watch_Len_calls g1465 b92 0 A1468 c1469 x95.1 s1467  Hc3349 h3089) ?_
       intro v3356 w3355 a hR3357 E_
       obtain ⟨x_, hr_, rfl, HR3359⟩ := hR3357
       subst hr_
       replace E := E_ _ rfl; clear E_
       obtain ⟨H_, hc3358⟩ := hb3350 _ _ HR3359 rfl
       replace HS3107 := HS3107.trans hc3358 (fun k_ hk_ h_ => h_.elim (fun h_ => by have hs_ := HS3107.size; exfalso; omega) (fun h_ => h_.elim (fun h_ => (fun _ _ h_ => Or.inl h_) k_ hk_ h_) (fun h_ => h_.elim (fun h_ => (fun _ _ h_ => Or.inr (Or.inl h_)) k_ hk_ h_) (fun h_ => h_.elim))))
       replace H := H_; clear H_; try dsimp only [setn, addE, goneL] at H
       refine nl_ <| th_n ⟨HS3107, ?_⟩
       refine dn tbok (by kernel_rfl) [25, 26, 27] [] [(6, .bool ((r3088 : Int) == (m1479.length : Int)))] (fun w_ => []) 0 E (fun _ _ => by kernel_rfl) (by kernel_rfl) (fun w_ hS_ => trivial) (by kernel_rfl) HS3107 ?_
       clear E; intro a E
       refine dr_done (by kernel_rfl) ?_
       exact .inl ⟨rfl, E.pk, H.sel [0, 3, 22, 23, 6, 5, 1, 9, 10, 11, 12, 21, 14, 13, 7] rfl⟩
      clear E H; rintro a w3104 ⟨E, H⟩
      have hx_ := Option.some.inj hP
      exact .inl ⟨rfl, (r3088 : Int) == (m1479.length : Int), E.pk, H.sel (up 15) rfl, hx_.symm⟩
     replace hP := ite_f h3087 hP
     refine meet_cut (fun a w3362 => Fr a 165 [(6, .bool false)] ∧ Hp S Fa w0 w3362 [.ro false cS70 (some ⟨b2175, o2176, none⟩) script, .ro true cS78 (some ⟨b92, 0, none⟩) ([x95.1]), .row true (cInt .i64) 3 A1468 c1469 s1467, .box g1465 27 [.pointer (some ⟨b92, 0, none⟩), .slice A1468 s1467.length c1469], .row true (cInt .i64) 3 A1474 c1475 s1473, .box g1471 27 [.pointer (some ⟨b92, 0, none⟩), .slice A1474 s1473.length c1475], .box g773 23 [.pointer (some ⟨g1465, 0, none⟩), .pointer (some ⟨g1471, 0, none⟩)], .ro false cBool A1 aAccept, .ro false (cInt .i64) A5 aGuard, .ro false cNode A9 aNodes, .ro false (cInt .u8) A1480 m1479, .box g1477 67 [.int .i64 aProps, .slice A1 aAccept.length c2, .slice A5 aGuard.length c6, .slice A9 aNodes.length c10, .slice A1480 m1479.length c1481], .ro false (cInt .u8) A1487 m1486, .box g1484 67 [.int .i64 aProps, .slice A1 aAccept.length c2, .slice A5 aGuard.length c6, .slice A9 aNodes.length c10, .slice A1487 m1486.length c1488], .box g783 62 [.pointer (some ⟨g1477, 0, none⟩), .pointer (some ⟨g1484, 0, none⟩)]]) ?_ ?_
     ·
      have HR3366 := H
      refine dr_start (S := fun w_ => Chg (atL [.box g1465 27 [.pointer (some ⟨b92, 0, none⟩), .slice A1468 s1467.length c1469], .row true (cInt .i64) 3 A1468 c1469 s1467, .box g1477 67 [.int .i64 aProps, .slice A1 aAccept.length c2, .slice A5 aGuard.length c6, .slice A9 aNodes.length c10, .slice A1480 m1479.length c1481]]) w2817 w_) (by kernel_rfl) ?_
      intro w3363 hc3364
      have HS3365 : Chg (atL [.box g1465 27 [.pointer (some ⟨b92, 0, none⟩), .slice A1468 s1467.length c1469], .row true (cInt .i64) 3 A1468 c1469 s1467, .box g1477 67 [.int .i64 aProps, .slice A1 aAccept.length c2, .slice A5 aGuard.length c6, .slice A9 aNodes.length c10, .slice A1480 m1479.length c1481]]) w2817 w3363 := hc3364.mono (fun _ _ h_ => h_.elim)
      replace H := H.ext hc3364
      refine dn tbok (by kernel_rfl) [0, 2, 3, 4, 6] [] [(83, .pointer (some ⟨g1465, 0, none⟩)), (87, .pointer (some ⟨g1477, 0, none⟩)), (89, .pointer (some ⟨g1477, 0, none⟩))] (fun w_ => []) 23 E (fun _ _ => by kernel_rfl) (by kernel_rfl) (fun w_ hS_ => trivial) (by kernel_rfl) HS3365 ?_
      clear E; intro a E
      refine wpAnyH_all (rs := [1, 5]) (by kernel_rfl) (by simp) ?_
      refine all2 ?_ ?_
      ·
       refine wpOp_of_list rfl ?_
       obtain ⟨Fa3367, Hc3368, hb3369⟩ := H.call [2, 4] [(3, false)] rfl rfl ⟨flat_plain, trivial⟩
       refine e_call E rfl rfl Try.func12 rfl rfl rfl (watch_Watch_Verdict_calls g1465 b92 0 A1468 c1469 x95.1 s1467  Hc3368 h3016) ?_
       intro v3375 w3374 a hR3376 E_
       obtain ⟨x_, hr_, rfl, HR3378⟩ := hR3376
       subst hr_
       replace E := E_ _ rfl; clear E_
       obtain ⟨H_, hc3377⟩ := hb3369 _ _ HR3378 rfl
       replace HS3365 := HS3365.trans hc3377 (fun k_ hk_ h_ => h_.elim (fun h_ => by have hs_ := HS3365.size; exfalso; omega) (fun h_ => h_.elim (fun h_ => (fun _ _ h_ => Or.inl h_) k_ hk_ h_) (fun h_ => h_.elim (fun h_ => (fun _ _ h_ => Or.inr (Or.inl h_)) k_ hk_ h_) (fun h_ => h_.elim))))
       replace H := H_; clear H_; try dsimp only [setn, addE, goneL] at H
       refine nl_ <| th_n ⟨HS3365, ?_⟩
       refine wpAnyH_all (rs := [5, 7]) (by kernel_rfl) (by simp) ?_
       refine all2 ?_ ?_
       ·
        refine wpOp_of_list rfl ?_
        refine vq 1 [.agg #[.int .i64 aProps, .slice A1 aAccept.length c2, .slice A5 aGuard.length c6, .slice A9 aNodes.length c10]] [(88, .agg #[.int .i64 aProps, .slice A1 aAccept.length c2, .slice A5 aGuard.length c6, .slice A9 aNodes.length c10])] [cellsAt w3374 g1477 (0) [.int .i64 aProps, .slice A1 aAccept.length c2, .slice A5 aGuard.length c6, .slice A9 aNodes.length c10]] E ((H.box 8 rfl).sub 0 _ rfl) ?_
        clear E; intro a E
        refine nl_ <| th_n ⟨HS3365, ?_⟩
        refine wpAnyH_all (rs := [7]) (by kernel_rfl) (by simp) ?_
        refine all1 ?_
        refine wpOp_of_list rfl ?_
        obtain ⟨Fa3381, Hc3382, hb3383⟩ := H.call [8] [(9, false), (10, false), (11, false), (12, false)] rfl rfl trivial
        refine e_call E rfl rfl Try.func41 rfl rfl rfl (ref21_Watch_State_calls g1477 A1 c2 A5 c6 A9 c10 A1480 c1481 aProps aAccept aGuard aNodes m1479 hk2805 hk2806 hk2807 hk2808 Hc3382 h3032) ?_
        intro v3389 w3388 a hR3390 E_
        obtain ⟨x_, hr_, rfl, HR3392⟩ := hR3390
        subst hr_
        replace E := E_ _ rfl; clear E_
        obtain ⟨H_, hc3391⟩ := hb3383 _ _ HR3392 rfl
        replace HS3365 := HS3365.trans hc3391 (fun k_ hk_ h_ => h_.elim (fun h_ => by have hs_ := HS3365.size; exfalso; omega) (fun h_ => h_.elim (fun h_ => (fun _ _ h_ => Or.inr (Or.inr (Or.inl h_))) k_ hk_ h_) (fun h_ => h_.elim)))
        replace H := H_; clear H_; try dsimp only [setn, addE, goneL] at H
        refine nl_ <| th_n ⟨HS3365, ?_⟩
        refine wpAnyH_all (rs := [8]) (by kernel_rfl) (by simp) ?_
        refine all1 ?_
        refine wpOp_of_list rfl ?_
        obtain ⟨Fa3394, Hc3395, hb3396⟩ := H.call [] [(9, false), (10, false), (11, false)] rfl rfl trivial
        refine e_call E rfl rfl Try.func40 rfl rfl rfl (ref21_Verdict_calls A1 c2 A5 c6 A9 c10 aProps aAccept aGuard aNodes r3031 hk2805 hk2806 hk2807 Hc3395 h3047) ?_
        rintro v3397 w3398 a ⟨rfl, HR3399⟩ E_
        replace E := E_ _ rfl; clear E_
        obtain ⟨H_, hc3400⟩ := hb3396 _ _ HR3399 rfl
        replace HS3365 := HS3365.ext (callS_ext hc3400)
        replace H := H_; clear H_; try dsimp only [setn, addE, goneL] at H
        refine nl_ <| th_n ⟨HS3365, ?_⟩
        refine dn tbok (by kernel_rfl) [9, 10] [] [(93, .bool ((r3015 : Int) == r3046))] (fun w_ => []) 17 E (fun _ _ => by kernel_rfl) (by kernel_rfl) (fun w_ hS_ => trivial) (by kernel_rfl) HS3365 ?_
        clear E; intro a E
        replace E := E.same (t := 93) (u := .bool true) rfl (congrArg Value.bool (beq_iff_eq.2 h3055))
        refine dn tbok (by kernel_rfl) [11, 13] [] [(94, .pointer (some ⟨g1465, 0, none⟩)), (96, .pointer (some ⟨g1477, 0, none⟩))] (fun w_ => []) 15 E (fun _ _ => by kernel_rfl) (by kernel_rfl) (fun w_ hS_ => trivial) (by kernel_rfl) HS3365 ?_
        clear E; intro a E
        refine wpAnyH_all (rs := [12]) (by kernel_rfl) (by simp) ?_
        refine all1 ?_
        refine wpOp_of_list rfl ?_
        obtain ⟨Fa3401, Hc3402, hb3403⟩ := H.call [17, 16] [(3, false)] rfl rfl ⟨flat_plain, trivial⟩
        refine e_call E rfl rfl Try.func13 rfl rfl rfl (watch_Watch_State_calls g1465 b92 0 A1468 c1469 x95.1 s1467  Hc3402 h3057) ?_
        intro v3409 w3408 a hR3410 E_
        obtain ⟨x_, hr_, rfl, HR3412⟩ := hR3410
        subst hr_
        replace E := E_ _ rfl; clear E_
        obtain ⟨H_, hc3411⟩ := hb3403 _ _ HR3412 rfl
        replace HS3365 := HS3365.trans hc3411 (fun k_ hk_ h_ => h_.elim (fun h_ => by have hs_ := HS3365.size; exfalso; omega) (fun h_ => h_.elim (fun h_ => (fun _ _ h_ => Or.inl h_) k_ hk_ h_) (fun h_ => h_.elim (fun h_ => (fun _ _ h_ => Or.inr (Or.inl h_)) k_ hk_ h_) (fun h_ => h_.elim))))
        replace H := H_; clear H_; try dsimp only [setn, addE, goneL] at H
        refine nl_ <| th_n ⟨HS3365, ?_⟩
        refine wpAnyH_all (rs := [14]) (by kernel_rfl) (by simp) ?_
        refine all1 ?_
        refine wpOp_of_list rfl ?_
        obtain ⟨Fa3415, Hc3416, hb3417⟩ := H.call [18] [(9, false), (10, false), (11, false), (12, false)] rfl rfl trivial
        refine e_call E rfl rfl Try.func41 rfl rfl rfl (ref21_Watch_State_calls g1477 A1 c2 A5 c6 A9 c10 A1480 c1481 aProps aAccept aGuard aNodes m1479 hk2805 hk2806 hk2807 hk2808 Hc3416 h3073) ?_
        intro v3423 w3422 a hR3424 E_
        obtain ⟨x_, hr_, rfl, HR3426⟩ := hR3424
        subst hr_
        replace E := E_ _ rfl; clear E_
        obtain ⟨H_, hc3425⟩ := hb3417 _ _ HR3426 rfl
        replace HS3365 := HS3365.trans hc3425 (fun k_ hk_ h_ => h_.elim (fun h_ => by have hs_ := HS3365.size; exfalso; omega) (fun h_ => h_.elim (fun h_ => (fun _ _ h_ => Or.inr (Or.inr (Or.inl h_))) k_ hk_ h_) (fun h_ => h_.elim)))
        replace H := H_; clear H_; try dsimp only [setn, addE, goneL] at H
        refine nl_ <| th_n ⟨HS3365, ?_⟩
        refine dn tbok (by kernel_rfl) [15, 16, 17] [] [(100, .bool ((r3056 : Int) == r3072))] (fun w_ => []) 10 E (fun _ _ => by kernel_rfl) (by kernel_rfl) (fun w_ hS_ => trivial) (by kernel_rfl) HS3365 ?_
        clear E; intro a E
        replace E := E.same (t := 100) (u := .bool false) rfl (congrArg Value.bool (beq_eq_false_iff_ne.2 h3087))
        refine dn tbok (by kernel_rfl) [18, 19, 20, 21, 22, 23, 24, 25, 26, 27] [] [(6, .bool false)] (fun w_ => []) 0 E (fun _ _ => by kernel_rfl) (by kernel_rfl) (fun w_ hS_ => trivial) (by kernel_rfl) HS3365 ?_
        clear E; intro a E
        refine dr_done (by kernel_rfl) ?_
        exact .inl ⟨rfl, E.pk, H.sel [0, 3, 19, 20, 6, 5, 1, 9, 10, 11, 12, 21, 14, 13, 7] rfl⟩
       refine wpOp_of_list rfl ?_
       obtain ⟨Fa3428, Hc3429, hb3430⟩ := H.call [8] [(9, false), (10, false), (11, false), (12, false)] rfl rfl trivial
       refine e_call E rfl rfl Try.func41 rfl rfl rfl (ref21_Watch_State_calls g1477 A1 c2 A5 c6 A9 c10 A1480 c1481 aProps aAccept aGuard aNodes m1479 hk2805 hk2806 hk2807 hk2808 Hc3429 h3032) ?_
       intro v3436 w3435 a hR3437 E_
       obtain ⟨x_, hr_, rfl, HR3439⟩ := hR3437
       subst hr_
       replace E := E_ _ rfl; clear E_
       obtain ⟨H_, hc3438⟩ := hb3430 _ _ HR3439 rfl
       replace HS3365 := HS3365.trans hc3438 (fun k_ hk_ h_ => h_.elim (fun h_ => by have hs_ := HS3365.size; exfalso; omega) (fun h_ => h_.elim (fun h_ => (fun _ _ h_ => Or.inr (Or.inr (Or.inl h_))) k_ hk_ h_) (fun h_ => h_.elim)))
       replace H := H_; clear H_; try dsimp only [setn, addE, goneL] at H
       refine nl_ <| th_n ⟨HS3365, ?_⟩
       refine wpAnyH_all (rs := [5]) (by kernel_rfl) (by simp) ?_
       refine all1 ?_
       refine wpOp_of_list rfl ?_
       refine vq 1 [.agg #[.int .i64 aProps, .slice A1 aAccept.length c2, .slice A5 aGuard.length c6, .slice A9 aNodes.length c10]] [(88, .agg #[.int .i64 aProps, .slice A1 aAccept.length c2, .slice A5 aGuard.length c6, .slice A9 aNodes.length c10])] [cellsAt w3435 g1477 (0) [.int .i64 aProps, .slice A1 aAccept.length c2, .slice A5 aGuard.length c6, .slice A9 aNodes.length c10]] E ((H.box 18 rfl).sub 0 _ rfl) ?_
       clear E; intro a E
       refine nl_ <| th_n ⟨HS3365, ?_⟩
       refine wpAnyH_all (rs := [8]) (by kernel_rfl) (by simp) ?_
       refine all1 ?_
       refine wpOp_of_list rfl ?_
       obtain ⟨Fa3441, Hc3442, hb3443⟩ := H.call [] [(9, false), (10, false), (11, false)] rfl rfl trivial
       refine e_call E rfl rfl Try.func40 rfl rfl rfl (ref21_Verdict_calls A1 c2 A5 c6 A9 c10 aProps aAccept aGuard aNodes r3031 hk2805 hk2806 hk2807 Hc3442 h3047) ?_
       rintro v3444 w3445 a ⟨rfl, HR3446⟩ E_
       replace E := E_ _ rfl; clear E_
       obtain ⟨H_, hc3447⟩ := hb3443 _ _ HR3446 rfl
       replace HS3365 := HS3365.ext (callS_ext hc3447)
       replace H := H_; clear H_; try dsimp only [setn, addE, goneL] at H
       refine nl_ <| th_n ⟨HS3365, ?_⟩
       refine dn tbok (by kernel_rfl) [9, 10] [] [(93, .bool ((r3015 : Int) == r3046))] (fun w_ => []) 17 E (fun _ _ => by kernel_rfl) (by kernel_rfl) (fun w_ hS_ => trivial) (by kernel_rfl) HS3365 ?_
       clear E; intro a E
       replace E := E.same (t := 93) (u := .bool true) rfl (congrArg Value.bool (beq_iff_eq.2 h3055))
       refine dn tbok (by kernel_rfl) [11, 13] [] [(94, .pointer (some ⟨g1465, 0, none⟩)), (96, .pointer (some ⟨g1477, 0, none⟩))] (fun w_ => []) 15 E (fun _ _ => by kernel_rfl) (by kernel_rfl) (fun w_ hS_ => trivial) (by kernel_rfl) HS3365 ?_
       clear E; intro a E
       refine wpAnyH_all (rs := [12]) (by kernel_rfl) (by simp) ?_
       refine all1 ?_
       refine wpOp_of_list rfl ?_
       obtain ⟨Fa3448, Hc3449, hb3450⟩ := H.call [17, 16] [(3, false)] rfl rfl ⟨flat_plain, trivial⟩
       refine e_call E rfl rfl Try.func13 rfl rfl rfl (watch_Watch_State_calls g1465 b92 0 A1468 c1469 x95.1 s1467  Hc3449 h3057) ?_
       intro v3456 w3455 a hR3457 E_
       obtain ⟨x_, hr_, rfl, HR3459⟩ := hR3457
       subst hr_
       replace E := E_ _ rfl; clear E_
       obtain ⟨H_, hc3458⟩ := hb3450 _ _ HR3459 rfl
       replace HS3365 := HS3365.trans hc3458 (fun k_ hk_ h_ => h_.elim (fun h_ => by have hs_ := HS3365.size; exfalso; omega) (fun h_ => h_.elim (fun h_ => (fun _ _ h_ => Or.inl h_) k_ hk_ h_) (fun h_ => h_.elim (fun h_ => (fun _ _ h_ => Or.inr (Or.inl h_)) k_ hk_ h_) (fun h_ => h_.elim))))
       replace H := H_; clear H_; try dsimp only [setn, addE, goneL] at H
       refine nl_ <| th_n ⟨HS3365, ?_⟩
       refine wpAnyH_all (rs := [14]) (by kernel_rfl) (by simp) ?_
       refine all1 ?_
       refine wpOp_of_list rfl ?_
       obtain ⟨Fa3462, Hc3463, hb3464⟩ := H.call [18] [(9, false), (10, false), (11, false), (12, false)] rfl rfl trivial
       refine e_call E rfl rfl Try.func41 rfl rfl rfl (ref21_Watch_State_calls g1477 A1 c2 A5 c6 A9 c10 A1480 c1481 aProps aAccept aGuard aNodes m1479 hk2805 hk2806 hk2807 hk2808 Hc3463 h3073) ?_
       intro v3470 w3469 a hR3471 E_
       obtain ⟨x_, hr_, rfl, HR3473⟩ := hR3471
       subst hr_
       replace E := E_ _ rfl; clear E_
       obtain ⟨H_, hc3472⟩ := hb3464 _ _ HR3473 rfl
       replace HS3365 := HS3365.trans hc3472 (fun k_ hk_ h_ => h_.elim (fun h_ => by have hs_ := HS3365.size; exfalso; omega) (fun h_ => h_.elim (fun h_ => (fun _ _ h_ => Or.inr (Or.inr (Or.inl h_))) k_ hk_ h_) (fun h_ => h_.elim)))
       replace H := H_; clear H_; try dsimp only [setn, addE, goneL] at H
       refine nl_ <| th_n ⟨HS3365, ?_⟩
       refine dn tbok (by kernel_rfl) [15, 16, 17] [] [(100, .bool ((r3056 : Int) == r3072))] (fun w_ => []) 10 E (fun _ _ => by kernel_rfl) (by kernel_rfl) (fun w_ hS_ => trivial) (by kernel_rfl) HS3365 ?_
       clear E; intro a E
       replace E := E.same (t := 100) (u := .bool false) rfl (congrArg Value.bool (beq_eq_false_iff_ne.2 h3087))
       refine dn tbok (by kernel_rfl) [18, 19, 20, 21, 22, 23, 24, 25, 26, 27] [] [(6, .bool false)] (fun w_ => []) 0 E (fun _ _ => by kernel_rfl) (by kernel_rfl) (fun w_ hS_ => trivial) (by kernel_rfl) HS3365 ?_
       clear E; intro a E
       refine dr_done (by kernel_rfl) ?_
       exact .inl ⟨rfl, E.pk, H.sel [0, 3, 19, 20, 6, 5, 1, 9, 10, 11, 12, 21, 14, 13, 7] rfl⟩
      refine wpOp_of_list rfl ?_
      refine vq 1 [.agg #[.int .i64 aProps, .slice A1 aAccept.length c2, .slice A5 aGuard.length c6, .slice A9 aNodes.length c10]] [(88, .agg #[.int .i64 aProps, .slice A1 aAccept.length c2, .slice A5 aGuard.length c6, .slice A9 aNodes.length c10])] [cellsAt w3363 g1477 (0) [.int .i64 aProps, .slice A1 aAccept.length c2, .slice A5 aGuard.length c6, .slice A9 aNodes.length c10]] E ((H.box 8 rfl).sub 0 _ rfl) ?_
      clear E; intro a E
      refine nl_ <| th_n ⟨HS3365, ?_⟩
      refine wpAnyH_all (rs := [1]) (by kernel_rfl) (by simp) ?_
      refine all1 ?_
      refine wpOp_of_list rfl ?_
      obtain ⟨Fa3475, Hc3476, hb3477⟩ := H.call [2, 4] [(3, false)] rfl rfl ⟨flat_plain, trivial⟩
      refine e_call E rfl rfl Try.func12 rfl rfl rfl (watch_Watch_Verdict_calls g1465 b92 0 A1468 c1469 x95.1 s1467  Hc3476 h3016) ?_
      intro v3483 w3482 a hR3484 E_
      obtain ⟨x_, hr_, rfl, HR3486⟩ := hR3484
      subst hr_
      replace E := E_ _ rfl; clear E_
      obtain ⟨H_, hc3485⟩ := hb3477 _ _ HR3486 rfl
      replace HS3365 := HS3365.trans hc3485 (fun k_ hk_ h_ => h_.elim (fun h_ => by have hs_ := HS3365.size; exfalso; omega) (fun h_ => h_.elim (fun h_ => (fun _ _ h_ => Or.inl h_) k_ hk_ h_) (fun h_ => h_.elim (fun h_ => (fun _ _ h_ => Or.inr (Or.inl h_)) k_ hk_ h_) (fun h_ => h_.elim))))
      replace H := H_; clear H_; try dsimp only [setn, addE, goneL] at H
      refine nl_ <| th_n ⟨HS3365, ?_⟩
      refine wpAnyH_all (rs := [7]) (by kernel_rfl) (by simp) ?_
      refine all1 ?_
      refine wpOp_of_list rfl ?_
      obtain ⟨Fa3489, Hc3490, hb3491⟩ := H.call [8] [(9, false), (10, false), (11, false), (12, false)] rfl rfl trivial
      refine e_call E rfl rfl Try.func41 rfl rfl rfl (ref21_Watch_State_calls g1477 A1 c2 A5 c6 A9 c10 A1480 c1481 aProps aAccept aGuard aNodes m1479 hk2805 hk2806 hk2807 hk2808 Hc3490 h3032) ?_
      intro v3497 w3496 a hR3498 E_
      obtain ⟨x_, hr_, rfl, HR3500⟩ := hR3498
      subst hr_
      replace E := E_ _ rfl; clear E_
      obtain ⟨H_, hc3499⟩ := hb3491 _ _ HR3500 rfl
      replace HS3365 := HS3365.trans hc3499 (fun k_ hk_ h_ => h_.elim (fun h_ => by have hs_ := HS3365.size; exfalso; omega) (fun h_ => h_.elim (fun h_ => (fun _ _ h_ => Or.inr (Or.inr (Or.inl h_))) k_ hk_ h_) (fun h_ => h_.elim)))
      replace H := H_; clear H_; try dsimp only [setn, addE, goneL] at H
      refine nl_ <| th_n ⟨HS3365, ?_⟩
      refine wpAnyH_all (rs := [8]) (by kernel_rfl) (by simp) ?_
      refine all1 ?_
      refine wpOp_of_list rfl ?_
      obtain ⟨Fa3502, Hc3503, hb3504⟩ := H.call [] [(9, false), (10, false), (11, false)] rfl rfl trivial
      refine e_call E rfl rfl Try.func40 rfl rfl rfl (ref21_Verdict_calls A1 c2 A5 c6 A9 c10 aProps aAccept aGuard aNodes r3031 hk2805 hk2806 hk2807 Hc3503 h3047) ?_
      rintro v3505 w3506 a ⟨rfl, HR3507⟩ E_
      replace E := E_ _ rfl; clear E_
      obtain ⟨H_, hc3508⟩ := hb3504 _ _ HR3507 rfl
      replace HS3365 := HS3365.ext (callS_ext hc3508)
      replace H := H_; clear H_; try dsimp only [setn, addE, goneL] at H
      refine nl_ <| th_n ⟨HS3365, ?_⟩
      refine dn tbok (by kernel_rfl) [9, 10] [] [(93, .bool ((r3015 : Int) == r3046))] (fun w_ => []) 17 E (fun _ _ => by kernel_rfl) (by kernel_rfl) (fun w_ hS_ => trivial) (by kernel_rfl) HS3365 ?_
      clear E; intro a E
      replace E := E.same (t := 93) (u := .bool true) rfl (congrArg Value.bool (beq_iff_eq.2 h3055))
      refine dn tbok (by kernel_rfl) [11, 13] [] [(94, .pointer (some ⟨g1465, 0, none⟩)), (96, .pointer (some ⟨g1477, 0, none⟩))] (fun w_ => []) 15 E (fun _ _ => by kernel_rfl) (by kernel_rfl) (fun w_ hS_ => trivial) (by kernel_rfl) HS3365 ?_
      clear E; intro a E
      refine wpAnyH_all (rs := [12]) (by kernel_rfl) (by simp) ?_
      refine all1 ?_
      refine wpOp_of_list rfl ?_
      obtain ⟨Fa3509, Hc3510, hb3511⟩ := H.call [17, 16] [(3, false)] rfl rfl ⟨flat_plain, trivial⟩
      refine e_call E rfl rfl Try.func13 rfl rfl rfl (watch_Watch_State_calls g1465 b92 0 A1468 c1469 x95.1 s1467  Hc3510 h3057) ?_
      intro v3517 w3516 a hR3518 E_
      obtain ⟨x_, hr_, rfl, HR3520⟩ := hR3518
      subst hr_
      replace E := E_ _ rfl; clear E_
      obtain ⟨H_, hc3519⟩ := hb3511 _ _ HR3520 rfl
      replace HS3365 := HS3365.trans hc3519 (fun k_ hk_ h_ => h_.elim (fun h_ => by have hs_ := HS3365.size; exfalso; omega) (fun h_ => h_.elim (fun h_ => (fun _ _ h_ => Or.inl h_) k_ hk_ h_) (fun h_ => h_.elim (fun h_ => (fun _ _ h_ => Or.inr (Or.inl h_)) k_ hk_ h_) (fun h_ => h_.elim))))
      replace H := H_; clear H_; try dsimp only [setn, addE, goneL] at H
      refine nl_ <| th_n ⟨HS3365, ?_⟩
      refine wpAnyH_all (rs := [14]) (by kernel_rfl) (by simp) ?_
      refine all1 ?_
      refine wpOp_of_list rfl ?_
      obtain ⟨Fa3523, Hc3524, hb3525⟩ := H.call [18] [(9, false), (10, false), (11, false), (12, false)] rfl rfl trivial
      refine e_call E rfl rfl Try.func41 rfl rfl rfl (ref21_Watch_State_calls g1477 A1 c2 A5 c6 A9 c10 A1480 c1481 aProps aAccept aGuard aNodes m1479 hk2805 hk2806 hk2807 hk2808 Hc3524 h3073) ?_
      intro v3531 w3530 a hR3532 E_
      obtain ⟨x_, hr_, rfl, HR3534⟩ := hR3532
      subst hr_
      replace E := E_ _ rfl; clear E_
      obtain ⟨H_, hc3533⟩ := hb3525 _ _ HR3534 rfl
      replace HS3365 := HS3365.trans hc3533 (fun k_ hk_ h_ => h_.elim (fun h_ => by have hs_ := HS3365.size; exfalso; omega) (fun h_ => h_.elim (fun h_ => (fun _ _ h_ => Or.inr (Or.inr (Or.inl h_))) k_ hk_ h_) (fun h_ => h_.elim)))
      replace H := H_; clear H_; try dsimp only [setn, addE, goneL] at H
      refine nl_ <| th_n ⟨HS3365, ?_⟩
      refine dn tbok (by kernel_rfl) [15, 16, 17] [] [(100, .bool ((r3056 : Int) == r3072))] (fun w_ => []) 10 E (fun _ _ => by kernel_rfl) (by kernel_rfl) (fun w_ hS_ => trivial) (by kernel_rfl) HS3365 ?_
      clear E; intro a E
      replace E := E.same (t := 100) (u := .bool false) rfl (congrArg Value.bool (beq_eq_false_iff_ne.2 h3087))
      refine dn tbok (by kernel_rfl) [18, 19, 20, 21, 22, 23, 24, 25, 26, 27] [] [(6, .bool false)] (fun w_ => []) 0 E (fun _ _ => by kernel_rfl) (by kernel_rfl) (fun w_ hS_ => trivial) (by kernel_rfl) HS3365 ?_
      clear E; intro a E
      refine dr_done (by kernel_rfl) ?_
      exact .inl ⟨rfl, E.pk, H.sel [0, 3, 19, 20, 6, 5, 1, 9, 10, 11, 12, 21, 14, 13, 7] rfl⟩
     clear E H; rintro a w3362 ⟨E, H⟩
     have hx_ := Option.some.inj hP
     exact .inl ⟨rfl, false, E.pk, H.sel (up 15) rfl, hx_.symm⟩
    replace hP := ite_f h3055 hP
    refine meet_cut (fun a w3536 => Fr a 165 [(6, .bool false)] ∧ Hp S Fa w0 w3536 [.ro false cS70 (some ⟨b2175, o2176, none⟩) script, .ro true cS78 (some ⟨b92, 0, none⟩) ([x95.1]), .row true (cInt .i64) 3 A1468 c1469 s1467, .box g1465 27 [.pointer (some ⟨b92, 0, none⟩), .slice A1468 s1467.length c1469], .row true (cInt .i64) 3 A1474 c1475 s1473, .box g1471 27 [.pointer (some ⟨b92, 0, none⟩), .slice A1474 s1473.length c1475], .box g773 23 [.pointer (some ⟨g1465, 0, none⟩), .pointer (some ⟨g1471, 0, none⟩)], .ro false cBool A1 aAccept, .ro false (cInt .i64) A5 aGuard, .ro false cNode A9 aNodes, .ro false (cInt .u8) A1480 m1479, .box g1477 67 [.int .i64 aProps, .slice A1 aAccept.length c2, .slice A5 aGuard.length c6, .slice A9 aNodes.length c10, .slice A1480 m1479.length c1481], .ro false (cInt .u8) A1487 m1486, .box g1484 67 [.int .i64 aProps, .slice A1 aAccept.length c2, .slice A5 aGuard.length c6, .slice A9 aNodes.length c10, .slice A1487 m1486.length c1488], .box g783 62 [.pointer (some ⟨g1477, 0, none⟩), .pointer (some ⟨g1484, 0, none⟩)]]) ?_ ?_
    ·
     have HR3540 := H
     refine dr_start (S := fun w_ => Chg (atL [.box g1465 27 [.pointer (some ⟨b92, 0, none⟩), .slice A1468 s1467.length c1469], .row true (cInt .i64) 3 A1468 c1469 s1467, .box g1477 67 [.int .i64 aProps, .slice A1 aAccept.length c2, .slice A5 aGuard.length c6, .slice A9 aNodes.length c10, .slice A1480 m1479.length c1481]]) w2817 w_) (by kernel_rfl) ?_
     intro w3537 hc3538
     have HS3539 : Chg (atL [.box g1465 27 [.pointer (some ⟨b92, 0, none⟩), .slice A1468 s1467.length c1469], .row true (cInt .i64) 3 A1468 c1469 s1467, .box g1477 67 [.int .i64 aProps, .slice A1 aAccept.length c2, .slice A5 aGuard.length c6, .slice A9 aNodes.length c10, .slice A1480 m1479.length c1481]]) w2817 w3537 := hc3538.mono (fun _ _ h_ => h_.elim)
     replace H := H.ext hc3538
     refine dn tbok (by kernel_rfl) [0, 2, 3, 4, 6] [] [(83, .pointer (some ⟨g1465, 0, none⟩)), (87, .pointer (some ⟨g1477, 0, none⟩)), (89, .pointer (some ⟨g1477, 0, none⟩))] (fun w_ => []) 23 E (fun _ _ => by kernel_rfl) (by kernel_rfl) (fun w_ hS_ => trivial) (by kernel_rfl) HS3539 ?_
     clear E; intro a E
     refine wpAnyH_all (rs := [1, 5]) (by kernel_rfl) (by simp) ?_
     refine all2 ?_ ?_
     ·
      refine wpOp_of_list rfl ?_
      obtain ⟨Fa3541, Hc3542, hb3543⟩ := H.call [2, 4] [(3, false)] rfl rfl ⟨flat_plain, trivial⟩
      refine e_call E rfl rfl Try.func12 rfl rfl rfl (watch_Watch_Verdict_calls g1465 b92 0 A1468 c1469 x95.1 s1467  Hc3542 h3016) ?_
      intro v3549 w3548 a hR3550 E_
      obtain ⟨x_, hr_, rfl, HR3552⟩ := hR3550
      subst hr_
      replace E := E_ _ rfl; clear E_
      obtain ⟨H_, hc3551⟩ := hb3543 _ _ HR3552 rfl
      replace HS3539 := HS3539.trans hc3551 (fun k_ hk_ h_ => h_.elim (fun h_ => by have hs_ := HS3539.size; exfalso; omega) (fun h_ => h_.elim (fun h_ => (fun _ _ h_ => Or.inl h_) k_ hk_ h_) (fun h_ => h_.elim (fun h_ => (fun _ _ h_ => Or.inr (Or.inl h_)) k_ hk_ h_) (fun h_ => h_.elim))))
      replace H := H_; clear H_; try dsimp only [setn, addE, goneL] at H
      refine nl_ <| th_n ⟨HS3539, ?_⟩
      refine wpAnyH_all (rs := [5, 7]) (by kernel_rfl) (by simp) ?_
      refine all2 ?_ ?_
      ·
       refine wpOp_of_list rfl ?_
       refine vq 1 [.agg #[.int .i64 aProps, .slice A1 aAccept.length c2, .slice A5 aGuard.length c6, .slice A9 aNodes.length c10]] [(88, .agg #[.int .i64 aProps, .slice A1 aAccept.length c2, .slice A5 aGuard.length c6, .slice A9 aNodes.length c10])] [cellsAt w3548 g1477 (0) [.int .i64 aProps, .slice A1 aAccept.length c2, .slice A5 aGuard.length c6, .slice A9 aNodes.length c10]] E ((H.box 8 rfl).sub 0 _ rfl) ?_
       clear E; intro a E
       refine nl_ <| th_n ⟨HS3539, ?_⟩
       refine wpAnyH_all (rs := [7]) (by kernel_rfl) (by simp) ?_
       refine all1 ?_
       refine wpOp_of_list rfl ?_
       obtain ⟨Fa3555, Hc3556, hb3557⟩ := H.call [8] [(9, false), (10, false), (11, false), (12, false)] rfl rfl trivial
       refine e_call E rfl rfl Try.func41 rfl rfl rfl (ref21_Watch_State_calls g1477 A1 c2 A5 c6 A9 c10 A1480 c1481 aProps aAccept aGuard aNodes m1479 hk2805 hk2806 hk2807 hk2808 Hc3556 h3032) ?_
       intro v3563 w3562 a hR3564 E_
       obtain ⟨x_, hr_, rfl, HR3566⟩ := hR3564
       subst hr_
       replace E := E_ _ rfl; clear E_
       obtain ⟨H_, hc3565⟩ := hb3557 _ _ HR3566 rfl
       replace HS3539 := HS3539.trans hc3565 (fun k_ hk_ h_ => h_.elim (fun h_ => by have hs_ := HS3539.size; exfalso; omega) (fun h_ => h_.elim (fun h_ => (fun _ _ h_ => Or.inr (Or.inr (Or.inl h_))) k_ hk_ h_) (fun h_ => h_.elim)))
       replace H := H_; clear H_; try dsimp only [setn, addE, goneL] at H
       refine nl_ <| th_n ⟨HS3539, ?_⟩
       refine wpAnyH_all (rs := [8]) (by kernel_rfl) (by simp) ?_
       refine all1 ?_
       refine wpOp_of_list rfl ?_
       obtain ⟨Fa3568, Hc3569, hb3570⟩ := H.call [] [(9, false), (10, false), (11, false)] rfl rfl trivial
       refine e_call E rfl rfl Try.func40 rfl rfl rfl (ref21_Verdict_calls A1 c2 A5 c6 A9 c10 aProps aAccept aGuard aNodes r3031 hk2805 hk2806 hk2807 Hc3569 h3047) ?_
       rintro v3571 w3572 a ⟨rfl, HR3573⟩ E_
       replace E := E_ _ rfl; clear E_
       obtain ⟨H_, hc3574⟩ := hb3570 _ _ HR3573 rfl
       replace HS3539 := HS3539.ext (callS_ext hc3574)
       replace H := H_; clear H_; try dsimp only [setn, addE, goneL] at H
       refine nl_ <| th_n ⟨HS3539, ?_⟩
       refine dn tbok (by kernel_rfl) [9, 10] [] [(93, .bool ((r3015 : Int) == r3046))] (fun w_ => []) 17 E (fun _ _ => by kernel_rfl) (by kernel_rfl) (fun w_ hS_ => trivial) (by kernel_rfl) HS3539 ?_
       clear E; intro a E
       replace E := E.same (t := 93) (u := .bool false) rfl (congrArg Value.bool (beq_eq_false_iff_ne.2 h3055))
       refine dn tbok (by kernel_rfl) [11, 12, 13, 14, 15, 16, 17, 18, 19, 20, 21, 22, 23, 24, 25, 26, 27] [] [(6, .bool false)] (fun w_ => []) 0 E (fun _ _ => by kernel_rfl) (by kernel_rfl) (fun w_ hS_ => trivial) (by kernel_rfl) HS3539 ?_
       clear E; intro a E
       refine dr_done (by kernel_rfl) ?_
       exact .inl ⟨rfl, E.pk, H.sel [0, 3, 16, 17, 6, 5, 1, 9, 10, 11, 12, 18, 14, 13, 7] rfl⟩
      refine wpOp_of_list rfl ?_
      obtain ⟨Fa3575, Hc3576, hb3577⟩ := H.call [8] [(9, false), (10, false), (11, false), (12, false)] rfl rfl trivial
      refine e_call E rfl rfl Try.func41 rfl rfl rfl (ref21_Watch_State_calls g1477 A1 c2 A5 c6 A9 c10 A1480 c1481 aProps aAccept aGuard aNodes m1479 hk2805 hk2806 hk2807 hk2808 Hc3576 h3032) ?_
      intro v3583 w3582 a hR3584 E_
      obtain ⟨x_, hr_, rfl, HR3586⟩ := hR3584
      subst hr_
      replace E := E_ _ rfl; clear E_
      obtain ⟨H_, hc3585⟩ := hb3577 _ _ HR3586 rfl
      replace HS3539 := HS3539.trans hc3585 (fun k_ hk_ h_ => h_.elim (fun h_ => by have hs_ := HS3539.size; exfalso; omega) (fun h_ => h_.elim (fun h_ => (fun _ _ h_ => Or.inr (Or.inr (Or.inl h_))) k_ hk_ h_) (fun h_ => h_.elim)))
      replace H := H_; clear H_; try dsimp only [setn, addE, goneL] at H
      refine nl_ <| th_n ⟨HS3539, ?_⟩
      refine wpAnyH_all (rs := [5]) (by kernel_rfl) (by simp) ?_
      refine all1 ?_
      refine wpOp_of_list rfl ?_
      refine vq 1 [.agg #[.int .i64 aProps, .slice A1 aAccept.length c2, .slice A5 aGuard.length c6, .slice A9 aNodes.length c10]] [(88, .agg #[.int .i64 aProps, .slice A1 aAccept.length c2, .slice A5 aGuard.length c6, .slice A9 aNodes.length c10])] [cellsAt w3582 g1477 (0) [.int .i64 aProps, .slice A1 aAccept.length c2, .slice A5 aGuard.length c6, .slice A9 aNodes.length c10]] E ((H.box 18 rfl).sub 0 _ rfl) ?_
      clear E; intro a E
      refine nl_ <| th_n ⟨HS3539, ?_⟩
      refine wpAnyH_all (rs := [8]) (by kernel_rfl) (by simp) ?_
      refine all1 ?_
      refine wpOp_of_list rfl ?_
      obtain ⟨Fa3588, Hc3589, hb3590⟩ := H.call [] [(9, false), (10, false), (11, false)] rfl rfl trivial
      refine e_call E rfl rfl Try.func40 rfl rfl rfl (ref21_Verdict_calls A1 c2 A5 c6 A9 c10 aProps aAccept aGuard aNodes r3031 hk2805 hk2806 hk2807 Hc3589 h3047) ?_
      rintro v3591 w3592 a ⟨rfl, HR3593⟩ E_
      replace E := E_ _ rfl; clear E_
      obtain ⟨H_, hc3594⟩ := hb3590 _ _ HR3593 rfl
      replace HS3539 := HS3539.ext (callS_ext hc3594)
      replace H := H_; clear H_; try dsimp only [setn, addE, goneL] at H
      refine nl_ <| th_n ⟨HS3539, ?_⟩
      refine dn tbok (by kernel_rfl) [9, 10] [] [(93, .bool ((r3015 : Int) == r3046))] (fun w_ => []) 17 E (fun _ _ => by kernel_rfl) (by kernel_rfl) (fun w_ hS_ => trivial) (by kernel_rfl) HS3539 ?_
      clear E; intro a E
      replace E := E.same (t := 93) (u := .bool false) rfl (congrArg Value.bool (beq_eq_false_iff_ne.2 h3055))
      refine dn tbok (by kernel_rfl) [11, 12, 13, 14, 15, 16, 17, 18, 19, 20, 21, 22, 23, 24, 25, 26, 27] [] [(6, .bool false)] (fun w_ => []) 0 E (fun _ _ => by kernel_rfl) (by kernel_rfl) (fun w_ hS_ => trivial) (by kernel_rfl) HS3539 ?_
      clear E; intro a E
      refine dr_done (by kernel_rfl) ?_
      exact .inl ⟨rfl, E.pk, H.sel [0, 3, 16, 17, 6, 5, 1, 9, 10, 11, 12, 18, 14, 13, 7] rfl⟩
     refine wpOp_of_list rfl ?_
     refine vq 1 [.agg #[.int .i64 aProps, .slice A1 aAccept.length c2, .slice A5 aGuard.length c6, .slice A9 aNodes.length c10]] [(88, .agg #[.int .i64 aProps, .slice A1 aAccept.length c2, .slice A5 aGuard.length c6, .slice A9 aNodes.length c10])] [cellsAt w3537 g1477 (0) [.int .i64 aProps, .slice A1 aAccept.length c2, .slice A5 aGuard.length c6, .slice A9 aNodes.length c10]] E ((H.box 8 rfl).sub 0 _ rfl) ?_
     clear E; intro a E
     refine nl_ <| th_n ⟨HS3539, ?_⟩
     refine wpAnyH_all (rs := [1]) (by kernel_rfl) (by simp) ?_
     refine all1 ?_
     refine wpOp_of_list rfl ?_
     obtain ⟨Fa3595, Hc3596, hb3597⟩ := H.call [2, 4] [(3, false)] rfl rfl ⟨flat_plain, trivial⟩
     refine e_call E rfl rfl Try.func12 rfl rfl rfl (watch_Watch_Verdict_calls g1465 b92 0 A1468 c1469 x95.1 s1467  Hc3596 h3016) ?_
     intro v3603 w3602 a hR3604 E_
     obtain ⟨x_, hr_, rfl, HR3606⟩ := hR3604
     subst hr_
     replace E := E_ _ rfl; clear E_
     obtain ⟨H_, hc3605⟩ := hb3597 _ _ HR3606 rfl
     replace HS3539 := HS3539.trans hc3605 (fun k_ hk_ h_ => h_.elim (fun h_ => by have hs_ := HS3539.size; exfalso; omega) (fun h_ => h_.elim (fun h_ => (fun _ _ h_ => Or.inl h_) k_ hk_ h_) (fun h_ => h_.elim (fun h_ => (fun _ _ h_ => Or.inr (Or.inl h_)) k_ hk_ h_) (fun h_ => h_.elim))))
     replace H := H_; clear H_; try dsimp only [setn, addE, goneL] at H
     refine nl_ <| th_n ⟨HS3539, ?_⟩
     refine wpAnyH_all (rs := [7]) (by kernel_rfl) (by simp) ?_
     refine all1 ?_
     refine wpOp_of_list rfl ?_
     obtain ⟨Fa3609, Hc3610, hb3611⟩ := H.call [8] [(9, false), (10, false), (11, false), (12, false)] rfl rfl trivial
     refine e_call E rfl rfl Try.func41 rfl rfl rfl (ref21_Watch_State_calls g1477 A1 c2 A5 c6 A9 c10 A1480 c1481 aProps aAccept aGuard aNodes m1479 hk2805 hk2806 hk2807 hk2808 Hc3610 h3032) ?_
     intro v3617 w3616 a hR3618 E_
     obtain ⟨x_, hr_, rfl, HR3620⟩ := hR3618
     subst hr_
     replace E := E_ _ rfl; clear E_
     obtain ⟨H_, hc3619⟩ := hb3611 _ _ HR3620 rfl
     replace HS3539 := HS3539.trans hc3619 (fun k_ hk_ h_ => h_.elim (fun h_ => by have hs_ := HS3539.size; exfalso; omega) (fun h_ => h_.elim (fun h_ => (fun _ _ h_ => Or.inr (Or.inr (Or.inl h_))) k_ hk_ h_) (fun h_ => h_.elim)))
     replace H := H_; clear H_; try dsimp only [setn, addE, goneL] at H
     refine nl_ <| th_n ⟨HS3539, ?_⟩
     refine wpAnyH_all (rs := [8]) (by kernel_rfl) (by simp) ?_
     refine all1 ?_
     refine wpOp_of_list rfl ?_
     obtain ⟨Fa3622, Hc3623, hb3624⟩ := H.call [] [(9, false), (10, false), (11, false)] rfl rfl trivial
     refine e_call E rfl rfl Try.func40 rfl rfl rfl (ref21_Verdict_calls A1 c2 A5 c6 A9 c10 aProps aAccept aGuard aNodes r3031 hk2805 hk2806 hk2807 Hc3623 h3047) ?_
     rintro v3625 w3626 a ⟨rfl, HR3627⟩ E_
     replace E := E_ _ rfl; clear E_
     obtain ⟨H_, hc3628⟩ := hb3624 _ _ HR3627 rfl
     replace HS3539 := HS3539.ext (callS_ext hc3628)
     replace H := H_; clear H_; try dsimp only [setn, addE, goneL] at H
     refine nl_ <| th_n ⟨HS3539, ?_⟩
     refine dn tbok (by kernel_rfl) [9, 10] [] [(93, .bool ((r3015 : Int) == r3046))] (fun w_ => []) 17 E (fun _ _ => by kernel_rfl) (by kernel_rfl) (fun w_ hS_ => trivial) (by kernel_rfl) HS3539 ?_
     clear E; intro a E
     replace E := E.same (t := 93) (u := .bool false) rfl (congrArg Value.bool (beq_eq_false_iff_ne.2 h3055))
     refine dn tbok (by kernel_rfl) [11, 12, 13, 14, 15, 16, 17, 18, 19, 20, 21, 22, 23, 24, 25, 26, 27] [] [(6, .bool false)] (fun w_ => []) 0 E (fun _ _ => by kernel_rfl) (by kernel_rfl) (fun w_ hS_ => trivial) (by kernel_rfl) HS3539 ?_
     clear E; intro a E
     refine dr_done (by kernel_rfl) ?_
     exact .inl ⟨rfl, E.pk, H.sel [0, 3, 16, 17, 6, 5, 1, 9, 10, 11, 12, 18, 14, 13, 7] rfl⟩
    clear E H; rintro a w3536 ⟨E, H⟩
    have hx_ := Option.some.inj hP
    exact .inl ⟨rfl, false, E.pk, H.sel (up 15) rfl, hx_.symm⟩
   clear E H h3011; rintro a w3014 ⟨x3013, E, H, hx_⟩
   subst hx_; have hP := hK3012; clear hK3012
   refine th_n <| wp_ret <| bl_ret <| th_ret ?_
   have hx_ := Option.some.inj hP
   refine ret1 E rfl rfl ?_
   exact ⟨_, rfl, (x3010, s1467, s1473, m1479, m1486), g1465, A1468, c1469, g1471, A1474, c1475, g1477, A1480, c1481, g1484, A1487, c1488, rfl, H.sel [0, 6, 3, 1, 2, 5, 4, 14, 11, 7, 8, 9, 10, 13, 12] rfl, hk2808, hk2809, hx_.symm⟩
  have h3629 : ¬ (((List.getD script i1490.toNat (0, 0, 0)).1 : Int) = 2) := ne_of_beq_false hb_
  replace hP := ite_f h3629 hP
  refine c_false E rfl <| sr_ <| vp 2 [(110, .bool (((List.getD script i1490.toNat (0, 0, 0)).1 : Int) == 3))] E ?_
  clear E; intro a E
  refine nn_ ?_
  revert E; refine csE 110 rfl (fun hb_ E => ?_) fun hb_ E => ?_
  ·
   have h3630 : ((List.getD script i1490.toNat (0, 0, 0)).1 : Int) = 3 := eq_of_beq hb_
   replace hP := ite_t h3630 hP
   refine c_true E rfl <| sr_ <| vp 1 [(113, .pointer (some ⟨g1465, 0, none⟩))] E ?_
   clear E; intro a E
   obtain ⟨r3631, h3632, hP⟩ := bind_inv hP
   obtain ⟨Fa3633, Hc3634, hb3635⟩ := H.call [2, 4] [(3, false)] rfl rfl ⟨flat_plain, trivial⟩
   refine e_call E rfl rfl Try.func11 rfl rfl rfl (watch_Watch_Off_calls g1465 b92 0 A1468 c1469 x95.1 s1467  Hc3634 h3632) ?_
   intro v3641 w3640 a hR3642 E_
   obtain ⟨x_, hr_, rfl, HR3644⟩ := hR3642
   subst hr_
   replace E := E_ _ rfl; clear E_
   obtain ⟨H_, hc3643⟩ := hb3635 _ _ HR3644 rfl
   replace H := H_; clear H_; try dsimp only [setn, addE, goneL] at H
   refine vp 5 [(18, .int .i64 r3631.1), (19, .int .i64 r3631.2)] E ?_
   clear E; intro a E
   refine nn_ <| wp_seq ?_
   obtain ⟨r3647, h3648, hP⟩ := bind_inv hP
   obtain ⟨r3662, h3663, hP⟩ := bind_inv hP
   refine meet_cut (fun a w3671 => Fr a 165 [(18, .int .i64 r3631.1), (19, .int .i64 r3631.2), (20, .int .i64 r3662.1), (21, .int .i64 r3662.2)] ∧ Hp S Fa w0 w3671 [.ro false cS70 (some ⟨b2175, o2176, none⟩) script, .ro true cS78 (some ⟨b92, 0, none⟩) ([x95.1]), .row true (cInt .i64) 3 A1468 c1469 s1467, .box g1465 27 [.pointer (some ⟨b92, 0, none⟩), .slice A1468 s1467.length c1469], .row true (cInt .i64) 3 A1474 c1475 s1473, .box g1471 27 [.pointer (some ⟨b92, 0, none⟩), .slice A1474 s1473.length c1475], .box g773 23 [.pointer (some ⟨g1465, 0, none⟩), .pointer (some ⟨g1471, 0, none⟩)], .ro false cBool A1 aAccept, .ro false (cInt .i64) A5 aGuard, .ro false cNode A9 aNodes, .ro false (cInt .u8) A1480 m1479, .box g1477 67 [.int .i64 aProps, .slice A1 aAccept.length c2, .slice A5 aGuard.length c6, .slice A9 aNodes.length c10, .slice A1480 m1479.length c1481], .ro false (cInt .u8) A1487 m1486, .box g1484 67 [.int .i64 aProps, .slice A1 aAccept.length c2, .slice A5 aGuard.length c6, .slice A9 aNodes.length c10, .slice A1487 m1486.length c1488], .box g783 62 [.pointer (some ⟨g1477, 0, none⟩), .pointer (some ⟨g1484, 0, none⟩)]]) ?_ ?_
   ·
    have HR3675 := H
    refine dr_start (S := fun w_ => Chg (atL [.box g1477 67 [.int .i64 aProps, .slice A1 aAccept.length c2, .slice A5 aGuard.length c6, .slice A9 aNodes.length c10, .slice A1480 m1479.length c1481]]) w3640 w_) (by kernel_rfl) ?_
    intro w3672 hc3673
    have HS3674 : Chg (atL [.box g1477 67 [.int .i64 aProps, .slice A1 aAccept.length c2, .slice A5 aGuard.length c6, .slice A9 aNodes.length c10, .slice A1480 m1479.length c1481]]) w3640 w3672 := hc3673.mono (fun _ _ h_ => h_.elim)
    replace H := H.ext hc3673
    refine dn tbok (by kernel_rfl) [0, 1, 2, 4] [] [(120, .pointer (some ⟨g1477, 0, none⟩)), (122, .pointer (some ⟨g1477, 0, none⟩))] (fun w_ => []) 8 E (fun _ _ => by kernel_rfl) (by kernel_rfl) (fun w_ hS_ => trivial) (by kernel_rfl) HS3674 ?_
    clear E; intro a E
    refine wpAnyH_all (rs := [3, 5]) (by kernel_rfl) (by simp) ?_
    refine all2 ?_ ?_
    ·
     refine wpOp_of_list rfl ?_
     refine vq 1 [.agg #[.int .i64 aProps, .slice A1 aAccept.length c2, .slice A5 aGuard.length c6, .slice A9 aNodes.length c10]] [(121, .agg #[.int .i64 aProps, .slice A1 aAccept.length c2, .slice A5 aGuard.length c6, .slice A9 aNodes.length c10])] [cellsAt w3672 g1477 (0) [.int .i64 aProps, .slice A1 aAccept.length c2, .slice A5 aGuard.length c6, .slice A9 aNodes.length c10]] E ((H.box 8 rfl).sub 0 _ rfl) ?_
     clear E; intro a E
     refine nl_ <| th_n ⟨HS3674, ?_⟩
     refine wpAnyH_all (rs := [5]) (by kernel_rfl) (by simp) ?_
     refine all1 ?_
     refine wpOp_of_list rfl ?_
     obtain ⟨Fa3676, Hc3677, hb3678⟩ := H.call [8] [(9, false), (10, false), (11, false), (12, false)] rfl rfl trivial
     refine e_call E rfl rfl Try.func41 rfl rfl rfl (ref21_Watch_State_calls g1477 A1 c2 A5 c6 A9 c10 A1480 c1481 aProps aAccept aGuard aNodes m1479 hk2805 hk2806 hk2807 hk2808 Hc3677 h3648) ?_
     intro v3684 w3683 a hR3685 E_
     obtain ⟨x_, hr_, rfl, HR3687⟩ := hR3685
     subst hr_
     replace E := E_ _ rfl; clear E_
     obtain ⟨H_, hc3686⟩ := hb3678 _ _ HR3687 rfl
     replace HS3674 := HS3674.trans hc3686 (fun k_ hk_ h_ => h_.elim (fun h_ => by have hs_ := HS3674.size; exfalso; omega) (fun h_ => h_.elim (fun h_ => (fun _ _ h_ => Or.inl h_) k_ hk_ h_) (fun h_ => h_.elim)))
     replace H := H_; clear H_; try dsimp only [setn, addE, goneL] at H
     refine nl_ <| th_n ⟨HS3674, ?_⟩
     refine wpAnyH_all (rs := [6]) (by kernel_rfl) (by simp) ?_
     refine all1 ?_
     refine wpOp_of_list rfl ?_
     obtain ⟨Fa3689, Hc3690, hb3691⟩ := H.call [] [(9, false), (10, false), (11, false)] rfl rfl trivial
     refine e_call E rfl rfl Try.func49 rfl rfl rfl (ref21_Off_calls A1 c2 A5 c6 A9 c10 aProps aAccept aGuard aNodes r3647 hk2805 hk2806 hk2807 Hc3690 h3663) ?_
     rintro v3692 w3693 a ⟨rfl, HR3694⟩ E_
     replace E := E_ _ rfl; clear E_
     obtain ⟨H_, hc3695⟩ := hb3691 _ _ HR3694 rfl
     replace HS3674 := HS3674.ext (callS_ext hc3695)
     replace H := H_; clear H_; try dsimp only [setn, addE, goneL] at H
     refine nl_ <| th_n ⟨HS3674, ?_⟩
     refine dn tbok (by kernel_rfl) [7, 8, 9, 10, 11] [] [(20, .int .i64 r3662.1), (21, .int .i64 r3662.2)] (fun w_ => []) 0 E (fun _ _ => by kernel_rfl) (by kernel_rfl) (fun w_ hS_ => trivial) (by kernel_rfl) HS3674 ?_
     clear E; intro a E
     refine dr_done (by kernel_rfl) ?_
     exact .inl ⟨rfl, E.pk, H.sel [0, 3, 16, 17, 6, 5, 1, 9, 10, 11, 12, 18, 14, 13, 7] rfl⟩
    refine wpOp_of_list rfl ?_
    obtain ⟨Fa3696, Hc3697, hb3698⟩ := H.call [8] [(9, false), (10, false), (11, false), (12, false)] rfl rfl trivial
    refine e_call E rfl rfl Try.func41 rfl rfl rfl (ref21_Watch_State_calls g1477 A1 c2 A5 c6 A9 c10 A1480 c1481 aProps aAccept aGuard aNodes m1479 hk2805 hk2806 hk2807 hk2808 Hc3697 h3648) ?_
    intro v3704 w3703 a hR3705 E_
    obtain ⟨x_, hr_, rfl, HR3707⟩ := hR3705
    subst hr_
    replace E := E_ _ rfl; clear E_
    obtain ⟨H_, hc3706⟩ := hb3698 _ _ HR3707 rfl
    replace HS3674 := HS3674.trans hc3706 (fun k_ hk_ h_ => h_.elim (fun h_ => by have hs_ := HS3674.size; exfalso; omega) (fun h_ => h_.elim (fun h_ => (fun _ _ h_ => Or.inl h_) k_ hk_ h_) (fun h_ => h_.elim)))
    replace H := H_; clear H_; try dsimp only [setn, addE, goneL] at H
    refine nl_ <| th_n ⟨HS3674, ?_⟩
    refine wpAnyH_all (rs := [3]) (by kernel_rfl) (by simp) ?_
    refine all1 ?_
    refine wpOp_of_list rfl ?_
    refine vq 1 [.agg #[.int .i64 aProps, .slice A1 aAccept.length c2, .slice A5 aGuard.length c6, .slice A9 aNodes.length c10]] [(121, .agg #[.int .i64 aProps, .slice A1 aAccept.length c2, .slice A5 aGuard.length c6, .slice A9 aNodes.length c10])] [cellsAt w3703 g1477 (0) [.int .i64 aProps, .slice A1 aAccept.length c2, .slice A5 aGuard.length c6, .slice A9 aNodes.length c10]] E ((H.box 18 rfl).sub 0 _ rfl) ?_
    clear E; intro a E
    refine nl_ <| th_n ⟨HS3674, ?_⟩
    refine wpAnyH_all (rs := [6]) (by kernel_rfl) (by simp) ?_
    refine all1 ?_
    refine wpOp_of_list rfl ?_
    obtain ⟨Fa3709, Hc3710, hb3711⟩ := H.call [] [(9, false), (10, false), (11, false)] rfl rfl trivial
    refine e_call E rfl rfl Try.func49 rfl rfl rfl (ref21_Off_calls A1 c2 A5 c6 A9 c10 aProps aAccept aGuard aNodes r3647 hk2805 hk2806 hk2807 Hc3710 h3663) ?_
    rintro v3712 w3713 a ⟨rfl, HR3714⟩ E_
    replace E := E_ _ rfl; clear E_
    obtain ⟨H_, hc3715⟩ := hb3711 _ _ HR3714 rfl
    replace HS3674 := HS3674.ext (callS_ext hc3715)
    replace H := H_; clear H_; try dsimp only [setn, addE, goneL] at H
    refine nl_ <| th_n ⟨HS3674, ?_⟩
    refine dn tbok (by kernel_rfl) [7, 8, 9, 10, 11] [] [(20, .int .i64 r3662.1), (21, .int .i64 r3662.2)] (fun w_ => []) 0 E (fun _ _ => by kernel_rfl) (by kernel_rfl) (fun w_ hS_ => trivial) (by kernel_rfl) HS3674 ?_
    clear E; intro a E
    refine dr_done (by kernel_rfl) ?_
    exact .inl ⟨rfl, E.pk, H.sel [0, 3, 16, 17, 6, 5, 1, 9, 10, 11, 12, 18, 14, 13, 7] rfl⟩
   clear E H; rintro a w3671 ⟨E, H⟩
   refine th_n <| wp_seq ?_
   obtain ⟨x3719, h3720, hK3721⟩ := bind_inv hP
   clear hP
   refine meet_cut (fun a w3723 => ∃ (x3722 : Bool), Fr a 165 [(6, .bool x3722)] ∧ Hp S Fa w0 w3723 [.ro false cS70 (some ⟨b2175, o2176, none⟩) script, .ro true cS78 (some ⟨b92, 0, none⟩) ([x95.1]), .row true (cInt .i64) 3 A1468 c1469 s1467, .box g1465 27 [.pointer (some ⟨b92, 0, none⟩), .slice A1468 s1467.length c1469], .row true (cInt .i64) 3 A1474 c1475 s1473, .box g1471 27 [.pointer (some ⟨b92, 0, none⟩), .slice A1474 s1473.length c1475], .box g773 23 [.pointer (some ⟨g1465, 0, none⟩), .pointer (some ⟨g1471, 0, none⟩)], .ro false cBool A1 aAccept, .ro false (cInt .i64) A5 aGuard, .ro false cNode A9 aNodes, .ro false (cInt .u8) A1480 m1479, .box g1477 67 [.int .i64 aProps, .slice A1 aAccept.length c2, .slice A5 aGuard.length c6, .slice A9 aNodes.length c10, .slice A1480 m1479.length c1481], .ro false (cInt .u8) A1487 m1486, .box g1484 67 [.int .i64 aProps, .slice A1 aAccept.length c2, .slice A5 aGuard.length c6, .slice A9 aNodes.length c10, .slice A1487 m1486.length c1488], .box g783 62 [.pointer (some ⟨g1477, 0, none⟩), .pointer (some ⟨g1484, 0, none⟩)]] ∧ x3719 = x3722) ?_ ?_
   ·
    have hP := h3720; clear h3720; rw [law21_WatchScript_j22] at hP
    refine rl_ <| vp 4 [(130, .bool ((r3631.1 : Int) == r3662.1))] E ?_
    clear E; intro a E
    revert E; refine csE 130 rfl (fun hb_ E => ?_) fun hb_ E => ?_
    ·
     have h3724 : (r3631.1 : Int) = r3662.1 := eq_of_beq hb_
     replace hP := ite_t h3724 hP
     refine vp 5 [(6, .bool ((r3631.2 : Int) == r3662.2))] E ?_
     clear E; intro a E
     refine nl_ ?_
     have hx_ := Option.some.inj hP
     exact .inl ⟨rfl, (r3631.2 : Int) == r3662.2, E.pk, H.sel (up 15) rfl, hx_.symm⟩
    have h3725 : ¬ ((r3631.1 : Int) = r3662.1) := ne_of_beq_false hb_
    replace hP := ite_f h3725 hP
    refine vp 5 [(6, .bool false)] E ?_
    clear E; intro a E
    refine nl_ ?_
    have hx_ := Option.some.inj hP
    exact .inl ⟨rfl, false, E.pk, H.sel (up 15) rfl, hx_.symm⟩
   clear E H h3720; rintro a w3723 ⟨x3722, E, H, hx_⟩
   subst hx_; have hP := hK3721; clear hK3721
   refine th_n <| wp_ret <| bl_ret <| th_ret ?_
   have hx_ := Option.some.inj hP
   refine ret1 E rfl rfl ?_
   exact ⟨_, rfl, (x3719, s1467, s1473, m1479, m1486), g1465, A1468, c1469, g1471, A1474, c1475, g1477, A1480, c1481, g1484, A1487, c1488, rfl, H.sel [0, 6, 3, 1, 2, 5, 4, 14, 11, 7, 8, 9, 10, 13, 12] rfl, hk2808, hk2809, hx_.symm⟩
  have h3726 : ¬ (((List.getD script i1490.toNat (0, 0, 0)).1 : Int) = 3) := ne_of_beq_false hb_
  replace hP := ite_f h3726 hP
  refine c_false E rfl <| wp_skip <| bl_n <| th_n <| sr_ <| vp 1 [(135, .pointer (some ⟨g1465, 0, none⟩))] E ?_
  clear E; intro a E
  obtain ⟨r3727, h3728, hP⟩ := bind_inv hP
  obtain ⟨Fa3729, Hc3730, hb3731⟩ := H.call [2, 4] [(3, false)] rfl rfl ⟨flat_plain, trivial⟩
  refine e_call E rfl rfl Try.func15 rfl rfl rfl (watch_Watch_Fork_calls g1465 b92 0 A1468 c1469 x95.1 s1467  Hc3730 h3728) ?_
  intro v3737 w3736 a hR3738 E_
  rcases hR3738 with ⟨x_, hr_, rfl, HR3740⟩ | ⟨x_, g3741, A3742, c3743, hr_, rfl, HR3744⟩
  ·
   subst hr_; have hP := elim_l hP
   obtain ⟨x3745, hxx_⟩ : ∃ y_, y_ = x_ := ⟨_, rfl⟩; subst hxx_
   replace E := E_ _ rfl; clear E_
   obtain ⟨H_, hc3739⟩ := hb3731 _ _ HR3740 rfl
   replace H := H_; clear H_; try dsimp only [setn, addE, goneL] at H
   refine vp 1 [(22, .pointer none)] E ?_
   clear E; intro a E
   refine nn_ <| wp_seq <| sr_ <| vp 7 [(143, .bool true)] E ?_
   clear E; intro a E
   refine nn_ <| c_true E rfl ?_
   refine sr_ <| vp 1 [(6, .bool false)] E ?_
   clear E; intro a E
   refine nn_ <| wp_ret <| th_ret ?_
   have hx_ := Option.some.inj hP
   refine ret1 E rfl rfl ?_
   exact ⟨_, rfl, (false, s1467, s1473, m1479, m1486), g1465, A1468, c1469, g1471, A1474, c1475, g1477, A1480, c1481, g1484, A1487, c1488, rfl, H.sel [0, 1, 17, 3, 16, 5, 6, 7, 8, 9, 10, 11, 12, 13, 14] rfl, hk2808, hk2809, hx_.symm⟩
  subst hr_; have hP := (elim_r hP)
  obtain ⟨x3746, hxx_⟩ : ∃ y_, y_ = x_ := ⟨_, rfl⟩; subst hxx_
  replace E := E_ _ rfl; clear E_
  obtain ⟨H_, hc3739⟩ := hb3731 _ _ HR3744 rfl
  replace H := H_; clear H_; try dsimp only [setn, addE, goneL] at H
  refine vp 1 [(22, .pointer (some ⟨g3741, 0, none⟩))] E ?_
  clear E; intro a E
  refine nn_ <| wp_seq <| sr_ <| vp 5 [(139, .bool false), (140, .pointer (some ⟨g3741, 0, none⟩)), (141, .pointer (some ⟨g1465, 0, none⟩))] E ?_
  clear E; intro a E
  refine h_eqPtr H 16 19 rfl rfl rfl E rfl rfl tbok rfl rfl rfl rfl rfl rfl ?_
  clear E; intro a E
  refine vp 1 [(143, .bool false)] E ?_
  clear E; intro a E
  refine nn_ <| c_false E rfl ?_
  refine wp_skip <| th_n <| sr_ <| vq 5 [.int .i64 1] [(147, .pointer (some ⟨g3741, 0, none⟩)), (148, .pointer (some ⟨g773, 1, none⟩))] [IntKind.i64.wrap (1 - 0) = 1, 0 ≤ (1 : Int) ∧ (1 : Int) < ((2 : Nat) : Int)] E ⟨(show _ = _ from by decide), ⟨by decide, by decide⟩⟩ ?_
  clear E; intro a E
  refine h_store (g := g773) (off := 1) H 1 rfl E rfl rfl rfl rfl tbok rfl rfl rfl rfl rfl ?_
  clear E; intro w3753 a hc3754 H_ E
  replace H := H_; clear H_; try dsimp only [setn, addE, goneL] at H
  refine nn_ <| wp_seq ?_
  obtain ⟨g3760, hP⟩ := ask_inv hP
  have HR3776 := H
  refine dr_start (S := fun w_ => Chg (atL [.box g783 62 [.pointer (some ⟨g1477, 0, none⟩), .pointer (some ⟨g1484, 0, none⟩)]]) w3753 w_) (by kernel_rfl) ?_
  intro w3773 hc3774
  have HS3775 : Chg (atL [.box g783 62 [.pointer (some ⟨g1477, 0, none⟩), .pointer (some ⟨g1484, 0, none⟩)]]) w3753 w3773 := hc3774.mono (fun _ _ h_ => h_.elim)
  replace H := H.ext hc3774
  refine dn tbok (by kernel_rfl) [0, 1, 2, 3, 4, 5, 6, 8, 9, 10, 11] [.int .i64 1, .agg #[.int .i64 aProps, .slice A1 aAccept.length c2, .slice A5 aGuard.length c6, .slice A9 aNodes.length c10], .slice A1480 m1479.length c1481] [(149, .slice (some ⟨g783, 0, none⟩) 2 2), (151, .int .i64 1), (155, .agg #[.int .i64 aProps, .slice A1 aAccept.length c2, .slice A5 aGuard.length c6, .slice A9 aNodes.length c10]), (160, .slice A1480 m1479.length c1481)] (fun w_ => [IntKind.i64.wrap (1 - 0) = 1, cellsAt w_ g1477 (0) [.int .i64 aProps, .slice A1 aAccept.length c2, .slice A5 aGuard.length c6, .slice A9 aNodes.length c10], World.cell? w_ ⟨g1477, 4, none⟩ = some (.slice A1480 m1479.length c1481)]) 6 E (fun _ _ => by kernel_rfl) (by kernel_rfl) (fun w_ hS_ => ⟨(show _ = _ from by decide), (HR3776.boxk [7] hS_ 8 rfl rfl).sub 0 _ rfl, (HR3776.boxk [7] hS_ 8 rfl rfl).cell (j := 4) rfl⟩) (by kernel_rfl) HS3775 ?_
  clear E; intro a E
  refine wpAnyH_all (rs := [7]) (by kernel_rfl) (by simp) ?_
  refine all1 ?_
  refine wpOp_of_list rfl ?_
  refine h_buildSlice (ps := []) (cs := []) H E rfl rfl tbok rfl rfl (by kernel_rfl) ?_
  intro w3778 g3777 a hc3779 hg3781 H_ E_
  replace E := E_ _ rfl; clear E_
  have hin3782 : ∀ q_, q_ < w3753.heap.size → q_ = g3777 → (atL [.box g783 62 [.pointer (some ⟨g1477, 0, none⟩), .pointer (some ⟨g1484, 0, none⟩)]]) q_ := fun q_ h1_ h2_ => by have hs_ := HS3775.size; have h4_ : q_ = g3777 := h2_; exfalso; omega
  replace HS3775 := HS3775.ext hc3779
  replace H := H_; clear H_; try dsimp only [setn, addE, goneL] at H
  refine nl_ <| th_n ⟨HS3775, ?_⟩
  refine wpAnyH_all (rs := [12]) (by kernel_rfl) (by simp) ?_
  refine all1 ?_
  refine wpOp_of_list rfl ?_
  replace H := H.boxRow (cInt .u8) true ([] : List Int) 20 rfl (fun _ _ => rfl) (Nat.le_of_ble_eq_true rfl); try dsimp only [setn, addE, goneL] at H
  replace H := H.rowx 20 rfl; try dsimp only [setn, addE, goneL] at H
  refine h_append (cInt .u8) (xs := ([] : List Int)) (ys := m1479) (0 : Int) H 20 rfl E rfl rfl tbok rfl rfl rfl rfl rfl (fun _ _ => rfl) rfl rfl (fun _ HF_ => HF_.srcF flat_plain 12 rds_ro) g3760 ?_
  intro w3783 A3784 c3785 a hc3786 hA3787 H_ E_
  replace E := E_ _ rfl; clear E_
  have hin3788 : ∀ q_, q_ < w3753.heap.size → At A3784 q_ → (atL [.box g783 62 [.pointer (some ⟨g1477, 0, none⟩), .pointer (some ⟨g1484, 0, none⟩)]]) q_ := fun q_ h1_ h2_ => (hA3787 q_ h2_).elim ((fun q_ h1_ h2_ => hin3782 q_ h1_ (At.of_g h2_)) q_ h1_) (fun h3_ => by have hs_ := HS3775.size; exfalso; omega)
  replace HS3775 := HS3775.trans hc3786 (fun k_ hk_ h_ => (fun q_ h1_ h2_ => hin3782 q_ h1_ (At.of_g h2_)) k_ hk_ h_)
  replace H := H_; clear H_; try dsimp only [setn, addE, goneL] at H
  refine nl_ <| th_n ⟨HS3775, ?_⟩
  refine wpAnyH_all (rs := [13]) (by kernel_rfl) (by simp) ?_
  refine all1 ?_
  refine wpOp_of_list rfl ?_
  refine e_build (ps := [(0, .agg #[.int .i64 aProps, .slice A1 aAccept.length c2, .slice A5 aGuard.length c6, .slice A9 aNodes.length c10]), (1, .slice A3784 (List.length (([] : List Int) ++ m1479)) c3785)]) (v := .agg #[.int .i64 aProps, .slice A1 aAccept.length c2, .slice A5 aGuard.length c6, .slice A9 aNodes.length c10, .slice A3784 (List.length (([] : List Int) ++ m1479)) c3785]) E rfl rfl tbok rfl (by kernel_rfl) rfl ?_
  clear E; intro a E
  refine nl_ <| th_n ⟨HS3775, ?_⟩
  refine wpAnyH_all (rs := [14]) (by kernel_rfl) (by simp) ?_
  refine all1 ?_
  refine wpOp_of_list rfl ?_
  refine h_box H E rfl rfl rfl ?_
  intro w3790 g3789 a hc3791 hg3793 H_ E_
  replace E := E_ _ rfl; clear E_
  have hin3794 : ∀ q_, q_ < w3753.heap.size → q_ = g3789 → (atL [.box g783 62 [.pointer (some ⟨g1477, 0, none⟩), .pointer (some ⟨g1484, 0, none⟩)]]) q_ := fun q_ h1_ h2_ => by have hs_ := HS3775.size; have h4_ : q_ = g3789 := h2_; exfalso; omega
  replace HS3775 := HS3775.ext hc3791
  replace H := H_; clear H_; try dsimp only [setn, addE, goneL] at H
  refine nl_ <| th_n ⟨HS3775, ?_⟩
  refine wpAnyH_all (rs := [15]) (by kernel_rfl) (by simp) ?_
  refine all1 ?_
  refine wpOp_of_list rfl ?_
  refine vq 1 [] [(164, .pointer (some ⟨g783, 1, none⟩))] [0 ≤ (1 : Int) ∧ (1 : Int) < ((2 : Nat) : Int)] E (⟨by decide, by decide⟩) ?_
  clear E; intro a E
  refine nl_ <| th_n ⟨HS3775, ?_⟩
  refine wpAnyH_all (rs := [16]) (by kernel_rfl) (by simp) ?_
  refine all1 ?_
  refine wpOp_of_list rfl ?_
  refine h_store (g := g783) (off := 1) H 7 rfl E rfl rfl rfl rfl tbok rfl rfl rfl rfl rfl ?_
  clear E; intro w3795 a hc3796 H_ E
  replace HS3775 := HS3775.trans hc3796 (fun k_ hk_ h_ => (fun _ _ h_ => Or.inl h_) k_ hk_ h_)
  replace H := H_; clear H_; try dsimp only [setn, addE, goneL] at H
  refine nl_ <| th_n ⟨HS3775, ?_⟩
  refine dr_done (by kernel_rfl) ?_
  clear HS3775 HR3776
  refine th_n <| sr_ <| vp 1 [(6, .bool true)] E ?_
  clear E; intro a E
  refine nn_ <| wp_ret ?_
  have hk3797 := H.rcap 20 rfl
  replace H := H.frz 20 rfl; try dsimp only [setn, addE, goneL] at H
  replace H := H.rodown 20 rfl; try dsimp only [setn, addE, goneL] at H
  have hx_ := Option.some.inj hP
  refine ret1 E rfl rfl ?_
  exact ⟨_, rfl, (true, s1467, ([] : List Int) ++ s1467, m1479, ([] : List Int) ++ m1479), g1465, A1468, c1469, g3741, A3742, c3743, g1477, A1480, c1481, g3789, A3784, c3785, rfl, H.sel [0, 1, 19, 3, 18, 16, 17, 7, 8, 9, 10, 11, 12, 21, 20] rfl, hk2808, hk3797, hx_.symm⟩
 replace hP := ite_f h2816 hP
 obtain ⟨g3798, hP⟩ := ask_inv hP
 replace E := E.same (t := 7) (u := .int .i64 1) rfl (congrArg (Value.int .i64) g3798)
 refine nn_ <| wp_seq ?_
 have HR3802 := H
 refine dr_start (S := fun w_ => Chg (atL []) w2811 w_) (by kernel_rfl) ?_
 intro w3799 hc3800
 have HS3801 : Chg (atL []) w2811 w3799 := hc3800.mono (fun _ _ h_ => h_.elim)
 replace H := H.ext hc3800
 refine dn tbok (by kernel_rfl) [0, 1, 2, 3, 4, 5, 6, 7, 8, 9] [.pointer (some ⟨g1471, 0, none⟩), .pointer (some ⟨g1484, 0, none⟩)] [(8, .pointer (some ⟨g1471, 0, none⟩)), (9, .pointer (some ⟨g1484, 0, none⟩))] (fun w_ => [0 ≤ (1 : Int) ∧ (1 : Int) < ((2 : Nat) : Int), World.cell? w_ ⟨g773, 1, none⟩ = some (.pointer (some ⟨g1471, 0, none⟩)), 0 ≤ (1 : Int) ∧ (1 : Int) < ((2 : Nat) : Int), World.cell? w_ ⟨g783, 1, none⟩ = some (.pointer (some ⟨g1484, 0, none⟩))]) 0 E (fun _ _ => by kernel_rfl) (by kernel_rfl) (fun w_ hS_ => ⟨⟨by decide, by decide⟩, (HR3802.boxk [] hS_ 1 rfl rfl).cell (j := 1) rfl, ⟨by decide, by decide⟩, (HR3802.boxk [] hS_ 7 rfl rfl).cell (j := 1) rfl⟩) (by kernel_rfl) HS3801 ?_
 clear E; intro a E
 refine dr_done (by kernel_rfl) ?_
 clear HS3801 HR3802
 refine th_n <| wp_seq <| sr_ <| vq 2 [.int .u8 ((List.getD script i1490.toNat (0, 0, 0)).1)] [(36, .int .u8 ((List.getD script i1490.toNat (0, 0, 0)).1))] [World.cell? w3799 ⟨g2810, 0, none⟩ = some (.int .u8 ((List.getD script i1490.toNat (0, 0, 0)).1))] E ((H.box 15 rfl).cell (j := 0) rfl) ?_
 clear E; intro a E
 refine nn_ <| wp_block <| sr_ <| vp 2 [(37, .bool (((List.getD script i1490.toNat (0, 0, 0)).1 : Int) == 0))] E ?_
 clear E; intro a E
 refine nn_ ?_
 revert E; refine csE 37 rfl (fun hb_ E => ?_) fun hb_ E => ?_
 ·
  have h3803 : ((List.getD script i1490.toNat (0, 0, 0)).1 : Int) = 0 := eq_of_beq hb_
  replace hP := ite_t h3803 hP
  refine c_true E rfl <| sr_ <| vq 3 [.int .u8 ((List.getD script i1490.toNat (0, 0, 0)).2.2)] [(40, .pointer (some ⟨g1471, 0, none⟩)), (42, .int .u8 ((List.getD script i1490.toNat (0, 0, 0)).2.2))] [World.cell? w3799 ⟨g2810, 2, none⟩ = some (.int .u8 ((List.getD script i1490.toNat (0, 0, 0)).2.2))] E ((H.box 15 rfl).cell (j := 2) rfl) ?_
  clear E; intro a E
  obtain ⟨r3804, h3805, hP⟩ := bind_inv hP
  obtain ⟨Fa3806, Hc3807, hb3808⟩ := H.call [5, 6] [(3, false)] rfl rfl ⟨flat_plain, trivial⟩
  refine e_call E rfl rfl Try.func9 rfl rfl rfl (watch_Watch_Feed_calls g1471 b92 0 A1474 c1475 x95.1 s1473 ((List.getD script i1490.toNat (0, 0, 0)).2.2)  Hc3807 h3805) ?_
  intro v3814 w3813 a hR3815 E_
  obtain ⟨x_, A3818, c3819, hr_, rfl, HR3817⟩ := hR3815
  subst hr_
  replace E := E_ _ rfl; clear E_
  obtain ⟨H_, hc3816⟩ := hb3808 _ _ HR3817 rfl
  replace H := H_; clear H_; try dsimp only [setn, addE, goneL] at H
  refine vp 5 [(10, .int .u8 r3804.1), (11, .int .i64 r3804.2.1)] E ?_
  clear E; intro a E
  refine nn_ <| sr_ <| vq 3 [.int .u8 ((List.getD script i1490.toNat (0, 0, 0)).2.2)] [(47, .pointer (some ⟨g1484, 0, none⟩)), (49, .int .u8 ((List.getD script i1490.toNat (0, 0, 0)).2.2))] [World.cell? w3813 ⟨g2810, 2, none⟩ = some (.int .u8 ((List.getD script i1490.toNat (0, 0, 0)).2.2))] E ((H.box 15 rfl).cell (j := 2) rfl) ?_
  clear E; intro a E
  obtain ⟨r3822, h3823, hP⟩ := bind_inv hP
  obtain ⟨Fa3824, Hc3825, hb3826⟩ := H.callA [13] [(9, false), (10, false), (11, false), (14, false)] rfl rfl trivial
  refine e_call E rfl rfl Try.func47 rfl rfl rfl (ref21_Watch_Feed_calls g1484 A1 c2 A5 c6 A9 c10 A1487 c1488 aProps aAccept aGuard aNodes m1486 ((List.getD script i1490.toNat (0, 0, 0)).2.2) hk2805 hk2806 hk2807 hk2809 Hc3825 h3823) ?_
  intro v3832 w3831 a hR3833 E_
  obtain ⟨x_, A3836, c3837, hr_, rfl, hc3838, HR3835⟩ := hR3833
  subst hr_
  replace E := E_ _ rfl; clear E_
  obtain ⟨H_, hc3834⟩ := hb3826 _ _ HR3835
  replace H := H_; clear H_; try dsimp only [setn, addE, goneL] at H
  refine vp 5 [(12, .int .u8 r3822.1), (13, .int .i64 r3822.2.1)] E ?_
  clear E; intro a E
  refine nn_ <| wp_seq ?_
  obtain ⟨x3844, h3845, hK3846⟩ := bind_inv hP
  clear hP
  refine meet_cut (fun a w3848 => ∃ (x3847 : Bool), Fr a 165 [(6, .bool x3847)] ∧ Hp S Fa w0 w3848 [.ro false cS70 (some ⟨b2175, o2176, none⟩) script, .ro true cS78 (some ⟨b92, 0, none⟩) ([x95.1]), .row true (cInt .i64) 3 A1468 c1469 s1467, .box g1465 27 [.pointer (some ⟨b92, 0, none⟩), .slice A1468 s1467.length c1469], .row true (cInt .i64) 3 A3818 c3819 r3804.2.2, .box g1471 27 [.pointer (some ⟨b92, 0, none⟩), .slice A3818 r3804.2.2.length c3819], .box g773 23 [.pointer (some ⟨g1465, 0, none⟩), .pointer (some ⟨g1471, 0, none⟩)], .ro false cBool A1 aAccept, .ro false (cInt .i64) A5 aGuard, .ro false cNode A9 aNodes, .ro false (cInt .u8) A1480 m1479, .box g1477 67 [.int .i64 aProps, .slice A1 aAccept.length c2, .slice A5 aGuard.length c6, .slice A9 aNodes.length c10, .slice A1480 m1479.length c1481], .ro false (cInt .u8) A3836 r3822.2.2, .box g1484 67 [.int .i64 aProps, .slice A1 aAccept.length c2, .slice A5 aGuard.length c6, .slice A9 aNodes.length c10, .slice A3836 r3822.2.2.length c3837], .box g783 62 [.pointer (some ⟨g1477, 0, none⟩), .pointer (some ⟨g1484, 0, none⟩)]] ∧ x3844 = x3847) ?_ ?_
  ·
   have hP := h3845; clear h3845; rw [law21_WatchScript_j23] at hP
   refine rl_ <| vp 4 [(56, .bool ((r3804.1 : Int) == r3822.1))] E ?_
   clear E; intro a E
   revert E; refine csE 56 rfl (fun hb_ E => ?_) fun hb_ E => ?_
   ·
    have h3849 : (r3804.1 : Int) = r3822.1 := eq_of_beq hb_
    replace hP := ite_t h3849 hP
    refine vp 5 [(6, .bool ((r3804.2.1 : Int) == r3822.2.1))] E ?_
    clear E; intro a E
    refine nl_ ?_
    have hx_ := Option.some.inj hP
    exact .inl ⟨rfl, (r3804.2.1 : Int) == r3822.2.1, E.pk, H.sel [0, 3, 4, 2, 17, 16, 1, 9, 10, 11, 12, 8, 19, 18, 7] rfl, hx_.symm⟩
   have h3850 : ¬ ((r3804.1 : Int) = r3822.1) := ne_of_beq_false hb_
   replace hP := ite_f h3850 hP
   refine vp 5 [(6, .bool false)] E ?_
   clear E; intro a E
   refine nl_ ?_
   have hx_ := Option.some.inj hP
   exact .inl ⟨rfl, false, E.pk, H.sel [0, 3, 4, 2, 17, 16, 1, 9, 10, 11, 12, 8, 19, 18, 7] rfl, hx_.symm⟩
  clear E H h3845; rintro a w3848 ⟨x3847, E, H, hx_⟩
  subst hx_; have hP := hK3846; clear hK3846
  refine th_n <| wp_ret <| bl_ret <| th_ret ?_
  have hx_ := Option.some.inj hP
  refine ret1 E rfl rfl ?_
  exact ⟨_, rfl, (x3844, s1467, r3804.2.2, m1479, r3822.2.2), g1465, A1468, c1469, g1471, A3818, c3819, g1477, A1480, c1481, g1484, A3836, c3837, rfl, H.sel [0, 6, 3, 1, 2, 5, 4, 14, 11, 7, 8, 9, 10, 13, 12] rfl, hk2808, hc3838, hx_.symm⟩
 have h3851 : ¬ (((List.getD script i1490.toNat (0, 0, 0)).1 : Int) = 0) := ne_of_beq_false hb_
 replace hP := ite_f h3851 hP
 refine c_false E rfl <| sr_ <| vp 2 [(61, .bool (((List.getD script i1490.toNat (0, 0, 0)).1 : Int) == 1))] E ?_
 clear E; intro a E
 refine nn_ ?_
 revert E; refine csE 61 rfl (fun hb_ E => ?_) fun hb_ E => ?_
 ·
  have h3852 : ((List.getD script i1490.toNat (0, 0, 0)).1 : Int) = 1 := eq_of_beq hb_
  replace hP := ite_t h3852 hP
  refine c_true E rfl <| sr_ <| vp 1 [(64, .pointer (some ⟨g1471, 0, none⟩))] E ?_
  clear E; intro a E
  obtain ⟨r3853, h3854, hP⟩ := bind_inv hP
  obtain ⟨Fa3855, Hc3856, hb3857⟩ := H.call [5, 6] [(3, false)] rfl rfl ⟨flat_plain, trivial⟩
  refine e_call E rfl rfl Try.func10 rfl rfl rfl (watch_Watch_Back_calls g1471 b92 0 A1474 c1475 x95.1 s1473  Hc3856 h3854) ?_
  intro v3863 w3862 a hR3864 E_
  obtain ⟨x_, A3867, c3868, hr_, rfl, HR3866⟩ := hR3864
  subst hr_
  replace E := E_ _ rfl; clear E_
  obtain ⟨H_, hc3865⟩ := hb3857 _ _ HR3866 rfl
  replace H := H_; clear H_; try dsimp only [setn, addE, goneL] at H
  refine vp 5 [(14, .int .u8 r3853.1), (15, .int .i64 r3853.2.1)] E ?_
  clear E; intro a E
  refine nn_ <| sr_ <| vp 1 [(69, .pointer (some ⟨g1484, 0, none⟩))] E ?_
  clear E; intro a E
  obtain ⟨r3871, h3872, hP⟩ := bind_inv hP
  obtain ⟨Fa3873, Hc3874, hb3875⟩ := H.callA [13] [(9, false), (10, false), (11, false), (14, false)] rfl rfl trivial
  refine e_call E rfl rfl Try.func48 rfl rfl rfl (ref21_Watch_Back_calls g1484 A1 c2 A5 c6 A9 c10 A1487 c1488 aProps aAccept aGuard aNodes m1486 hk2805 hk2806 hk2807 hk2809 Hc3874 h3872) ?_
  intro v3881 w3880 a hR3882 E_
  obtain ⟨x_, A3885, c3886, hr_, rfl, hc3887, HR3884⟩ := hR3882
  subst hr_
  replace E := E_ _ rfl; clear E_
  obtain ⟨H_, hc3883⟩ := hb3875 _ _ HR3884
  replace H := H_; clear H_; try dsimp only [setn, addE, goneL] at H
  refine vp 5 [(16, .int .u8 r3871.1), (17, .int .i64 r3871.2.1)] E ?_
  clear E; intro a E
  refine nn_ <| wp_seq ?_
  obtain ⟨x3893, h3894, hK3895⟩ := bind_inv hP
  clear hP
  refine meet_cut (fun a w3897 => ∃ (x3896 : Bool), Fr a 165 [(6, .bool x3896)] ∧ Hp S Fa w0 w3897 [.ro false cS70 (some ⟨b2175, o2176, none⟩) script, .ro true cS78 (some ⟨b92, 0, none⟩) ([x95.1]), .row true (cInt .i64) 3 A1468 c1469 s1467, .box g1465 27 [.pointer (some ⟨b92, 0, none⟩), .slice A1468 s1467.length c1469], .row true (cInt .i64) 3 A3867 c3868 r3853.2.2, .box g1471 27 [.pointer (some ⟨b92, 0, none⟩), .slice A3867 r3853.2.2.length c3868], .box g773 23 [.pointer (some ⟨g1465, 0, none⟩), .pointer (some ⟨g1471, 0, none⟩)], .ro false cBool A1 aAccept, .ro false (cInt .i64) A5 aGuard, .ro false cNode A9 aNodes, .ro false (cInt .u8) A1480 m1479, .box g1477 67 [.int .i64 aProps, .slice A1 aAccept.length c2, .slice A5 aGuard.length c6, .slice A9 aNodes.length c10, .slice A1480 m1479.length c1481], .ro false (cInt .u8) A3885 r3871.2.2, .box g1484 67 [.int .i64 aProps, .slice A1 aAccept.length c2, .slice A5 aGuard.length c6, .slice A9 aNodes.length c10, .slice A3885 r3871.2.2.length c3886], .box g783 62 [.pointer (some ⟨g1477, 0, none⟩), .pointer (some ⟨g1484, 0, none⟩)]] ∧ x3893 = x3896) ?_ ?_
  ·
   have hP := h3894; clear h3894; rw [law21_WatchScript_j24] at hP
   refine rl_ <| vp 4 [(76, .bool ((r3853.1 : Int) == r3871.1))] E ?_
   clear E; intro a E
   revert E; refine csE 76 rfl (fun hb_ E => ?_) fun hb_ E => ?_
   ·
    have h3898 : (r3853.1 : Int) = r3871.1 := eq_of_beq hb_
    replace hP := ite_t h3898 hP
    refine vp 5 [(6, .bool ((r3853.2.1 : Int) == r3871.2.1))] E ?_
    clear E; intro a E
    refine nl_ ?_
    have hx_ := Option.some.inj hP
    exact .inl ⟨rfl, (r3853.2.1 : Int) == r3871.2.1, E.pk, H.sel [0, 3, 4, 2, 17, 16, 1, 9, 10, 11, 12, 8, 19, 18, 7] rfl, hx_.symm⟩
   have h3899 : ¬ ((r3853.1 : Int) = r3871.1) := ne_of_beq_false hb_
   replace hP := ite_f h3899 hP
   refine vp 5 [(6, .bool false)] E ?_
   clear E; intro a E
   refine nl_ ?_
   have hx_ := Option.some.inj hP
   exact .inl ⟨rfl, false, E.pk, H.sel [0, 3, 4, 2, 17, 16, 1, 9, 10, 11, 12, 8, 19, 18, 7] rfl, hx_.symm⟩
  clear E H h3894; rintro a w3897 ⟨x3896, E, H, hx_⟩
  subst hx_; have hP := hK3895; clear hK3895
  refine th_n <| wp_ret <| bl_ret <| th_ret ?_
  have hx_ := Option.some.inj hP
  refine ret1 E rfl rfl ?_
  exact ⟨_, rfl, (x3893, s1467, r3853.2.2, m1479, r3871.2.2), g1465, A1468, c1469, g1471, A3867, c3868, g1477, A1480, c1481, g1484, A3885, c3886, rfl, H.sel [0, 6, 3, 1, 2, 5, 4, 14, 11, 7, 8, 9, 10, 13, 12] rfl, hk2808, hc3887, hx_.symm⟩
 have h3900 : ¬ (((List.getD script i1490.toNat (0, 0, 0)).1 : Int) = 1) := ne_of_beq_false hb_
 replace hP := ite_f h3900 hP
 refine c_false E rfl <| sr_ <| vp 2 [(81, .bool (((List.getD script i1490.toNat (0, 0, 0)).1 : Int) == 2))] E ?_
 clear E; intro a E
 refine nn_ ?_
 revert E; refine csE 81 rfl (fun hb_ E => ?_) fun hb_ E => ?_
 ·
  have h3901 : ((List.getD script i1490.toNat (0, 0, 0)).1 : Int) = 2 := eq_of_beq hb_
  replace hP := ite_t h3901 hP
  refine c_true E rfl <| wp_seq ?_
  obtain ⟨x3992, h3993, hK3994⟩ := bind_inv hP
  clear hP
  refine meet_cut (fun a w3996 => ∃ (x3995 : Bool), Fr a 165 [(6, .bool x3995)] ∧ Hp S Fa w0 w3996 [.ro false cS70 (some ⟨b2175, o2176, none⟩) script, .ro true cS78 (some ⟨b92, 0, none⟩) ([x95.1]), .row true (cInt .i64) 3 A1468 c1469 s1467, .box g1465 27 [.pointer (some ⟨b92, 0, none⟩), .slice A1468 s1467.length c1469], .row true (cInt .i64) 3 A1474 c1475 s1473, .box g1471 27 [.pointer (some ⟨b92, 0, none⟩), .slice A1474 s1473.length c1475], .box g773 23 [.pointer (some ⟨g1465, 0, none⟩), .pointer (some ⟨g1471, 0, none⟩)], .ro false cBool A1 aAccept, .ro false (cInt .i64) A5 aGuard, .ro false cNode A9 aNodes, .ro false (cInt .u8) A1480 m1479, .box g1477 67 [.int .i64 aProps, .slice A1 aAccept.length c2, .slice A5 aGuard.length c6, .slice A9 aNodes.length c10, .slice A1480 m1479.length c1481], .ro false (cInt .u8) A1487 m1486, .box g1484 67 [.int .i64 aProps, .slice A1 aAccept.length c2, .slice A5 aGuard.length c6, .slice A9 aNodes.length c10, .slice A1487 m1486.length c1488], .box g783 62 [.pointer (some ⟨g1477, 0, none⟩), .pointer (some ⟨g1484, 0, none⟩)]] ∧ x3992 = x3995) ?_ ?_
  ·
   have hP := h3993; clear h3993; rw [law21_WatchScript_j25] at hP
   obtain ⟨r3997, h3998, hP⟩ := bind_inv hP
   obtain ⟨r4013, h4014, hP⟩ := bind_inv hP
   obtain ⟨r4028, h4029, hP⟩ := bind_inv hP
   by_cases h4037 : (r3997 : Int) = r4028
   ·
    replace hP := ite_t h4037 hP
    obtain ⟨r4038, h4039, hP⟩ := bind_inv hP
    obtain ⟨r4054, h4055, hP⟩ := bind_inv hP
    by_cases h4069 : (r4038 : Int) = r4054
    ·
     replace hP := ite_t h4069 hP
     obtain ⟨r4070, h4071, hP⟩ := bind_inv hP
     refine meet_cut (fun a w4086 => Fr a 165 [(6, .bool ((r4070 : Int) == (m1486.length : Int)))] ∧ Hp S Fa w0 w4086 [.ro false cS70 (some ⟨b2175, o2176, none⟩) script, .ro true cS78 (some ⟨b92, 0, none⟩) ([x95.1]), .row true (cInt .i64) 3 A1468 c1469 s1467, .box g1465 27 [.pointer (some ⟨b92, 0, none⟩), .slice A1468 s1467.length c1469], .row true (cInt .i64) 3 A1474 c1475 s1473, .box g1471 27 [.pointer (some ⟨b92, 0, none⟩), .slice A1474 s1473.length c1475], .box g773 23 [.pointer (some ⟨g1465, 0, none⟩), .pointer (some ⟨g1471, 0, none⟩)], .ro false cBool A1 aAccept, .ro false (cInt .i64) A5 aGuard, .ro false cNode A9 aNodes, .ro false (cInt .u8) A1480 m1479, .box g1477 67 [.int .i64 aProps, .slice A1 aAccept.length c2, .slice A5 aGuard.length c6, .slice A9 aNodes.length c10, .slice A1480 m1479.length c1481], .ro false (cInt .u8) A1487 m1486, .box g1484 67 [.int .i64 aProps, .slice A1 aAccept.length c2, .slice A5 aGuard.length c6, .slice A9 aNodes.length c10, .slice A1487 m1486.length c1488], .box g783 62 [.pointer (some ⟨g1477, 0, none⟩), .pointer (some ⟨g1484, 0, none⟩)]]) ?_ ?_
     ·
      have HR4090 := H
      refine dr_start (S := fun w_ => Chg (atL [.box g1471 27 [.pointer (some ⟨b92, 0, none⟩), .slice A1474 s1473.length c1475], .row true (cInt .i64) 3 A1474 c1475 s1473, .box g1484 67 [.int .i64 aProps, .slice A1 aAccept.length c2, .slice A5 aGuard.length c6, .slice A9 aNodes.length c10, .slice A1487 m1486.length c1488]]) w3799 w_) (by kernel_rfl) ?_
      intro w4087 hc4088
      have HS4089 : Chg (atL [.box g1471 27 [.pointer (some ⟨b92, 0, none⟩), .slice A1474 s1473.length c1475], .row true (cInt .i64) 3 A1474 c1475 s1473, .box g1484 67 [.int .i64 aProps, .slice A1 aAccept.length c2, .slice A5 aGuard.length c6, .slice A9 aNodes.length c10, .slice A1487 m1486.length c1488]]) w3799 w4087 := hc4088.mono (fun _ _ h_ => h_.elim)
      replace H := H.ext hc4088
      refine dn tbok (by kernel_rfl) [0, 2, 3, 4, 6] [] [(83, .pointer (some ⟨g1471, 0, none⟩)), (87, .pointer (some ⟨g1484, 0, none⟩)), (89, .pointer (some ⟨g1484, 0, none⟩))] (fun w_ => []) 23 E (fun _ _ => by kernel_rfl) (by kernel_rfl) (fun w_ hS_ => trivial) (by kernel_rfl) HS4089 ?_
      clear E; intro a E
      refine wpAnyH_all (rs := [1, 5]) (by kernel_rfl) (by simp) ?_
      refine all2 ?_ ?_
      ·
       refine wpOp_of_list rfl ?_
       obtain ⟨Fa4091, Hc4092, hb4093⟩ := H.call [5, 6] [(3, false)] rfl rfl ⟨flat_plain, trivial⟩
       refine e_call E rfl rfl Try.func12 rfl rfl rfl (watch_Watch_Verdict_calls g1471 b92 0 A1474 c1475 x95.1 s1473  Hc4092 h3998) ?_
       intro v4099 w4098 a hR4100 E_
       obtain ⟨x_, hr_, rfl, HR4102⟩ := hR4100
       subst hr_
       replace E := E_ _ rfl; clear E_
       obtain ⟨H_, hc4101⟩ := hb4093 _ _ HR4102 rfl
       replace HS4089 := HS4089.trans hc4101 (fun k_ hk_ h_ => h_.elim (fun h_ => by have hs_ := HS4089.size; exfalso; omega) (fun h_ => h_.elim (fun h_ => (fun _ _ h_ => Or.inl h_) k_ hk_ h_) (fun h_ => h_.elim (fun h_ => (fun _ _ h_ => Or.inr (Or.inl h_)) k_ hk_ h_) (fun h_ => h_.elim))))
       replace H := H_; clear H_; try dsimp only [setn, addE, goneL] at H
       refine nl_ <| th_n ⟨HS4089, ?_⟩
       refine wpAnyH_all (rs := [5, 7]) (by kernel_rfl) (by simp) ?_
       refine all2 ?_ ?_
       ·
        refine wpOp_of_list rfl ?_
        refine vq 1 [.agg #[.int .i64 aProps, .slice A1 aAccept.length c2, .slice A5 aGuard.length c6, .slice A9 aNodes.length c10]] [(88, .agg #[.int .i64 aProps, .slice A1 aAccept.length c2, .slice A5 aGuard.length c6, .slice A9 aNodes.length c10])] [cellsAt w4098 g1484 (0) [.int .i64 aProps, .slice A1 aAccept.length c2, .slice A5 aGuard.length c6, .slice A9 aNodes.length c10]] E ((H.box 13 rfl).sub 0 _ rfl) ?_
        clear E; intro a E
        refine nl_ <| th_n ⟨HS4089, ?_⟩
        refine wpAnyH_all (rs := [7]) (by kernel_rfl) (by simp) ?_
        refine all1 ?_
        refine wpOp_of_list rfl ?_
        obtain ⟨Fa4105, Hc4106, hb4107⟩ := H.call [13] [(9, false), (10, false), (11, false), (14, false)] rfl rfl trivial
        refine e_call E rfl rfl Try.func41 rfl rfl rfl (ref21_Watch_State_calls g1484 A1 c2 A5 c6 A9 c10 A1487 c1488 aProps aAccept aGuard aNodes m1486 hk2805 hk2806 hk2807 hk2809 Hc4106 h4014) ?_
        intro v4113 w4112 a hR4114 E_
        obtain ⟨x_, hr_, rfl, HR4116⟩ := hR4114
        subst hr_
        replace E := E_ _ rfl; clear E_
        obtain ⟨H_, hc4115⟩ := hb4107 _ _ HR4116 rfl
        replace HS4089 := HS4089.trans hc4115 (fun k_ hk_ h_ => h_.elim (fun h_ => by have hs_ := HS4089.size; exfalso; omega) (fun h_ => h_.elim (fun h_ => (fun _ _ h_ => Or.inr (Or.inr (Or.inl h_))) k_ hk_ h_) (fun h_ => h_.elim)))
        replace H := H_; clear H_; try dsimp only [setn, addE, goneL] at H
        refine nl_ <| th_n ⟨HS4089, ?_⟩
        refine wpAnyH_all (rs := [8]) (by kernel_rfl) (by simp) ?_
        refine all1 ?_
        refine wpOp_of_list rfl ?_
        obtain ⟨Fa4118, Hc4119, hb4120⟩ := H.call [] [(9, false), (10, false), (11, false)] rfl rfl trivial
        refine e_call E rfl rfl Try.func40 rfl rfl rfl (ref21_Verdict_calls A1 c2 A5 c6 A9 c10 aProps aAccept aGuard aNodes r4013 hk2805 hk2806 hk2807 Hc4119 h4029) ?_
        rintro v4121 w4122 a ⟨rfl, HR4123⟩ E_
        replace E := E_ _ rfl; clear E_
        obtain ⟨H_, hc4124⟩ := hb4120 _ _ HR4123 rfl
        replace HS4089 := HS4089.ext (callS_ext hc4124)
        replace H := H_; clear H_; try dsimp only [setn, addE, goneL] at H
        refine nl_ <| th_n ⟨HS4089, ?_⟩
        refine dn tbok (by kernel_rfl) [9, 10] [] [(93, .bool ((r3997 : Int) == r4028))] (fun w_ => []) 17 E (fun _ _ => by kernel_rfl) (by kernel_rfl) (fun w_ hS_ => trivial) (by kernel_rfl) HS4089 ?_
        clear E; intro a E
        replace E := E.same (t := 93) (u := .bool true) rfl (congrArg Value.bool (beq_iff_eq.2 h4037))
        refine dn tbok (by kernel_rfl) [11, 13] [] [(94, .pointer (some ⟨g1471, 0, none⟩)), (96, .pointer (some ⟨g1484, 0, none⟩))] (fun w_ => []) 15 E (fun _ _ => by kernel_rfl) (by kernel_rfl) (fun w_ hS_ => trivial) (by kernel_rfl) HS4089 ?_
        clear E; intro a E
        refine wpAnyH_all (rs := [12]) (by kernel_rfl) (by simp) ?_
        refine all1 ?_
        refine wpOp_of_list rfl ?_
        obtain ⟨Fa4125, Hc4126, hb4127⟩ := H.call [17, 16] [(3, false)] rfl rfl ⟨flat_plain, trivial⟩
        refine e_call E rfl rfl Try.func13 rfl rfl rfl (watch_Watch_State_calls g1471 b92 0 A1474 c1475 x95.1 s1473  Hc4126 h4039) ?_
        intro v4133 w4132 a hR4134 E_
        obtain ⟨x_, hr_, rfl, HR4136⟩ := hR4134
        subst hr_
        replace E := E_ _ rfl; clear E_
        obtain ⟨H_, hc4135⟩ := hb4127 _ _ HR4136 rfl
        replace HS4089 := HS4089.trans hc4135 (fun k_ hk_ h_ => h_.elim (fun h_ => by have hs_ := HS4089.size; exfalso; omega) (fun h_ => h_.elim (fun h_ => (fun _ _ h_ => Or.inl h_) k_ hk_ h_) (fun h_ => h_.elim (fun h_ => (fun _ _ h_ => Or.inr (Or.inl h_)) k_ hk_ h_) (fun h_ => h_.elim))))
        replace H := H_; clear H_; try dsimp only [setn, addE, goneL] at H
        refine nl_ <| th_n ⟨HS4089, ?_⟩
        refine wpAnyH_all (rs := [14]) (by kernel_rfl) (by simp) ?_
        refine all1 ?_
        refine wpOp_of_list rfl ?_
        obtain ⟨Fa4139, Hc4140, hb4141⟩ := H.call [18] [(9, false), (10, false), (11, false), (14, false)] rfl rfl trivial
        refine e_call E rfl rfl Try.func41 rfl rfl rfl (ref21_Watch_State_calls g1484 A1 c2 A5 c6 A9 c10 A1487 c1488 aProps aAccept aGuard aNodes m1486 hk2805 hk2806 hk2807 hk2809 Hc4140 h4055) ?_
        intro v4147 w4146 a hR4148 E_
        obtain ⟨x_, hr_, rfl, HR4150⟩ := hR4148
        subst hr_
        replace E := E_ _ rfl; clear E_
        obtain ⟨H_, hc4149⟩ := hb4141 _ _ HR4150 rfl
        replace HS4089 := HS4089.trans hc4149 (fun k_ hk_ h_ => h_.elim (fun h_ => by have hs_ := HS4089.size; exfalso; omega) (fun h_ => h_.elim (fun h_ => (fun _ _ h_ => Or.inr (Or.inr (Or.inl h_))) k_ hk_ h_) (fun h_ => h_.elim)))
        replace H := H_; clear H_; try dsimp only [setn, addE, goneL] at H
        refine nl_ <| th_n ⟨HS4089, ?_⟩
        refine dn tbok (by kernel_rfl) [15, 16, 17] [] [(100, .bool ((r4038 : Int) == r4054))] (fun w_ => []) 10 E (fun _ _ => by kernel_rfl) (by kernel_rfl) (fun w_ hS_ => trivial) (by kernel_rfl) HS4089 ?_
        clear E; intro a E
        replace E := E.same (t := 100) (u := .bool true) rfl (congrArg Value.bool (beq_iff_eq.2 h4069))
        refine dn tbok (by kernel_rfl) [18, 20, 21, 22] [] [(101, .pointer (some ⟨g1471, 0, none⟩)), (105, .pointer (some ⟨g1484, 4, none⟩))] (fun w_ => []) 6 E (fun _ _ => by kernel_rfl) (by kernel_rfl) (fun w_ hS_ => trivial) (by kernel_rfl) HS4089 ?_
        clear E; intro a E
        refine wpAnyH_all (rs := [19, 23]) (by kernel_rfl) (by simp) ?_
        refine all2 ?_ ?_
        ·
         refine wpOp_of_list rfl ?_
         obtain ⟨Fa4152, Hc4153, hb4154⟩ := H.call [20, 19] [(3, false)] rfl rfl ⟨flat_plain, trivial⟩
         refine e_call E rfl rfl Try.func14 rfl rfl rfl (watch_Watch_Len_calls g1471 b92 0 A1474 c1475 x95.1 s1473  Hc4153 h4071) ?_
         intro v4160 w4159 a hR4161 E_
         obtain ⟨x_, hr_, rfl, HR4163⟩ := hR4161
         subst hr_
         replace E := E_ _ rfl; clear E_
         obtain ⟨H_, hc4162⟩ := hb4154 _ _ HR4163 rfl
         replace HS4089 := HS4089.trans hc4162 (fun k_ hk_ h_ => h_.elim (fun h_ => by have hs_ := HS4089.size; exfalso; omega) (fun h_ => h_.elim (fun h_ => (fun _ _ h_ => Or.inl h_) k_ hk_ h_) (fun h_ => h_.elim (fun h_ => (fun _ _ h_ => Or.inr (Or.inl h_)) k_ hk_ h_) (fun h_ => h_.elim))))
         replace H := H_; clear H_; try dsimp only [setn, addE, goneL] at H
         refine nl_ <| th_n ⟨HS4089, ?_⟩
         refine wpAnyH_all (rs := [23]) (by kernel_rfl) (by simp) ?_
         refine all1 ?_
         refine wpOp_of_list rfl ?_
         refine vq 1 [.slice A1487 m1486.length c1488] [(106, .slice A1487 m1486.length c1488)] [World.cell? w4159 ⟨g1484, 4, none⟩ = some (.slice A1487 m1486.length c1488)] E ((H.box 21 rfl).cell (j := 4) rfl) ?_
         clear E; intro a E
         refine nl_ <| th_n ⟨HS4089, ?_⟩
         refine dn tbok (by kernel_rfl) [24, 25, 26, 27] [] [(6, .bool ((r4070 : Int) == (m1486.length : Int)))] (fun w_ => []) 0 E (fun _ _ => by kernel_rfl) (by kernel_rfl) (fun w_ hS_ => trivial) (by kernel_rfl) HS4089 ?_
         clear E; intro a E
         refine dr_done (by kernel_rfl) ?_
         exact .inl ⟨rfl, E.pk, H.sel [0, 3, 4, 2, 22, 23, 1, 9, 10, 11, 12, 8, 14, 21, 7] rfl⟩
        refine wpOp_of_list rfl ?_
        refine vq 1 [.slice A1487 m1486.length c1488] [(106, .slice A1487 m1486.length c1488)] [World.cell? w4146 ⟨g1484, 4, none⟩ = some (.slice A1487 m1486.length c1488)] E ((H.box 21 rfl).cell (j := 4) rfl) ?_
        clear E; intro a E
        refine nl_ <| th_n ⟨HS4089, ?_⟩
        refine dn tbok (by kernel_rfl) [24] [] [(107, .int .i64 (m1486.length : Int))] (fun w_ => []) 4 E (fun _ _ => by kernel_rfl) (by kernel_rfl) (fun w_ hS_ => trivial) (by kernel_rfl) HS4089 ?_
        clear E; intro a E
        refine wpAnyH_all (rs := [19]) (by kernel_rfl) (by simp) ?_
        refine all1 ?_
        refine wpOp_of_list rfl ?_
        obtain ⟨Fa4166, Hc4167, hb4168⟩ := H.call [20, 19] [(3, false)] rfl rfl ⟨flat_plain, trivial⟩
        refine e_call E rfl rfl Try.func14 rfl rfl rfl (watch_Watch_Len_calls g1471 b92 0 A1474 c1475 x95.1 s1473  Hc4167 h4071) ?_
        intro v4174 w4173 a hR4175 E_
        obtain ⟨x_, hr_, rfl, HR4177⟩ := hR4175
        subst hr_
        replace E := E_ _ rfl; clear E_
        obtain ⟨H_, hc4176⟩ := hb4168 _ _ HR4177 rfl
        replace HS4089 := HS4089.trans hc4176 (fun k_ hk_ h_ => h_.elim (fun h_ => by have hs_ := HS4089.size; exfalso; omega) (fun h_ => h_.elim (fun h_ => (fun _ _ h_ => Or.inl h_) k_ hk_ h_) (fun h_ => h_.elim (fun h_ => (fun _ _ h_ => Or.inr (Or.inl h_)) k_ hk_ h_) (fun h_ => h_.elim))))
        replace H := H_; clear H_; try dsimp only [setn, addE, goneL] at H
        refine nl_ <| th_n ⟨HS4089, ?_⟩
        refine dn tbok (by kernel_rfl) [25, 26, 27] [] [(6, .bool ((r4070 : Int) == (m1486.length : Int)))] (fun w_ => []) 0 E (fun _ _ => by kernel_rfl) (by kernel_rfl) (fun w_ hS_ => trivial) (by kernel_rfl) HS4089 ?_
        clear E; intro a E
        refine dr_done (by kernel_rfl) ?_
        exact .inl ⟨rfl, E.pk, H.sel [0, 3, 4, 2, 22, 23, 1, 9, 10, 11, 12, 8, 14, 21, 7] rfl⟩
       refine wpOp_of_list rfl ?_
       obtain ⟨Fa4180, Hc4181, hb4182⟩ := H.call [13] [(9, false), (10, false), (11, false), (14, false)] rfl rfl trivial
       refine e_call E rfl rfl Try.func41 rfl rfl rfl (ref21_Watch_State_calls g1484 A1 c2 A5 c6 A9 c10 A1487 c1488 aProps aAccept aGuard aNodes m1486 hk2805 hk2806 hk2807 hk2809 Hc4181 h4014) ?_
       intro v4188 w4187 a hR4189 E_
       obtain ⟨x_, hr_, rfl, HR4191⟩ := hR4189
       subst hr_
       replace E := E_ _ rfl; clear E_
       obtain ⟨H_, hc4190⟩ := hb4182 _ _ HR4191 rfl
       replace HS4089 := HS4089.trans hc4190 (fun k_ hk_ h_ => h_.elim (fun h_ => by have hs_ := HS4089.size; exfalso; omega) (fun h_ => h_.elim (fun h_ => (fun _ _ h_ => Or.inr (Or.inr (Or.inl h_))) k_ hk_ h_) (fun h_ => h_.elim)))
       replace H := H_; clear H_; try dsimp only [setn, addE, goneL] at H
       refine nl_ <| th_n ⟨HS4089, ?_⟩
       refine wpAnyH_all (rs := [5]) (by kernel_rfl) (by simp) ?_
       refine all1 ?_
       refine wpOp_of_list rfl ?_
       refine vq 1 [.agg #[.int .i64 aProps, .slice A1 aAccept.length c2, .slice A5 aGuard.length c6, .slice A9 aNodes.length c10]] [(88, .agg #[.int .i64 aProps, .slice A1 aAccept.length c2, .slice A5 aGuard.length c6, .slice A9 aNodes.length c10])] [cellsAt w4187 g1484 (0) [.int .i64 aProps, .slice A1 aAccept.length c2, .slice A5 aGuard.length c6, .slice A9 aNodes.length c10]] E ((H.box 18 rfl).sub 0 _ rfl) ?_
       clear E; intro a E
       refine nl_ <| th_n ⟨HS4089, ?_⟩
       refine wpAnyH_all (rs := [8]) (by kernel_rfl) (by simp) ?_
       refine all1 ?_
       refine wpOp_of_list rfl ?_
       obtain ⟨Fa4193, Hc4194, hb4195⟩ := H.call [] [(9, false), (10, false), (11, false)] rfl rfl trivial
       refine e_call E rfl rfl Try.func40 rfl rfl rfl (ref21_Verdict_calls A1 c2 A5 c6 A9 c10 aProps aAccept aGuard aNodes r4013 hk2805 hk2806 hk2807 Hc4194 h4029) ?_
       rintro v4196 w4197 a ⟨rfl, HR4198⟩ E_
       replace E := E_ _ rfl; clear E_
       obtain ⟨H_, hc4199⟩ := hb4195 _ _ HR4198 rfl
       replace HS4089 := HS4089.ext (callS_ext hc4199)
       replace H := H_; clear H_; try dsimp only [setn, addE, goneL] at H
       refine nl_ <| th_n ⟨HS4089, ?_⟩
       refine dn tbok (by kernel_rfl) [9, 10] [] [(93, .bool ((r3997 : Int) == r4028))] (fun w_ => []) 17 E (fun _ _ => by kernel_rfl) (by kernel_rfl) (fun w_ hS_ => trivial) (by kernel_rfl) HS4089 ?_
       clear E; intro a E
       replace E := E.same (t := 93) (u := .bool true) rfl (congrArg Value.bool (beq_iff_eq.2 h4037))
       refine dn tbok (by kernel_rfl) [11, 13] [] [(94, .pointer (some ⟨g1471, 0, none⟩)), (96, .pointer (some ⟨g1484, 0, none⟩))] (fun w_ => []) 15 E (fun _ _ => by kernel_rfl) (by kernel_rfl) (fun w_ hS_ => trivial) (by kernel_rfl) HS4089 ?_
       clear E; intro a E
       refine wpAnyH_all (rs := [12]) (by kernel_rfl) (by simp) ?_
       refine all1 ?_
       refine wpOp_of_list rfl ?_
       obtain ⟨Fa4200, Hc4201, hb4202⟩ := H.call [17, 16] [(3, false)] rfl rfl ⟨flat_plain, trivial⟩
       refine e_call E rfl rfl Try.func13 rfl rfl rfl (watch_Watch_State_calls g1471 b92 0 A1474 c1475 x95.1 s1473  Hc4201 h4039) ?_
       intro v4208 w4207 a hR4209 E_
       obtain ⟨x_, hr_, rfl, HR4211⟩ := hR4209
       subst hr_
       replace E := E_ _ rfl; clear E_
       obtain ⟨H_, hc4210⟩ := hb4202 _ _ HR4211 rfl
       replace HS4089 := HS4089.trans hc4210 (fun k_ hk_ h_ => h_.elim (fun h_ => by have hs_ := HS4089.size; exfalso; omega) (fun h_ => h_.elim (fun h_ => (fun _ _ h_ => Or.inl h_) k_ hk_ h_) (fun h_ => h_.elim (fun h_ => (fun _ _ h_ => Or.inr (Or.inl h_)) k_ hk_ h_) (fun h_ => h_.elim))))
       replace H := H_; clear H_; try dsimp only [setn, addE, goneL] at H
       refine nl_ <| th_n ⟨HS4089, ?_⟩
       refine wpAnyH_all (rs := [14]) (by kernel_rfl) (by simp) ?_
       refine all1 ?_
       refine wpOp_of_list rfl ?_
       obtain ⟨Fa4214, Hc4215, hb4216⟩ := H.call [18] [(9, false), (10, false), (11, false), (14, false)] rfl rfl trivial
       refine e_call E rfl rfl Try.func41 rfl rfl rfl (ref21_Watch_State_calls g1484 A1 c2 A5 c6 A9 c10 A1487 c1488 aProps aAccept aGuard aNodes m1486 hk2805 hk2806 hk2807 hk2809 Hc4215 h4055) ?_
       intro v4222 w4221 a hR4223 E_
       obtain ⟨x_, hr_, rfl, HR4225⟩ := hR4223
       subst hr_
       replace E := E_ _ rfl; clear E_
       obtain ⟨H_, hc4224⟩ := hb4216 _ _ HR4225 rfl
       replace HS4089 := HS4089.trans hc4224 (fun k_ hk_ h_ => h_.elim (fun h_ => by have hs_ := HS4089.size; exfalso; omega) (fun h_ => h_.elim (fun h_ => (fun _ _ h_ => Or.inr (Or.inr (Or.inl h_))) k_ hk_ h_) (fun h_ => h_.elim)))
       replace H := H_; clear H_; try dsimp only [setn, addE, goneL] at H
       refine nl_ <| th_n ⟨HS4089, ?_⟩
       refine dn tbok (by kernel_rfl) [15, 16, 17] [] [(100, .bool ((r4038 : Int) == r4054))] (fun w_ => []) 10 E (fun _ _ => by kernel_rfl) (by kernel_rfl) (fun w_ hS_ => trivial) (by kernel_rfl) HS4089 ?_
       clear E; intro a E
       replace E := E.same (t := 100) (u := .bool true) rfl (congrArg Value.bool (beq_iff_eq.2 h4069))
       refine dn tbok (by kernel_rfl) [18, 20, 21, 22] [] [(101, .pointer (some ⟨g1471, 0, none⟩)), (105, .pointer (some ⟨g1484, 4, none⟩))] (fun w_ => []) 6 E (fun _ _ => by kernel_rfl) (by kernel_rfl) (fun w_ hS_ => trivial) (by kernel_rfl) HS4089 ?_
       clear E; intro a E
       refine wpAnyH_all (rs := [19, 23]) (by kernel_rfl) (by simp) ?_
       refine all2 ?_ ?_
       ·
        refine wpOp_of_list rfl ?_
        obtain ⟨Fa4227, Hc4228, hb4229⟩ := H.call [20, 19] [(3, false)] rfl rfl ⟨flat_plain, trivial⟩
        refine e_call E rfl rfl Try.func14 rfl rfl rfl (watch_Watch_Len_calls g1471 b92 0 A1474 c1475 x95.1 s1473  Hc4228 h4071) ?_
        intro v4235 w4234 a hR4236 E_
        obtain ⟨x_, hr_, rfl, HR4238⟩ := hR4236
        subst hr_
        replace E := E_ _ rfl; clear E_
        obtain ⟨H_, hc4237⟩ := hb4229 _ _ HR4238 rfl
        replace HS4089 := HS4089.trans hc4237 (fun k_ hk_ h_ => h_.elim (fun h_ => by have hs_ := HS4089.size; exfalso; omega) (fun h_ => h_.elim (fun h_ => (fun _ _ h_ => Or.inl h_) k_ hk_ h_) (fun h_ => h_.elim (fun h_ => (fun _ _ h_ => Or.inr (Or.inl h_)) k_ hk_ h_) (fun h_ => h_.elim))))
        replace H := H_; clear H_; try dsimp only [setn, addE, goneL] at H
        refine nl_ <| th_n ⟨HS4089, ?_⟩
        refine wpAnyH_all (rs := [23]) (by kernel_rfl) (by simp) ?_
        refine all1 ?_
        refine wpOp_of_list rfl ?_
        refine vq 1 [.slice A1487 m1486.length c1488] [(106, .slice A1487 m1486.length c1488)] [World.cell? w4234 ⟨g1484, 4, none⟩ = some (.slice A1487 m1486.length c1488)] E ((H.box 21 rfl).cell (j := 4) rfl) ?_
        clear E; intro a E
        refine nl_ <| th_n ⟨HS4089, ?_⟩
        refine dn tbok (by kernel_rfl) [24, 25, 26, 27] [] [(6, .bool ((r4070 : Int) == (m1486.length : Int)))] (fun w_ => []) 0 E (fun _ _ => by kernel_rfl) (by kernel_rfl) (fun w_ hS_ => trivial) (by kernel_rfl) HS4089 ?_
        clear E; intro a E
        refine dr_done (by kernel_rfl) ?_
        exact .inl ⟨rfl, E.pk, H.sel [0, 3, 4, 2, 22, 23, 1, 9, 10, 11, 12, 8, 14, 21, 7] rfl⟩
       refine wpOp_of_list rfl ?_
       refine vq 1 [.slice A1487 m1486.length c1488] [(106, .slice A1487 m1486.length c1488)] [World.cell? w4221 ⟨g1484, 4, none⟩ = some (.slice A1487 m1486.length c1488)] E ((H.box 21 rfl).cell (j := 4) rfl) ?_
       clear E; intro a E
       refine nl_ <| th_n ⟨HS4089, ?_⟩
       refine dn tbok (by kernel_rfl) [24] [] [(107, .int .i64 (m1486.length : Int))] (fun w_ => []) 4 E (fun _ _ => by kernel_rfl) (by kernel_rfl) (fun w_ hS_ => trivial) (by kernel_rfl) HS4089 ?_
       clear E; intro a E
       refine wpAnyH_all (rs := [19]) (by kernel_rfl) (by simp) ?_
       refine all1 ?_
       refine wpOp_of_list rfl ?_
       obtain ⟨Fa4241, Hc4242, hb4243⟩ := H.call [20, 19] [(3, false)] rfl rfl ⟨flat_plain, trivial⟩
       refine e_call E rfl rfl Try.func14 rfl rfl rfl (watch_Watch_Len_calls g1471 b92 0 A1474 c1475 x95.1 s1473  Hc4242 h4071) ?_
       intro v4249 w4248 a hR4250 E_
       obtain ⟨x_, hr_, rfl, HR4252⟩ := hR4250
       subst hr_
       replace E := E_ _ rfl; clear E_
       obtain ⟨H_, hc4251⟩ := hb4243 _ _ HR4252 rfl
       replace HS4089 := HS4089.trans hc4251 (fun k_ hk_ h_ => h_.elim (fun h_ => by have hs_ := HS4089.size; exfalso; omega) (fun h_ => h_.elim (fun h_ => (fun _ _ h_ => Or.inl h_) k_ hk_ h_) (fun h_ => h_.elim (fun h_ => (fun _ _ h_ => Or.inr (Or.inl h_)) k_ hk_ h_) (fun h_ => h_.elim))))
       replace H := H_; clear H_; try dsimp only [setn, addE, goneL] at H
       refine nl_ <| th_n ⟨HS4089, ?_⟩
       refine dn tbok (by kernel_rfl) [25, 26, 27] [] [(6, .bool ((r4070 : Int) == (m1486.length : Int)))] (fun w_ => []) 0 E (fun _ _ => by kernel_rfl) (by kernel_rfl) (fun w_ hS_ => trivial) (by kernel_rfl) HS4089 ?_
       clear E; intro a E
       refine dr_done (by kernel_rfl) ?_
       exact .inl ⟨rfl, E.pk, H.sel [0, 3, 4, 2, 22, 23, 1, 9, 10, 11, 12, 8, 14, 21, 7] rfl⟩
      refine wpOp_of_list rfl ?_
      refine vq 1 [.agg #[.int .i64 aProps, .slice A1 aAccept.length c2, .slice A5 aGuard.length c6, .slice A9 aNodes.length c10]] [(88, .agg #[.int .i64 aProps, .slice A1 aAccept.length c2, .slice A5 aGuard.length c6, .slice A9 aNodes.length c10])] [cellsAt w4087 g1484 (0) [.int .i64 aProps, .slice A1 aAccept.length c2, .slice A5 aGuard.length c6, .slice A9 aNodes.length c10]] E ((H.box 13 rfl).sub 0 _ rfl) ?_
      clear E; intro a E
      refine nl_ <| th_n ⟨HS4089, ?_⟩
      refine wpAnyH_all (rs := [1]) (by kernel_rfl) (by simp) ?_
      refine all1 ?_
      refine wpOp_of_list rfl ?_
      obtain ⟨Fa4255, Hc4256, hb4257⟩ := H.call [5, 6] [(3, false)] rfl rfl ⟨flat_plain, trivial⟩
      refine e_call E rfl rfl Try.func12 rfl rfl rfl (watch_Watch_Verdict_calls g1471 b92 0 A1474 c1475 x95.1 s1473  Hc4256 h3998) ?_
      intro v4263 w4262 a hR4264 E_
      obtain ⟨x_, hr_, rfl, HR4266⟩ := hR4264
      subst hr_
      replace E := E_ _ rfl; clear E_
      obtain ⟨H_, hc4265⟩ := hb4257 _ _ HR4266 rfl
      replace HS4089 := HS4089.trans hc4265 (fun k_ hk_ h_ => h_.elim (fun h_ => by have hs_ := HS4089.size; exfalso; omega) (fun h_ => h_.elim (fun h_ => (fun _ _ h_ => Or.inl h_) k_ hk_ h_) (fun h_ => h_.elim (fun h_ => (fun _ _ h_ => Or.inr (Or.inl h_)) k_ hk_ h_) (fun h_ => h_.elim))))
      replace H := H_; clear H_; try dsimp only [setn, addE, goneL] at H
      refine nl_ <| th_n ⟨HS4089, ?_⟩
      refine wpAnyH_all (rs := [7]) (by kernel_rfl) (by simp) ?_
      refine all1 ?_
      refine wpOp_of_list rfl ?_
      obtain ⟨Fa4269, Hc4270, hb4271⟩ := H.call [13] [(9, false), (10, false), (11, false), (14, false)] rfl rfl trivial
      refine e_call E rfl rfl Try.func41 rfl rfl rfl (ref21_Watch_State_calls g1484 A1 c2 A5 c6 A9 c10 A1487 c1488 aProps aAccept aGuard aNodes m1486 hk2805 hk2806 hk2807 hk2809 Hc4270 h4014) ?_
      intro v4277 w4276 a hR4278 E_
      obtain ⟨x_, hr_, rfl, HR4280⟩ := hR4278
      subst hr_
      replace E := E_ _ rfl; clear E_
      obtain ⟨H_, hc4279⟩ := hb4271 _ _ HR4280 rfl
      replace HS4089 := HS4089.trans hc4279 (fun k_ hk_ h_ => h_.elim (fun h_ => by have hs_ := HS4089.size; exfalso; omega) (fun h_ => h_.elim (fun h_ => (fun _ _ h_ => Or.inr (Or.inr (Or.inl h_))) k_ hk_ h_) (fun h_ => h_.elim)))
      replace H := H_; clear H_; try dsimp only [setn, addE, goneL] at H
      refine nl_ <| th_n ⟨HS4089, ?_⟩
      refine wpAnyH_all (rs := [8]) (by kernel_rfl) (by simp) ?_
      refine all1 ?_
      refine wpOp_of_list rfl ?_
      obtain ⟨Fa4282, Hc4283, hb4284⟩ := H.call [] [(9, false), (10, false), (11, false)] rfl rfl trivial
      refine e_call E rfl rfl Try.func40 rfl rfl rfl (ref21_Verdict_calls A1 c2 A5 c6 A9 c10 aProps aAccept aGuard aNodes r4013 hk2805 hk2806 hk2807 Hc4283 h4029) ?_
      rintro v4285 w4286 a ⟨rfl, HR4287⟩ E_
      replace E := E_ _ rfl; clear E_
      obtain ⟨H_, hc4288⟩ := hb4284 _ _ HR4287 rfl
      replace HS4089 := HS4089.ext (callS_ext hc4288)
      replace H := H_; clear H_; try dsimp only [setn, addE, goneL] at H
      refine nl_ <| th_n ⟨HS4089, ?_⟩
      refine dn tbok (by kernel_rfl) [9, 10] [] [(93, .bool ((r3997 : Int) == r4028))] (fun w_ => []) 17 E (fun _ _ => by kernel_rfl) (by kernel_rfl) (fun w_ hS_ => trivial) (by kernel_rfl) HS4089 ?_
      clear E; intro a E
      replace E := E.same (t := 93) (u := .bool true) rfl (congrArg Value.bool (beq_iff_eq.2 h4037))
      refine dn tbok (by kernel_rfl) [11, 13] [] [(94, .pointer (some ⟨g1471, 0, none⟩)), (96, .pointer (some ⟨g1484, 0, none⟩))] (fun w_ => []) 15 E (fun _ _ => by kernel_rfl) (by kernel_rfl) (fun w_ hS_ => trivial) (by kernel_rfl) HS4089 ?_
      clear E; intro a E
      refine wpAnyH_all (rs := [12]) (by kernel_rfl) (by simp) ?_
      refine all1 ?_
      refine wpOp_of_list rfl ?_
      obtain ⟨Fa4289, Hc4290, hb4291⟩ := H.call [17, 16] [(3, false)] rfl rfl ⟨flat_plain, trivial⟩
      refine e_call E rfl rfl Try.func13 rfl rfl rfl (watch_Watch_State_calls g1471 b92 0 A1474 c1475 x95.1 s1473  Hc4290 h4039) ?_
      intro v4297 w4296 a hR4298 E_
      obtain ⟨x_, hr_, rfl, HR4300⟩ := hR4298
      subst hr_
      replace E := E_ _ rfl; clear E_
      obtain ⟨H_, hc4299⟩ := hb4291 _ _ HR4300 rfl
      replace HS4089 := HS4089.trans hc4299 (fun k_ hk_ h_ => h_.elim (fun h_ => by have hs_ := HS4089.size; exfalso; omega) (fun h_ => h_.elim (fun h_ => (fun _ _ h_ => Or.inl h_) k_ hk_ h_) (fun h_ => h_.elim (fun h_ => (fun _ _ h_ => Or.inr (Or.inl h_)) k_ hk_ h_) (fun h_ => h_.elim))))
      replace H := H_; clear H_; try dsimp only [setn, addE, goneL] at H
      refine nl_ <| th_n ⟨HS4089, ?_⟩
      refine wpAnyH_all (rs := [14]) (by kernel_rfl) (by simp) ?_
      refine all1 ?_
      refine wpOp_of_list rfl ?_
      obtain ⟨Fa4303, Hc4304, hb4305⟩ := H.call [18] [(9, false), (10, false), (11, false), (14, false)] rfl rfl trivial
      refine e_call E rfl rfl Try.func41 rfl rfl rfl (ref21_Watch_State_calls g1484 A1 c2 A5 c6 A9 c10 A1487 c1488 aProps aAccept aGuard aNodes m1486 hk2805 hk2806 hk2807 hk2809 Hc4304 h4055) ?_
      intro v4311 w4310 a hR4312 E_
      obtain ⟨x_, hr_, rfl, HR4314⟩ := hR4312
      subst hr_
      replace E := E_ _ rfl; clear E_
      obtain ⟨H_, hc4313⟩ := hb4305 _ _ HR4314 rfl
      replace HS4089 := HS4089.trans hc4313 (fun k_ hk_ h_ => h_.elim (fun h_ => by have hs_ := HS4089.size; exfalso; omega) (fun h_ => h_.elim (fun h_ => (fun _ _ h_ => Or.inr (Or.inr (Or.inl h_))) k_ hk_ h_) (fun h_ => h_.elim)))
      replace H := H_; clear H_; try dsimp only [setn, addE, goneL] at H
      refine nl_ <| th_n ⟨HS4089, ?_⟩
      refine dn tbok (by kernel_rfl) [15, 16, 17] [] [(100, .bool ((r4038 : Int) == r4054))] (fun w_ => []) 10 E (fun _ _ => by kernel_rfl) (by kernel_rfl) (fun w_ hS_ => trivial) (by kernel_rfl) HS4089 ?_
      clear E; intro a E
      replace E := E.same (t := 100) (u := .bool true) rfl (congrArg Value.bool (beq_iff_eq.2 h4069))
      refine dn tbok (by kernel_rfl) [18, 20, 21, 22] [] [(101, .pointer (some ⟨g1471, 0, none⟩)), (105, .pointer (some ⟨g1484, 4, none⟩))] (fun w_ => []) 6 E (fun _ _ => by kernel_rfl) (by kernel_rfl) (fun w_ hS_ => trivial) (by kernel_rfl) HS4089 ?_
      clear E; intro a E
      refine wpAnyH_all (rs := [19, 23]) (by kernel_rfl) (by simp) ?_
      refine all2 ?_ ?_
      ·
       refine wpOp_of_list rfl ?_
       obtain ⟨Fa4316, Hc4317, hb4318⟩ := H.call [20, 19] [(3, false)] rfl rfl ⟨flat_plain, trivial⟩
       refine e_call E rfl rfl Try.func14 rfl rfl rfl (watch_Watch_Len_calls g1471 b92 0 A1474 c1475 x95.1 s1473  Hc4317 h4071) ?_
       intro v4324 w4323 a hR4325 E_
       obtain ⟨x_, hr_, rfl, HR4327⟩ := hR4325
       subst hr_
       replace E := E_ _ rfl; clear E_
       obtain ⟨H_, hc4326⟩ := hb4318 _ _ HR4327 rfl
       replace HS4089 := HS4089.trans hc4326 (fun k_ hk_ h_ => h_.elim (fun h_ => by have hs_ := HS4089.size; exfalso; omega) (fun h_ => h_.elim (fun h_ => (fun _ _ h_ => Or.inl h_) k_ hk_ h_) (fun h_ => h_.elim (fun h_ => (fun _ _ h_ => Or.inr (Or.inl h_)) k_ hk_ h_) (fun h_ => h_.elim))))
       replace H := H_; clear H_; try dsimp only [setn, addE, goneL] at H
       refine nl_ <| th_n ⟨HS4089, ?_⟩
       refine wpAnyH_all (rs := [23]) (by kernel_rfl) (by simp) ?_
       refine all1 ?_
       refine wpOp_of_list rfl ?_
       refine vq 1 [.slice A1487 m1486.length c1488] [(106, .slice A1487 m1486.length c1488)] [World.cell? w4323 ⟨g1484, 4, none⟩ = some (.slice A1487 m1486.length c1488)] E ((H.box 21 rfl).cell (j := 4) rfl) ?_
       clear E; intro a E
       refine nl_ <| th_n ⟨HS4089, ?_⟩
       refine dn tbok (by kernel_rfl) [24, 25, 26, 27] [] [(6, .bool ((r4070 : Int) == (m1486.length : Int)))] (fun w_ => []) 0 E (fun _ _ => by kernel_rfl) (by kernel_rfl) (fun w_ hS_ => trivial) (by kernel_rfl) HS4089 ?_
       clear E; intro a E
       refine dr_done (by kernel_rfl) ?_
       exact .inl ⟨rfl, E.pk, H.sel [0, 3, 4, 2, 22, 23, 1, 9, 10, 11, 12, 8, 14, 21, 7] rfl⟩
      refine wpOp_of_list rfl ?_
      refine vq 1 [.slice A1487 m1486.length c1488] [(106, .slice A1487 m1486.length c1488)] [World.cell? w4310 ⟨g1484, 4, none⟩ = some (.slice A1487 m1486.length c1488)] E ((H.box 21 rfl).cell (j := 4) rfl) ?_
      clear E; intro a E
      refine nl_ <| th_n ⟨HS4089, ?_⟩
      refine dn tbok (by kernel_rfl) [24] [] [(107, .int .i64 (m1486.length : Int))] (fun w_ => []) 4 E (fun _ _ => by kernel_rfl) (by kernel_rfl) (fun w_ hS_ => trivial) (by kernel_rfl) HS4089 ?_
      clear E; intro a E
      refine wpAnyH_all (rs := [19]) (by kernel_rfl) (by simp) ?_
      refine all1 ?_
      refine wpOp_of_list rfl ?_
      obtain ⟨Fa4330, Hc4331, hb4332⟩ := H.call [20, 19] [(3, false)] rfl rfl ⟨flat_plain, trivial⟩
      refine e_call E rfl rfl Try.func14 rfl rfl rfl (watch_Watch_Len_calls g1471 b92 0 A1474 c1475 x95.1 s1473  Hc4331 h4071) ?_
      intro v4338 w4337 a hR4339 E_
      obtain ⟨x_, hr_, rfl, HR4341⟩ := hR4339
      subst hr_
      replace E := E_ _ rfl; clear E_
      obtain ⟨H_, hc4340⟩ := hb4332 _ _ HR4341 rfl
      replace HS4089 := HS4089.trans hc4340 (fun k_ hk_ h_ => h_.elim (fun h_ => by have hs_ := HS4089.size; exfalso; omega) (fun h_ => h_.elim (fun h_ => (fun _ _ h_ => Or.inl h_) k_ hk_ h_) (fun h_ => h_.elim (fun h_ => (fun _ _ h_ => Or.inr (Or.inl h_)) k_ hk_ h_) (fun h_ => h_.elim))))
      replace H := H_; clear H_; try dsimp only [setn, addE, goneL] at H
      refine nl_ <| th_n ⟨HS4089, ?_⟩
      refine dn tbok (by kernel_rfl) [25, 26, 27] [] [(6, .bool ((r4070 : Int) == (m1486.length : Int)))] (fun w_ => []) 0 E (fun _ _ => by kernel_rfl) (by kernel_rfl) (fun w_ hS_ => trivial) (by kernel_rfl) HS4089 ?_
      clear E; intro a E
      refine dr_done (by kernel_rfl) ?_
      exact .inl ⟨rfl, E.pk, H.sel [0, 3, 4, 2, 22, 23, 1, 9, 10, 11, 12, 8, 14, 21, 7] rfl⟩
     clear E H; rintro a w4086 ⟨E, H⟩
     have hx_ := Option.some.inj hP
     exact .inl ⟨rfl, (r4070 : Int) == (m1486.length : Int), E.pk, H.sel (up 15) rfl, hx_.symm⟩
    replace hP := ite_f h4069 hP
    refine meet_cut (fun a w4344 => Fr a 165 [(6, .bool false)] ∧ Hp S Fa w0 w4344 [.ro false cS70 (some ⟨b2175, o2176, none⟩) script, .ro true cS78 (some ⟨b92, 0, none⟩) ([x95.1]), .row true (cInt .i64) 3 A1468 c1469 s1467, .box g1465 27 [.pointer (some ⟨b92, 0, none⟩), .slice A1468 s1467.length c1469], .row true (cInt .i64) 3 A1474 c1475 s1473, .box g1471 27 [.pointer (some ⟨b92, 0, none⟩), .slice A1474 s1473.length c1475], .box g773 23 [.pointer (some ⟨g1465, 0, none⟩), .pointer (some ⟨g1471, 0, none⟩)], .ro false cBool A1 aAccept, .ro false (cInt .i64) A5 aGuard, .ro false cNode A9 aNodes, .ro false (cInt .u8) A1480 m1479, .box g1477 67 [.int .i64 aProps, .slice A1 aAccept.length c2, .slice A5 aGuard.length c6, .slice A9 aNodes.length c10, .slice A1480 m1479.length c1481], .ro false (cInt .u8) A1487 m1486, .box g1484 67 [.int .i64 aProps, .slice A1 aAccept.length c2, .slice A5 aGuard.length c6, .slice A9 aNodes.length c10, .slice A1487 m1486.length c1488], .box g783 62 [.pointer (some ⟨g1477, 0, none⟩), .pointer (some ⟨g1484, 0, none⟩)]]) ?_ ?_
    ·
     have HR4348 := H
     refine dr_start (S := fun w_ => Chg (atL [.box g1471 27 [.pointer (some ⟨b92, 0, none⟩), .slice A1474 s1473.length c1475], .row true (cInt .i64) 3 A1474 c1475 s1473, .box g1484 67 [.int .i64 aProps, .slice A1 aAccept.length c2, .slice A5 aGuard.length c6, .slice A9 aNodes.length c10, .slice A1487 m1486.length c1488]]) w3799 w_) (by kernel_rfl) ?_
     intro w4345 hc4346
     have HS4347 : Chg (atL [.box g1471 27 [.pointer (some ⟨b92, 0, none⟩), .slice A1474 s1473.length c1475], .row true (cInt .i64) 3 A1474 c1475 s1473, .box g1484 67 [.int .i64 aProps, .slice A1 aAccept.length c2, .slice A5 aGuard.length c6, .slice A9 aNodes.length c10, .slice A1487 m1486.length c1488]]) w3799 w4345 := hc4346.mono (fun _ _ h_ => h_.elim)
     replace H := H.ext hc4346
     refine dn tbok (by kernel_rfl) [0, 2, 3, 4, 6] [] [(83, .pointer (some ⟨g1471, 0, none⟩)), (87, .pointer (some ⟨g1484, 0, none⟩)), (89, .pointer (some ⟨g1484, 0, none⟩))] (fun w_ => []) 23 E (fun _ _ => by kernel_rfl) (by kernel_rfl) (fun w_ hS_ => trivial) (by kernel_rfl) HS4347 ?_
     clear E; intro a E
     refine wpAnyH_all (rs := [1, 5]) (by kernel_rfl) (by simp) ?_
     refine all2 ?_ ?_
     ·
      refine wpOp_of_list rfl ?_
      obtain ⟨Fa4349, Hc4350, hb4351⟩ := H.call [5, 6] [(3, false)] rfl rfl ⟨flat_plain, trivial⟩
      refine e_call E rfl rfl Try.func12 rfl rfl rfl (watch_Watch_Verdict_calls g1471 b92 0 A1474 c1475 x95.1 s1473  Hc4350 h3998) ?_
      intro v4357 w4356 a hR4358 E_
      obtain ⟨x_, hr_, rfl, HR4360⟩ := hR4358
      subst hr_
      replace E := E_ _ rfl; clear E_
      obtain ⟨H_, hc4359⟩ := hb4351 _ _ HR4360 rfl
      replace HS4347 := HS4347.trans hc4359 (fun k_ hk_ h_ => h_.elim (fun h_ => by have hs_ := HS4347.size; exfalso; omega) (fun h_ => h_.elim (fun h_ => (fun _ _ h_ => Or.inl h_) k_ hk_ h_) (fun h_ => h_.elim (fun h_ => (fun _ _ h_ => Or.inr (Or.inl h_)) k_ hk_ h_) (fun h_ => h_.elim))))
      replace H := H_; clear H_; try dsimp only [setn, addE, goneL] at H
      refine nl_ <| th_n ⟨HS4347, ?_⟩
      refine wpAnyH_all (rs := [5, 7]) (by kernel_rfl) (by simp) ?_
      refine all2 ?_ ?_
      ·
       refine wpOp_of_list rfl ?_
       refine vq 1 [.agg #[.int .i64 aProps, .slice A1 aAccept.length c2, .slice A5 aGuard.length c6, .slice A9 aNodes.length c10]] [(88, .agg #[.int .i64 aProps, .slice A1 aAccept.length c2, .slice A5 aGuard.length c6, .slice A9 aNodes.length c10])] [cellsAt w4356 g1484 (0) [.int .i64 aProps, .slice A1 aAccept.length c2, .slice A5 aGuard.length c6, .slice A9 aNodes.length c10]] E ((H.box 13 rfl).sub 0 _ rfl) ?_
       clear E; intro a E
       refine nl_ <| th_n ⟨HS4347, ?_⟩
       refine wpAnyH_all (rs := [7]) (by kernel_rfl) (by simp) ?_
       refine all1 ?_
       refine wpOp_of_list rfl ?_
       obtain ⟨Fa4363, Hc4364, hb4365⟩ := H.call [13] [(9, false), (10, false), (11, false), (14, false)] rfl rfl trivial
       refine e_call E rfl rfl Try.func41 rfl rfl rfl (ref21_Watch_State_calls g1484 A1 c2 A5 c6 A9 c10 A1487 c1488 aProps aAccept aGuard aNodes m1486 hk2805 hk2806 hk2807 hk2809 Hc4364 h4014) ?_
       intro v4371 w4370 a hR4372 E_
       obtain ⟨x_, hr_, rfl, HR4374⟩ := hR4372
       subst hr_
       replace E := E_ _ rfl; clear E_
       obtain ⟨H_, hc4373⟩ := hb4365 _ _ HR4374 rfl
       replace HS4347 := HS4347.trans hc4373 (fun k_ hk_ h_ => h_.elim (fun h_ => by have hs_ := HS4347.size; exfalso; omega) (fun h_ => h_.elim (fun h_ => (fun _ _ h_ => Or.inr (Or.inr (Or.inl h_))) k_ hk_ h_) (fun h_ => h_.elim)))
       replace H := H_; clear H_; try dsimp only [setn, addE, goneL] at H
       refine nl_ <| th_n ⟨HS4347, ?_⟩
       refine wpAnyH_all (rs := [8]) (by kernel_rfl) (by simp) ?_
       refine all1 ?_
       refine wpOp_of_list rfl ?_
       obtain ⟨Fa4376, Hc4377, hb4378⟩ := H.call [] [(9, false), (10, false), (11, false)] rfl rfl trivial
       refine e_call E rfl rfl Try.func40 rfl rfl rfl (ref21_Verdict_calls A1 c2 A5 c6 A9 c10 aProps aAccept aGuard aNodes r4013 hk2805 hk2806 hk2807 Hc4377 h4029) ?_
       rintro v4379 w4380 a ⟨rfl, HR4381⟩ E_
       replace E := E_ _ rfl; clear E_
       obtain ⟨H_, hc4382⟩ := hb4378 _ _ HR4381 rfl
       replace HS4347 := HS4347.ext (callS_ext hc4382)
       replace H := H_; clear H_; try dsimp only [setn, addE, goneL] at H
       refine nl_ <| th_n ⟨HS4347, ?_⟩
       refine dn tbok (by kernel_rfl) [9, 10] [] [(93, .bool ((r3997 : Int) == r4028))] (fun w_ => []) 17 E (fun _ _ => by kernel_rfl) (by kernel_rfl) (fun w_ hS_ => trivial) (by kernel_rfl) HS4347 ?_
       clear E; intro a E
       replace E := E.same (t := 93) (u := .bool true) rfl (congrArg Value.bool (beq_iff_eq.2 h4037))
       refine dn tbok (by kernel_rfl) [11, 13] [] [(94, .pointer (some ⟨g1471, 0, none⟩)), (96, .pointer (some ⟨g1484, 0, none⟩))] (fun w_ => []) 15 E (fun _ _ => by kernel_rfl) (by kernel_rfl) (fun w_ hS_ => trivial) (by kernel_rfl) HS4347 ?_
       clear E; intro a E
       refine wpAnyH_all (rs := [12]) (by kernel_rfl) (by simp) ?_
       refine all1 ?_
       refine wpOp_of_list rfl ?_
       obtain ⟨Fa4383, Hc4384, hb4385⟩ := H.call [17, 16] [(3, false)] rfl rfl ⟨flat_plain, trivial⟩
       refine e_call E rfl rfl Try.func13 rfl rfl rfl (watch_Watch_State_calls g1471 b92 0 A1474 c1475 x95.1 s1473  Hc4384 h4039) ?_
       intro v4391 w4390 a hR4392 E_
       obtain ⟨x_, hr_, rfl, HR4394⟩ := hR4392
       subst hr_
       replace E := E_ _ rfl; clear E_
       obtain ⟨H_, hc4393⟩ := hb4385 _ _ HR4394 rfl
       replace HS4347 := HS4347.trans hc4393 (fun k_ hk_ h_ => h_.elim (fun h_ => by have hs_ := HS4347.size; exfalso; omega) (fun h_ => h_.elim (fun h_ => (fun _ _ h_ => Or.inl h_) k_ hk_ h_) (fun h_ => h_.elim (fun h_ => (fun _ _ h_ => Or.inr (Or.inl h_)) k_ hk_ h_) (fun h_ => h_.elim))))
       replace H := H_; clear H_; try dsimp only [setn, addE, goneL] at H
       refine nl_ <| th_n ⟨HS4347, ?_⟩
       refine wpAnyH_all (rs := [14]) (by kernel_rfl) (by simp) ?_
       refine all1 ?_
       refine wpOp_of_list rfl ?_
       obtain ⟨Fa4397, Hc4398, hb4399⟩ := H.call [18] [(9, false), (10, false), (11, false), (14, false)] rfl rfl trivial
       refine e_call E rfl rfl Try.func41 rfl rfl rfl (ref21_Watch_State_calls g1484 A1 c2 A5 c6 A9 c10 A1487 c1488 aProps aAccept aGuard aNodes m1486 hk2805 hk2806 hk2807 hk2809 Hc4398 h4055) ?_
       intro v4405 w4404 a hR4406 E_
       obtain ⟨x_, hr_, rfl, HR4408⟩ := hR4406
       subst hr_
       replace E := E_ _ rfl; clear E_
       obtain ⟨H_, hc4407⟩ := hb4399 _ _ HR4408 rfl
       replace HS4347 := HS4347.trans hc4407 (fun k_ hk_ h_ => h_.elim (fun h_ => by have hs_ := HS4347.size; exfalso; omega) (fun h_ => h_.elim (fun h_ => (fun _ _ h_ => Or.inr (Or.inr (Or.inl h_))) k_ hk_ h_) (fun h_ => h_.elim)))
       replace H := H_; clear H_; try dsimp only [setn, addE, goneL] at H
       refine nl_ <| th_n ⟨HS4347, ?_⟩
       refine dn tbok (by kernel_rfl) [15, 16, 17] [] [(100, .bool ((r4038 : Int) == r4054))] (fun w_ => []) 10 E (fun _ _ => by kernel_rfl) (by kernel_rfl) (fun w_ hS_ => trivial) (by kernel_rfl) HS4347 ?_
       clear E; intro a E
       replace E := E.same (t := 100) (u := .bool false) rfl (congrArg Value.bool (beq_eq_false_iff_ne.2 h4069))
       refine dn tbok (by kernel_rfl) [18, 19, 20, 21, 22, 23, 24, 25, 26, 27] [] [(6, .bool false)] (fun w_ => []) 0 E (fun _ _ => by kernel_rfl) (by kernel_rfl) (fun w_ hS_ => trivial) (by kernel_rfl) HS4347 ?_
       clear E; intro a E
       refine dr_done (by kernel_rfl) ?_
       exact .inl ⟨rfl, E.pk, H.sel [0, 3, 4, 2, 19, 20, 1, 9, 10, 11, 12, 8, 14, 21, 7] rfl⟩
      refine wpOp_of_list rfl ?_
      obtain ⟨Fa4410, Hc4411, hb4412⟩ := H.call [13] [(9, false), (10, false), (11, false), (14, false)] rfl rfl trivial
      refine e_call E rfl rfl Try.func41 rfl rfl rfl (ref21_Watch_State_calls g1484 A1 c2 A5 c6 A9 c10 A1487 c1488 aProps aAccept aGuard aNodes m1486 hk2805 hk2806 hk2807 hk2809 Hc4411 h4014) ?_
      intro v4418 w4417 a hR4419 E_
      obtain ⟨x_, hr_, rfl, HR4421⟩ := hR4419
      subst hr_
      replace E := E_ _ rfl; clear E_
      obtain ⟨H_, hc4420⟩ := hb4412 _ _ HR4421 rfl
      replace HS4347 := HS4347.trans hc4420 (fun k_ hk_ h_ => h_.elim (fun h_ => by have hs_ := HS4347.size; exfalso; omega) (fun h_ => h_.elim (fun h_ => (fun _ _ h_ => Or.inr (Or.inr (Or.inl h_))) k_ hk_ h_) (fun h_ => h_.elim)))
      replace H := H_; clear H_; try dsimp only [setn, addE, goneL] at H
      refine nl_ <| th_n ⟨HS4347, ?_⟩
      refine wpAnyH_all (rs := [5]) (by kernel_rfl) (by simp) ?_
      refine all1 ?_
      refine wpOp_of_list rfl ?_
      refine vq 1 [.agg #[.int .i64 aProps, .slice A1 aAccept.length c2, .slice A5 aGuard.length c6, .slice A9 aNodes.length c10]] [(88, .agg #[.int .i64 aProps, .slice A1 aAccept.length c2, .slice A5 aGuard.length c6, .slice A9 aNodes.length c10])] [cellsAt w4417 g1484 (0) [.int .i64 aProps, .slice A1 aAccept.length c2, .slice A5 aGuard.length c6, .slice A9 aNodes.length c10]] E ((H.box 18 rfl).sub 0 _ rfl) ?_
      clear E; intro a E
      refine nl_ <| th_n ⟨HS4347, ?_⟩
      refine wpAnyH_all (rs := [8]) (by kernel_rfl) (by simp) ?_
      refine all1 ?_
      refine wpOp_of_list rfl ?_
      obtain ⟨Fa4423, Hc4424, hb4425⟩ := H.call [] [(9, false), (10, false), (11, false)] rfl rfl trivial
      refine e_call E rfl rfl Try.func40 rfl rfl rfl (ref21_Verdict_calls A1 c2 A5 c6 A9 c10 aProps aAccept aGuard aNodes r4013 hk2805 hk2806 hk2807 Hc4424 h4029) ?_
      rintro v4426 w4427 a ⟨rfl, HR4428⟩ E_
      replace E := E_ _ rfl; clear E_
      obtain ⟨H_, hc4429⟩ := hb4425 _ _ HR4428 rfl
      replace HS4347 := HS4347.ext (callS_ext hc4429)
      replace H := H_; clear H_; try dsimp only [setn, addE, goneL] at H
      refine nl_ <| th_n ⟨HS4347, ?_⟩
      refine dn tbok (by kernel_rfl) [9, 10] [] [(93, .bool ((r3997 : Int) == r4028))] (fun w_ => []) 17 E (fun _ _ => by kernel_rfl) (by kernel_rfl) (fun w_ hS_ => trivial) (by kernel_rfl) HS4347 ?_
      clear E; intro a E
      replace E := E.same (t := 93) (u := .bool true) rfl (congrArg Value.bool (beq_iff_eq.2 h4037))
      refine dn tbok (by kernel_rfl) [11, 13] [] [(94, .pointer (some ⟨g1471, 0, none⟩)), (96, .pointer (some ⟨g1484, 0, none⟩))] (fun w_ => []) 15 E (fun _ _ => by kernel_rfl) (by kernel_rfl) (fun w_ hS_ => trivial) (by kernel_rfl) HS4347 ?_
      clear E; intro a E
      refine wpAnyH_all (rs := [12]) (by kernel_rfl) (by simp) ?_
      refine all1 ?_
      refine wpOp_of_list rfl ?_
      obtain ⟨Fa4430, Hc4431, hb4432⟩ := H.call [17, 16] [(3, false)] rfl rfl ⟨flat_plain, trivial⟩
      refine e_call E rfl rfl Try.func13 rfl rfl rfl (watch_Watch_State_calls g1471 b92 0 A1474 c1475 x95.1 s1473  Hc4431 h4039) ?_
      intro v4438 w4437 a hR4439 E_
      obtain ⟨x_, hr_, rfl, HR4441⟩ := hR4439
      subst hr_
      replace E := E_ _ rfl; clear E_
      obtain ⟨H_, hc4440⟩ := hb4432 _ _ HR4441 rfl
      replace HS4347 := HS4347.trans hc4440 (fun k_ hk_ h_ => h_.elim (fun h_ => by have hs_ := HS4347.size; exfalso; omega) (fun h_ => h_.elim (fun h_ => (fun _ _ h_ => Or.inl h_) k_ hk_ h_) (fun h_ => h_.elim (fun h_ => (fun _ _ h_ => Or.inr (Or.inl h_)) k_ hk_ h_) (fun h_ => h_.elim))))
      replace H := H_; clear H_; try dsimp only [setn, addE, goneL] at H
      refine nl_ <| th_n ⟨HS4347, ?_⟩
      refine wpAnyH_all (rs := [14]) (by kernel_rfl) (by simp) ?_
      refine all1 ?_
      refine wpOp_of_list rfl ?_
      obtain ⟨Fa4444, Hc4445, hb4446⟩ := H.call [18] [(9, false), (10, false), (11, false), (14, false)] rfl rfl trivial
      refine e_call E rfl rfl Try.func41 rfl rfl rfl (ref21_Watch_State_calls g1484 A1 c2 A5 c6 A9 c10 A1487 c1488 aProps aAccept aGuard aNodes m1486 hk2805 hk2806 hk2807 hk2809 Hc4445 h4055) ?_
      intro v4452 w4451 a hR4453 E_
      obtain ⟨x_, hr_, rfl, HR4455⟩ := hR4453
      subst hr_
      replace E := E_ _ rfl; clear E_
      obtain ⟨H_, hc4454⟩ := hb4446 _ _ HR4455 rfl
      replace HS4347 := HS4347.trans hc4454 (fun k_ hk_ h_ => h_.elim (fun h_ => by have hs_ := HS4347.size; exfalso; omega) (fun h_ => h_.elim (fun h_ => (fun _ _ h_ => Or.inr (Or.inr (Or.inl h_))) k_ hk_ h_) (fun h_ => h_.elim)))
      replace H := H_; clear H_; try dsimp only [setn, addE, goneL] at H
      refine nl_ <| th_n ⟨HS4347, ?_⟩
      refine dn tbok (by kernel_rfl) [15, 16, 17] [] [(100, .bool ((r4038 : Int) == r4054))] (fun w_ => []) 10 E (fun _ _ => by kernel_rfl) (by kernel_rfl) (fun w_ hS_ => trivial) (by kernel_rfl) HS4347 ?_
      clear E; intro a E
      replace E := E.same (t := 100) (u := .bool false) rfl (congrArg Value.bool (beq_eq_false_iff_ne.2 h4069))
      refine dn tbok (by kernel_rfl) [18, 19, 20, 21, 22, 23, 24, 25, 26, 27] [] [(6, .bool false)] (fun w_ => []) 0 E (fun _ _ => by kernel_rfl) (by kernel_rfl) (fun w_ hS_ => trivial) (by kernel_rfl) HS4347 ?_
      clear E; intro a E
      refine dr_done (by kernel_rfl) ?_
      exact .inl ⟨rfl, E.pk, H.sel [0, 3, 4, 2, 19, 20, 1, 9, 10, 11, 12, 8, 14, 21, 7] rfl⟩
     refine wpOp_of_list rfl ?_
     refine vq 1 [.agg #[.int .i64 aProps, .slice A1 aAccept.length c2, .slice A5 aGuard.length c6, .slice A9 aNodes.length c10]] [(88, .agg #[.int .i64 aProps, .slice A1 aAccept.length c2, .slice A5 aGuard.length c6, .slice A9 aNodes.length c10])] [cellsAt w4345 g1484 (0) [.int .i64 aProps, .slice A1 aAccept.length c2, .slice A5 aGuard.length c6, .slice A9 aNodes.length c10]] E ((H.box 13 rfl).sub 0 _ rfl) ?_
     clear E; intro a E
     refine nl_ <| th_n ⟨HS4347, ?_⟩
     refine wpAnyH_all (rs := [1]) (by kernel_rfl) (by simp) ?_
     refine all1 ?_
     refine wpOp_of_list rfl ?_
     obtain ⟨Fa4457, Hc4458, hb4459⟩ := H.call [5, 6] [(3, false)] rfl rfl ⟨flat_plain, trivial⟩
     refine e_call E rfl rfl Try.func12 rfl rfl rfl (watch_Watch_Verdict_calls g1471 b92 0 A1474 c1475 x95.1 s1473  Hc4458 h3998) ?_
     intro v4465 w4464 a hR4466 E_
     obtain ⟨x_, hr_, rfl, HR4468⟩ := hR4466
     subst hr_
     replace E := E_ _ rfl; clear E_
     obtain ⟨H_, hc4467⟩ := hb4459 _ _ HR4468 rfl
     replace HS4347 := HS4347.trans hc4467 (fun k_ hk_ h_ => h_.elim (fun h_ => by have hs_ := HS4347.size; exfalso; omega) (fun h_ => h_.elim (fun h_ => (fun _ _ h_ => Or.inl h_) k_ hk_ h_) (fun h_ => h_.elim (fun h_ => (fun _ _ h_ => Or.inr (Or.inl h_)) k_ hk_ h_) (fun h_ => h_.elim))))
     replace H := H_; clear H_; try dsimp only [setn, addE, goneL] at H
     refine nl_ <| th_n ⟨HS4347, ?_⟩
     refine wpAnyH_all (rs := [7]) (by kernel_rfl) (by simp) ?_
     refine all1 ?_
     refine wpOp_of_list rfl ?_
     obtain ⟨Fa4471, Hc4472, hb4473⟩ := H.call [13] [(9, false), (10, false), (11, false), (14, false)] rfl rfl trivial
     refine e_call E rfl rfl Try.func41 rfl rfl rfl (ref21_Watch_State_calls g1484 A1 c2 A5 c6 A9 c10 A1487 c1488 aProps aAccept aGuard aNodes m1486 hk2805 hk2806 hk2807 hk2809 Hc4472 h4014) ?_
     intro v4479 w4478 a hR4480 E_
     obtain ⟨x_, hr_, rfl, HR4482⟩ := hR4480
     subst hr_
     replace E := E_ _ rfl; clear E_
     obtain ⟨H_, hc4481⟩ := hb4473 _ _ HR4482 rfl
     replace HS4347 := HS4347.trans hc4481 (fun k_ hk_ h_ => h_.elim (fun h_ => by have hs_ := HS4347.size; exfalso; omega) (fun h_ => h_.elim (fun h_ => (fun _ _ h_ => Or.inr (Or.inr (Or.inl h_))) k_ hk_ h_) (fun h_ => h_.elim)))
     replace H := H_; clear H_; try dsimp only [setn, addE, goneL] at H
     refine nl_ <| th_n ⟨HS4347, ?_⟩
     refine wpAnyH_all (rs := [8]) (by kernel_rfl) (by simp) ?_
     refine all1 ?_
     refine wpOp_of_list rfl ?_
     obtain ⟨Fa4484, Hc4485, hb4486⟩ := H.call [] [(9, false), (10, false), (11, false)] rfl rfl trivial
     refine e_call E rfl rfl Try.func40 rfl rfl rfl (ref21_Verdict_calls A1 c2 A5 c6 A9 c10 aProps aAccept aGuard aNodes r4013 hk2805 hk2806 hk2807 Hc4485 h4029) ?_
     rintro v4487 w4488 a ⟨rfl, HR4489⟩ E_
     replace E := E_ _ rfl; clear E_
     obtain ⟨H_, hc4490⟩ := hb4486 _ _ HR4489 rfl
     replace HS4347 := HS4347.ext (callS_ext hc4490)
     replace H := H_; clear H_; try dsimp only [setn, addE, goneL] at H
     refine nl_ <| th_n ⟨HS4347, ?_⟩
     refine dn tbok (by kernel_rfl) [9, 10] [] [(93, .bool ((r3997 : Int) == r4028))] (fun w_ => []) 17 E (fun _ _ => by kernel_rfl) (by kernel_rfl) (fun w_ hS_ => trivial) (by kernel_rfl) HS4347 ?_
     clear E; intro a E
     replace E := E.same (t := 93) (u := .bool true) rfl (congrArg Value.bool (beq_iff_eq.2 h4037))
     refine dn tbok (by kernel_rfl) [11, 13] [] [(94, .pointer (some ⟨g1471, 0, none⟩)), (96, .pointer (some ⟨g1484, 0, none⟩))] (fun w_ => []) 15 E (fun _ _ => by kernel_rfl) (by kernel_rfl) (fun w_ hS_ => trivial) (by kernel_rfl) HS4347 ?_
     clear E; intro a E
     refine wpAnyH_all (rs := [12]) (by kernel_rfl) (by simp) ?_
     refine all1 ?_
     refine wpOp_of_list rfl ?_
     obtain ⟨Fa4491, Hc4492, hb4493⟩ := H.call [17, 16] [(3, false)] rfl rfl ⟨flat_plain, trivial⟩
     refine e_call E rfl rfl Try.func13 rfl rfl rfl (watch_Watch_State_calls g1471 b92 0 A1474 c1475 x95.1 s1473  Hc4492 h4039) ?_
     intro v4499 w4498 a hR4500 E_
     obtain ⟨x_, hr_, rfl, HR4502⟩ := hR4500
     subst hr_
     replace E := E_ _ rfl; clear E_
     obtain ⟨H_, hc4501⟩ := hb4493 _ _ HR4502 rfl
     replace HS4347 := HS4347.trans hc4501 (fun k_ hk_ h_ => h_.elim (fun h_ => by have hs_ := HS4347.size; exfalso; omega) (fun h_ => h_.elim (fun h_ => (fun _ _ h_ => Or.inl h_) k_ hk_ h_) (fun h_ => h_.elim (fun h_ => (fun _ _ h_ => Or.inr (Or.inl h_)) k_ hk_ h_) (fun h_ => h_.elim))))
     replace H := H_; clear H_; try dsimp only [setn, addE, goneL] at H
     refine nl_ <| th_n ⟨HS4347, ?_⟩
     refine wpAnyH_all (rs := [14]) (by kernel_rfl) (by simp) ?_
     refine all1 ?_
     refine wpOp_of_list rfl ?_
     obtain ⟨Fa4505, Hc4506, hb4507⟩ := H.call [18] [(9, false), (10, false), (11, false), (14, false)] rfl rfl trivial
     refine e_call E rfl rfl Try.func41 rfl rfl rfl (ref21_Watch_State_calls g1484 A1 c2 A5 c6 A9 c10 A1487 c1488 aProps aAccept aGuard aNodes m1486 hk2805 hk2806 hk2807 hk2809 Hc4506 h4055) ?_
     intro v4513 w4512 a hR4514 E_
     obtain ⟨x_, hr_, rfl, HR4516⟩ := hR4514
     subst hr_
     replace E := E_ _ rfl; clear E_
     obtain ⟨H_, hc4515⟩ := hb4507 _ _ HR4516 rfl
     replace HS4347 := HS4347.trans hc4515 (fun k_ hk_ h_ => h_.elim (fun h_ => by have hs_ := HS4347.size; exfalso; omega) (fun h_ => h_.elim (fun h_ => (fun _ _ h_ => Or.inr (Or.inr (Or.inl h_))) k_ hk_ h_) (fun h_ => h_.elim)))
     replace H := H_; clear H_; try dsimp only [setn, addE, goneL] at H
     refine nl_ <| th_n ⟨HS4347, ?_⟩
     refine dn tbok (by kernel_rfl) [15, 16, 17] [] [(100, .bool ((r4038 : Int) == r4054))] (fun w_ => []) 10 E (fun _ _ => by kernel_rfl) (by kernel_rfl) (fun w_ hS_ => trivial) (by kernel_rfl) HS4347 ?_
     clear E; intro a E
     replace E := E.same (t := 100) (u := .bool false) rfl (congrArg Value.bool (beq_eq_false_iff_ne.2 h4069))
     refine dn tbok (by kernel_rfl) [18, 19, 20, 21, 22, 23, 24, 25, 26, 27] [] [(6, .bool false)] (fun w_ => []) 0 E (fun _ _ => by kernel_rfl) (by kernel_rfl) (fun w_ hS_ => trivial) (by kernel_rfl) HS4347 ?_
     clear E; intro a E
     refine dr_done (by kernel_rfl) ?_
     exact .inl ⟨rfl, E.pk, H.sel [0, 3, 4, 2, 19, 20, 1, 9, 10, 11, 12, 8, 14, 21, 7] rfl⟩
    clear E H; rintro a w4344 ⟨E, H⟩
    have hx_ := Option.some.inj hP
    exact .inl ⟨rfl, false, E.pk, H.sel (up 15) rfl, hx_.symm⟩
   replace hP := ite_f h4037 hP
   refine meet_cut (fun a w4518 => Fr a 165 [(6, .bool false)] ∧ Hp S Fa w0 w4518 [.ro false cS70 (some ⟨b2175, o2176, none⟩) script, .ro true cS78 (some ⟨b92, 0, none⟩) ([x95.1]), .row true (cInt .i64) 3 A1468 c1469 s1467, .box g1465 27 [.pointer (some ⟨b92, 0, none⟩), .slice A1468 s1467.length c1469], .row true (cInt .i64) 3 A1474 c1475 s1473, .box g1471 27 [.pointer (some ⟨b92, 0, none⟩), .slice A1474 s1473.length c1475], .box g773 23 [.pointer (some ⟨g1465, 0, none⟩), .pointer (some ⟨g1471, 0, none⟩)], .ro false cBool A1 aAccept, .ro false (cInt .i64) A5 aGuard, .ro false cNode A9 aNodes, .ro false (cInt .u8) A1480 m1479, .box g1477 67 [.int .i64 aProps, .slice A1 aAccept.length c2, .slice A5 aGuard.length c6, .slice A9 aNodes.length c10, .slice A1480 m1479.length c1481], .ro false (cInt .u8) A1487 m1486, .box g1484 67 [.int .i64 aProps, .slice A1 aAccept.length c2, .slice A5 aGuard.length c6, .slice A9 aNodes.length c10, .slice A1487 m1486.length c1488], .box g783 62 [.pointer (some ⟨g1477, 0, none⟩), .pointer (some ⟨g1484, 0, none⟩)]]) ?_ ?_
   ·
    have HR4522 := H
    refine dr_start (S := fun w_ => Chg (atL [.box g1471 27 [.pointer (some ⟨b92, 0, none⟩), .slice A1474 s1473.length c1475], .row true (cInt .i64) 3 A1474 c1475 s1473, .box g1484 67 [.int .i64 aProps, .slice A1 aAccept.length c2, .slice A5 aGuard.length c6, .slice A9 aNodes.length c10, .slice A1487 m1486.length c1488]]) w3799 w_) (by kernel_rfl) ?_
    intro w4519 hc4520
    have HS4521 : Chg (atL [.box g1471 27 [.pointer (some ⟨b92, 0, none⟩), .slice A1474 s1473.length c1475], .row true (cInt .i64) 3 A1474 c1475 s1473, .box g1484 67 [.int .i64 aProps, .slice A1 aAccept.length c2, .slice A5 aGuard.length c6, .slice A9 aNodes.length c10, .slice A1487 m1486.length c1488]]) w3799 w4519 := hc4520.mono (fun _ _ h_ => h_.elim)
    replace H := H.ext hc4520
    refine dn tbok (by kernel_rfl) [0, 2, 3, 4, 6] [] [(83, .pointer (some ⟨g1471, 0, none⟩)), (87, .pointer (some ⟨g1484, 0, none⟩)), (89, .pointer (some ⟨g1484, 0, none⟩))] (fun w_ => []) 23 E (fun _ _ => by kernel_rfl) (by kernel_rfl) (fun w_ hS_ => trivial) (by kernel_rfl) HS4521 ?_
    clear E; intro a E
    refine wpAnyH_all (rs := [1, 5]) (by kernel_rfl) (by simp) ?_
    refine all2 ?_ ?_
    ·
     refine wpOp_of_list rfl ?_
     obtain ⟨Fa4523, Hc4524, hb4525⟩ := H.call [5, 6] [(3, false)] rfl rfl ⟨flat_plain, trivial⟩
     refine e_call E rfl rfl Try.func12 rfl rfl rfl (watch_Watch_Verdict_calls g1471 b92 0 A1474 c1475 x95.1 s1473  Hc4524 h3998) ?_
     intro v4531 w4530 a hR4532 E_
     obtain ⟨x_, hr_, rfl, HR4534⟩ := hR4532
     subst hr_
     replace E := E_ _ rfl; clear E_
     obtain ⟨H_, hc4533⟩ := hb4525 _ _ HR4534 rfl
     replace HS4521 := HS4521.trans hc4533 (fun k_ hk_ h_ => h_.elim (fun h_ => by have hs_ := HS4521.size; exfalso; omega) (fun h_ => h_.elim (fun h_ => (fun _ _ h_ => Or.inl h_) k_ hk_ h_) (fun h_ => h_.elim (fun h_ => (fun _ _ h_ => Or.inr (Or.inl h_)) k_ hk_ h_) (fun h_ => h_.elim))))
     replace H := H_; clear H_; try dsimp only [setn, addE, goneL] at H
     refine nl_ <| th_n ⟨HS4521, ?_⟩
     refine wpAnyH_all (rs := [5, 7]) (by kernel_rfl) (by simp) ?_
     refine all2 ?_ ?_
     ·
      refine wpOp_of_list rfl ?_
      refine vq 1 [.agg #[.int .i64 aProps, .slice A1 aAccept.length c2, .slice A5 aGuard.length c6, .slice A9 aNodes.length c10]] [(88, .agg #[.int .i64 aProps, .slice A1 aAccept.length c2, .slice A5 aGuard.length c6, .slice A9 aNodes.length c10])] [cellsAt w4530 g1484 (0) [.int .i64 aProps, .slice A1 aAccept.length c2, .slice A5 aGuard.length c6, .slice A9 aNodes.length c10]] E ((H.box 13 rfl).sub 0 _ rfl) ?_
      clear E; intro a E
      refine nl_ <| th_n ⟨HS4521, ?_⟩
      refine wpAnyH_all (rs := [7]) (by kernel_rfl) (by simp) ?_
      refine all1 ?_
      refine wpOp_of_list rfl ?_
      obtain ⟨Fa4537, Hc4538, hb4539⟩ := H.call [13] [(9, false), (10, false), (11, false), (14, false)] rfl rfl trivial
      refine e_call E rfl rfl Try.func41 rfl rfl rfl (ref21_Watch_State_calls g1484 A1 c2 A5 c6 A9 c10 A1487 c1488 aProps aAccept aGuard aNodes m1486 hk2805 hk2806 hk2807 hk2809 Hc4538 h4014) ?_
      intro v4545 w4544 a hR4546 E_
      obtain ⟨x_, hr_, rfl, HR4548⟩ := hR4546
      subst hr_
      replace E := E_ _ rfl; clear E_
      obtain ⟨H_, hc4547⟩ := hb4539 _ _ HR4548 rfl
      replace HS4521 := HS4521.trans hc4547 (fun k_ hk_ h_ => h_.elim (fun h_ => by have hs_ := HS4521.size; exfalso; omega) (fun h_ => h_.elim (fun h_ => (fun _ _ h_ => Or.inr (Or.inr (Or.inl h_))) k_ hk_ h_) (fun h_ => h_.elim)))
      replace H := H_; clear H_; try dsimp only [setn, addE, goneL] at H
      refine nl_ <| th_n ⟨HS4521, ?_⟩
      refine wpAnyH_all (rs := [8]) (by kernel_rfl) (by simp) ?_
      refine all1 ?_
      refine wpOp_of_list rfl ?_
      obtain ⟨Fa4550, Hc4551, hb4552⟩ := H.call [] [(9, false), (10, false), (11, false)] rfl rfl trivial
      refine e_call E rfl rfl Try.func40 rfl rfl rfl (ref21_Verdict_calls A1 c2 A5 c6 A9 c10 aProps aAccept aGuard aNodes r4013 hk2805 hk2806 hk2807 Hc4551 h4029) ?_
      rintro v4553 w4554 a ⟨rfl, HR4555⟩ E_
      replace E := E_ _ rfl; clear E_
      obtain ⟨H_, hc4556⟩ := hb4552 _ _ HR4555 rfl
      replace HS4521 := HS4521.ext (callS_ext hc4556)
      replace H := H_; clear H_; try dsimp only [setn, addE, goneL] at H
      refine nl_ <| th_n ⟨HS4521, ?_⟩
      refine dn tbok (by kernel_rfl) [9, 10] [] [(93, .bool ((r3997 : Int) == r4028))] (fun w_ => []) 17 E (fun _ _ => by kernel_rfl) (by kernel_rfl) (fun w_ hS_ => trivial) (by kernel_rfl) HS4521 ?_
      clear E; intro a E
      replace E := E.same (t := 93) (u := .bool false) rfl (congrArg Value.bool (beq_eq_false_iff_ne.2 h4037))
      refine dn tbok (by kernel_rfl) [11, 12, 13, 14, 15, 16, 17, 18, 19, 20, 21, 22, 23, 24, 25, 26, 27] [] [(6, .bool false)] (fun w_ => []) 0 E (fun _ _ => by kernel_rfl) (by kernel_rfl) (fun w_ hS_ => trivial) (by kernel_rfl) HS4521 ?_
      clear E; intro a E
      refine dr_done (by kernel_rfl) ?_
      exact .inl ⟨rfl, E.pk, H.sel [0, 3, 4, 2, 16, 17, 1, 9, 10, 11, 12, 8, 14, 18, 7] rfl⟩
     refine wpOp_of_list rfl ?_
     obtain ⟨Fa4557, Hc4558, hb4559⟩ := H.call [13] [(9, false), (10, false), (11, false), (14, false)] rfl rfl trivial
     refine e_call E rfl rfl Try.func41 rfl rfl rfl (ref21_Watch_State_calls g1484 A1 c2 A5 c6 A9 c10 A1487 c1488 aProps aAccept aGuard aNodes m1486 hk2805 hk2806 hk2807 hk2809 Hc4558 h4014) ?_
     intro v4565 w4564 a hR4566 E_
     obtain ⟨x_, hr_, rfl, HR4568⟩ := hR4566
     subst hr_
     replace E := E_ _ rfl; clear E_
     obtain ⟨H_, hc4567⟩ := hb4559 _ _ HR4568 rfl
     replace HS4521 := HS4521.trans hc4567 (fun k_ hk_ h_ => h_.elim (fun h_ => by have hs_ := HS4521.size; exfalso; omega) (fun h_ => h_.elim (fun h_ => (fun _ _ h_ => Or.inr (Or.inr (Or.inl h_))) k_ hk_ h_) (fun h_ => h_.elim)))
     replace H := H_; clear H_; try dsimp only [setn, addE, goneL] at H
     refine nl_ <| th_n ⟨HS4521, ?_⟩
     refine wpAnyH_all (rs := [5]) (by kernel_rfl) (by simp) ?_
     refine all1 ?_
     refine wpOp_of_list rfl ?_
     refine vq 1 [.agg #[.int .i64 aProps, .slice A1 aAccept.length c2, .slice A5 aGuard.length c6, .slice A9 aNodes.length c10]] [(88, .agg #[.int .i64 aProps, .slice A1 aAccept.length c2, .slice A5 aGuard.length c6, .slice A9 aNodes.length c10])] [cellsAt w4564 g1484 (0) [.int .i64 aProps, .slice A1 aAccept.length c2, .slice A5 aGuard.length c6, .slice A9 aNodes.length c10]] E ((H.box 18 rfl).sub 0 _ rfl) ?_
     clear E; intro a E
     refine nl_ <| th_n ⟨HS4521, ?_⟩
     refine wpAnyH_all (rs := [8]) (by kernel_rfl) (by simp) ?_
     refine all1 ?_
     refine wpOp_of_list rfl ?_
     obtain ⟨Fa4570, Hc4571, hb4572⟩ := H.call [] [(9, false), (10, false), (11, false)] rfl rfl trivial
     refine e_call E rfl rfl Try.func40 rfl rfl rfl (ref21_Verdict_calls A1 c2 A5 c6 A9 c10 aProps aAccept aGuard aNodes r4013 hk2805 hk2806 hk2807 Hc4571 h4029) ?_
     rintro v4573 w4574 a ⟨rfl, HR4575⟩ E_
     replace E := E_ _ rfl; clear E_
     obtain ⟨H_, hc4576⟩ := hb4572 _ _ HR4575 rfl
     replace HS4521 := HS4521.ext (callS_ext hc4576)
     replace H := H_; clear H_; try dsimp only [setn, addE, goneL] at H
     refine nl_ <| th_n ⟨HS4521, ?_⟩
     refine dn tbok (by kernel_rfl) [9, 10] [] [(93, .bool ((r3997 : Int) == r4028))] (fun w_ => []) 17 E (fun _ _ => by kernel_rfl) (by kernel_rfl) (fun w_ hS_ => trivial) (by kernel_rfl) HS4521 ?_
     clear E; intro a E
     replace E := E.same (t := 93) (u := .bool false) rfl (congrArg Value.bool (beq_eq_false_iff_ne.2 h4037))
     refine dn tbok (by kernel_rfl) [11, 12, 13, 14, 15, 16, 17, 18, 19, 20, 21, 22, 23, 24, 25, 26, 27] [] [(6, .bool false)] (fun w_ => []) 0 E (fun _ _ => by kernel_rfl) (by kernel_rfl) (fun w_ hS_ => trivial) (by kernel_rfl) HS4521 ?_
     clear E; intro a E
     refine dr_done (by kernel_rfl) ?_
     exact .inl ⟨rfl, E.pk, H.sel [0, 3, 4, 2, 16, 17, 1, 9, 10, 11, 12, 8, 14, 18, 7] rfl⟩
    refine wpOp_of_list rfl ?_
    refine vq 1 [.agg #[.int .i64 aProps, .slice A1 aAccept.length c2, .slice A5 aGuard.length c6, .slice A9 aNodes.length c10]] [(88, .agg #[.int .i64 aProps, .slice A1 aAccept.length c2, .slice A5 aGuard.length c6, .slice A9 aNodes.length c10])] [cellsAt w4519 g1484 (0) [.int .i64 aProps, .slice A1 aAccept.length c2, .slice A5 aGuard.length c6, .slice A9 aNodes.length c10]] E ((H.box 13 rfl).sub 0 _ rfl) ?_
    clear E; intro a E
    refine nl_ <| th_n ⟨HS4521, ?_⟩
    refine wpAnyH_all (rs := [1]) (by kernel_rfl) (by simp) ?_
    refine all1 ?_
    refine wpOp_of_list rfl ?_
    obtain ⟨Fa4577, Hc4578, hb4579⟩ := H.call [5, 6] [(3, false)] rfl rfl ⟨flat_plain, trivial⟩
    refine e_call E rfl rfl Try.func12 rfl rfl rfl (watch_Watch_Verdict_calls g1471 b92 0 A1474 c1475 x95.1 s1473  Hc4578 h3998) ?_
    intro v4585 w4584 a hR4586 E_
    obtain ⟨x_, hr_, rfl, HR4588⟩ := hR4586
    subst hr_
    replace E := E_ _ rfl; clear E_
    obtain ⟨H_, hc4587⟩ := hb4579 _ _ HR4588 rfl
    replace HS4521 := HS4521.trans hc4587 (fun k_ hk_ h_ => h_.elim (fun h_ => by have hs_ := HS4521.size; exfalso; omega) (fun h_ => h_.elim (fun h_ => (fun _ _ h_ => Or.inl h_) k_ hk_ h_) (fun h_ => h_.elim (fun h_ => (fun _ _ h_ => Or.inr (Or.inl h_)) k_ hk_ h_) (fun h_ => h_.elim))))
    replace H := H_; clear H_; try dsimp only [setn, addE, goneL] at H
    refine nl_ <| th_n ⟨HS4521, ?_⟩
    refine wpAnyH_all (rs := [7]) (by kernel_rfl) (by simp) ?_
    refine all1 ?_
    refine wpOp_of_list rfl ?_
    obtain ⟨Fa4591, Hc4592, hb4593⟩ := H.call [13] [(9, false), (10, false), (11, false), (14, false)] rfl rfl trivial
    refine e_call E rfl rfl Try.func41 rfl rfl rfl (ref21_Watch_State_calls g1484 A1 c2 A5 c6 A9 c10 A1487 c1488 aProps aAccept aGuard aNodes m1486 hk2805 hk2806 hk2807 hk2809 Hc4592 h4014) ?_
    intro v4599 w4598 a hR4600 E_
    obtain ⟨x_, hr_, rfl, HR4602⟩ := hR4600
    subst hr_
    replace E := E_ _ rfl; clear E_
    obtain ⟨H_, hc4601⟩ := hb4593 _ _ HR4602 rfl
    replace HS4521 := HS4521.trans hc4601 (fun k_ hk_ h_ => h_.elim (fun h_ => by have hs_ := HS4521.size; exfalso; omega) (fun h_ => h_.elim (fun h_ => (fun _ _ h_ => Or.inr (Or.inr (Or.inl h_))) k_ hk_ h_) (fun h_ => h_.elim)))
    replace H := H_; clear H_; try dsimp only [setn, addE, goneL] at H
    refine nl_ <| th_n ⟨HS4521, ?_⟩
    refine wpAnyH_all (rs := [8]) (by kernel_rfl) (by simp) ?_
    refine all1 ?_
    refine wpOp_of_list rfl ?_
    obtain ⟨Fa4604, Hc4605, hb4606⟩ := H.call [] [(9, false), (10, false), (11, false)] rfl rfl trivial
    refine e_call E rfl rfl Try.func40 rfl rfl rfl (ref21_Verdict_calls A1 c2 A5 c6 A9 c10 aProps aAccept aGuard aNodes r4013 hk2805 hk2806 hk2807 Hc4605 h4029) ?_
    rintro v4607 w4608 a ⟨rfl, HR4609⟩ E_
    replace E := E_ _ rfl; clear E_
    obtain ⟨H_, hc4610⟩ := hb4606 _ _ HR4609 rfl
    replace HS4521 := HS4521.ext (callS_ext hc4610)
    replace H := H_; clear H_; try dsimp only [setn, addE, goneL] at H
    refine nl_ <| th_n ⟨HS4521, ?_⟩
    refine dn tbok (by kernel_rfl) [9, 10] [] [(93, .bool ((r3997 : Int) == r4028))] (fun w_ => []) 17 E (fun _ _ => by kernel_rfl) (by kernel_rfl) (fun w_ hS_ => trivial) (by kernel_rfl) HS4521 ?_
    clear E; intro a E
    replace E := E.same (t := 93) (u := .bool false) rfl (congrArg Value.bool (beq_eq_false_iff_ne.2 h4037))
    refine dn tbok (by kernel_rfl) [11, 12, 13, 14, 15, 16, 17, 18, 19, 20, 21, 22, 23, 24, 25, 26, 27] [] [(6, .bool false)] (fun w_ => []) 0 E (fun _ _ => by kernel_rfl) (by kernel_rfl) (fun w_ hS_ => trivial) (by kernel_rfl) HS4521 ?_
    clear E; intro a E
    refine dr_done (by kernel_rfl) ?_
    exact .inl ⟨rfl, E.pk, H.sel [0, 3, 4, 2, 16, 17, 1, 9, 10, 11, 12, 8, 14, 18, 7] rfl⟩
   clear E H; rintro a w4518 ⟨E, H⟩
   have hx_ := Option.some.inj hP
   exact .inl ⟨rfl, false, E.pk, H.sel (up 15) rfl, hx_.symm⟩
  clear E H h3993; rintro a w3996 ⟨x3995, E, H, hx_⟩
  subst hx_; have hP := hK3994; clear hK3994
  refine th_n <| wp_ret <| bl_ret <| th_ret ?_
  have hx_ := Option.some.inj hP
  refine ret1 E rfl rfl ?_
  exact ⟨_, rfl, (x3992, s1467, s1473, m1479, m1486), g1465, A1468, c1469, g1471, A1474, c1475, g1477, A1480, c1481, g1484, A1487, c1488, rfl, H.sel [0, 6, 3, 1, 2, 5, 4, 14, 11, 7, 8, 9, 10, 13, 12] rfl, hk2808, hk2809, hx_.symm⟩
 have h4611 : ¬ (((List.getD script i1490.toNat (0, 0, 0)).1 : Int) = 2) := ne_of_beq_false hb_
 replace hP := ite_f h4611 hP
 refine c_false E rfl <| sr_ <| vp 2 [(110, .bool (((List.getD script i1490.toNat (0, 0, 0)).1 : Int) == 3))] E ?_
 clear E; intro a E
 refine nn_ ?_
 revert E; refine csE 110 rfl (fun hb_ E => ?_) fun hb_ E => ?_
 ·
  have h4612 : ((List.getD script i1490.toNat (0, 0, 0)).1 : Int) = 3 := eq_of_beq hb_
  replace hP := ite_t h4612 hP
  refine c_true E rfl <| sr_ <| vp 1 [(113, .pointer (some ⟨g1471, 0, none⟩))] E ?_
  clear E; intro a E
  obtain ⟨r4613, h4614, hP⟩ := bind_inv hP
  obtain ⟨Fa4615, Hc4616, hb4617⟩ := H.call [5, 6] [(3, false)] rfl rfl ⟨flat_plain, trivial⟩
  refine e_call E rfl rfl Try.func11 rfl rfl rfl (watch_Watch_Off_calls g1471 b92 0 A1474 c1475 x95.1 s1473  Hc4616 h4614) ?_
  intro v4623 w4622 a hR4624 E_
  obtain ⟨x_, hr_, rfl, HR4626⟩ := hR4624
  subst hr_
  replace E := E_ _ rfl; clear E_
  obtain ⟨H_, hc4625⟩ := hb4617 _ _ HR4626 rfl
  replace H := H_; clear H_; try dsimp only [setn, addE, goneL] at H
  refine vp 5 [(18, .int .i64 r4613.1), (19, .int .i64 r4613.2)] E ?_
  clear E; intro a E
  refine nn_ <| wp_seq ?_
  obtain ⟨r4629, h4630, hP⟩ := bind_inv hP
  obtain ⟨r4644, h4645, hP⟩ := bind_inv hP
  refine meet_cut (fun a w4653 => Fr a 165 [(18, .int .i64 r4613.1), (19, .int .i64 r4613.2), (20, .int .i64 r4644.1), (21, .int .i64 r4644.2)] ∧ Hp S Fa w0 w4653 [.ro false cS70 (some ⟨b2175, o2176, none⟩) script, .ro true cS78 (some ⟨b92, 0, none⟩) ([x95.1]), .row true (cInt .i64) 3 A1468 c1469 s1467, .box g1465 27 [.pointer (some ⟨b92, 0, none⟩), .slice A1468 s1467.length c1469], .row true (cInt .i64) 3 A1474 c1475 s1473, .box g1471 27 [.pointer (some ⟨b92, 0, none⟩), .slice A1474 s1473.length c1475], .box g773 23 [.pointer (some ⟨g1465, 0, none⟩), .pointer (some ⟨g1471, 0, none⟩)], .ro false cBool A1 aAccept, .ro false (cInt .i64) A5 aGuard, .ro false cNode A9 aNodes, .ro false (cInt .u8) A1480 m1479, .box g1477 67 [.int .i64 aProps, .slice A1 aAccept.length c2, .slice A5 aGuard.length c6, .slice A9 aNodes.length c10, .slice A1480 m1479.length c1481], .ro false (cInt .u8) A1487 m1486, .box g1484 67 [.int .i64 aProps, .slice A1 aAccept.length c2, .slice A5 aGuard.length c6, .slice A9 aNodes.length c10, .slice A1487 m1486.length c1488], .box g783 62 [.pointer (some ⟨g1477, 0, none⟩), .pointer (some ⟨g1484, 0, none⟩)]]) ?_ ?_
  ·
   have HR4657 := H
   refine dr_start (S := fun w_ => Chg (atL [.box g1484 67 [.int .i64 aProps, .slice A1 aAccept.length c2, .slice A5 aGuard.length c6, .slice A9 aNodes.length c10, .slice A1487 m1486.length c1488]]) w4622 w_) (by kernel_rfl) ?_
   intro w4654 hc4655
   have HS4656 : Chg (atL [.box g1484 67 [.int .i64 aProps, .slice A1 aAccept.length c2, .slice A5 aGuard.length c6, .slice A9 aNodes.length c10, .slice A1487 m1486.length c1488]]) w4622 w4654 := hc4655.mono (fun _ _ h_ => h_.elim)
   replace H := H.ext hc4655
   refine dn tbok (by kernel_rfl) [0, 1, 2, 4] [] [(120, .pointer (some ⟨g1484, 0, none⟩)), (122, .pointer (some ⟨g1484, 0, none⟩))] (fun w_ => []) 8 E (fun _ _ => by kernel_rfl) (by kernel_rfl) (fun w_ hS_ => trivial) (by kernel_rfl) HS4656 ?_
   clear E; intro a E
   refine wpAnyH_all (rs := [3, 5]) (by kernel_rfl) (by simp) ?_
   refine all2 ?_ ?_
   ·
    refine wpOp_of_list rfl ?_
    refine vq 1 [.agg #[.int .i64 aProps, .slice A1 aAccept.length c2, .slice A5 aGuard.length c6, .slice A9 aNodes.length c10]] [(121, .agg #[.int .i64 aProps, .slice A1 aAccept.length c2, .slice A5 aGuard.length c6, .slice A9 aNodes.length c10])] [cellsAt w4654 g1484 (0) [.int .i64 aProps, .slice A1 aAccept.length c2, .slice A5 aGuard.length c6, .slice A9 aNodes.length c10]] E ((H.box 13 rfl).sub 0 _ rfl) ?_
    clear E; intro a E
    refine nl_ <| th_n ⟨HS4656, ?_⟩
    refine wpAnyH_all (rs := [5]) (by kernel_rfl) (by simp) ?_
    refine all1 ?_
    refine wpOp_of_list rfl ?_
    obtain ⟨Fa4658, Hc4659, hb4660⟩ := H.call [13] [(9, false), (10, false), (11, false), (14, false)] rfl rfl trivial
    refine e_call E rfl rfl Try.func41 rfl rfl rfl (ref21_Watch_State_calls g1484 A1 c2 A5 c6 A9 c10 A1487 c1488 aProps aAccept aGuard aNodes m1486 hk2805 hk2806 hk2807 hk2809 Hc4659 h4630) ?_
    intro v4666 w4665 a hR4667 E_
    obtain ⟨x_, hr_, rfl, HR4669⟩ := hR4667
    subst hr_
    replace E := E_ _ rfl; clear E_
    obtain ⟨H_, hc4668⟩ := hb4660 _ _ HR4669 rfl
    replace HS4656 := HS4656.trans hc4668 (fun k_ hk_ h_ => h_.elim (fun h_ => by have hs_ := HS4656.size; exfalso; omega) (fun h_ => h_.elim (fun h_ => (fun _ _ h_ => Or.inl h_) k_ hk_ h_) (fun h_ => h_.elim)))
    replace H := H_; clear H_; try dsimp only [setn, addE, goneL] at H
    refine nl_ <| th_n ⟨HS4656, ?_⟩
    refine wpAnyH_all (rs := [6]) (by kernel_rfl) (by simp) ?_
    refine all1 ?_
    refine wpOp_of_list rfl ?_
    obtain ⟨Fa4671, Hc4672, hb4673⟩ := H.call [] [(9, false), (10, false), (11, false)] rfl rfl trivial
    refine e_call E rfl rfl Try.func49 rfl rfl rfl (ref21_Off_calls A1 c2 A5 c6 A9 c10 aProps aAccept aGuard aNodes r4629 hk2805 hk2806 hk2807 Hc4672 h4645) ?_
    rintro v4674 w4675 a ⟨rfl, HR4676⟩ E_
    replace E := E_ _ rfl; clear E_
    obtain ⟨H_, hc4677⟩ := hb4673 _ _ HR4676 rfl
    replace HS4656 := HS4656.ext (callS_ext hc4677)
    replace H := H_; clear H_; try dsimp only [setn, addE, goneL] at H
    refine nl_ <| th_n ⟨HS4656, ?_⟩
    refine dn tbok (by kernel_rfl) [7, 8, 9, 10, 11] [] [(20, .int .i64 r4644.1), (21, .int .i64 r4644.2)] (fun w_ => []) 0 E (fun _ _ => by kernel_rfl) (by kernel_rfl) (fun w_ hS_ => trivial) (by kernel_rfl) HS4656 ?_
    clear E; intro a E
    refine dr_done (by kernel_rfl) ?_
    exact .inl ⟨rfl, E.pk, H.sel [0, 3, 4, 2, 16, 17, 1, 9, 10, 11, 12, 8, 14, 18, 7] rfl⟩
   refine wpOp_of_list rfl ?_
   obtain ⟨Fa4678, Hc4679, hb4680⟩ := H.call [13] [(9, false), (10, false), (11, false), (14, false)] rfl rfl trivial
   refine e_call E rfl rfl Try.func41 rfl rfl rfl (ref21_Watch_State_calls g1484 A1 c2 A5 c6 A9 c10 A1487 c1488 aProps aAccept aGuard aNodes m1486 hk2805 hk2806 hk2807 hk2809 Hc4679 h4630) ?_
   intro v4686 w4685 a hR4687 E_
   obtain ⟨x_, hr_, rfl, HR4689⟩ := hR4687
   subst hr_
   replace E := E_ _ rfl; clear E_
   obtain ⟨H_, hc4688⟩ := hb4680 _ _ HR4689 rfl
   replace HS4656 := HS4656.trans hc4688 (fun k_ hk_ h_ => h_.elim (fun h_ => by have hs_ := HS4656.size; exfalso; omega) (fun h_ => h_.elim (fun h_ => (fun _ _ h_ => Or.inl h_) k_ hk_ h_) (fun h_ => h_.elim)))
   replace H := H_; clear H_; try dsimp only [setn, addE, goneL] at H
   refine nl_ <| th_n ⟨HS4656, ?_⟩
   refine wpAnyH_all (rs := [3]) (by kernel_rfl) (by simp) ?_
   refine all1 ?_
   refine wpOp_of_list rfl ?_
   refine vq 1 [.agg #[.int .i64 aProps, .slice A1 aAccept.length c2, .slice A5 aGuard.length c6, .slice A9 aNodes.length c10]] [(121, .agg #[.int .i64 aProps, .slice A1 aAccept.length c2, .slice A5 aGuard.length c6, .slice A9 aNodes.length c10])] [cellsAt w4685 g1484 (0) [.int .i64 aProps, .slice A1 aAccept.length c2, .slice A5 aGuard.length c6, .slice A9 aNodes.length c10]] E ((H.box 18 rfl).sub 0 _ rfl) ?_
   clear E; intro a E
   refine nl_ <| th_n ⟨HS4656, ?_⟩
   refine wpAnyH_all (rs := [6]) (by kernel_rfl) (by simp) ?_
   refine all1 ?_
   refine wpOp_of_list rfl ?_
   obtain ⟨Fa4691, Hc4692, hb4693⟩ := H.call [] [(9, false), (10, false), (11, false)] rfl rfl trivial
   refine e_call E rfl rfl Try.func49 rfl rfl rfl (ref21_Off_calls A1 c2 A5 c6 A9 c10 aProps aAccept aGuard aNodes r4629 hk2805 hk2806 hk2807 Hc4692 h4645) ?_
   rintro v4694 w4695 a ⟨rfl, HR4696⟩ E_
   replace E := E_ _ rfl; clear E_
   obtain ⟨H_, hc4697⟩ := hb4693 _ _ HR4696 rfl
   replace HS4656 := HS4656.ext (callS_ext hc4697)
   replace H := H_; clear H_; try dsimp only [setn, addE, goneL] at H
   refine nl_ <| th_n ⟨HS4656, ?_⟩
   refine dn tbok (by kernel_rfl) [7, 8, 9, 10, 11] [] [(20, .int .i64 r4644.1), (21, .int .i64 r4644.2)] (fun w_ => []) 0 E (fun _ _ => by kernel_rfl) (by kernel_rfl) (fun w_ hS_ => trivial) (by kernel_rfl) HS4656 ?_
   clear E; intro a E
   refine dr_done (by kernel_rfl) ?_
   exact .inl ⟨rfl, E.pk, H.sel [0, 3, 4, 2, 16, 17, 1, 9, 10, 11, 12, 8, 14, 18, 7] rfl⟩
  clear E H; rintro a w4653 ⟨E, H⟩
  refine th_n <| wp_seq ?_
  obtain ⟨x4701, h4702, hK4703⟩ := bind_inv hP
  clear hP
  refine meet_cut (fun a w4705 => ∃ (x4704 : Bool), Fr a 165 [(6, .bool x4704)] ∧ Hp S Fa w0 w4705 [.ro false cS70 (some ⟨b2175, o2176, none⟩) script, .ro true cS78 (some ⟨b92, 0, none⟩) ([x95.1]), .row true (cInt .i64) 3 A1468 c1469 s1467, .box g1465 27 [.pointer (some ⟨b92, 0, none⟩), .slice A1468 s1467.length c1469], .row true (cInt .i64) 3 A1474 c1475 s1473, .box g1471 27 [.pointer (some ⟨b92, 0, none⟩), .slice A1474 s1473.length c1475], .box g773 23 [.pointer (some ⟨g1465, 0, none⟩), .pointer (some ⟨g1471, 0, none⟩)], .ro false cBool A1 aAccept, .ro false (cInt .i64) A5 aGuard, .ro false cNode A9 aNodes, .ro false (cInt .u8) A1480 m1479, .box g1477 67 [.int .i64 aProps, .slice A1 aAccept.length c2, .slice A5 aGuard.length c6, .slice A9 aNodes.length c10, .slice A1480 m1479.length c1481], .ro false (cInt .u8) A1487 m1486, .box g1484 67 [.int .i64 aProps, .slice A1 aAccept.length c2, .slice A5 aGuard.length c6, .slice A9 aNodes.length c10, .slice A1487 m1486.length c1488], .box g783 62 [.pointer (some ⟨g1477, 0, none⟩), .pointer (some ⟨g1484, 0, none⟩)]] ∧ x4701 = x4704) ?_ ?_
  ·
   have hP := h4702; clear h4702; rw [law21_WatchScript_j26] at hP
   refine rl_ <| vp 4 [(130, .bool ((r4613.1 : Int) == r4644.1))] E ?_
   clear E; intro a E
   revert E; refine csE 130 rfl (fun hb_ E => ?_) fun hb_ E => ?_
   ·
    have h4706 : (r4613.1 : Int) = r4644.1 := eq_of_beq hb_
    replace hP := ite_t h4706 hP
    refine vp 5 [(6, .bool ((r4613.2 : Int) == r4644.2))] E ?_
    clear E; intro a E
    refine nl_ ?_
    have hx_ := Option.some.inj hP
    exact .inl ⟨rfl, (r4613.2 : Int) == r4644.2, E.pk, H.sel (up 15) rfl, hx_.symm⟩
   have h4707 : ¬ ((r4613.1 : Int) = r4644.1) := ne_of_beq_false hb_
   replace hP := ite_f h4707 hP
   refine vp 5 [(6, .bool false)] E ?_
   clear E; intro a E
   refine nl_ ?_
   have hx_ := Option.some.inj hP
   exact .inl ⟨rfl, false, E.pk, H.sel (up 15) rfl, hx_.symm⟩
  clear E H h4702; rintro a w4705 ⟨x4704, E, H, hx_⟩
  subst hx_; have hP := hK4703; clear hK4703
  refine th_n <| wp_ret <| bl_ret <| th_ret ?_
  have hx_ := Option.some.inj hP
  refine ret1 E rfl rfl ?_
  exact ⟨_, rfl, (x4701, s1467, s1473, m1479, m1486), g1465, A1468, c1469, g1471, A1474, c1475, g1477, A1480, c1481, g1484, A1487, c1488, rfl, H.sel [0, 6, 3, 1, 2, 5, 4, 14, 11, 7, 8, 9, 10, 13, 12] rfl, hk2808, hk2809, hx_.symm⟩
 have h4708 : ¬ (((List.getD script i1490.toNat (0, 0, 0)).1 : Int) = 3) := ne_of_beq_false hb_
 replace hP := ite_f h4708 hP
 refine c_false E rfl <| wp_skip <| bl_n <| th_n <| sr_ <| vp 1 [(135, .pointer (some ⟨g1471, 0, none⟩))] E ?_
 clear E; intro a E
 obtain ⟨r4709, h4710, hP⟩ := bind_inv hP
 obtain ⟨Fa4711, Hc4712, hb4713⟩ := H.call [5, 6] [(3, false)] rfl rfl ⟨flat_plain, trivial⟩
 refine e_call E rfl rfl Try.func15 rfl rfl rfl (watch_Watch_Fork_calls g1471 b92 0 A1474 c1475 x95.1 s1473  Hc4712 h4710) ?_
 intro v4719 w4718 a hR4720 E_
 rcases hR4720 with ⟨x_, hr_, rfl, HR4722⟩ | ⟨x_, g4723, A4724, c4725, hr_, rfl, HR4726⟩
 ·
  subst hr_; have hP := elim_l hP
  obtain ⟨x4727, hxx_⟩ : ∃ y_, y_ = x_ := ⟨_, rfl⟩; subst hxx_
  replace E := E_ _ rfl; clear E_
  obtain ⟨H_, hc4721⟩ := hb4713 _ _ HR4722 rfl
  replace H := H_; clear H_; try dsimp only [setn, addE, goneL] at H
  refine vp 1 [(22, .pointer none)] E ?_
  clear E; intro a E
  refine nn_ <| wp_seq <| sr_ <| vp 7 [(143, .bool true)] E ?_
  clear E; intro a E
  refine nn_ <| c_true E rfl ?_
  refine sr_ <| vp 1 [(6, .bool false)] E ?_
  clear E; intro a E
  refine nn_ <| wp_ret <| th_ret ?_
  have hx_ := Option.some.inj hP
  refine ret1 E rfl rfl ?_
  exact ⟨_, rfl, (false, s1467, s1473, m1479, m1486), g1465, A1468, c1469, g1471, A1474, c1475, g1477, A1480, c1481, g1484, A1487, c1488, rfl, H.sel [0, 1, 2, 3, 4, 17, 16, 7, 8, 9, 10, 11, 12, 13, 14] rfl, hk2808, hk2809, hx_.symm⟩
 subst hr_; have hP := (elim_r hP)
 obtain ⟨x4728, hxx_⟩ : ∃ y_, y_ = x_ := ⟨_, rfl⟩; subst hxx_
 replace E := E_ _ rfl; clear E_
 obtain ⟨H_, hc4721⟩ := hb4713 _ _ HR4726 rfl
 replace H := H_; clear H_; try dsimp only [setn, addE, goneL] at H
 refine vp 1 [(22, .pointer (some ⟨g4723, 0, none⟩))] E ?_
 clear E; intro a E
 refine nn_ <| wp_seq <| sr_ <| vp 5 [(139, .bool false), (140, .pointer (some ⟨g4723, 0, none⟩)), (141, .pointer (some ⟨g1471, 0, none⟩))] E ?_
 clear E; intro a E
 refine h_eqPtr H 16 19 rfl rfl rfl E rfl rfl tbok rfl rfl rfl rfl rfl rfl ?_
 clear E; intro a E
 refine vp 1 [(143, .bool false)] E ?_
 clear E; intro a E
 refine nn_ <| c_false E rfl ?_
 refine wp_skip <| th_n <| sr_ <| vq 5 [.int .i64 0] [(147, .pointer (some ⟨g4723, 0, none⟩)), (148, .pointer (some ⟨g773, 0, none⟩))] [IntKind.i64.wrap (1 - 1) = 0, 0 ≤ (0 : Int) ∧ (0 : Int) < ((2 : Nat) : Int)] E ⟨(show _ = _ from by decide), ⟨by decide, by decide⟩⟩ ?_
 clear E; intro a E
 refine h_store (g := g773) (off := 0) H 1 rfl E rfl rfl rfl rfl tbok rfl rfl rfl rfl rfl ?_
 clear E; intro w4735 a hc4736 H_ E
 replace H := H_; clear H_; try dsimp only [setn, addE, goneL] at H
 refine nn_ <| wp_seq ?_
 obtain ⟨g4742, hP⟩ := ask_inv hP
 have HR4758 := H
 refine dr_start (S := fun w_ => Chg (atL [.box g783 62 [.pointer (some ⟨g1477, 0, none⟩), .pointer (some ⟨g1484, 0, none⟩)]]) w4735 w_) (by kernel_rfl) ?_
 intro w4755 hc4756
 have HS4757 : Chg (atL [.box g783 62 [.pointer (some ⟨g1477, 0, none⟩), .pointer (some ⟨g1484, 0, none⟩)]]) w4735 w4755 := hc4756.mono (fun _ _ h_ => h_.elim)
 replace H := H.ext hc4756
 refine dn tbok (by kernel_rfl) [0, 1, 2, 3, 4, 5, 6, 8, 9, 10, 11] [.int .i64 0, .agg #[.int .i64 aProps, .slice A1 aAccept.length c2, .slice A5 aGuard.length c6, .slice A9 aNodes.length c10], .slice A1487 m1486.length c1488] [(149, .slice (some ⟨g783, 0, none⟩) 2 2), (151, .int .i64 0), (155, .agg #[.int .i64 aProps, .slice A1 aAccept.length c2, .slice A5 aGuard.length c6, .slice A9 aNodes.length c10]), (160, .slice A1487 m1486.length c1488)] (fun w_ => [IntKind.i64.wrap (1 - 1) = 0, cellsAt w_ g1484 (0) [.int .i64 aProps, .slice A1 aAccept.length c2, .slice A5 aGuard.length c6, .slice A9 aNodes.length c10], World.cell? w_ ⟨g1484, 4, none⟩ = some (.slice A1487 m1486.length c1488)]) 6 E (fun _ _ => by kernel_rfl) (by kernel_rfl) (fun w_ hS_ => ⟨(show _ = _ from by decide), (HR4758.boxk [7] hS_ 13 rfl rfl).sub 0 _ rfl, (HR4758.boxk [7] hS_ 13 rfl rfl).cell (j := 4) rfl⟩) (by kernel_rfl) HS4757 ?_
 clear E; intro a E
 refine wpAnyH_all (rs := [7]) (by kernel_rfl) (by simp) ?_
 refine all1 ?_
 refine wpOp_of_list rfl ?_
 refine h_buildSlice (ps := []) (cs := []) H E rfl rfl tbok rfl rfl (by kernel_rfl) ?_
 intro w4760 g4759 a hc4761 hg4763 H_ E_
 replace E := E_ _ rfl; clear E_
 have hin4764 : ∀ q_, q_ < w4735.heap.size → q_ = g4759 → (atL [.box g783 62 [.pointer (some ⟨g1477, 0, none⟩), .pointer (some ⟨g1484, 0, none⟩)]]) q_ := fun q_ h1_ h2_ => by have hs_ := HS4757.size; have h4_ : q_ = g4759 := h2_; exfalso; omega
 replace HS4757 := HS4757.ext hc4761
 replace H := H_; clear H_; try dsimp only [setn, addE, goneL] at H
 refine nl_ <| th_n ⟨HS4757, ?_⟩
 refine wpAnyH_all (rs := [12]) (by kernel_rfl) (by simp) ?_
 refine all1 ?_
 refine wpOp_of_list rfl ?_
 replace H := H.boxRow (cInt .u8) true ([] : List Int) 20 rfl (fun _ _ => rfl) (Nat.le_of_ble_eq_true rfl); try dsimp only [setn, addE, goneL] at H
 replace H := H.rowx 20 rfl; try dsimp only [setn, addE, goneL] at H
 refine h_append (cInt .u8) (xs := ([] : List Int)) (ys := m1486) (0 : Int) H 20 rfl E rfl rfl tbok rfl rfl rfl rfl rfl (fun _ _ => rfl) rfl rfl (fun _ HF_ => HF_.srcF flat_plain 14 rds_ro) g4742 ?_
 intro w4765 A4766 c4767 a hc4768 hA4769 H_ E_
 replace E := E_ _ rfl; clear E_
 have hin4770 : ∀ q_, q_ < w4735.heap.size → At A4766 q_ → (atL [.box g783 62 [.pointer (some ⟨g1477, 0, none⟩), .pointer (some ⟨g1484, 0, none⟩)]]) q_ := fun q_ h1_ h2_ => (hA4769 q_ h2_).elim ((fun q_ h1_ h2_ => hin4764 q_ h1_ (At.of_g h2_)) q_ h1_) (fun h3_ => by have hs_ := HS4757.size; exfalso; omega)
 replace HS4757 := HS4757.trans hc4768 (fun k_ hk_ h_ => (fun q_ h1_ h2_ => hin4764 q_ h1_ (At.of_g h2_)) k_ hk_ h_)
 replace H := H_; clear H_; try dsimp only [setn, addE, goneL] at H
 refine nl_ <| th_n ⟨HS4757, ?_⟩
 refine wpAnyH_all (rs := [13]) (by kernel_rfl) (by simp) ?_
 refine all1 ?_
 refine wpOp_of_list rfl ?_
 refine e_build (ps := [(0, .agg #[.int .i64 aProps, .slice A1 aAccept.length c2, .slice A5 aGuard.length c6, .slice A9 aNodes.length c10]), (1, .slice A4766 (List.length (([] : List Int) ++ m1486)) c4767)]) (v := .agg #[.int .i64 aProps, .slice A1 aAccept.length c2, .slice A5 aGuard.length c6, .slice A9 aNodes.length c10, .slice A4766 (List.length (([] : List Int) ++ m1486)) c4767]) E rfl rfl tbok rfl (by kernel_rfl) rfl ?_
 clear E; intro a E
 refine nl_ <| th_n ⟨HS4757, ?_⟩
 refine wpAnyH_all (rs := [14]) (by kernel_rfl) (by simp) ?_
 refine all1 ?_
 refine wpOp_of_list rfl ?_
 refine h_box H E rfl rfl rfl ?_
 intro w4772 g4771 a hc4773 hg4775 H_ E_
 replace E := E_ _ rfl; clear E_
 have hin4776 : ∀ q_, q_ < w4735.heap.size → q_ = g4771 → (atL [.box g783 62 [.pointer (some ⟨g1477, 0, none⟩), .pointer (some ⟨g1484, 0, none⟩)]]) q_ := fun q_ h1_ h2_ => by have hs_ := HS4757.size; have h4_ : q_ = g4771 := h2_; exfalso; omega
 replace HS4757 := HS4757.ext hc4773
 replace H := H_; clear H_; try dsimp only [setn, addE, goneL] at H
 refine nl_ <| th_n ⟨HS4757, ?_⟩
 refine wpAnyH_all (rs := [15]) (by kernel_rfl) (by simp) ?_
 refine all1 ?_
 refine wpOp_of_list rfl ?_
 refine vq 1 [] [(164, .pointer (some ⟨g783, 0, none⟩))] [0 ≤ (0 : Int) ∧ (0 : Int) < ((2 : Nat) : Int)] E (⟨by decide, by decide⟩) ?_
 clear E; intro a E
 refine nl_ <| th_n ⟨HS4757, ?_⟩
 refine wpAnyH_all (rs := [16]) (by kernel_rfl) (by simp) ?_
 refine all1 ?_
 refine wpOp_of_list rfl ?_
 refine h_store (g := g783) (off := 0) H 7 rfl E rfl rfl rfl rfl tbok rfl rfl rfl rfl rfl ?_
 clear E; intro w4777 a hc4778 H_ E
 replace HS4757 := HS4757.trans hc4778 (fun k_ hk_ h_ => (fun _ _ h_ => Or.inl h_) k_ hk_ h_)
 replace H := H_; clear H_; try dsimp only [setn, addE, goneL] at H
 refine nl_ <| th_n ⟨HS4757, ?_⟩
 refine dr_done (by kernel_rfl) ?_
 clear HS4757 HR4758
 refine th_n <| sr_ <| vp 1 [(6, .bool true)] E ?_
 clear E; intro a E
 refine nn_ <| wp_ret ?_
 have hk4779 := H.rcap 20 rfl
 replace H := H.frz 20 rfl; try dsimp only [setn, addE, goneL] at H
 replace H := H.rodown 20 rfl; try dsimp only [setn, addE, goneL] at H
 have hx_ := Option.some.inj hP
 refine ret1 E rfl rfl ?_
 exact ⟨_, rfl, (true, ([] : List Int) ++ s1473, s1473, ([] : List Int) ++ m1486, m1486), g4723, A4724, c4725, g1471, A1474, c1475, g4771, A4766, c4767, g1484, A1487, c1488, rfl, H.sel [0, 1, 16, 3, 17, 19, 18, 7, 21, 9, 10, 11, 20, 13, 14] rfl, hk4779, hk2809, hx_.symm⟩

end Go.V
