/- Plain functions, and the calls that give them. -/
import Derived.Test.YtljkomkejdngcaaBWatchScript1
set_option linter.all false
set_option linter.unusedVariables false
set_option linter.unnecessarySimpa false
set_option linter.unusedSimpArgs false
set_option maxRecDepth 100000
set_option maxHeartbeats 4000000
namespace Go.V
open Go Go.Proofs
/-! law21_WatchScript_f28_calls -/
theorem law21_WatchScript_f28_calls {N : Nat} {S Fa : Nat → Prop} {w0 w2170 : World} (g773 : Nat) (g2137 : Nat) (g2143 : Nat) (b92 : Nat) (A2140 : Option Addr) (x2172 : (List Int) × (List Int) × (List Int) × (List Int)) (c2141 : Nat) (x95 : ((Int × (List Bool) × (List Int) × (List Nd)) × (List Int) × (List Int)) × Int) (A2146 : Option Addr) (c2147 : Nat) (g783 : Nat) (g2149 : Nat) (g2156 : Nat) (aProps : Int) (A1 : Option Addr) (aAccept : List Bool) (c2 : Nat) (A5 : Option Addr) (aGuard : List Int) (c6 : Nat) (A9 : Option Addr) (aNodes : List Nd) (c10 : Nat) (A2152 : Option Addr) (c2153 : Nat) (A2159 : Option Addr) (c2160 : Nat) (x5099 : Bool) (hk5102 : List.length aAccept ≤ c2) (hk5103 : List.length aGuard ≤ c6) (hk5104 : List.length aNodes ≤ c10) (hk5105 : List.length x2172.2.2.1 ≤ c2153) (hk5106 : List.length x2172.2.2.2 ≤ c2160) (H : Hp S Fa w0 w2170 [.box g773 23 [.pointer (some ⟨g2137, 0, none⟩), .pointer (some ⟨g2143, 0, none⟩)], .box g2137 27 [.pointer (some ⟨b92, 0, none⟩), .slice A2140 x2172.1.length c2141], .ro true cS78 (some ⟨b92, 0, none⟩) ([x95.1]), .row true (cInt .i64) 3 A2140 c2141 x2172.1, .box g2143 27 [.pointer (some ⟨b92, 0, none⟩), .slice A2146 x2172.2.1.length c2147], .row true (cInt .i64) 3 A2146 c2147 x2172.2.1, .box g783 62 [.pointer (some ⟨g2149, 0, none⟩), .pointer (some ⟨g2156, 0, none⟩)], .box g2149 67 [.int .i64 aProps, .slice A1 aAccept.length c2, .slice A5 aGuard.length c6, .slice A9 aNodes.length c10, .slice A2152 x2172.2.2.1.length c2153], .ro false cBool A1 aAccept, .ro false (cInt .i64) A5 aGuard, .ro false cNode A9 aNodes, .ro false (cInt .u8) A2152 x2172.2.2.1, .box g2156 67 [.int .i64 aProps, .slice A1 aAccept.length c2, .slice A5 aGuard.length c6, .slice A9 aNodes.length c10, .slice A2159 x2172.2.2.2.length c2160], .ro false (cInt .u8) A2159 x2172.2.2.2]) (hP : law21_WatchScript_f28 N aProps aAccept aGuard aNodes x95 x2172 = some x5099) :
    Calls Try.prog 29 #[.slice (some ⟨g773, 0, none⟩) 2 2, .slice (some ⟨g783, 0, none⟩) 2 2, .agg #[.int .u8 2, .int .u8 0, .int .u8 0]] w2170 fun e_ w_ => ∃ v_, e_ = .returned v_ ∧ (∃ (x5101 : Bool), v_ = .bool x5101 ∧ Hp S Fa w0 w_ [.ro true cS78 (some ⟨b92, 0, none⟩) ([x95.1]), .row true (cInt .i64) 3 A2140 c2141 x2172.1, .box g2137 27 [.pointer (some ⟨b92, 0, none⟩), .slice A2140 x2172.1.length c2141], .row true (cInt .i64) 3 A2146 c2147 x2172.2.1, .box g2143 27 [.pointer (some ⟨b92, 0, none⟩), .slice A2146 x2172.2.1.length c2147], .box g773 23 [.pointer (some ⟨g2137, 0, none⟩), .pointer (some ⟨g2143, 0, none⟩)], .ro false cBool A1 aAccept, .ro false (cInt .i64) A5 aGuard, .ro false cNode A9 aNodes, .ro false (cInt .u8) A2152 x2172.2.2.1, .box g2149 67 [.int .i64 aProps, .slice A1 aAccept.length c2, .slice A5 aGuard.length c6, .slice A9 aNodes.length c10, .slice A2152 x2172.2.2.1.length c2153], .ro false (cInt .u8) A2159 x2172.2.2.2, .box g2156 67 [.int .i64 aProps, .slice A1 aAccept.length c2, .slice A5 aGuard.length c6, .slice A9 aNodes.length c10, .slice A2159 x2172.2.2.2.length c2160], .box g783 62 [.pointer (some ⟨g2149, 0, none⟩), .pointer (some ⟨g2156, 0, none⟩)]] ∧ x5099 = x5101) := by
 rw [law21_WatchScript_f28] at hP
 refine enterV (n := 165) Try.func29 rfl rfl rfl ?_
 intro a E
 replace E := E.pick [(0, .slice (some ⟨g773, 0, none⟩) 2 2), (1, .slice (some ⟨g783, 0, none⟩) 2 2), (2, .agg #[.int .u8 2, .int .u8 0, .int .u8 0])] ⟨rfl, rfl, rfl, trivial⟩
 refine sr_ <| h_box H E rfl rfl rfl ?_
 clear H E; intro w5108 g5107 a hc5109 hg5111 H E; replace E := E _ rfl; try dsimp only [setn, addE, goneL] at H
 refine vp 1 [] E ?_
 clear E; intro a E
 refine nn_ <| sr_ <| vq 5 [.int .u8 0, .int .u8 0, .int .i64 0] [(7, .int .i64 0)] [World.cell? w5108 ⟨g5107, 1, none⟩ = some (.int .u8 0), (2 : Int) ≠ 0 ∧ Int.tmod 0 2 = 0, IntKind.i64.wrap 0 = 0] E ⟨(H.box 14 rfl).cell (j := 1) rfl, ⟨by decide, by decide⟩, (show _ = _ from by decide)⟩ ?_
 clear E; intro a E
 refine nn_ <| wp_seq ?_
 have HR5115 := H
 refine dr_start (S := fun w_ => Chg (atL []) w5108 w_) (by kernel_rfl) ?_
 intro w5112 hc5113
 have HS5114 : Chg (atL []) w5108 w5112 := hc5113.mono (fun _ _ h_ => h_.elim)
 replace H := H.ext hc5113
 refine dn tbok (by kernel_rfl) [0, 1, 2, 3, 4, 5, 6, 7, 8, 9] [.pointer (some ⟨g2137, 0, none⟩), .pointer (some ⟨g2149, 0, none⟩)] [(8, .pointer (some ⟨g2137, 0, none⟩)), (9, .pointer (some ⟨g2149, 0, none⟩))] (fun w_ => [0 ≤ (0 : Int) ∧ (0 : Int) < ((2 : Nat) : Int), World.cell? w_ ⟨g773, 0, none⟩ = some (.pointer (some ⟨g2137, 0, none⟩)), 0 ≤ (0 : Int) ∧ (0 : Int) < ((2 : Nat) : Int), World.cell? w_ ⟨g783, 0, none⟩ = some (.pointer (some ⟨g2149, 0, none⟩))]) 0 E (fun _ _ => by kernel_rfl) (by kernel_rfl) (fun w_ hS_ => ⟨⟨by decide, by decide⟩, (HR5115.boxk [] hS_ 0 rfl rfl).cell (j := 0) rfl, ⟨by decide, by decide⟩, (HR5115.boxk [] hS_ 6 rfl rfl).cell (j := 0) rfl⟩) (by kernel_rfl) HS5114 ?_
 clear E; intro a E
 refine dr_done (by kernel_rfl) ?_
 clear HS5114 HR5115
 refine th_n <| wp_seq <| sr_ <| vq 2 [.int .u8 2] [(36, .int .u8 2)] [World.cell? w5112 ⟨g5107, 0, none⟩ = some (.int .u8 2)] E ((H.box 14 rfl).cell (j := 0) rfl) ?_
 clear E; intro a E
 refine nn_ <| wp_block <| sr_ <| vp 2 [(37, .bool false)] E ?_
 clear E; intro a E
 refine nn_ <| c_false E rfl ?_
 refine sr_ <| vp 2 [(61, .bool false)] E ?_
 clear E; intro a E
 refine nn_ <| c_false E rfl ?_
 refine sr_ <| vp 2 [(81, .bool true)] E ?_
 clear E; intro a E
 refine nn_ <| c_true E rfl ?_
 refine wp_seq ?_
 obtain ⟨x5206, h5207, hK5208⟩ := bind_inv hP
 clear hP
 refine meet_cut (fun a w5210 => ∃ (x5209 : Bool), Fr a 165 [(6, .bool x5209)] ∧ Hp S Fa w0 w5210 [.ro true cS78 (some ⟨b92, 0, none⟩) ([x95.1]), .row true (cInt .i64) 3 A2140 c2141 x2172.1, .box g2137 27 [.pointer (some ⟨b92, 0, none⟩), .slice A2140 x2172.1.length c2141], .row true (cInt .i64) 3 A2146 c2147 x2172.2.1, .box g2143 27 [.pointer (some ⟨b92, 0, none⟩), .slice A2146 x2172.2.1.length c2147], .box g773 23 [.pointer (some ⟨g2137, 0, none⟩), .pointer (some ⟨g2143, 0, none⟩)], .ro false cBool A1 aAccept, .ro false (cInt .i64) A5 aGuard, .ro false cNode A9 aNodes, .ro false (cInt .u8) A2152 x2172.2.2.1, .box g2149 67 [.int .i64 aProps, .slice A1 aAccept.length c2, .slice A5 aGuard.length c6, .slice A9 aNodes.length c10, .slice A2152 x2172.2.2.1.length c2153], .ro false (cInt .u8) A2159 x2172.2.2.2, .box g2156 67 [.int .i64 aProps, .slice A1 aAccept.length c2, .slice A5 aGuard.length c6, .slice A9 aNodes.length c10, .slice A2159 x2172.2.2.2.length c2160], .box g783 62 [.pointer (some ⟨g2149, 0, none⟩), .pointer (some ⟨g2156, 0, none⟩)]] ∧ x5206 = x5209) ?_ ?_
 ·
  have hP := h5207; clear h5207; rw [law21_WatchScript_j29] at hP
  obtain ⟨r5211, h5212, hP⟩ := bind_inv hP
  obtain ⟨r5227, h5228, hP⟩ := bind_inv hP
  obtain ⟨r5242, h5243, hP⟩ := bind_inv hP
  by_cases h5251 : (r5211 : Int) = r5242
  ·
   replace hP := ite_t h5251 hP
   obtain ⟨r5252, h5253, hP⟩ := bind_inv hP
   obtain ⟨r5268, h5269, hP⟩ := bind_inv hP
   by_cases h5283 : (r5252 : Int) = r5268
   ·
    replace hP := ite_t h5283 hP
    obtain ⟨r5284, h5285, hP⟩ := bind_inv hP
    refine meet_cut (fun a w5300 => Fr a 165 [(6, .bool ((r5284 : Int) == (x2172.2.2.1.length : Int)))] ∧ Hp S Fa w0 w5300 [.ro true cS78 (some ⟨b92, 0, none⟩) ([x95.1]), .row true (cInt .i64) 3 A2140 c2141 x2172.1, .box g2137 27 [.pointer (some ⟨b92, 0, none⟩), .slice A2140 x2172.1.length c2141], .row true (cInt .i64) 3 A2146 c2147 x2172.2.1, .box g2143 27 [.pointer (some ⟨b92, 0, none⟩), .slice A2146 x2172.2.1.length c2147], .box g773 23 [.pointer (some ⟨g2137, 0, none⟩), .pointer (some ⟨g2143, 0, none⟩)], .ro false cBool A1 aAccept, .ro false (cInt .i64) A5 aGuard, .ro false cNode A9 aNodes, .ro false (cInt .u8) A2152 x2172.2.2.1, .box g2149 67 [.int .i64 aProps, .slice A1 aAccept.length c2, .slice A5 aGuard.length c6, .slice A9 aNodes.length c10, .slice A2152 x2172.2.2.1.length c2153], .ro false (cInt .u8) A2159 x2172.2.2.2, .box g2156 67 [.int .i64 aProps, .slice A1 aAccept.length c2, .slice A5 aGuard.length c6, .slice A9 aNodes.length c10, .slice A2159 x2172.2.2.2.length c2160], .box g783 62 [.pointer (some ⟨g2149, 0, none⟩), .pointer (some ⟨g2156, 0, none⟩)]]) ?_ ?_
    ·
     have HR5304 := H
     refine dr_start (S := fun w_ => Chg (atL [.box g2137 27 [.pointer (some ⟨b92, 0, none⟩), .slice A2140 x2172.1.length c2141], .row true (cInt .i64) 3 A2140 c2141 x2172.1, .box g2149 67 [.int .i64 aProps, .slice A1 aAccept.length c2, .slice A5 aGuard.length c6, .slice A9 aNodes.length c10, .slice A2152 x2172.2.2.1.length c2153]]) w5112 w_) (by kernel_rfl) ?_
     intro w5301 hc5302
     have HS5303 : Chg (atL [.box g2137 27 [.pointer (some ⟨b92, 0, none⟩), .slice A2140 x2172.1.length c2141], .row true (cInt .i64) 3 A2140 c2141 x2172.1, .box g2149 67 [.int .i64 aProps, .slice A1 aAccept.length c2, .slice A5 aGuard.length c6, .slice A9 aNodes.length c10, .slice A2152 x2172.2.2.1.length c2153]]) w5112 w5301 := hc5302.mono (fun _ _ h_ => h_.elim)
     replace H := H.ext hc5302
     refine dn tbok (by kernel_rfl) [0, 2, 3, 4, 6] [] [(83, .pointer (some ⟨g2137, 0, none⟩)), (87, .pointer (some ⟨g2149, 0, none⟩)), (89, .pointer (some ⟨g2149, 0, none⟩))] (fun w_ => []) 23 E (fun _ _ => by kernel_rfl) (by kernel_rfl) (fun w_ hS_ => trivial) (by kernel_rfl) HS5303 ?_
     clear E; intro a E
     refine wpAnyH_all (rs := [1, 5]) (by kernel_rfl) (by simp) ?_
     refine all2 ?_ ?_
     ·
      refine wpOp_of_list rfl ?_
      obtain ⟨Fa5305, Hc5306, hb5307⟩ := H.call [1, 3] [(2, false)] rfl rfl ⟨flat_plain, trivial⟩
      refine e_call E rfl rfl Try.func12 rfl rfl rfl (watch_Watch_Verdict_calls g2137 b92 0 A2140 c2141 x95.1 x2172.1  Hc5306 h5212) ?_
      intro v5313 w5312 a hR5314 E_
      obtain ⟨x_, hr_, rfl, HR5316⟩ := hR5314
      subst hr_
      replace E := E_ _ rfl; clear E_
      obtain ⟨H_, hc5315⟩ := hb5307 _ _ HR5316 rfl
      replace HS5303 := HS5303.trans hc5315 (fun k_ hk_ h_ => h_.elim (fun h_ => by have hs_ := HS5303.size; exfalso; omega) (fun h_ => h_.elim (fun h_ => (fun _ _ h_ => Or.inl h_) k_ hk_ h_) (fun h_ => h_.elim (fun h_ => (fun _ _ h_ => Or.inr (Or.inl h_)) k_ hk_ h_) (fun h_ => h_.elim))))
      replace H := H_; clear H_; try dsimp only [setn, addE, goneL] at H
      refine nl_ <| th_n ⟨HS5303, ?_⟩
      refine wpAnyH_all (rs := [5, 7]) (by kernel_rfl) (by simp) ?_
      refine all2 ?_ ?_
      ·
       refine wpOp_of_list rfl ?_
       refine vq 1 [.agg #[.int .i64 aProps, .slice A1 aAccept.length c2, .slice A5 aGuard.length c6, .slice A9 aNodes.length c10]] [(88, .agg #[.int .i64 aProps, .slice A1 aAccept.length c2, .slice A5 aGuard.length c6, .slice A9 aNodes.length c10])] [cellsAt w5312 g2149 (0) [.int .i64 aProps, .slice A1 aAccept.length c2, .slice A5 aGuard.length c6, .slice A9 aNodes.length c10]] E ((H.box 7 rfl).sub 0 _ rfl) ?_
       clear E; intro a E
       refine nl_ <| th_n ⟨HS5303, ?_⟩
       refine wpAnyH_all (rs := [7]) (by kernel_rfl) (by simp) ?_
       refine all1 ?_
       refine wpOp_of_list rfl ?_
       obtain ⟨Fa5319, Hc5320, hb5321⟩ := H.call [7] [(8, false), (9, false), (10, false), (11, false)] rfl rfl trivial
       refine e_call E rfl rfl Try.func41 rfl rfl rfl (ref21_Watch_State_calls g2149 A1 c2 A5 c6 A9 c10 A2152 c2153 aProps aAccept aGuard aNodes x2172.2.2.1 hk5102 hk5103 hk5104 hk5105 Hc5320 h5228) ?_
       intro v5327 w5326 a hR5328 E_
       obtain ⟨x_, hr_, rfl, HR5330⟩ := hR5328
       subst hr_
       replace E := E_ _ rfl; clear E_
       obtain ⟨H_, hc5329⟩ := hb5321 _ _ HR5330 rfl
       replace HS5303 := HS5303.trans hc5329 (fun k_ hk_ h_ => h_.elim (fun h_ => by have hs_ := HS5303.size; exfalso; omega) (fun h_ => h_.elim (fun h_ => (fun _ _ h_ => Or.inr (Or.inr (Or.inl h_))) k_ hk_ h_) (fun h_ => h_.elim)))
       replace H := H_; clear H_; try dsimp only [setn, addE, goneL] at H
       refine nl_ <| th_n ⟨HS5303, ?_⟩
       refine wpAnyH_all (rs := [8]) (by kernel_rfl) (by simp) ?_
       refine all1 ?_
       refine wpOp_of_list rfl ?_
       obtain ⟨Fa5332, Hc5333, hb5334⟩ := H.call [] [(8, false), (9, false), (10, false)] rfl rfl trivial
       refine e_call E rfl rfl Try.func40 rfl rfl rfl (ref21_Verdict_calls A1 c2 A5 c6 A9 c10 aProps aAccept aGuard aNodes r5227 hk5102 hk5103 hk5104 Hc5333 h5243) ?_
       rintro v5335 w5336 a ⟨rfl, HR5337⟩ E_
       replace E := E_ _ rfl; clear E_
       obtain ⟨H_, hc5338⟩ := hb5334 _ _ HR5337 rfl
       replace HS5303 := HS5303.ext (callS_ext hc5338)
       replace H := H_; clear H_; try dsimp only [setn, addE, goneL] at H
       refine nl_ <| th_n ⟨HS5303, ?_⟩
       refine dn tbok (by kernel_rfl) [9, 10] [] [(93, .bool ((r5211 : Int) == r5242))] (fun w_ => []) 17 E (fun _ _ => by kernel_rfl) (by kernel_rfl) (fun w_ hS_ => trivial) (by kernel_rfl) HS5303 ?_
       clear E; intro a E
       replace E := E.same (t := 93) (u := .bool true) rfl (congrArg Value.bool (beq_iff_eq.2 h5251))
       refine dn tbok (by kernel_rfl) [11, 13] [] [(94, .pointer (some ⟨g2137, 0, none⟩)), (96, .pointer (some ⟨g2149, 0, none⟩))] (fun w_ => []) 15 E (fun _ _ => by kernel_rfl) (by kernel_rfl) (fun w_ hS_ => trivial) (by kernel_rfl) HS5303 ?_
       clear E; intro a E
       refine wpAnyH_all (rs := [12]) (by kernel_rfl) (by simp) ?_
       refine all1 ?_
       refine wpOp_of_list rfl ?_
       obtain ⟨Fa5339, Hc5340, hb5341⟩ := H.call [16, 15] [(2, false)] rfl rfl ⟨flat_plain, trivial⟩
       refine e_call E rfl rfl Try.func13 rfl rfl rfl (watch_Watch_State_calls g2137 b92 0 A2140 c2141 x95.1 x2172.1  Hc5340 h5253) ?_
       intro v5347 w5346 a hR5348 E_
       obtain ⟨x_, hr_, rfl, HR5350⟩ := hR5348
       subst hr_
       replace E := E_ _ rfl; clear E_
       obtain ⟨H_, hc5349⟩ := hb5341 _ _ HR5350 rfl
       replace HS5303 := HS5303.trans hc5349 (fun k_ hk_ h_ => h_.elim (fun h_ => by have hs_ := HS5303.size; exfalso; omega) (fun h_ => h_.elim (fun h_ => (fun _ _ h_ => Or.inl h_) k_ hk_ h_) (fun h_ => h_.elim (fun h_ => (fun _ _ h_ => Or.inr (Or.inl h_)) k_ hk_ h_) (fun h_ => h_.elim))))
       replace H := H_; clear H_; try dsimp only [setn, addE, goneL] at H
       refine nl_ <| th_n ⟨HS5303, ?_⟩
       refine wpAnyH_all (rs := [14]) (by kernel_rfl) (by simp) ?_
       refine all1 ?_
       refine wpOp_of_list rfl ?_
       obtain ⟨Fa5353, Hc5354, hb5355⟩ := H.call [17] [(8, false), (9, false), (10, false), (11, false)] rfl rfl trivial
       refine e_call E rfl rfl Try.func41 rfl rfl rfl (ref21_Watch_State_calls g2149 A1 c2 A5 c6 A9 c10 A2152 c2153 aProps aAccept aGuard aNodes x2172.2.2.1 hk5102 hk5103 hk5104 hk5105 Hc5354 h5269) ?_
       intro v5361 w5360 a hR5362 E_
       obtain ⟨x_, hr_, rfl, HR5364⟩ := hR5362
       subst hr_
       replace E := E_ _ rfl; clear E_
       obtain ⟨H_, hc5363⟩ := hb5355 _ _ HR5364 rfl
       replace HS5303 := HS5303.trans hc5363 (fun k_ hk_ h_ => h_.elim (fun h_ => by have hs_ := HS5303.size; exfalso; omega) (fun h_ => h_.elim (fun h_ => (fun _ _ h_ => Or.inr (Or.inr (Or.inl h_))) k_ hk_ h_) (fun h_ => h_.elim)))
       replace H := H_; clear H_; try dsimp only [setn, addE, goneL] at H
       refine nl_ <| th_n ⟨HS5303, ?_⟩
       refine dn tbok (by kernel_rfl) [15, 16, 17] [] [(100, .bool ((r5252 : Int) == r5268))] (fun w_ => []) 10 E (fun _ _ => by kernel_rfl) (by kernel_rfl) (fun w_ hS_ => trivial) (by kernel_rfl) HS5303 ?_
       clear E; intro a E
       replace E := E.same (t := 100) (u := .bool true) rfl (congrArg Value.bool (beq_iff_eq.2 h5283))
       refine dn tbok (by kernel_rfl) [18, 20, 21, 22] [] [(101, .pointer (some ⟨g2137, 0, none⟩)), (105, .pointer (some ⟨g2149, 4, none⟩))] (fun w_ => []) 6 E (fun _ _ => by kernel_rfl) (by kernel_rfl) (fun w_ hS_ => trivial) (by kernel_rfl) HS5303 ?_
       clear E; intro a E
       refine wpAnyH_all (rs := [19, 23]) (by kernel_rfl) (by simp) ?_
       refine all2 ?_ ?_
       ·
        refine wpOp_of_list rfl ?_
        obtain ⟨Fa5366, Hc5367, hb5368⟩ := H.call [19, 18] [(2, false)] rfl rfl ⟨flat_plain, trivial⟩
        refine e_call E rfl rfl Try.func14 rfl rfl rfl (watch_Watch_Len_calls g2137 b92 0 A2140 c2141 x95.1 x2172.1  Hc5367 h5285) ?_
        intro v5374 w5373 a hR5375 E_
        obtain ⟨x_, hr_, rfl, HR5377⟩ := hR5375
        subst hr_
        replace E := E_ _ rfl; clear E_
        obtain ⟨H_, hc5376⟩ := hb5368 _ _ HR5377 rfl
        replace HS5303 := HS5303.trans hc5376 (fun k_ hk_ h_ => h_.elim (fun h_ => by have hs_ := HS5303.size; exfalso; omega) (fun h_ => h_.elim (fun h_ => (fun _ _ h_ => Or.inl h_) k_ hk_ h_) (fun h_ => h_.elim (fun h_ => (fun _ _ h_ => Or.inr (Or.inl h_)) k_ hk_ h_) (fun h_ => h_.elim))))
        replace H := H_; clear H_; try dsimp only [setn, addE, goneL] at H
        refine nl_ <| th_n ⟨HS5303, ?_⟩
        refine wpAnyH_all (rs := [23]) (by kernel_rfl) (by simp) ?_
        refine all1 ?_
        refine wpOp_of_list rfl ?_
        refine vq 1 [.slice A2152 x2172.2.2.1.length c2153] [(106, .slice A2152 x2172.2.2.1.length c2153)] [World.cell? w5373 ⟨g2149, 4, none⟩ = some (.slice A2152 x2172.2.2.1.length c2153)] E ((H.box 20 rfl).cell (j := 4) rfl) ?_
        clear E; intro a E
        refine nl_ <| th_n ⟨HS5303, ?_⟩
        refine dn tbok (by kernel_rfl) [24, 25, 26, 27] [] [(6, .bool ((r5284 : Int) == (x2172.2.2.1.length : Int)))] (fun w_ => []) 0 E (fun _ _ => by kernel_rfl) (by kernel_rfl) (fun w_ hS_ => trivial) (by kernel_rfl) HS5303 ?_
        clear E; intro a E
        refine dr_done (by kernel_rfl) ?_
        exact .inl ⟨rfl, E.pk, H.sel [2, 21, 22, 5, 4, 0, 8, 9, 10, 11, 20, 13, 12, 6] rfl⟩
       refine wpOp_of_list rfl ?_
       refine vq 1 [.slice A2152 x2172.2.2.1.length c2153] [(106, .slice A2152 x2172.2.2.1.length c2153)] [World.cell? w5360 ⟨g2149, 4, none⟩ = some (.slice A2152 x2172.2.2.1.length c2153)] E ((H.box 20 rfl).cell (j := 4) rfl) ?_
       clear E; intro a E
       refine nl_ <| th_n ⟨HS5303, ?_⟩
       refine dn tbok (by kernel_rfl) [24] [] [(107, .int .i64 (x2172.2.2.1.length : Int))] (fun w_ => []) 4 E (fun _ _ => by kernel_rfl) (by kernel_rfl) (fun w_ hS_ => trivial) (by kernel_rfl) HS5303 ?_
       clear E; intro a E
       refine wpAnyH_all (rs := [19]) (by kernel_rfl) (by simp) ?_
       refine all1 ?_
       refine wpOp_of_list rfl ?_
       obtain ⟨Fa5380, Hc5381, hb5382⟩ := H.call [19, 18] [(2, false)] rfl rfl ⟨flat_plain, trivial⟩
       refine e_call E rfl rfl Try.func14 rfl rfl rfl (watch_Watch_Len_calls g2137 b92 0 A2140 c2141 x95.1 x2172.1  Hc5381 h5285) ?_
       intro v5388 w5387 a hR5389 E_
       obtain ⟨x_, hr_, rfl, HR5391⟩ := hR5389
       subst hr_
       replace E := E_ _ rfl; clear E_
       obtain ⟨H_, hc5390⟩ := hb5382 _ _ HR5391 rfl
       replace HS5303 := HS5303.trans hc5390 (fun k_ hk_ h_ => h_.elim (fun h_ => by have hs_ := HS5303.size; exfalso; omega) (fun h_ => h_.elim (fun h_ => (fun _ _ h_ => Or.inl h_) k_ hk_ h_) (fun h_ => h_.elim (fun h_ => (fun _ _ h_ => Or.inr (Or.inl h_)) k_ hk_ h_) (fun h_ => h_.elim))))
       replace H := H_; clear H_; try dsimp only [setn, addE, goneL] at H
       refine nl_ <| th_n ⟨HS5303, ?_⟩
       refine dn tbok (by kernel_rfl) [25, 26, 27] [] [(6, .bool ((r5284 : Int) == (x2172.2.2.1.length : Int)))] (fun w_ => []) 0 E (fun _ _ => by kernel_rfl) (by kernel_rfl) (fun w_ hS_ => trivial) (by kernel_rfl) HS5303 ?_
       clear E; intro a E
       refine dr_done (by kernel_rfl) ?_
       exact .inl ⟨rfl, E.pk, H.sel [2, 21, 22, 5, 4, 0, 8, 9, 10, 11, 20, 13, 12, 6] rfl⟩
      refine wpOp_of_list rfl ?_
      obtain ⟨Fa5394, Hc5395, hb5396⟩ := H.call [7] [(8, false), (9, false), (10, false), (11, false)] rfl rfl trivial
      refine e_call E rfl rfl Try.func41 rfl rfl rfl (ref21_Watch_State_calls g2149 A1 c2 A5 c6 A9 c10 A2152 c2153 aProps aAccept aGuard aNodes x2172.2.2.1 hk5102 hk5103 hk5104 hk5105 Hc5395 h5228) ?_
      intro v5402 w5401 a hR5403 E_
      obtain ⟨x_, hr_, rfl, HR5405⟩ := hR5403
      subst hr_
      replace E := E_ _ rfl; clear E_
      obtain ⟨H_, hc5404⟩ := hb5396 _ _ HR5405 rfl
      replace HS5303 := HS5303.trans hc5404 (fun k_ hk_ h_ => h_.elim (fun h_ => by have hs_ := HS5303.size; exfalso; omega) (fun h_ => h_.elim (fun h_ => (fun _ _ h_ => Or.inr (Or.inr (Or.inl h_))) k_ hk_ h_) (fun h_ => h_.elim)))
      replace H := H_; clear H_; try dsimp only [setn, addE, goneL] at H
      refine nl_ <| th_n ⟨HS5303, ?_⟩
      refine wpAnyH_all (rs := [5]) (by kernel_rfl) (by simp) ?_
      refine all1 ?_
      refine wpOp_of_list rfl ?_
      refine vq 1 [.agg #[.int .i64 aProps, .slice A1 aAccept.length c2, .slice A5 aGuard.length c6, .slice A9 aNodes.length c10]] [(88, .agg #[.int .i64 aProps, .slice A1 aAccept.length c2, .slice A5 aGuard.length c6, .slice A9 aNodes.length c10])] [cellsAt w5401 g2149 (0) [.int .i64 aProps, .slice A1 aAccept.length c2, .slice A5 aGuard.length c6, .slice A9 aNodes.length c10]] E ((H.box 17 rfl).sub 0 _ rfl) ?_
      clear E; intro a E
      refine nl_ <| th_n ⟨HS5303, ?_⟩
      refine wpAnyH_all (rs := [8]) (by kernel_rfl) (by simp) ?_
      refine all1 ?_
      refine wpOp_of_list rfl ?_
      obtain ⟨Fa5407, Hc5408, hb5409⟩ := H.call [] [(8, false), (9, false), (10, false)] rfl rfl trivial
      refine e_call E rfl rfl Try.func40 rfl rfl rfl (ref21_Verdict_calls A1 c2 A5 c6 A9 c10 aProps aAccept aGuard aNodes r5227 hk5102 hk5103 hk5104 Hc5408 h5243) ?_
      rintro v5410 w5411 a ⟨rfl, HR5412⟩ E_
      replace E := E_ _ rfl; clear E_
      obtain ⟨H_, hc5413⟩ := hb5409 _ _ HR5412 rfl
      replace HS5303 := HS5303.ext (callS_ext hc5413)
      replace H := H_; clear H_; try dsimp only [setn, addE, goneL] at H
      refine nl_ <| th_n ⟨HS5303, ?_⟩
      refine dn tbok (by kernel_rfl) [9, 10] [] [(93, .bool ((r5211 : Int) == r5242))] (fun w_ => []) 17 E (fun _ _ => by kernel_rfl) (by kernel_rfl) (fun w_ hS_ => trivial) (by kernel_rfl) HS5303 ?_
      clear E; intro a E
      replace E := E.same (t := 93) (u := .bool true) rfl (congrArg Value.bool (beq_iff_eq.2 h5251))
      refine dn tbok (by kernel_rfl) [11, 13] [] [(94, .pointer (some ⟨g2137, 0, none⟩)), (96, .pointer (some ⟨g2149, 0, none⟩))] (fun w_ => []) 15 E (fun _ _ => by kernel_rfl) (by kernel_rfl) (fun w_ hS_ => trivial) (by kernel_rfl) HS5303 ?_
      clear E; intro a E
      refine wpAnyH_all (rs := [12]) (by kernel_rfl) (by simp) ?_
      refine all1 ?_
      refine wpOp_of_list rfl ?_
      obtain ⟨Fa5414, Hc5415, hb5416⟩ := H.call [16, 15] [(2, false)] rfl rfl ⟨flat_plain, trivial⟩
      refine e_call E rfl rfl Try.func13 rfl rfl rfl (watch_Watch_State_calls g2137 b92 0 A2140 c2141 x95.1 x2172.1  Hc5415 h5253) ?_
      intro v5422 w5421 a hR5423 E_
      obtain ⟨x_, hr_, rfl, HR5425⟩ := hR5423
      subst hr_
      replace E := E_ _ rfl; clear E_
      obtain ⟨H_, hc5424⟩ := hb5416 _ _ HR5425 rfl
      replace HS5303 := HS5303.trans hc5424 (fun k_ hk_ h_ => h_.elim (fun h_ => by have hs_ := HS5303.size; exfalso; omega) (fun h_ => h_.elim (fun h_ => (fun _ _ h_ => Or.inl h_) k_ hk_ h_) (fun h_ => h_.elim (fun h_ => (fun _ _ h_ => Or.inr (Or.inl h_)) k_ hk_ h_) (fun h_ => h_.elim))))
      replace H := H_; clear H_; try dsimp only [setn, addE, goneL] at H
      refine nl_ <| th_n ⟨HS5303, ?_⟩
      refine wpAnyH_all (rs := [14]) (by kernel_rfl) (by simp) ?_
      refine all1 ?_
      refine wpOp_of_list rfl ?_
      obtain ⟨Fa5428, Hc5429, hb5430⟩ := H.call [17] [(8, false), (9, false), (10, false), (11, false)] rfl rfl trivial
      refine e_call E rfl rfl Try.func41 rfl rfl rfl (ref21_Watch_State_calls g2149 A1 c2 A5 c6 A9 c10 A2152 c2153 aProps aAccept aGuard aNodes x2172.2.2.1 hk5102 hk5103 hk5104 hk5105 Hc5429 h5269) ?_
      intro v5436 w5435 a hR5437 E_
      obtain ⟨x_, hr_, rfl, HR5439⟩ := hR5437
      subst hr_
      replace E := E_ _ rfl; clear E_
      obtain ⟨H_, hc5438⟩ := hb5430 _ _ HR5439 rfl
      replace HS5303 := HS5303.trans hc5438 (fun k_ hk_ h_ => h_.elim (fun h_ => by have hs_ := HS5303.size; exfalso; omega) (fun h_ => h_.elim (fun h_ => (fun _ _ h_ => Or.inr (Or.inr (Or.inl h_))) k_ hk_ h_) (fun h_ => h_.elim)))
      replace H := H_; clear H_; try dsimp only [setn, addE, goneL] at H
      refine nl_ <| th_n ⟨HS5303, ?_⟩
      refine dn tbok (by kernel_rfl) [15, 16, 17] [] [(100, .bool ((r5252 : Int) == r5268))] (fun w_ => []) 10 E (fun _ _ => by kernel_rfl) (by kernel_rfl) (fun w_ hS_ => trivial) (by kernel_rfl) HS5303 ?_
      clear E; intro a E
      replace E := E.same (t := 100) (u := .bool true) rfl (congrArg Value.bool (beq_iff_eq.2 h5283))
      refine dn tbok (by kernel_rfl) [18, 20, 21, 22] [] [(101, .pointer (some ⟨g2137, 0, none⟩)), (105, .pointer (some ⟨g2149, 4, none⟩))] (fun w_ => []) 6 E (fun _ _ => by kernel_rfl) (by kernel_rfl) (fun w_ hS_ => trivial) (by kernel_rfl) HS5303 ?_
      clear E; intro a E
      refine wpAnyH_all (rs := [19, 23]) (by kernel_rfl) (by simp) ?_
      refine all2 ?_ ?_
      ·
       refine wpOp_of_list rfl ?_
       obtain ⟨Fa5441, Hc5442, hb5443⟩ := H.call [19, 18] [(2, false)] rfl rfl ⟨flat_plain, trivial⟩
       refine e_call E rfl rfl Try.func14 rfl rfl rfl (watch_Watch_Len_calls g2137 b92 0 A2140 c2141 x95.1 x2172.1  Hc5442 h5285) ?_
       intro v5449 w5448 a hR5450 E_
       obtain ⟨x_, hr_, rfl, HR5452⟩ := hR5450
       subst hr_
       replace E := E_ _ rfl; clear E_
       obtain ⟨H_, hc5451⟩ := hb5443 _ _ HR5452 rfl
       replace HS5303 := HS5303.trans hc5451 (fun k_ hk_ h_ => h_.elim (fun h_ => by have hs_ := HS5303.size; exfalso; omega) (fun h_ => h_.elim (fun h_ => (fun _ _ h_ => Or.inl h_) k_ hk_ h_) (fun h_ => h_.elim (fun h_ => (fun _ _ h_ => Or.inr (Or.inl h_)) k_ hk_ h_) (fun h_ => h_.elim))))
       replace H := H_; clear H_; try dsimp only [setn, addE, goneL] at H
       refine nl_ <| th_n ⟨HS5303, ?_⟩
       refine wpAnyH_all (rs := [23]) (by kernel_rfl) (by simp) ?_
       refine all1 ?_
       refine wpOp_of_list rfl ?_
       refine vq 1 [.slice A2152 x2172.2.2.1.length c2153] [(106, .slice A2152 x2172.2.2.1.length c2153)] [World.cell? w5448 ⟨g2149, 4, none⟩ = some (.slice A2152 x2172.2.2.1.length c2153)] E ((H.box 20 rfl).cell (j := 4) rfl) ?_
       clear E; intro a E
       refine nl_ <| th_n ⟨HS5303, ?_⟩
       refine dn tbok (by kernel_rfl) [24, 25, 26, 27] [] [(6, .bool ((r5284 : Int) == (x2172.2.2.1.length : Int)))] (fun w_ => []) 0 E (fun _ _ => by kernel_rfl) (by kernel_rfl) (fun w_ hS_ => trivial) (by kernel_rfl) HS5303 ?_
       clear E; intro a E
       refine dr_done (by kernel_rfl) ?_
       exact .inl ⟨rfl, E.pk, H.sel [2, 21, 22, 5, 4, 0, 8, 9, 10, 11, 20, 13, 12, 6] rfl⟩
      refine wpOp_of_list rfl ?_
      refine vq 1 [.slice A2152 x2172.2.2.1.length c2153] [(106, .slice A2152 x2172.2.2.1.length c2153)] [World.cell? w5435 ⟨g2149, 4, none⟩ = some (.slice A2152 x2172.2.2.1.length c2153)] E ((H.box 20 rfl).cell (j := 4) rfl) ?_
      clear E; intro a E
      refine nl_ <| th_n ⟨HS5303, ?_⟩
      refine dn tbok (by kernel_rfl) [24] [] [(107, .int .i64 (x2172.2.2.1.length : Int))] (fun w_ => []) 4 E (fun _ _ => by kernel_rfl) (by kernel_rfl) (fun w_ hS_ => trivial) (by kernel_rfl) HS5303 ?_
      clear E; intro a E
      refine wpAnyH_all (rs := [19]) (by kernel_rfl) (by simp) ?_
      refine all1 ?_
      refine wpOp_of_list rfl ?_
      obtain ⟨Fa5455, Hc5456, hb5457⟩ := H.call [19, 18] [(2, false)] rfl rfl ⟨flat_plain, trivial⟩
      refine e_call E rfl rfl Try.func14 rfl rfl rfl (watch_Watch_Len_calls g2137 b92 0 A2140 c2141 x95.1 x2172.1  Hc5456 h5285) ?_
      intro v5463 w5462 a hR5464 E_
      obtain ⟨x_, hr_, rfl, HR5466⟩ := hR5464
      subst hr_
      replace E := E_ _ rfl; clear E_
      obtain ⟨H_, hc5465⟩ := hb5457 _ _ HR5466 rfl
      replace HS5303 := HS5303.trans hc5465 (fun k_ hk_ h_ => h_.elim (fun h_ => by have hs_ := HS5303.size; exfalso; omega) (fun h_ => h_.elim (fun h_ => (fun _ _ h_ => Or.inl h_) k_ hk_ h_) (fun h_ => h_.elim (fun h_ => (fun _ _ h_ => Or.inr (Or.inl h_)) k_ hk_ h_) (fun h_ => h_.elim))))
      replace H := H_; clear H_; try dsimp only [setn, addE, goneL] at H
      refine nl_ <| th_n ⟨HS5303, ?_⟩
      refine dn tbok (by kernel_rfl) [25, 26, 27] [] [(6, .bool ((r5284 : Int) == (x2172.2.2.1.length : Int)))] (fun w_ => []) 0 E (fun _ _ => by kernel_rfl) (by kernel_rfl) (fun w_ hS_ => trivial) (by kernel_rfl) HS5303 ?_
      clear E; intro a E
      refine dr_done (by kernel_rfl) ?_
      exact .inl ⟨rfl, E.pk, H.sel [2, 21, 22, 5, 4, 0, 8, 9, 10, 11, 20, 13, 12, 6] rfl⟩
     refine wpOp_of_list rfl ?_
     refine vq 1 [.agg #[.int .i64 aProps, .slice A1 aAccept.length c2, .slice A5 aGuard.length c6, .slice A9 aNodes.length c10]] [(88, .agg #[.int .i64 aProps, .slice A1 aAccept.length c2, .slice A5 aGuard.length c6, .slice A9 aNodes.length c10])] [cellsAt w5301 g2149 (0) [.int .i64 aProps, .slice A1 aAccept.length c2, .slice A5 aGuard.length c6, .slice A9 aNodes.length c10]] E ((H.box 7 rfl).sub 0 _ rfl) ?_
     clear E; intro a E
     refine nl_ <| th_n ⟨HS5303, ?_⟩
     refine wpAnyH_all (rs := [1]) (by kernel_rfl) (by simp) ?_
     refine all1 ?_
     refine wpOp_of_list rfl ?_
     obtain ⟨Fa5469, Hc5470, hb5471⟩ := H.call [1, 3] [(2, false)] rfl rfl ⟨flat_plain, trivial⟩
     refine e_call E rfl rfl Try.func12 rfl rfl rfl (watch_Watch_Verdict_calls g2137 b92 0 A2140 c2141 x95.1 x2172.1  Hc5470 h5212) ?_
     intro v5477 w5476 a hR5478 E_
     obtain ⟨x_, hr_, rfl, HR5480⟩ := hR5478
     subst hr_
     replace E := E_ _ rfl; clear E_
     obtain ⟨H_, hc5479⟩ := hb5471 _ _ HR5480 rfl
     replace HS5303 := HS5303.trans hc5479 (fun k_ hk_ h_ => h_.elim (fun h_ => by have hs_ := HS5303.size; exfalso; omega) (fun h_ => h_.elim (fun h_ => (fun _ _ h_ => Or.inl h_) k_ hk_ h_) (fun h_ => h_.elim (fun h_ => (fun _ _ h_ => Or.inr (Or.inl h_)) k_ hk_ h_) (fun h_ => h_.elim))))
     replace H := H_; clear H_; try dsimp only [setn, addE, goneL] at H
     refine nl_ <| th_n ⟨HS5303, ?_⟩
     refine wpAnyH_all (rs := [7]) (by kernel_rfl) (by simp) ?_
     refine all1 ?_
     refine wpOp_of_list rfl ?_
     obtain ⟨Fa5483, Hc5484, hb5485⟩ := H.call [7] [(8, false), (9, false), (10, false), (11, false)] rfl rfl trivial
     refine e_call E rfl rfl Try.func41 rfl rfl rfl (ref21_Watch_State_calls g2149 A1 c2 A5 c6 A9 c10 A2152 c2153 aProps aAccept aGuard aNodes x2172.2.2.1 hk5102 hk5103 hk5104 hk5105 Hc5484 h5228) ?_
     intro v5491 w5490 a hR5492 E_
     obtain ⟨x_, hr_, rfl, HR5494⟩ := hR5492
     subst hr_
     replace E := E_ _ rfl; clear E_
     obtain ⟨H_, hc5493⟩ := hb5485 _ _ HR5494 rfl
     replace HS5303 := HS5303.trans hc5493 (fun k_ hk_ h_ => h_.elim (fun h_ => by have hs_ := HS5303.size; exfalso; omega) (fun h_ => h_.elim (fun h_ => (fun _ _ h_ => Or.inr (Or.inr (Or.inl h_))) k_ hk_ h_) (fun h_ => h_.elim)))
     replace H := H_; clear H_; try dsimp only [setn, addE, goneL] at H
     refine nl_ <| th_n ⟨HS5303, ?_⟩
     refine wpAnyH_all (rs := [8]) (by kernel_rfl) (by simp) ?_
     refine all1 ?_
     refine wpOp_of_list rfl ?_
     obtain ⟨Fa5496, Hc5497, hb5498⟩ := H.call [] [(8, false), (9, false), (10, false)] rfl rfl trivial
     refine e_call E rfl rfl Try.func40 rfl rfl rfl (ref21_Verdict_calls A1 c2 A5 c6 A9 c10 aProps aAccept aGuard aNodes r5227 hk5102 hk5103 hk5104 Hc5497 h5243) ?_
     rintro v5499 w5500 a ⟨rfl, HR5501⟩ E_
     replace E := E_ _ rfl; clear E_
     obtain ⟨H_, hc5502⟩ := hb5498 _ _ HR5501 rfl
     replace HS5303 := HS5303.ext (callS_ext hc5502)
     replace H := H_; clear H_; try dsimp only [setn, addE, goneL] at H
     refine nl_ <| th_n ⟨HS5303, ?_⟩
     refine dn tbok (by kernel_rfl) [9, 10] [] [(93, .bool ((r5211 : Int) == r5242))] (fun w_ => []) 17 E (fun _ _ => by kernel_rfl) (by kernel_rfl) (fun w_ hS_ => trivial) (by kernel_rfl) HS5303 ?_
     clear E; intro a E
     replace E := E.same (t := 93) (u := .bool true) rfl (congrArg Value.bool (beq_iff_eq.2 h5251))
     refine dn tbok (by kernel_rfl) [11, 13] [] [(94, .pointer (some ⟨g2137, 0, none⟩)), (96, .pointer (some ⟨g2149, 0, none⟩))] (fun w_ => []) 15 E (fun _ _ => by kernel_rfl) (by kernel_rfl) (fun w_ hS_ => trivial) (by kernel_rfl) HS5303 ?_
     clear E; intro a E
     refine wpAnyH_all (rs := [12]) (by kernel_rfl) (by simp) ?_
     refine all1 ?_
     refine wpOp_of_list rfl ?_
     obtain ⟨Fa5503, Hc5504, hb5505⟩ := H.call [16, 15] [(2, false)] rfl rfl ⟨flat_plain, trivial⟩
     refine e_call E rfl rfl Try.func13 rfl rfl rfl (watch_Watch_State_calls g2137 b92 0 A2140 c2141 x95.1 x2172.1  Hc5504 h5253) ?_
     intro v5511 w5510 a hR5512 E_
     obtain ⟨x_, hr_, rfl, HR5514⟩ := hR5512
     subst hr_
     replace E := E_ _ rfl; clear E_
     obtain ⟨H_, hc5513⟩ := hb5505 _ _ HR5514 rfl
     replace HS5303 := HS5303.trans hc5513 (fun k_ hk_ h_ => h_.elim (fun h_ => by have hs_ := HS5303.size; exfalso; omega) (fun h_ => h_.elim (fun h_ => (fun _ _ h_ => Or.inl h_) k_ hk_ h_) (fun h_ => h_.elim (fun h_ => (fun _ _ h_ => Or.inr (Or.inl h_)) k_ hk_ h_) (fun h_ => h_.elim))))
     replace H := H_; clear H_; try dsimp only [setn, addE, goneL] at H
     refine nl_ <| th_n ⟨HS5303, ?_⟩
     refine wpAnyH_all (rs := [14]) (by kernel_rfl) (by simp) ?_
     refine all1 ?_
     refine wpOp_of_list rfl ?_
     obtain ⟨Fa5517, Hc5518, hb5519⟩ := H.call [17] [(8, false), (9, false), (10, false), (11, false)] rfl rfl trivial
     refine e_call E rfl rfl Try.func41 rfl rfl rfl (ref21_Watch_State_calls g2149 A1 c2 A5 c6 A9 c10 A2152 c2153 aProps aAccept aGuard aNodes x2172.2.2.1 hk5102 hk5103 hk5104 hk5105 Hc5518 h5269) ?_
     intro v5525 w5524 a hR5526 E_
     obtain ⟨x_, hr_, rfl, HR5528⟩ := hR5526
     subst hr_
     replace E := E_ _ rfl; clear E_
     obtain ⟨H_, hc5527⟩ := hb5519 _ _ HR5528 rfl
     replace HS5303 := HS5303.trans hc5527 (fun k_ hk_ h_ => h_.elim (fun h_ => by have hs_ := HS5303.size; exfalso; omega) (fun h_ => h_.elim (fun h_ => (fun _ _ h_ => Or.inr (Or.inr (Or.inl h_))) k_ hk_ h_) (fun h_ => h_.elim)))
     replace H := H_; clear H_; try dsimp only [setn, addE, goneL] at H
     refine nl_ <| th_n ⟨HS5303, ?_⟩
     refine dn tbok (by kernel_rfl) [15, 16, 17] [] [(100, .bool ((r5252 : Int) == r5268))] (fun w_ => []) 10 E (fun _ _ => by kernel_rfl) (by kernel_rfl) (fun w_ hS_ => trivial) (by kernel_rfl) HS5303 ?_
     clear E; intro a E
     replace E := E.same (t := 100) (u := .bool true) rfl (congrArg Value.bool (beq_iff_eq.2 h5283))
     refine dn tbok (by kernel_rfl) [18, 20, 21, 22] [] [(101, .pointer (some ⟨g2137, 0, none⟩)), (105, .pointer (some ⟨g2149, 4, none⟩))] (fun w_ => []) 6 E (fun _ _ => by kernel_rfl) (by kernel_rfl) (fun w_ hS_ => trivial) (by kernel_rfl) HS5303 ?_
     clear E; intro a E
     refine wpAnyH_all (rs := [19, 23]) (by kernel_rfl) (by simp) ?_
     refine all2 ?_ ?_
     ·
      refine wpOp_of_list rfl ?_
      obtain ⟨Fa5530, Hc5531, hb5532⟩ := H.call [19, 18] [(2, false)] rfl rfl ⟨flat_plain, trivial⟩
      refine e_call E rfl rfl Try.func14 rfl rfl rfl (watch_Watch_Len_calls g2137 b92 0 A2140 c2141 x95.1 x2172.1  Hc5531 h5285) ?_
      intro v5538 w5537 a hR5539 E_
      obtain ⟨x_, hr_, rfl, HR5541⟩ := hR5539
      subst hr_
      replace E := E_ _ rfl; clear E_
      obtain ⟨H_, hc5540⟩ := hb5532 _ _ HR5541 rfl
      replace HS5303 := HS5303.trans hc5540 (fun k_ hk_ h_ => h_.elim (fun h_ => by have hs_ := HS5303.size; exfalso; omega) (fun h_ => h_.elim (fun h_ => (fun _ _ h_ => Or.inl h_) k_ hk_ h_) (fun h_ => h_.elim (fun h_ => (fun _ _ h_ => Or.inr (Or.inl h_)) k_ hk_ h_) (fun h_ => h_.elim))))
      replace H := H_; clear H_; try dsimp only [setn, addE, goneL] at H
      refine nl_ <| th_n ⟨HS5303, ?_⟩
      refine wpAnyH_all (rs := [23]) (by kernel_rfl) (by simp) ?_
      refine all1 ?_
      refine wpOp_of_list rfl ?_
      refine vq 1 [.slice A2152 x2172.2.2.1.length c2153] [(106, .slice A2152 x2172.2.2.1.length c2153)] [World.cell? w5537 ⟨g2149, 4, none⟩ = some (.slice A2152 x2172.2.2.1.length c2153)] E ((H.box 20 rfl).cell (j := 4) rfl) ?_
      clear E; intro a E
      refine nl_ <| th_n ⟨HS5303, ?_⟩
      refine dn tbok (by kernel_rfl) [24, 25, 26, 27] [] [(6, .bool ((r5284 : Int) == (x2172.2.2.1.length : Int)))] (fun w_ => []) 0 E (fun _ _ => by kernel_rfl) (by kernel_rfl) (fun w_ hS_ => trivial) (by kernel_rfl) HS5303 ?_
      clear E; intro a E
      refine dr_done (by kernel_rfl) ?_
      exact .inl ⟨rfl, E.pk, H.sel [2, 21, 22, 5, 4, 0, 8, 9, 10, 11, 20, 13, 12, 6] rfl⟩
     refine wpOp_of_list rfl ?_
     refine vq 1 [.slice A2152 x2172.2.2.1.length c2153] [(106, .slice A2152 x2172.2.2.1.length c2153)] [World.cell? w5524 ⟨g2149, 4, none⟩ = some (.slice A2152 x2172.2.2.1.length c2153)] E ((H.box 20 rfl).cell (j := 4) rfl) ?_
     clear E; intro a E
     refine nl_ <| th_n ⟨HS5303, ?_⟩
     refine dn tbok (by kernel_rfl) [24] [] [(107, .int .i64 (x2172.2.2.1.length : Int))] (fun w_ => []) 4 E (fun _ _ => by kernel_rfl) (by kernel_rfl) (fun w_ hS_ => trivial) (by kernel_rfl) HS5303 ?_
     clear E; intro a E
     refine wpAnyH_all (rs := [19]) (by kernel_rfl) (by simp) ?_
     refine all1 ?_
     refine wpOp_of_list rfl ?_
     obtain ⟨Fa5544, Hc5545, hb5546⟩ := H.call [19, 18] [(2, false)] rfl rfl ⟨flat_plain, trivial⟩
     refine e_call E rfl rfl Try.func14 rfl rfl rfl (watch_Watch_Len_calls g2137 b92 0 A2140 c2141 x95.1 x2172.1  Hc5545 h5285) ?_
     intro v5552 w5551 a hR5553 E_
     obtain ⟨x_, hr_, rfl, HR5555⟩ := hR5553
     subst hr_
     replace E := E_ _ rfl; clear E_
     obtain ⟨H_, hc5554⟩ := hb5546 _ _ HR5555 rfl
     replace HS5303 := HS5303.trans hc5554 (fun k_ hk_ h_ => h_.elim (fun h_ => by have hs_ := HS5303.size; exfalso; omega) (fun h_ => h_.elim (fun h_ => (fun _ _ h_ => Or.inl h_) k_ hk_ h_) (fun h_ => h_.elim (fun h_ => (fun _ _ h_ => Or.inr (Or.inl h_)) k_ hk_ h_) (fun h_ => h_.elim))))
     replace H := H_; clear H_; try dsimp only [setn, addE, goneL] at H
     refine nl_ <| th_n ⟨HS5303, ?_⟩
     refine dn tbok (by kernel_rfl) [25, 26, 27] [] [(6, .bool ((r5284 : Int) == (x2172.2.2.1.length : Int)))] (fun w_ => []) 0 E (fun _ _ => by kernel_rfl) (by kernel_rfl) (fun w_ hS_ => trivial) (by kernel_rfl) HS5303 ?_
     clear E; intro a E
     refine dr_done (by kernel_rfl) ?_
     exact .inl ⟨rfl, E.pk, H.sel [2, 21, 22, 5, 4, 0, 8, 9, 10, 11, 20, 13, 12, 6] rfl⟩
    clear E H; rintro a w5300 ⟨E, H⟩
    have hx_ := Option.some.inj hP
    exact .inl ⟨rfl, (r5284 : Int) == (x2172.2.2.1.length : Int), E.pk, H.sel (up 14) rfl, hx_.symm⟩
   replace hP := ite_f h5283 hP
   refine meet_cut (fun a w5558 => Fr a 165 [(6, .bool false)] ∧ Hp S Fa w0 w5558 [.ro true cS78 (some ⟨b92, 0, none⟩) ([x95.1]), .row true (cInt .i64) 3 A2140 c2141 x2172.1, .box g2137 27 [.pointer (some ⟨b92, 0, none⟩), .slice A2140 x2172.1.length c2141], .row true (cInt .i64) 3 A2146 c2147 x2172.2.1, .box g2143 27 [.pointer (some ⟨b92, 0, none⟩), .slice A2146 x2172.2.1.length c2147], .box g773 23 [.pointer (some ⟨g2137, 0, none⟩), .pointer (some ⟨g2143, 0, none⟩)], .ro false cBool A1 aAccept, .ro false (cInt .i64) A5 aGuard, .ro false cNode A9 aNodes, .ro false (cInt .u8) A2152 x2172.2.2.1, .box g2149 67 [.int .i64 aProps, .slice A1 aAccept.length c2, .slice A5 aGuard.length c6, .slice A9 aNodes.length c10, .slice A2152 x2172.2.2.1.length c2153], .ro false (cInt .u8) A2159 x2172.2.2.2, .box g2156 67 [.int .i64 aProps, .slice A1 aAccept.length c2, .slice A5 aGuard.length c6, .slice A9 aNodes.length c10, .slice A2159 x2172.2.2.2.length c2160], .box g783 62 [.pointer (some ⟨g2149, 0, none⟩), .pointer (some ⟨g2156, 0, none⟩)]]) ?_ ?_
   ·
    have HR5562 := H
    refine dr_start (S := fun w_ => Chg (atL [.box g2137 27 [.pointer (some ⟨b92, 0, none⟩), .slice A2140 x2172.1.length c2141], .row true (cInt .i64) 3 A2140 c2141 x2172.1, .box g2149 67 [.int .i64 aProps, .slice A1 aAccept.length c2, .slice A5 aGuard.length c6, .slice A9 aNodes.length c10, .slice A2152 x2172.2.2.1.length c2153]]) w5112 w_) (by kernel_rfl) ?_
    intro w5559 hc5560
    have HS5561 : Chg (atL [.box g2137 27 [.pointer (some ⟨b92, 0, none⟩), .slice A2140 x2172.1.length c2141], .row true (cInt .i64) 3 A2140 c2141 x2172.1, .box g2149 67 [.int .i64 aProps, .slice A1 aAccept.length c2, .slice A5 aGuard.length c6, .slice A9 aNodes.length c10, .slice A2152 x2172.2.2.1.length c2153]]) w5112 w5559 := hc5560.mono (fun _ _ h_ => h_.elim)
    replace H := H.ext hc5560
    refine dn tbok (by kernel_rfl) [0, 2, 3, 4, 6] [] [(83, .pointer (some ⟨g2137, 0, none⟩)), (87, .pointer (some ⟨g2149, 0, none⟩)), (89, .pointer (some ⟨g2149, 0, none⟩))] (fun w_ => []) 23 E (fun _ _ => by kernel_rfl) (by kernel_rfl) (fun w_ hS_ => trivial) (by kernel_rfl) HS5561 ?_
    clear E; intro a E
    refine wpAnyH_all (rs := [1, 5]) (by kernel_rfl) (by simp) ?_
    refine all2 ?_ ?_
    ·
     refine wpOp_of_list rfl ?_
     obtain ⟨Fa5563, Hc5564, hb5565⟩ := H.call [1, 3] [(2, false)] rfl rfl ⟨flat_plain, trivial⟩
     refine e_call E rfl rfl Try.func12 rfl rfl rfl (watch_Watch_Verdict_calls g2137 b92 0 A2140 c2141 x95.1 x2172.1  Hc5564 h5212) ?_
     intro v5571 w5570 a hR5572 E_
     obtain ⟨x_, hr_, rfl, HR5574⟩ := hR5572
     subst hr_
     replace E := E_ _ rfl; clear E_
     obtain ⟨H_, hc5573⟩ := hb5565 _ _ HR5574 rfl
     replace HS5561 := HS5561.trans hc5573 (fun k_ hk_ h_ => h_.elim (fun h_ => by have hs_ := HS5561.size; exfalso; omega) (fun h_ => h_.elim (fun h_ => (fun _ _ h_ => Or.inl h_) k_ hk_ h_) (fun h_ => h_.elim (fun h_ => (fun _ _ h_ => Or.inr (Or.inl h_)) k_ hk_ h_) (fun h_ => h_.elim))))
     replace H := H_; clear H_; try dsimp only [setn, addE, goneL] at H
     refine nl_ <| th_n ⟨HS5561, ?_⟩
     refine wpAnyH_all (rs := [5, 7]) (by kernel_rfl) (by simp) ?_
     refine all2 ?_ ?_
     ·
      refine wpOp_of_list rfl ?_
      refine vq 1 [.agg #[.int .i64 aProps, .slice A1 aAccept.length c2, .slice A5 aGuard.length c6, .slice A9 aNodes.length c10]] [(88, .agg #[.int .i64 aProps, .slice A1 aAccept.length c2, .slice A5 aGuard.length c6, .slice A9 aNodes.length c10])] [cellsAt w5570 g2149 (0) [.int .i64 aProps, .slice A1 aAccept.length c2, .slice A5 aGuard.length c6, .slice A9 aNodes.length c10]] E ((H.box 7 rfl).sub 0 _ rfl) ?_
      clear E; intro a E
      refine nl_ <| th_n ⟨HS5561, ?_⟩
      refine wpAnyH_all (rs := [7]) (by kernel_rfl) (by simp) ?_
      refine all1 ?_
      refine wpOp_of_list rfl ?_
      obtain ⟨Fa5577, Hc5578, hb5579⟩ := H.call [7] [(8, false), (9, false), (10, false), (11, false)] rfl rfl trivial
      refine e_call E rfl rfl Try.func41 rfl rfl rfl (ref21_Watch_State_calls g2149 A1 c2 A5 c6 A9 c10 A2152 c2153 aProps aAccept aGuard aNodes x2172.2.2.1 hk5102 hk5103 hk5104 hk5105 Hc5578 h5228) ?_
      intro v5585 w5584 a hR5586 E_
      obtain ⟨x_, hr_, rfl, HR5588⟩ := hR5586
      subst hr_
      replace E := E_ _ rfl; clear E_
      obtain ⟨H_, hc5587⟩ := hb5579 _ _ HR5588 rfl
      replace HS5561 := HS5561.trans hc5587 (fun k_ hk_ h_ => h_.elim (fun h_ => by have hs_ := HS5561.size; exfalso; omega) (fun h_ => h_.elim (fun h_ => (fun _ _ h_ => Or.inr (Or.inr (Or.inl h_))) k_ hk_ h_) (fun h_ => h_.elim)))
      replace H := H_; clear H_; try dsimp only [setn, addE, goneL] at H
      refine nl_ <| th_n ⟨HS5561, ?_⟩
      refine wpAnyH_all (rs := [8]) (by kernel_rfl) (by simp) ?_
      refine all1 ?_
      refine wpOp_of_list rfl ?_
      obtain ⟨Fa5590, Hc5591, hb5592⟩ := H.call [] [(8, false), (9, false), (10, false)] rfl rfl trivial
      refine e_call E rfl rfl Try.func40 rfl rfl rfl (ref21_Verdict_calls A1 c2 A5 c6 A9 c10 aProps aAccept aGuard aNodes r5227 hk5102 hk5103 hk5104 Hc5591 h5243) ?_
      rintro v5593 w5594 a ⟨rfl, HR5595⟩ E_
      replace E := E_ _ rfl; clear E_
      obtain ⟨H_, hc5596⟩ := hb5592 _ _ HR5595 rfl
      replace HS5561 := HS5561.ext (callS_ext hc5596)
      replace H := H_; clear H_; try dsimp only [setn, addE, goneL] at H
      refine nl_ <| th_n ⟨HS5561, ?_⟩
      refine dn tbok (by kernel_rfl) [9, 10] [] [(93, .bool ((r5211 : Int) == r5242))] (fun w_ => []) 17 E (fun _ _ => by kernel_rfl) (by kernel_rfl) (fun w_ hS_ => trivial) (by kernel_rfl) HS5561 ?_
      clear E; intro a E
      replace E := E.same (t := 93) (u := .bool true) rfl (congrArg Value.bool (beq_iff_eq.2 h5251))
      refine dn tbok (by kernel_rfl) [11, 13] [] [(94, .pointer (some ⟨g2137, 0, none⟩)), (96, .pointer (some ⟨g2149, 0, none⟩))] (fun w_ => []) 15 E (fun _ _ => by kernel_rfl) (by kernel_rfl) (fun w_ hS_ => trivial) (by kernel_rfl) HS5561 ?_
      clear E; intro a E
      refine wpAnyH_all (rs := [12]) (by kernel_rfl) (by simp) ?_
      refine all1 ?_
      refine wpOp_of_list rfl ?_
      obtain ⟨Fa5597, Hc5598, hb5599⟩ := H.call [16, 15] [(2, false)] rfl rfl ⟨flat_plain, trivial⟩
      refine e_call E rfl rfl Try.func13 rfl rfl rfl (watch_Watch_State_calls g2137 b92 0 A2140 c2141 x95.1 x2172.1  Hc5598 h5253) ?_
      intro v5605 w5604 a hR5606 E_
      obtain ⟨x_, hr_, rfl, HR5608⟩ := hR5606
      subst hr_
      replace E := E_ _ rfl; clear E_
      obtain ⟨H_, hc5607⟩ := hb5599 _ _ HR5608 rfl
      replace HS5561 := HS5561.trans hc5607 (fun k_ hk_ h_ => h_.elim (fun h_ => by have hs_ := HS5561.size; exfalso; omega) (fun h_ => h_.elim (fun h_ => (fun _ _ h_ => Or.inl h_) k_ hk_ h_) (fun h_ => h_.elim (fun h_ => (fun _ _ h_ => Or.inr (Or.inl h_)) k_ hk_ h_) (fun h_ => h_.elim))))
      replace H := H_; clear H_; try dsimp only [setn, addE, goneL] at H
      refine nl_ <| th_n ⟨HS5561, ?_⟩
      refine wpAnyH_all (rs := [14]) (by kernel_rfl) (by simp) ?_
      refine all1 ?_
      refine wpOp_of_list rfl ?_
      obtain ⟨Fa5611, Hc5612, hb5613⟩ := H.call [17] [(8, false), (9, false), (10, false), (11, false)] rfl rfl trivial
      refine e_call E rfl rfl Try.func41 rfl rfl rfl (ref21_Watch_State_calls g2149 A1 c2 A5 c6 A9 c10 A2152 c2153 aProps aAccept aGuard aNodes x2172.2.2.1 hk5102 hk5103 hk5104 hk5105 Hc5612 h5269) ?_
      intro v5619 w5618 a hR5620 E_
      obtain ⟨x_, hr_, rfl, HR5622⟩ := hR5620
      subst hr_
      replace E := E_ _ rfl; clear E_
      obtain ⟨H_, hc5621⟩ := hb5613 _ _ HR5622 rfl
      replace HS5561 := HS5561.trans hc5621 (fun k_ hk_ h_ => h_.elim (fun h_ => by have hs_ := HS5561.size; exfalso; omega) (fun h_ => h_.elim (fun h_ => (fun _ _ h_ => Or.inr (Or.inr (Or.inl h_))) k_ hk_ h_) (fun h_ => h_.elim)))
      replace H := H_; clear H_; try dsimp only [setn, addE, goneL] at H
      refine nl_ <| th_n ⟨HS5561, ?_⟩
      refine dn tbok (by kernel_rfl) [15, 16, 17] [] [(100, .bool ((r5252 : Int) == r5268))] (fun w_ => []) 10 E (fun _ _ => by kernel_rfl) (by kernel_rfl) (fun w_ hS_ => trivial) (by kernel_rfl) HS5561 ?_
      clear E; intro a E
      replace E := E.same (t := 100) (u := .bool false) rfl (congrArg Value.bool (beq_eq_false_iff_ne.2 h5283))
      refine dn tbok (by kernel_rfl) [18, 19, 20, 21, 22, 23, 24, 25, 26, 27] [] [(6, .bool false)] (fun w_ => []) 0 E (fun _ _ => by kernel_rfl) (by kernel_rfl) (fun w_ hS_ => trivial) (by kernel_rfl) HS5561 ?_
      clear E; intro a E
      refine dr_done (by kernel_rfl) ?_
      exact .inl ⟨rfl, E.pk, H.sel [2, 18, 19, 5, 4, 0, 8, 9, 10, 11, 20, 13, 12, 6] rfl⟩
     refine wpOp_of_list rfl ?_
     obtain ⟨Fa5624, Hc5625, hb5626⟩ := H.call [7] [(8, false), (9, false), (10, false), (11, false)] rfl rfl trivial
     refine e_call E rfl rfl Try.func41 rfl rfl rfl (ref21_Watch_State_calls g2149 A1 c2 A5 c6 A9 c10 A2152 c2153 aProps aAccept aGuard aNodes x2172.2.2.1 hk5102 hk5103 hk5104 hk5105 Hc5625 h5228) ?_
     intro v5632 w5631 a hR5633 E_
     obtain ⟨x_, hr_, rfl, HR5635⟩ := hR5633
     subst hr_
     replace E := E_ _ rfl; clear E_
     obtain ⟨H_, hc5634⟩ := hb5626 _ _ HR5635 rfl
     replace HS5561 := HS5561.trans hc5634 (fun k_ hk_ h_ => h_.elim (fun h_ => by have hs_ := HS5561.size; exfalso; omega) (fun h_ => h_.elim (fun h_ => (fun _ _ h_ => Or.inr (Or.inr (Or.inl h_))) k_ hk_ h_) (fun h_ => h_.elim)))
     replace H := H_; clear H_; try dsimp only [setn, addE, goneL] at H
     refine nl_ <| th_n ⟨HS5561, ?_⟩
     refine wpAnyH_all (rs := [5]) (by kernel_rfl) (by simp) ?_
     refine all1 ?_
     refine wpOp_of_list rfl ?_
     refine vq 1 [.agg #[.int .i64 aProps, .slice A1 aAccept.length c2, .slice A5 aGuard.length c6, .slice A9 aNodes.length c10]] [(88, .agg #[.int .i64 aProps, .slice A1 aAccept.length c2, .slice A5 aGuard.length c6, .slice A9 aNodes.length c10])] [cellsAt w5631 g2149 (0) [.int .i64 aProps, .slice A1 aAccept.length c2, .slice A5 aGuard.length c6, .slice A9 aNodes.length c10]] E ((H.box 17 rfl).sub 0 _ rfl) ?_
     clear E; intro a E
     refine nl_ <| th_n ⟨HS5561, ?_⟩
     refine wpAnyH_all (rs := [8]) (by kernel_rfl) (by simp) ?_
     refine all1 ?_
     refine wpOp_of_list rfl ?_
     obtain ⟨Fa5637, Hc5638, hb5639⟩ := H.call [] [(8, false), (9, false), (10, false)] rfl rfl trivial
     refine e_call E rfl rfl Try.func40 rfl rfl rfl (ref21_Verdict_calls A1 c2 A5 c6 A9 c10 aProps aAccept aGuard aNodes r5227 hk5102 hk5103 hk5104 Hc5638 h5243) ?_
     rintro v5640 w5641 a ⟨rfl, HR5642⟩ E_
     replace E := E_ _ rfl; clear E_
     obtain ⟨H_, hc5643⟩ := hb5639 _ _ HR5642 rfl
     replace HS5561 := HS5561.ext (callS_ext hc5643)
     replace H := H_; clear H_; try dsimp only [setn, addE, goneL] at H
     refine nl_ <| th_n ⟨HS5561, ?_⟩
     refine dn tbok (by kernel_rfl) [9, 10] [] [(93, .bool ((r5211 : Int) == r5242))] (fun w_ => []) 17 E (fun _ _ => by kernel_rfl) (by kernel_rfl) (fun w_ hS_ => trivial) (by kernel_rfl) HS5561 ?_
     clear E; intro a E
     replace E := E.same (t := 93) (u := .bool true) rfl (congrArg Value.bool (beq_iff_eq.2 h5251))
     refine dn tbok (by kernel_rfl) [11, 13] [] [(94, .pointer (some ⟨g2137, 0, none⟩)), (96, .pointer (some ⟨g2149, 0, none⟩))] (fun w_ => []) 15 E (fun _ _ => by kernel_rfl) (by kernel_rfl) (fun w_ hS_ => trivial) (by kernel_rfl) HS5561 ?_
     clear E; intro a E
     refine wpAnyH_all (rs := [12]) (by kernel_rfl) (by simp) ?_
     refine all1 ?_
     refine wpOp_of_list rfl ?_
     obtain ⟨Fa5644, Hc5645, hb5646⟩ := H.call [16, 15] [(2, false)] rfl rfl ⟨flat_plain, trivial⟩
     refine e_call E rfl rfl Try.func13 rfl rfl rfl (watch_Watch_State_calls g2137 b92 0 A2140 c2141 x95.1 x2172.1  Hc5645 h5253) ?_
     intro v5652 w5651 a hR5653 E_
     obtain ⟨x_, hr_, rfl, HR5655⟩ := hR5653
     subst hr_
     replace E := E_ _ rfl; clear E_
     obtain ⟨H_, hc5654⟩ := hb5646 _ _ HR5655 rfl
     replace HS5561 := HS5561.trans hc5654 (fun k_ hk_ h_ => h_.elim (fun h_ => by have hs_ := HS5561.size; exfalso; omega) (fun h_ => h_.elim (fun h_ => (fun _ _ h_ => Or.inl h_) k_ hk_ h_) (fun h_ => h_.elim (fun h_ => (fun _ _ h_ => Or.inr (Or.inl h_)) k_ hk_ h_) (fun h_ => h_.elim))))
     replace H := H_; clear H_; try dsimp only [setn, addE, goneL] at H
     refine nl_ <| th_n ⟨HS5561, ?_⟩
     refine wpAnyH_all (rs := [14]) (by kernel_rfl) (by simp) ?_
     refine all1 ?_
     refine wpOp_of_list rfl ?_
     obtain ⟨Fa5658, Hc5659, hb5660⟩ := H.call [17] [(8, false), (9, false), (10, false), (11, false)] rfl rfl trivial
     refine e_call E rfl rfl Try.func41 rfl rfl rfl (ref21_Watch_State_calls g2149 A1 c2 A5 c6 A9 c10 A2152 c2153 aProps aAccept aGuard aNodes x2172.2.2.1 hk5102 hk5103 hk5104 hk5105 Hc5659 h5269) ?_
     intro v5666 w5665 a hR5667 E_
     obtain ⟨x_, hr_, rfl, HR5669⟩ := hR5667
     subst hr_
     replace E := E_ _ rfl; clear E_
     obtain ⟨H_, hc5668⟩ := hb5660 _ _ HR5669 rfl
     replace HS5561 := HS5561.trans hc5668 (fun k_ hk_ h_ => h_.elim (fun h_ => by have hs_ := HS5561.size; exfalso; omega) (fun h_ => h_.elim (fun h_ => (fun _ _ h_ => Or.inr (Or.inr (Or.inl h_))) k_ hk_ h_) (fun h_ => h_.elim)))
     replace H := H_; clear H_; try dsimp only [setn, addE, goneL] at H
     refine nl_ <| th_n ⟨HS5561, ?_⟩
     refine dn tbok (by kernel_rfl) [15, 16, 17] [] [(100, .bool ((r5252 : Int) == r5268))] (fun w_ => []) 10 E (fun _ _ => by kernel_rfl) (by kernel_rfl) (fun w_ hS_ => trivial) (by kernel_rfl) HS5561 ?_
     clear E; intro a E
     replace E := E.same (t := 100) (u := .bool false) rfl (congrArg Value.bool (beq_eq_false_iff_ne.2 h5283))
     refine dn tbok (by kernel_rfl) [18, 19, 20, 21, 22, 23, 24, 25, 26, 27] [] [(6, .bool false)] (fun w_ => []) 0 E (fun _ _ => by kernel_rfl) (by kernel_rfl) (fun w_ hS_ => trivial) (by kernel_rfl) HS5561 ?_
     clear E; intro a E
     refine dr_done (by kernel_rfl) ?_
     exact .inl ⟨rfl, E.pk, H.sel [2, 18, 19, 5, 4, 0, 8, 9, 10, 11, 20, 13, 12, 6] rfl⟩
    refine wpOp_of_list rfl ?_
    refine vq 1 [.agg #[.int .i64 aProps, .slice A1 aAccept.length c2, .slice A5 aGuard.length c6, .slice A9 aNodes.length c10]] [(88, .agg #[.int .i64 aProps, .slice A1 aAccept.length c2, .slice A5 aGuard.length c6, .slice A9 aNodes.length c10])] [cellsAt w5559 g2149 (0) [.int .i64 aProps, .slice A1 aAccept.length c2, .slice A5 aGuard.length c6, .slice A9 aNodes.length c10]] E ((H.box 7 rfl).sub 0 _ rfl) ?_
    clear E; intro a E
    refine nl_ <| th_n ⟨HS5561, ?_⟩
    refine wpAnyH_all (rs := [1]) (by kernel_rfl) (by simp) ?_
    refine all1 ?_
    refine wpOp_of_list rfl ?_
    obtain ⟨Fa5671, Hc5672, hb5673⟩ := H.call [1, 3] [(2, false)] rfl rfl ⟨flat_plain, trivial⟩
    refine e_call E rfl rfl Try.func12 rfl rfl rfl (watch_Watch_Verdict_calls g2137 b92 0 A2140 c2141 x95.1 x2172.1  Hc5672 h5212) ?_
    intro v5679 w5678 a hR5680 E_
    obtain ⟨x_, hr_, rfl, HR5682⟩ := hR5680
    subst hr_
    replace E := E_ _ rfl; clear E_
    obtain ⟨H_, hc5681⟩ := hb5673 _ _ HR5682 rfl
    replace HS5561 := HS5561.trans hc5681 (fun k_ hk_ h_ => h_.elim (fun h_ => by have hs_ := HS5561.size; exfalso; omega) (fun h_ => h_.elim (fun h_ => (fun _ _ h_ => Or.inl h_) k_ hk_ h_) (fun h_ => h_.elim (fun h_ => (fun _ _ h_ => Or.inr (Or.inl h_)) k_ hk_ h_) (fun h_ => h_.elim))))
    replace H := H_; clear H_; try dsimp only [setn, addE, goneL] at H
    refine nl_ <| th_n ⟨HS5561, ?_⟩
    refine wpAnyH_all (rs := [7]) (by kernel_rfl) (by simp) ?_
    refine all1 ?_
    refine wpOp_of_list rfl ?_
    obtain ⟨Fa5685, Hc5686, hb5687⟩ := H.call [7] [(8, false), (9, false), (10, false), (11, false)] rfl rfl trivial
    refine e_call E rfl rfl Try.func41 rfl rfl rfl (ref21_Watch_State_calls g2149 A1 c2 A5 c6 A9 c10 A2152 c2153 aProps aAccept aGuard aNodes x2172.2.2.1 hk5102 hk5103 hk5104 hk5105 Hc5686 h5228) ?_
    intro v5693 w5692 a hR5694 E_
    obtain ⟨x_, hr_, rfl, HR5696⟩ := hR5694
    subst hr_
    replace E := E_ _ rfl; clear E_
    obtain ⟨H_, hc5695⟩ := hb5687 _ _ HR5696 rfl
    replace HS5561 := HS5561.trans hc5695 (fun k_ hk_ h_ => h_.elim (fun h_ => by have hs_ := HS5561.size; exfalso; omega) (fun h_ => h_.elim (fun h_ => (fun _ _ h_ => Or.inr (Or.inr (Or.inl h_))) k_ hk_ h_) (fun h_ => h_.elim)))
    replace H := H_; clear H_; try dsimp only [setn, addE, goneL] at H
    refine nl_ <| th_n ⟨HS5561, ?_⟩
    refine wpAnyH_all (rs := [8]) (by kernel_rfl) (by simp) ?_
    refine all1 ?_
    refine wpOp_of_list rfl ?_
    obtain ⟨Fa5698, Hc5699, hb5700⟩ := H.call [] [(8, false), (9, false), (10, false)] rfl rfl trivial
    refine e_call E rfl rfl Try.func40 rfl rfl rfl (ref21_Verdict_calls A1 c2 A5 c6 A9 c10 aProps aAccept aGuard aNodes r5227 hk5102 hk5103 hk5104 Hc5699 h5243) ?_
    rintro v5701 w5702 a ⟨rfl, HR5703⟩ E_
    replace E := E_ _ rfl; clear E_
    obtain ⟨H_, hc5704⟩ := hb5700 _ _ HR5703 rfl
    replace HS5561 := HS5561.ext (callS_ext hc5704)
    replace H := H_; clear H_; try dsimp only [setn, addE, goneL] at H
    refine nl_ <| th_n ⟨HS5561, ?_⟩
    refine dn tbok (by kernel_rfl) [9, 10] [] [(93, .bool ((r5211 : Int) == r5242))] (fun w_ => []) 17 E (fun _ _ => by kernel_rfl) (by kernel_rfl) (fun w_ hS_ => trivial) (by kernel_rfl) HS5561 ?_
    clear E; intro a E
    replace E := E.same (t := 93) (u := .bool true) rfl (congrArg Value.bool (beq_iff_eq.2 h5251))
    refine dn tbok (by kernel_rfl) [11, 13] [] [(94, .pointer (some ⟨g2137, 0, none⟩)), (96, .pointer (some ⟨g2149, 0, none⟩))] (fun w_ => []) 15 E (fun _ _ => by kernel_rfl) (by kernel_rfl) (fun w_ hS_ => trivial) (by kernel_rfl) HS5561 ?_
    clear E; intro a E
    refine wpAnyH_all (rs := [12]) (by kernel_rfl) (by simp) ?_
    refine all1 ?_
    refine wpOp_of_list rfl ?_
    obtain ⟨Fa5705, Hc5706, hb5707⟩ := H.call [16, 15] [(2, false)] rfl rfl ⟨flat_plain, trivial⟩
    refine e_call E rfl rfl Try.func13 rfl rfl rfl (watch_Watch_State_calls g2137 b92 0 A2140 c2141 x95.1 x2172.1  Hc5706 h5253) ?_
    intro v5713 w5712 a hR5714 E_
    obtain ⟨x_, hr_, rfl, HR5716⟩ := hR5714
    subst hr_
    replace E := E_ _ rfl; clear E_
    obtain ⟨H_, hc5715⟩ := hb5707 _ _ HR5716 rfl
    replace HS5561 := HS5561.trans hc5715 (fun k_ hk_ h_ => h_.elim (fun h_ => by have hs_ := HS5561.size; exfalso; omega) (fun h_ => h_.elim (fun h_ => (fun _ _ h_ => Or.inl h_) k_ hk_ h_) (fun h_ => h_.elim (fun h_ => (fun _ _ h_ => Or.inr (Or.inl h_)) k_ hk_ h_) (fun h_ => h_.elim))))
    replace H := H_; clear H_; try dsimp only [setn, addE, goneL] at H
    refine nl_ <| th_n ⟨HS5561, ?_⟩
    refine wpAnyH_all (rs := [14]) (by kernel_rfl) (by simp) ?_
    refine all1 ?_
    refine wpOp_of_list rfl ?_
    obtain ⟨Fa5719, Hc5720, hb5721⟩ := H.call [17] [(8, false), (9, false), (10, false), (11, false)] rfl rfl trivial
    refine e_call E rfl rfl Try.func41 rfl rfl rfl (ref21_Watch_State_calls g2149 A1 c2 A5 c6 A9 c10 A2152 c2153 aProps aAccept aGuard aNodes x2172.2.2.1 hk5102 hk5103 hk5104 hk5105 Hc5720 h5269) ?_
    intro v5727 w5726 a hR5728 E_
    obtain ⟨x_, hr_, rfl, HR5730⟩ := hR5728
    subst hr_
    replace E := E_ _ rfl; clear E_
    obtain ⟨H_, hc5729⟩ := hb5721 _ _ HR5730 rfl
    replace HS5561 := HS5561.trans hc5729 (fun k_ hk_ h_ => h_.elim (fun h_ => by have hs_ := HS5561.size; exfalso; omega) (fun h_ => h_.elim (fun h_ => (fun _ _ h_ => Or.inr (Or.inr (Or.inl h_))) k_ hk_ h_) (fun h_ => h_.elim)))
    replace H := H_; clear H_; try dsimp only [setn, addE, goneL] at H
    refine nl_ <| th_n ⟨HS5561, ?_⟩
    refine dn tbok (by kernel_rfl) [15, 16, 17] [] [(100, .bool ((r5252 : Int) == r5268))] (fun w_ => []) 10 E (fun _ _ => by kernel_rfl) (by kernel_rfl) (fun w_ hS_ => trivial) (by kernel_rfl) HS5561 ?_
    clear E; intro a E
    replace E := E.same (t := 100) (u := .bool false) rfl (congrArg Value.bool (beq_eq_false_iff_ne.2 h5283))
    refine dn tbok (by kernel_rfl) [18, 19, 20, 21, 22, 23, 24, 25, 26, 27] [] [(6, .bool false)] (fun w_ => []) 0 E (fun _ _ => by kernel_rfl) (by kernel_rfl) (fun w_ hS_ => trivial) (by kernel_rfl) HS5561 ?_
    clear E; intro a E
    refine dr_done (by kernel_rfl) ?_
    exact .inl ⟨rfl, E.pk, H.sel [2, 18, 19, 5, 4, 0, 8, 9, 10, 11, 20, 13, 12, 6] rfl⟩
   clear E H; rintro a w5558 ⟨E, H⟩
   have hx_ := Option.some.inj hP
   exact .inl ⟨rfl, false, E.pk, H.sel (up 14) rfl, hx_.symm⟩
  replace hP := ite_f h5251 hP
  refine meet_cut (fun a w5732 => Fr a 165 [(6, .bool false)] ∧ Hp S Fa w0 w5732 [.ro true cS78 (some ⟨b92, 0, none⟩) ([x95.1]), .row true (cInt .i64) 3 A2140 c2141 x2172.1, .box g2137 27 [.pointer (some ⟨b92, 0, none⟩), .slice A2140 x2172.1.length c2141], .row true (cInt .i64) 3 A2146 c2147 x2172.2.1, .box g2143 27 [.pointer (some ⟨b92, 0, none⟩), .slice A2146 x2172.2.1.length c2147], .box g773 23 [.pointer (some ⟨g2137, 0, none⟩), .pointer (some ⟨g2143, 0, none⟩)], .ro false cBool A1 aAccept, .ro false (cInt .i64) A5 aGuard, .ro false cNode A9 aNodes, .ro false (cInt .u8) A2152 x2172.2.2.1, .box g2149 67 [.int .i64 aProps, .slice A1 aAccept.length c2, .slice A5 aGuard.length c6, .slice A9 aNodes.length c10, .slice A2152 x2172.2.2.1.length c2153], .ro false (cInt .u8) A2159 x2172.2.2.2, .box g2156 67 [.int .i64 aProps, .slice A1 aAccept.length c2, .slice A5 aGuard.length c6, .slice A9 aNodes.length c10, .slice A2159 x2172.2.2.2.length c2160], .box g783 62 [.pointer (some ⟨g2149, 0, none⟩), .pointer (some ⟨g2156, 0, none⟩)]]) ?_ ?_
  ·
   have HR5736 := H
   refine dr_start (S := fun w_ => Chg (atL [.box g2137 27 [.pointer (some ⟨b92, 0, none⟩), .slice A2140 x2172.1.length c2141], .row true (cInt .i64) 3 A2140 c2141 x2172.1, .box g2149 67 [.int .i64 aProps, .slice A1 aAccept.length c2, .slice A5 aGuard.length c6, .slice A9 aNodes.length c10, .slice A2152 x2172.2.2.1.length c2153]]) w5112 w_) (by kernel_rfl) ?_
   intro w5733 hc5734
   have HS5735 : Chg (atL [.box g2137 27 [.pointer (some ⟨b92, 0, none⟩), .slice A2140 x2172.1.length c2141], .row true (cInt .i64) 3 A2140 c2141 x2172.1, .box g2149 67 [.int .i64 aProps, .slice A1 aAccept.length c2, .slice A5 aGuard.length c6, .slice A9 aNodes.length c10, .slice A2152 x2172.2.2.1.length c2153]]) w5112 w5733 := hc5734.mono (fun _ _ h_ => h_.elim)
   replace H := H.ext hc5734
   refine dn tbok (by kernel_rfl) [0, 2, 3, 4, 6] [] [(83, .pointer (some ⟨g2137, 0, none⟩)), (87, .pointer (some ⟨g2149, 0, none⟩)), (89, .pointer (some ⟨g2149, 0, none⟩))] (fun w_ => []) 23 E (fun _ _ => by kernel_rfl) (by kernel_rfl) (fun w_ hS_ => trivial) (by kernel_rfl) HS5735 ?_
   clear E; intro a E
   refine wpAnyH_all (rs := [1, 5]) (by kernel_rfl) (by simp) ?_
   refine all2 ?_ ?_
   ·
    refine wpOp_of_list rfl ?_
    obtain ⟨Fa5737, Hc5738, hb5739⟩ := H.call [1, 3] [(2, false)] rfl rfl ⟨flat_plain, trivial⟩
    refine e_call E rfl rfl Try.func12 rfl rfl rfl (watch_Watch_Verdict_calls g2137 b92 0 A2140 c2141 x95.1 x2172.1  Hc5738 h5212) ?_
    intro v5745 w5744 a hR5746 E_
    obtain ⟨x_, hr_, rfl, HR5748⟩ := hR5746
    subst hr_
    replace E := E_ _ rfl; clear E_
    obtain ⟨H_, hc5747⟩ := hb5739 _ _ HR5748 rfl
    replace HS5735 := HS5735.trans hc5747 (fun k_ hk_ h_ => h_.elim (fun h_ => by have hs_ := HS5735.size; exfalso; omega) (fun h_ => h_.elim (fun h_ => (fun _ _ h_ => Or.inl h_) k_ hk_ h_) (fun h_ => h_.elim (fun h_ => (fun _ _ h_ => Or.inr (Or.inl h_)) k_ hk_ h_) (fun h_ => h_.elim))))
    replace H := H_; clear H_; try dsimp only [setn, addE, goneL] at H
    refine nl_ <| th_n ⟨HS5735, ?_⟩
    refine wpAnyH_all (rs := [5, 7]) (by kernel_rfl) (by simp) ?_
    refine all2 ?_ ?_
    ·
     refine wpOp_of_list rfl ?_
     refine vq 1 [.agg #[.int .i64 aProps, .slice A1 aAccept.length c2, .slice A5 aGuard.length c6, .slice A9 aNodes.length c10]] [(88, .agg #[.int .i64 aProps, .slice A1 aAccept.length c2, .slice A5 aGuard.length c6, .slice A9 aNodes.length c10])] [cellsAt w5744 g2149 (0) [.int .i64 aProps, .slice A1 aAccept.length c2, .slice A5 aGuard.length c6, .slice A9 aNodes.length c10]] E ((H.box 7 rfl).sub 0 _ rfl) ?_
     clear E; intro a E
     refine nl_ <| th_n ⟨HS5735, ?_⟩
     refine wpAnyH_all (rs := [7]) (by kernel_rfl) (by simp) ?_
     refine all1 ?_
     refine wpOp_of_list rfl ?_
     obtain ⟨Fa5751, Hc5752, hb5753⟩ := H.call [7] [(8, false), (9, false), (10, false), (11, false)] rfl rfl trivial
     refine e_call E rfl rfl Try.func41 rfl rfl rfl (ref21_Watch_State_calls g2149 A1 c2 A5 c6 A9 c10 A2152 c2153 aProps aAccept aGuard aNodes x2172.2.2.1 hk5102 hk5103 hk5104 hk5105 Hc5752 h5228) ?_
     intro v5759 w5758 a hR5760 E_
     obtain ⟨x_, hr_, rfl, HR5762⟩ := hR5760
     subst hr_
     replace E := E_ _ rfl; clear E_
     obtain ⟨H_, hc5761⟩ := hb5753 _ _ HR5762 rfl
     replace HS5735 := HS5735.trans hc5761 (fun k_ hk_ h_ => h_.elim (fun h_ => by have hs_ := HS5735.size; exfalso; omega) (fun h_ => h_.elim (fun h_ => (fun _ _ h_ => Or.inr (Or.inr (Or.inl h_))) k_ hk_ h_) (fun h_ => h_.elim)))
     replace H := H_; clear H_; try dsimp only [setn, addE, goneL] at H
     refine nl_ <| th_n ⟨HS5735, ?_⟩
     refine wpAnyH_all (rs := [8]) (by kernel_rfl) (by simp) ?_
     refine all1 ?_
     refine wpOp_of_list rfl ?_
     obtain ⟨Fa5764, Hc5765, hb5766⟩ := H.call [] [(8, false), (9, false), (10, false)] rfl rfl trivial
     refine e_call E rfl rfl Try.func40 rfl rfl rfl (ref21_Verdict_calls A1 c2 A5 c6 A9 c10 aProps aAccept aGuard aNodes r5227 hk5102 hk5103 hk5104 Hc5765 h5243) ?_
     rintro v5767 w5768 a ⟨rfl, HR5769⟩ E_
     replace E := E_ _ rfl; clear E_
     obtain ⟨H_, hc5770⟩ := hb5766 _ _ HR5769 rfl
     replace HS5735 := HS5735.ext (callS_ext hc5770)
     replace H := H_; clear H_; try dsimp only [setn, addE, goneL] at H
     refine nl_ <| th_n ⟨HS5735, ?_⟩
     refine dn tbok (by kernel_rfl) [9, 10] [] [(93, .bool ((r5211 : Int) == r5242))] (fun w_ => []) 17 E (fun _ _ => by kernel_rfl) (by kernel_rfl) (fun w_ hS_ => trivial) (by kernel_rfl) HS5735 ?_
     clear E; intro a E
     replace E := E.same (t := 93) (u := .bool false) rfl (congrArg Value.bool (beq_eq_false_iff_ne.2 h5251))
     refine dn tbok (by kernel_rfl) [11, 12, 13, 14, 15, 16, 17, 18, 19, 20, 21, 22, 23, 24, 25, 26, 27] [] [(6, .bool false)] (fun w_ => []) 0 E (fun _ _ => by kernel_rfl) (by kernel_rfl) (fun w_ hS_ => trivial) (by kernel_rfl) HS5735 ?_
     clear E; intro a E
     refine dr_done (by kernel_rfl) ?_
     exact .inl ⟨rfl, E.pk, H.sel [2, 15, 16, 5, 4, 0, 8, 9, 10, 11, 17, 13, 12, 6] rfl⟩
    refine wpOp_of_list rfl ?_
    obtain ⟨Fa5771, Hc5772, hb5773⟩ := H.call [7] [(8, false), (9, false), (10, false), (11, false)] rfl rfl trivial
    refine e_call E rfl rfl Try.func41 rfl rfl rfl (ref21_Watch_State_calls g2149 A1 c2 A5 c6 A9 c10 A2152 c2153 aProps aAccept aGuard aNodes x2172.2.2.1 hk5102 hk5103 hk5104 hk5105 Hc5772 h5228) ?_
    intro v5779 w5778 a hR5780 E_
    obtain ⟨x_, hr_, rfl, HR5782⟩ := hR5780
    subst hr_
    replace E := E_ _ rfl; clear E_
    obtain ⟨H_, hc5781⟩ := hb5773 _ _ HR5782 rfl
    replace HS5735 := HS5735.trans hc5781 (fun k_ hk_ h_ => h_.elim (fun h_ => by have hs_ := HS5735.size; exfalso; omega) (fun h_ => h_.elim (fun h_ => (fun _ _ h_ => Or.inr (Or.inr (Or.inl h_))) k_ hk_ h_) (fun h_ => h_.elim)))
    replace H := H_; clear H_; try dsimp only [setn, addE, goneL] at H
    refine nl_ <| th_n ⟨HS5735, ?_⟩
    refine wpAnyH_all (rs := [5]) (by kernel_rfl) (by simp) ?_
    refine all1 ?_
    refine wpOp_of_list rfl ?_
    refine vq 1 [.agg #[.int .i64 aProps, .slice A1 aAccept.length c2, .slice A5 aGuard.length c6, .slice A9 aNodes.length c10]] [(88, .agg #[.int .i64 aProps, .slice A1 aAccept.length c2, .slice A5 aGuard.length c6, .slice A9 aNodes.length c10])] [cellsAt w5778 g2149 (0) [.int .i64 aProps, .slice A1 aAccept.length c2, .slice A5 aGuard.length c6, .slice A9 aNodes.length c10]] E ((H.box 17 rfl).sub 0 _ rfl) ?_
    clear E; intro a E
    refine nl_ <| th_n ⟨HS5735, ?_⟩
    refine wpAnyH_all (rs := [8]) (by kernel_rfl) (by simp) ?_
    refine all1 ?_
    refine wpOp_of_list rfl ?_
    obtain ⟨Fa5784, Hc5785, hb5786⟩ := H.call [] [(8, false), (9, false), (10, false)] rfl rfl trivial
    refine e_call E rfl rfl Try.func40 rfl rfl rfl (ref21_Verdict_calls A1 c2 A5 c6 A9 c10 aProps aAccept aGuard aNodes r5227 hk5102 hk5103 hk5104 Hc5785 h5243) ?_
    rintro v5787 w5788 a ⟨rfl, HR5789⟩ E_
    replace E := E_ _ rfl; clear E_
    obtain ⟨H_, hc5790⟩ := hb5786 _ _ HR5789 rfl
    replace HS5735 := HS5735.ext (callS_ext hc5790)
    replace H := H_; clear H_; try dsimp only [setn, addE, goneL] at H
    refine nl_ <| th_n ⟨HS5735, ?_⟩
    refine dn tbok (by kernel_rfl) [9, 10] [] [(93, .bool ((r5211 : Int) == r5242))] (fun w_ => []) 17 E (fun _ _ => by kernel_rfl) (by kernel_rfl) (fun w_ hS_ => trivial) (by kernel_rfl) HS5735 ?_
    clear E; intro a E
    replace E := E.same (t := 93) (u := .bool false) rfl (congrArg Value.bool (beq_eq_false_iff_ne.2 h5251))
    refine dn tbok (by kernel_rfl) [11, 12, 13, 14, 15, 16, 17, 18, 19, 20, 21, 22, 23, 24, 25, 26, 27] [] [(6, .bool false)] (fun w_ => []) 0 E (fun _ _ => by kernel_rfl) (by kernel_rfl) (fun w_ hS_ => trivial) (by kernel_rfl) HS5735 ?_
    clear E; intro a E
    refine dr_done (by kernel_rfl) ?_
    exact .inl ⟨rfl, E.pk, H.sel [2, 15, 16, 5, 4, 0, 8, 9, 10, 11, 17, 13, 12, 6] rfl⟩
   refine wpOp_of_list rfl ?_
   refine vq 1 [.agg #[.int .i64 aProps, .slice A1 aAccept.length c2, .slice A5 aGuard.length c6, .slice A9 aNodes.length c10]] [(88, .agg #[.int .i64 aProps, .slice A1 aAccept.length c2, .slice A5 aGuard.length c6, .slice A9 aNodes.length c10])] [cellsAt w5733 g2149 (0) [.int .i64 aProps, .slice A1 aAccept.length c2, .slice A5 aGuard.length c6, .slice A9 aNodes.length c10]] E ((H.box 7 rfl).sub 0 _ rfl) ?_
   clear E; intro a E
   refine nl_ <| th_n ⟨HS5735, ?_⟩
   refine wpAnyH_all (rs := [1]) (by kernel_rfl) (by simp) ?_
   refine all1 ?_
   refine wpOp_of_list rfl ?_
   obtain ⟨Fa5791, Hc5792, hb5793⟩ := H.call [1, 3] [(2, false)] rfl rfl ⟨flat_plain, trivial⟩
   refine e_call E rfl rfl Try.func12 rfl rfl rfl (watch_Watch_Verdict_calls g2137 b92 0 A2140 c2141 x95.1 x2172.1  Hc5792 h5212) ?_
   intro v5799 w5798 a hR5800 E_
   obtain ⟨x_, hr_, rfl, HR5802⟩ := hR5800
   subst hr_
   replace E := E_ _ rfl; clear E_
   obtain ⟨H_, hc5801⟩ := hb5793 _ _ HR5802 rfl
   replace HS5735 := HS5735.trans hc5801 (fun k_ hk_ h_ => h_.elim (fun h_ => by have hs_ := HS5735.size; exfalso; omega) (fun h_ => h_.elim (fun h_ => (fun _ _ h_ => Or.inl h_) k_ hk_ h_) (fun h_ => h_.elim (fun h_ => (fun _ _ h_ => Or.inr (Or.inl h_)) k_ hk_ h_) (fun h_ => h_.elim))))
   replace H := H_; clear H_; try dsimp only [setn, addE, goneL] at H
   refine nl_ <| th_n ⟨HS5735, ?_⟩
   refine wpAnyH_all (rs := [7]) (by kernel_rfl) (by simp) ?_
   refine all1 ?_
   refine wpOp_of_list rfl ?_
   obtain ⟨Fa5805, Hc5806, hb5807⟩ := H.call [7] [(8, false), (9, false), (10, false), (11, false)] rfl rfl trivial
   refine e_call E rfl rfl Try.func41 rfl rfl rfl (ref21_Watch_State_calls g2149 A1 c2 A5 c6 A9 c10 A2152 c2153 aProps aAccept aGuard aNodes x2172.2.2.1 hk5102 hk5103 hk5104 hk5105 Hc5806 h5228) ?_
   intro v5813 w5812 a hR5814 E_
   obtain ⟨x_, hr_, rfl, HR5816⟩ := hR5814
   subst hr_
   replace E := E_ _ rfl; clear E_
   obtain ⟨H_, hc5815⟩ := hb5807 _ _ HR5816 rfl
   replace HS5735 := HS5735.trans hc5815 (fun k_ hk_ h_ => h_.elim (fun h_ => by have hs_ := HS5735.size; exfalso; omega) (fun h_ => h_.elim (fun h_ => (fun _ _ h_ => Or.inr (Or.inr (Or.inl h_))) k_ hk_ h_) (fun h_ => h_.elim)))
   replace H := H_; clear H_; try dsimp only [setn, addE, goneL] at H
   refine nl_ <| th_n ⟨HS5735, ?_⟩
   refine wpAnyH_all (rs := [8]) (by kernel_rfl) (by simp) ?_
   refine all1 ?_
   refine wpOp_of_list rfl ?_
   obtain ⟨Fa5818, Hc5819, hb5820⟩ := H.call [] [(8, false), (9, false), (10, false)] rfl rfl trivial
   refine e_call E rfl rfl Try.func40 rfl rfl rfl (ref21_Verdict_calls A1 c2 A5 c6 A9 c10 aProps aAccept aGuard aNodes r5227 hk5102 hk5103 hk5104 Hc5819 h5243) ?_
   rintro v5821 w5822 a ⟨rfl, HR5823⟩ E_
   replace E := E_ _ rfl; clear E_
   obtain ⟨H_, hc5824⟩ := hb5820 _ _ HR5823 rfl
   replace HS5735 := HS5735.ext (callS_ext hc5824)
   replace H := H_; clear H_; try dsimp only [setn, addE, goneL] at H
   refine nl_ <| th_n ⟨HS5735, ?_⟩
   refine dn tbok (by kernel_rfl) [9, 10] [] [(93, .bool ((r5211 : Int) == r5242))] (fun w_ => []) 17 E (fun _ _ => by kernel_rfl) (by kernel_rfl) (fun w_ hS_ => trivial) (by kernel_rfl) HS5735 ?_
   clear E; intro a E
   replace E := E.same (t := 93) (u := .bool false) rfl (congrArg Value.bool (beq_eq_false_iff_ne.2 h5251))
   refine dn tbok (by kernel_rfl) [11, 12, 13, 14, 15, 16, 17, 18, 19, 20, 21, 22, 23, 24, 25, 26, 27] [] [(6, .bool false)] (fun w_ => []) 0 E (fun _ _ => by kernel_rfl) (by kernel_rfl) (fun w_ hS_ => trivial) (by kernel_rfl) HS5735 ?_
   clear E; intro a E
   refine dr_done (by kernel_rfl) ?_
   exact .inl ⟨rfl, E.pk, H.sel [2, 15, 16, 5, 4, 0, 8, 9, 10, 11, 17, 13, 12, 6] rfl⟩
  clear E H; rintro a w5732 ⟨E, H⟩
  have hx_ := Option.some.inj hP
  exact .inl ⟨rfl, false, E.pk, H.sel (up 14) rfl, hx_.symm⟩
 clear E H h5207; rintro a w5210 ⟨x5209, E, H, hx_⟩
 subst hx_; have hP := hK5208; clear hK5208
 refine th_n <| wp_ret <| bl_ret <| th_ret ?_
 have hx_ := Option.some.inj hP
 refine ret1 E rfl rfl ?_
 exact ⟨_, rfl, x5206, rfl, H.sel (up 14) rfl, hx_.symm⟩

end Go.V
