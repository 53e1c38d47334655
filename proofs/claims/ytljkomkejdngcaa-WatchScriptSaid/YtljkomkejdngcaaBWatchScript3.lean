/- Plain functions, and the calls that give them. -/
import Derived.Test.YtljkomkejdngcaaBWatchScript2
set_option linter.all false
set_option linter.unusedVariables false
set_option linter.unnecessarySimpa false
set_option linter.unusedSimpArgs false
set_option maxRecDepth 100000
set_option maxHeartbeats 4000000
namespace Go.V
open Go Go.Proofs
/-! law21_WatchScript_f30_calls -/
theorem law21_WatchScript_f30_calls {N : Nat} {S Fa : Nat → Prop} {w0 w5825 : World} (b92 : Nat) (x95 : ((Int × (List Bool) × (List Int) × (List Nd)) × (List Int) × (List Int)) × Int) (A2140 : Option Addr) (c2141 : Nat) (x2172 : (List Int) × (List Int) × (List Int) × (List Int)) (g2137 : Nat) (A2146 : Option Addr) (c2147 : Nat) (g2143 : Nat) (g773 : Nat) (A1 : Option Addr) (aAccept : List Bool) (A5 : Option Addr) (aGuard : List Int) (A9 : Option Addr) (aNodes : List Nd) (A2152 : Option Addr) (g2149 : Nat) (aProps : Int) (c2 : Nat) (c6 : Nat) (c10 : Nat) (c2153 : Nat) (A2159 : Option Addr) (g2156 : Nat) (c2160 : Nat) (g783 : Nat) (x5928 : Bool) (hk5931 : List.length aAccept ≤ c2) (hk5932 : List.length aGuard ≤ c6) (hk5933 : List.length aNodes ≤ c10) (hk5934 : List.length x2172.2.2.1 ≤ c2153) (hk5935 : List.length x2172.2.2.2 ≤ c2160) (H : Hp S Fa w0 w5825 [.ro true cS78 (some ⟨b92, 0, none⟩) ([x95.1]), .row true (cInt .i64) 3 A2140 c2141 x2172.1, .box g2137 27 [.pointer (some ⟨b92, 0, none⟩), .slice A2140 x2172.1.length c2141], .row true (cInt .i64) 3 A2146 c2147 x2172.2.1, .box g2143 27 [.pointer (some ⟨b92, 0, none⟩), .slice A2146 x2172.2.1.length c2147], .box g773 23 [.pointer (some ⟨g2137, 0, none⟩), .pointer (some ⟨g2143, 0, none⟩)], .ro false cBool A1 aAccept, .ro false (cInt .i64) A5 aGuard, .ro false cNode A9 aNodes, .ro false (cInt .u8) A2152 x2172.2.2.1, .box g2149 67 [.int .i64 aProps, .slice A1 aAccept.length c2, .slice A5 aGuard.length c6, .slice A9 aNodes.length c10, .slice A2152 x2172.2.2.1.length c2153], .ro false (cInt .u8) A2159 x2172.2.2.2, .box g2156 67 [.int .i64 aProps, .slice A1 aAccept.length c2, .slice A5 aGuard.length c6, .slice A9 aNodes.length c10, .slice A2159 x2172.2.2.2.length c2160], .box g783 62 [.pointer (some ⟨g2149, 0, none⟩), .pointer (some ⟨g2156, 0, none⟩)]]) (hP : law21_WatchScript_f30 N aProps aAccept aGuard aNodes x95 x2172 = some x5928) :
    Calls Try.prog 29 #[.slice (some ⟨g773, 0, none⟩) 2 2, .slice (some ⟨g783, 0, none⟩) 2 2, .agg #[.int .u8 2, .int .u8 1, .int .u8 0]] w5825 fun e_ w_ => ∃ v_, e_ = .returned v_ ∧ (∃ (x5930 : Bool), v_ = .bool x5930 ∧ Hp S Fa w0 w_ [.ro true cS78 (some ⟨b92, 0, none⟩) ([x95.1]), .row true (cInt .i64) 3 A2140 c2141 x2172.1, .box g2137 27 [.pointer (some ⟨b92, 0, none⟩), .slice A2140 x2172.1.length c2141], .row true (cInt .i64) 3 A2146 c2147 x2172.2.1, .box g2143 27 [.pointer (some ⟨b92, 0, none⟩), .slice A2146 x2172.2.1.length c2147], .box g773 23 [.pointer (some ⟨g2137, 0, none⟩), .pointer (some ⟨g2143, 0, none⟩)], .ro false cBool A1 aAccept, .ro false (cInt .i64) A5 aGuard, .ro false cNode A9 aNodes, .ro false (cInt .u8) A2152 x2172.2.2.1, .box g2149 67 [.int .i64 aProps, .slice A1 aAccept.length c2, .slice A5 aGuard.length c6, .slice A9 aNodes.length c10, .slice A2152 x2172.2.2.1.length c2153], .ro false (cInt .u8) A2159 x2172.2.2.2, .box g2156 67 [.int .i64 aProps, .slice A1 aAccept.length c2, .slice A5 aGuard.length c6, .slice A9 aNodes.length c10, .slice A2159 x2172.2.2.2.length c2160], .box g783 62 [.pointer (some ⟨g2149, 0, none⟩), .pointer (some ⟨g2156, 0, none⟩)]] ∧ x5928 = x5930) := by
 rw [law21_WatchScript_f30] at hP
 refine enterV (n := 165) Try.func29 rfl rfl rfl ?_
 intro a E
 replace E := E.pick [(0, .slice (some ⟨g773, 0, none⟩) 2 2), (1, .slice (some ⟨g783, 0, none⟩) 2 2), (2, .agg #[.int .u8 2, .int .u8 1, .int .u8 0])] ⟨rfl, rfl, rfl, trivial⟩
 refine sr_ <| h_box H E rfl rfl rfl ?_
 clear H E; intro w5937 g5936 a hc5938 hg5940 H E; replace E := E _ rfl; try dsimp only [setn, addE, goneL] at H
 refine vp 1 [] E ?_
 clear E; intro a E
 refine nn_ <| sr_ <| vq 5 [.int .u8 1, .int .u8 1, .int .i64 1] [(7, .int .i64 1)] [World.cell? w5937 ⟨g5936, 1, none⟩ = some (.int .u8 1), (2 : Int) ≠ 0 ∧ Int.tmod 1 2 = 1, IntKind.i64.wrap 1 = 1] E ⟨(H.box 14 rfl).cell (j := 1) rfl, ⟨by decide, by decide⟩, (show _ = _ from by decide)⟩ ?_
 clear E; intro a E
 refine nn_ <| wp_seq ?_
 have HR5944 := H
 refine dr_start (S := fun w_ => Chg (atL []) w5937 w_) (by kernel_rfl) ?_
 intro w5941 hc5942
 have HS5943 : Chg (atL []) w5937 w5941 := hc5942.mono (fun _ _ h_ => h_.elim)
 replace H := H.ext hc5942
 refine dn tbok (by kernel_rfl) [0, 1, 2, 3, 4, 5, 6, 7, 8, 9] [.pointer (some ⟨g2143, 0, none⟩), .pointer (some ⟨g2156, 0, none⟩)] [(8, .pointer (some ⟨g2143, 0, none⟩)), (9, .pointer (some ⟨g2156, 0, none⟩))] (fun w_ => [0 ≤ (1 : Int) ∧ (1 : Int) < ((2 : Nat) : Int), World.cell? w_ ⟨g773, 1, none⟩ = some (.pointer (some ⟨g2143, 0, none⟩)), 0 ≤ (1 : Int) ∧ (1 : Int) < ((2 : Nat) : Int), World.cell? w_ ⟨g783, 1, none⟩ = some (.pointer (some ⟨g2156, 0, none⟩))]) 0 E (fun _ _ => by kernel_rfl) (by kernel_rfl) (fun w_ hS_ => ⟨⟨by decide, by decide⟩, (HR5944.boxk [] hS_ 5 rfl rfl).cell (j := 1) rfl, ⟨by decide, by decide⟩, (HR5944.boxk [] hS_ 13 rfl rfl).cell (j := 1) rfl⟩) (by kernel_rfl) HS5943 ?_
 clear E; intro a E
 refine dr_done (by kernel_rfl) ?_
 clear HS5943 HR5944
 refine th_n <| wp_seq <| sr_ <| vq 2 [.int .u8 2] [(36, .int .u8 2)] [World.cell? w5941 ⟨g5936, 0, none⟩ = some (.int .u8 2)] E ((H.box 14 rfl).cell (j := 0) rfl) ?_
 clear E; intro a E
 refine nn_ <| wp_block <| sr_ <| vp 2 [(37, .bool false)] E ?_
 clear E; intro a E
 refine nn_ <| c_false E rfl ?_
 refine sr_ <| vp 2 [(61, .bool false)] E ?_
 clear E; intro a E
 refine nn_ <| c_false E rfl ?_
 refine sr_ <| vp 2 [(81, .bool true)] E ?_
 clear E; intro a E
 refine nn_ <| c_true E rfl ?_
 refine wp_seq ?_
 obtain ⟨x6035, h6036, hK6037⟩ := bind_inv hP
 clear hP
 refine meet_cut (fun a w6039 => ∃ (x6038 : Bool), Fr a 165 [(6, .bool x6038)] ∧ Hp S Fa w0 w6039 [.ro true cS78 (some ⟨b92, 0, none⟩) ([x95.1]), .row true (cInt .i64) 3 A2140 c2141 x2172.1, .box g2137 27 [.pointer (some ⟨b92, 0, none⟩), .slice A2140 x2172.1.length c2141], .row true (cInt .i64) 3 A2146 c2147 x2172.2.1, .box g2143 27 [.pointer (some ⟨b92, 0, none⟩), .slice A2146 x2172.2.1.length c2147], .box g773 23 [.pointer (some ⟨g2137, 0, none⟩), .pointer (some ⟨g2143, 0, none⟩)], .ro false cBool A1 aAccept, .ro false (cInt .i64) A5 aGuard, .ro false cNode A9 aNodes, .ro false (cInt .u8) A2152 x2172.2.2.1, .box g2149 67 [.int .i64 aProps, .slice A1 aAccept.length c2, .slice A5 aGuard.length c6, .slice A9 aNodes.length c10, .slice A2152 x2172.2.2.1.length c2153], .ro false (cInt .u8) A2159 x2172.2.2.2, .box g2156 67 [.int .i64 aProps, .slice A1 aAccept.length c2, .slice A5 aGuard.length c6, .slice A9 aNodes.length c10, .slice A2159 x2172.2.2.2.length c2160], .box g783 62 [.pointer (some ⟨g2149, 0, none⟩), .pointer (some ⟨g2156, 0, none⟩)]] ∧ x6035 = x6038) ?_ ?_
 ·
  have hP := h6036; clear h6036; rw [law21_WatchScript_j31] at hP
  obtain ⟨r6040, h6041, hP⟩ := bind_inv hP
  obtain ⟨r6056, h6057, hP⟩ := bind_inv hP
  obtain ⟨r6071, h6072, hP⟩ := bind_inv hP
  by_cases h6080 : (r6040 : Int) = r6071
  ·
   replace hP := ite_t h6080 hP
   obtain ⟨r6081, h6082, hP⟩ := bind_inv hP
   obtain ⟨r6097, h6098, hP⟩ := bind_inv hP
   by_cases h6112 : (r6081 : Int) = r6097
   ·
    replace hP := ite_t h6112 hP
    obtain ⟨r6113, h6114, hP⟩ := bind_inv hP
    refine meet_cut (fun a w6129 => Fr a 165 [(6, .bool ((r6113 : Int) == (x2172.2.2.2.length : Int)))] ∧ Hp S Fa w0 w6129 [.ro true cS78 (some ⟨b92, 0, none⟩) ([x95.1]), .row true (cInt .i64) 3 A2140 c2141 x2172.1, .box g2137 27 [.pointer (some ⟨b92, 0, none⟩), .slice A2140 x2172.1.length c2141], .row true (cInt .i64) 3 A2146 c2147 x2172.2.1, .box g2143 27 [.pointer (some ⟨b92, 0, none⟩), .slice A2146 x2172.2.1.length c2147], .box g773 23 [.pointer (some ⟨g2137, 0, none⟩), .pointer (some ⟨g2143, 0, none⟩)], .ro false cBool A1 aAccept, .ro false (cInt .i64) A5 aGuard, .ro false cNode A9 aNodes, .ro false (cInt .u8) A2152 x2172.2.2.1, .box g2149 67 [.int .i64 aProps, .slice A1 aAccept.length c2, .slice A5 aGuard.length c6, .slice A9 aNodes.length c10, .slice A2152 x2172.2.2.1.length c2153], .ro false (cInt .u8) A2159 x2172.2.2.2, .box g2156 67 [.int .i64 aProps, .slice A1 aAccept.length c2, .slice A5 aGuard.length c6, .slice A9 aNodes.length c10, .slice A2159 x2172.2.2.2.length c2160], .box g783 62 [.pointer (some ⟨g2149, 0, none⟩), .pointer (some ⟨g2156, 0, none⟩)]]) ?_ ?_
    ·
     have HR6133 := H
     refine dr_start (S := fun w_ => Chg (atL [.row true (cInt .i64) 3 A2146 c2147 x2172.2.1, .box g2143 27 [.pointer (some ⟨b92, 0, none⟩), .slice A2146 x2172.2.1.length c2147], .box g2156 67 [.int .i64 aProps, .slice A1 aAccept.length c2, .slice A5 aGuard.length c6, .slice A9 aNodes.length c10, .slice A2159 x2172.2.2.2.length c2160]]) w5941 w_) (by kernel_rfl) ?_
     intro w6130 hc6131
     have HS6132 : Chg (atL [.row true (cInt .i64) 3 A2146 c2147 x2172.2.1, .box g2143 27 [.pointer (some ⟨b92, 0, none⟩), .slice A2146 x2172.2.1.length c2147], .box g2156 67 [.int .i64 aProps, .slice A1 aAccept.length c2, .slice A5 aGuard.length c6, .slice A9 aNodes.length c10, .slice A2159 x2172.2.2.2.length c2160]]) w5941 w6130 := hc6131.mono (fun _ _ h_ => h_.elim)
     replace H := H.ext hc6131
     refine dn tbok (by kernel_rfl) [0, 2, 3, 4, 6] [] [(83, .pointer (some ⟨g2143, 0, none⟩)), (87, .pointer (some ⟨g2156, 0, none⟩)), (89, .pointer (some ⟨g2156, 0, none⟩))] (fun w_ => []) 23 E (fun _ _ => by kernel_rfl) (by kernel_rfl) (fun w_ hS_ => trivial) (by kernel_rfl) HS6132 ?_
     clear E; intro a E
     refine wpAnyH_all (rs := [1, 5]) (by kernel_rfl) (by simp) ?_
     refine all2 ?_ ?_
     ·
      refine wpOp_of_list rfl ?_
      obtain ⟨Fa6134, Hc6135, hb6136⟩ := H.call [4, 3] [(0, false)] rfl rfl ⟨flat_plain, trivial⟩
      refine e_call E rfl rfl Try.func12 rfl rfl rfl (watch_Watch_Verdict_calls g2143 b92 0 A2146 c2147 x95.1 x2172.2.1  Hc6135 h6041) ?_
      intro v6142 w6141 a hR6143 E_
      obtain ⟨x_, hr_, rfl, HR6145⟩ := hR6143
      subst hr_
      replace E := E_ _ rfl; clear E_
      obtain ⟨H_, hc6144⟩ := hb6136 _ _ HR6145 rfl
      replace HS6132 := HS6132.trans hc6144 (fun k_ hk_ h_ => h_.elim (fun h_ => by have hs_ := HS6132.size; exfalso; omega) (fun h_ => h_.elim (fun h_ => (fun _ _ h_ => Or.inr (Or.inl h_)) k_ hk_ h_) (fun h_ => h_.elim (fun h_ => (fun _ _ h_ => Or.inl h_) k_ hk_ h_) (fun h_ => h_.elim))))
      replace H := H_; clear H_; try dsimp only [setn, addE, goneL] at H
      refine nl_ <| th_n ⟨HS6132, ?_⟩
      refine wpAnyH_all (rs := [5, 7]) (by kernel_rfl) (by simp) ?_
      refine all2 ?_ ?_
      ·
       refine wpOp_of_list rfl ?_
       refine vq 1 [.agg #[.int .i64 aProps, .slice A1 aAccept.length c2, .slice A5 aGuard.length c6, .slice A9 aNodes.length c10]] [(88, .agg #[.int .i64 aProps, .slice A1 aAccept.length c2, .slice A5 aGuard.length c6, .slice A9 aNodes.length c10])] [cellsAt w6141 g2156 (0) [.int .i64 aProps, .slice A1 aAccept.length c2, .slice A5 aGuard.length c6, .slice A9 aNodes.length c10]] E ((H.box 12 rfl).sub 0 _ rfl) ?_
       clear E; intro a E
       refine nl_ <| th_n ⟨HS6132, ?_⟩
       refine wpAnyH_all (rs := [7]) (by kernel_rfl) (by simp) ?_
       refine all1 ?_
       refine wpOp_of_list rfl ?_
       obtain ⟨Fa6148, Hc6149, hb6150⟩ := H.call [12] [(6, false), (7, false), (8, false), (11, false)] rfl rfl trivial
       refine e_call E rfl rfl Try.func41 rfl rfl rfl (ref21_Watch_State_calls g2156 A1 c2 A5 c6 A9 c10 A2159 c2160 aProps aAccept aGuard aNodes x2172.2.2.2 hk5931 hk5932 hk5933 hk5935 Hc6149 h6057) ?_
       intro v6156 w6155 a hR6157 E_
       obtain ⟨x_, hr_, rfl, HR6159⟩ := hR6157
       subst hr_
       replace E := E_ _ rfl; clear E_
       obtain ⟨H_, hc6158⟩ := hb6150 _ _ HR6159 rfl
       replace HS6132 := HS6132.trans hc6158 (fun k_ hk_ h_ => h_.elim (fun h_ => by have hs_ := HS6132.size; exfalso; omega) (fun h_ => h_.elim (fun h_ => (fun _ _ h_ => Or.inr (Or.inr (Or.inl h_))) k_ hk_ h_) (fun h_ => h_.elim)))
       replace H := H_; clear H_; try dsimp only [setn, addE, goneL] at H
       refine nl_ <| th_n ⟨HS6132, ?_⟩
       refine wpAnyH_all (rs := [8]) (by kernel_rfl) (by simp) ?_
       refine all1 ?_
       refine wpOp_of_list rfl ?_
       obtain ⟨Fa6161, Hc6162, hb6163⟩ := H.call [] [(6, false), (7, false), (8, false)] rfl rfl trivial
       refine e_call E rfl rfl Try.func40 rfl rfl rfl (ref21_Verdict_calls A1 c2 A5 c6 A9 c10 aProps aAccept aGuard aNodes r6056 hk5931 hk5932 hk5933 Hc6162 h6072) ?_
       rintro v6164 w6165 a ⟨rfl, HR6166⟩ E_
       replace E := E_ _ rfl; clear E_
       obtain ⟨H_, hc6167⟩ := hb6163 _ _ HR6166 rfl
       replace HS6132 := HS6132.ext (callS_ext hc6167)
       replace H := H_; clear H_; try dsimp only [setn, addE, goneL] at H
       refine nl_ <| th_n ⟨HS6132, ?_⟩
       refine dn tbok (by kernel_rfl) [9, 10] [] [(93, .bool ((r6040 : Int) == r6071))] (fun w_ => []) 17 E (fun _ _ => by kernel_rfl) (by kernel_rfl) (fun w_ hS_ => trivial) (by kernel_rfl) HS6132 ?_
       clear E; intro a E
       replace E := E.same (t := 93) (u := .bool true) rfl (congrArg Value.bool (beq_iff_eq.2 h6080))
       refine dn tbok (by kernel_rfl) [11, 13] [] [(94, .pointer (some ⟨g2143, 0, none⟩)), (96, .pointer (some ⟨g2156, 0, none⟩))] (fun w_ => []) 15 E (fun _ _ => by kernel_rfl) (by kernel_rfl) (fun w_ hS_ => trivial) (by kernel_rfl) HS6132 ?_
       clear E; intro a E
       refine wpAnyH_all (rs := [12]) (by kernel_rfl) (by simp) ?_
       refine all1 ?_
       refine wpOp_of_list rfl ?_
       obtain ⟨Fa6168, Hc6169, hb6170⟩ := H.call [16, 15] [(0, false)] rfl rfl ⟨flat_plain, trivial⟩
       refine e_call E rfl rfl Try.func13 rfl rfl rfl (watch_Watch_State_calls g2143 b92 0 A2146 c2147 x95.1 x2172.2.1  Hc6169 h6082) ?_
       intro v6176 w6175 a hR6177 E_
       obtain ⟨x_, hr_, rfl, HR6179⟩ := hR6177
       subst hr_
       replace E := E_ _ rfl; clear E_
       obtain ⟨H_, hc6178⟩ := hb6170 _ _ HR6179 rfl
       replace HS6132 := HS6132.trans hc6178 (fun k_ hk_ h_ => h_.elim (fun h_ => by have hs_ := HS6132.size; exfalso; omega) (fun h_ => h_.elim (fun h_ => (fun _ _ h_ => Or.inr (Or.inl h_)) k_ hk_ h_) (fun h_ => h_.elim (fun h_ => (fun _ _ h_ => Or.inl h_) k_ hk_ h_) (fun h_ => h_.elim))))
       replace H := H_; clear H_; try dsimp only [setn, addE, goneL] at H
       refine nl_ <| th_n ⟨HS6132, ?_⟩
       refine wpAnyH_all (rs := [14]) (by kernel_rfl) (by simp) ?_
       refine all1 ?_
       refine wpOp_of_list rfl ?_
       obtain ⟨Fa6182, Hc6183, hb6184⟩ := H.call [17] [(6, false), (7, false), (8, false), (11, false)] rfl rfl trivial
       refine e_call E rfl rfl Try.func41 rfl rfl rfl (ref21_Watch_State_calls g2156 A1 c2 A5 c6 A9 c10 A2159 c2160 aProps aAccept aGuard aNodes x2172.2.2.2 hk5931 hk5932 hk5933 hk5935 Hc6183 h6098) ?_
       intro v6190 w6189 a hR6191 E_
       obtain ⟨x_, hr_, rfl, HR6193⟩ := hR6191
       subst hr_
       replace E := E_ _ rfl; clear E_
       obtain ⟨H_, hc6192⟩ := hb6184 _ _ HR6193 rfl
       replace HS6132 := HS6132.trans hc6192 (fun k_ hk_ h_ => h_.elim (fun h_ => by have hs_ := HS6132.size; exfalso; omega) (fun h_ => h_.elim (fun h_ => (fun _ _ h_ => Or.inr (Or.inr (Or.inl h_))) k_ hk_ h_) (fun h_ => h_.elim)))
       replace H := H_; clear H_; try dsimp only [setn, addE, goneL] at H
       refine nl_ <| th_n ⟨HS6132, ?_⟩
       refine dn tbok (by kernel_rfl) [15, 16, 17] [] [(100, .bool ((r6081 : Int) == r6097))] (fun w_ => []) 10 E (fun _ _ => by kernel_rfl) (by kernel_rfl) (fun w_ hS_ => trivial) (by kernel_rfl) HS6132 ?_
       clear E; intro a E
       replace E := E.same (t := 100) (u := .bool true) rfl (congrArg Value.bool (beq_iff_eq.2 h6112))
       refine dn tbok (by kernel_rfl) [18, 20, 21, 22] [] [(101, .pointer (some ⟨g2143, 0, none⟩)), (105, .pointer (some ⟨g2156, 4, none⟩))] (fun w_ => []) 6 E (fun _ _ => by kernel_rfl) (by kernel_rfl) (fun w_ hS_ => trivial) (by kernel_rfl) HS6132 ?_
       clear E; intro a E
       refine wpAnyH_all (rs := [19, 23]) (by kernel_rfl) (by simp) ?_
       refine all2 ?_ ?_
       ·
        refine wpOp_of_list rfl ?_
        obtain ⟨Fa6195, Hc6196, hb6197⟩ := H.call [19, 18] [(0, false)] rfl rfl ⟨flat_plain, trivial⟩
        refine e_call E rfl rfl Try.func14 rfl rfl rfl (watch_Watch_Len_calls g2143 b92 0 A2146 c2147 x95.1 x2172.2.1  Hc6196 h6114) ?_
        intro v6203 w6202 a hR6204 E_
        obtain ⟨x_, hr_, rfl, HR6206⟩ := hR6204
        subst hr_
        replace E := E_ _ rfl; clear E_
        obtain ⟨H_, hc6205⟩ := hb6197 _ _ HR6206 rfl
        replace HS6132 := HS6132.trans hc6205 (fun k_ hk_ h_ => h_.elim (fun h_ => by have hs_ := HS6132.size; exfalso; omega) (fun h_ => h_.elim (fun h_ => (fun _ _ h_ => Or.inr (Or.inl h_)) k_ hk_ h_) (fun h_ => h_.elim (fun h_ => (fun _ _ h_ => Or.inl h_) k_ hk_ h_) (fun h_ => h_.elim))))
        replace H := H_; clear H_; try dsimp only [setn, addE, goneL] at H
        refine nl_ <| th_n ⟨HS6132, ?_⟩
        refine wpAnyH_all (rs := [23]) (by kernel_rfl) (by simp) ?_
        refine all1 ?_
        refine wpOp_of_list rfl ?_
        refine vq 1 [.slice A2159 x2172.2.2.2.length c2160] [(106, .slice A2159 x2172.2.2.2.length c2160)] [World.cell? w6202 ⟨g2156, 4, none⟩ = some (.slice A2159 x2172.2.2.2.length c2160)] E ((H.box 20 rfl).cell (j := 4) rfl) ?_
        clear E; intro a E
        refine nl_ <| th_n ⟨HS6132, ?_⟩
        refine dn tbok (by kernel_rfl) [24, 25, 26, 27] [] [(6, .bool ((r6113 : Int) == (x2172.2.2.2.length : Int)))] (fun w_ => []) 0 E (fun _ _ => by kernel_rfl) (by kernel_rfl) (fun w_ hS_ => trivial) (by kernel_rfl) HS6132 ?_
        clear E; intro a E
        refine dr_done (by kernel_rfl) ?_
        exact .inl ⟨rfl, E.pk, H.sel [0, 1, 2, 21, 22, 5, 6, 7, 8, 9, 10, 11, 20, 13] rfl⟩
       refine wpOp_of_list rfl ?_
       refine vq 1 [.slice A2159 x2172.2.2.2.length c2160] [(106, .slice A2159 x2172.2.2.2.length c2160)] [World.cell? w6189 ⟨g2156, 4, none⟩ = some (.slice A2159 x2172.2.2.2.length c2160)] E ((H.box 20 rfl).cell (j := 4) rfl) ?_
       clear E; intro a E
       refine nl_ <| th_n ⟨HS6132, ?_⟩
       refine dn tbok (by kernel_rfl) [24] [] [(107, .int .i64 (x2172.2.2.2.length : Int))] (fun w_ => []) 4 E (fun _ _ => by kernel_rfl) (by kernel_rfl) (fun w_ hS_ => trivial) (by kernel_rfl) HS6132 ?_
       clear E; intro a E
       refine wpAnyH_all (rs := [19]) (by kernel_rfl) (by simp) ?_
       refine all1 ?_
       refine wpOp_of_list rfl ?_
       obtain ⟨Fa6209, Hc6210, hb6211⟩ := H.call [19, 18] [(0, false)] rfl rfl ⟨flat_plain, trivial⟩
       refine e_call E rfl rfl Try.func14 rfl rfl rfl (watch_Watch_Len_calls g2143 b92 0 A2146 c2147 x95.1 x2172.2.1  Hc6210 h6114) ?_
       intro v6217 w6216 a hR6218 E_
       obtain ⟨x_, hr_, rfl, HR6220⟩ := hR6218
       subst hr_
       replace E := E_ _ rfl; clear E_
       obtain ⟨H_, hc6219⟩ := hb6211 _ _ HR6220 rfl
       replace HS6132 := HS6132.trans hc6219 (fun k_ hk_ h_ => h_.elim (fun h_ => by have hs_ := HS6132.size; exfalso; omega) (fun h_ => h_.elim (fun h_ => (fun _ _ h_ => Or.inr (Or.inl h_)) k_ hk_ h_) (fun h_ => h_.elim (fun h_ => (fun _ _ h_ => Or.inl h_) k_ hk_ h_) (fun h_ => h_.elim))))
       replace H := H_; clear H_; try dsimp only [setn, addE, goneL] at H
       refine nl_ <| th_n ⟨HS6132, ?_⟩
       refine dn tbok (by kernel_rfl) [25, 26, 27] [] [(6, .bool ((r6113 : Int) == (x2172.2.2.2.length : Int)))] (fun w_ => []) 0 E (fun _ _ => by kernel_rfl) (by kernel_rfl) (fun w_ hS_ => trivial) (by kernel_rfl) HS6132 ?_
       clear E; intro a E
       refine dr_done (by kernel_rfl) ?_
       exact .inl ⟨rfl, E.pk, H.sel [0, 1, 2, 21, 22, 5, 6, 7, 8, 9, 10, 11, 20, 13] rfl⟩
      refine wpOp_of_list rfl ?_
      obtain ⟨Fa6223, Hc6224, hb6225⟩ := H.call [12] [(6, false), (7, false), (8, false), (11, false)] rfl rfl trivial
      refine e_call E rfl rfl Try.func41 rfl rfl rfl (ref21_Watch_State_calls g2156 A1 c2 A5 c6 A9 c10 A2159 c2160 aProps aAccept aGuard aNodes x2172.2.2.2 hk5931 hk5932 hk5933 hk5935 Hc6224 h6057) ?_
      intro v6231 w6230 a hR6232 E_
      obtain ⟨x_, hr_, rfl, HR6234⟩ := hR6232
      subst hr_
      replace E := E_ _ rfl; clear E_
      obtain ⟨H_, hc6233⟩ := hb6225 _ _ HR6234 rfl
      replace HS6132 := HS6132.trans hc6233 (fun k_ hk_ h_ => h_.elim (fun h_ => by have hs_ := HS6132.size; exfalso; omega) (fun h_ => h_.elim (fun h_ => (fun _ _ h_ => Or.inr (Or.inr (Or.inl h_))) k_ hk_ h_) (fun h_ => h_.elim)))
      replace H := H_; clear H_; try dsimp only [setn, addE, goneL] at H
      refine nl_ <| th_n ⟨HS6132, ?_⟩
      refine wpAnyH_all (rs := [5]) (by kernel_rfl) (by simp) ?_
      refine all1 ?_
      refine wpOp_of_list rfl ?_
      refine vq 1 [.agg #[.int .i64 aProps, .slice A1 aAccept.length c2, .slice A5 aGuard.length c6, .slice A9 aNodes.length c10]] [(88, .agg #[.int .i64 aProps, .slice A1 aAccept.length c2, .slice A5 aGuard.length c6, .slice A9 aNodes.length c10])] [cellsAt w6230 g2156 (0) [.int .i64 aProps, .slice A1 aAccept.length c2, .slice A5 aGuard.length c6, .slice A9 aNodes.length c10]] E ((H.box 17 rfl).sub 0 _ rfl) ?_
      clear E; intro a E
      refine nl_ <| th_n ⟨HS6132, ?_⟩
      refine wpAnyH_all (rs := [8]) (by kernel_rfl) (by simp) ?_
      refine all1 ?_
      refine wpOp_of_list rfl ?_
      obtain ⟨Fa6236, Hc6237, hb6238⟩ := H.call [] [(6, false), (7, false), (8, false)] rfl rfl trivial
      refine e_call E rfl rfl Try.func40 rfl rfl rfl (ref21_Verdict_calls A1 c2 A5 c6 A9 c10 aProps aAccept aGuard aNodes r6056 hk5931 hk5932 hk5933 Hc6237 h6072) ?_
      rintro v6239 w6240 a ⟨rfl, HR6241⟩ E_
      replace E := E_ _ rfl; clear E_
      obtain ⟨H_, hc6242⟩ := hb6238 _ _ HR6241 rfl
      replace HS6132 := HS6132.ext (callS_ext hc6242)
      replace H := H_; clear H_; try dsimp only [setn, addE, goneL] at H
      refine nl_ <| th_n ⟨HS6132, ?_⟩
      refine dn tbok (by kernel_rfl) [9, 10] [] [(93, .bool ((r6040 : Int) == r6071))] (fun w_ => []) 17 E (fun _ _ => by kernel_rfl) (by kernel_rfl) (fun w_ hS_ => trivial) (by kernel_rfl) HS6132 ?_
      clear E; intro a E
      replace E := E.same (t := 93) (u := .bool true) rfl (congrArg Value.bool (beq_iff_eq.2 h6080))
      refine dn tbok (by kernel_rfl) [11, 13] [] [(94, .pointer (some ⟨g2143, 0, none⟩)), (96, .pointer (some ⟨g2156, 0, none⟩))] (fun w_ => []) 15 E (fun _ _ => by kernel_rfl) (by kernel_rfl) (fun w_ hS_ => trivial) (by kernel_rfl) HS6132 ?_
      clear E; intro a E
      refine wpAnyH_all (rs := [12]) (by kernel_rfl) (by simp) ?_
      refine all1 ?_
      refine wpOp_of_list rfl ?_
      obtain ⟨Fa6243, Hc6244, hb6245⟩ := H.call [16, 15] [(0, false)] rfl rfl ⟨flat_plain, trivial⟩
      refine e_call E rfl rfl Try.func13 rfl rfl rfl (watch_Watch_State_calls g2143 b92 0 A2146 c2147 x95.1 x2172.2.1  Hc6244 h6082) ?_
      intro v6251 w6250 a hR6252 E_
      obtain ⟨x_, hr_, rfl, HR6254⟩ := hR6252
      subst hr_
      replace E := E_ _ rfl; clear E_
      obtain ⟨H_, hc6253⟩ := hb6245 _ _ HR6254 rfl
      replace HS6132 := HS6132.trans hc6253 (fun k_ hk_ h_ => h_.elim (fun h_ => by have hs_ := HS6132.size; exfalso; omega) (fun h_ => h_.elim (fun h_ => (fun _ _ h_ => Or.inr (Or.inl h_)) k_ hk_ h_) (fun h_ => h_.elim (fun h_ => (fun _ _ h_ => Or.inl h_) k_ hk_ h_) (fun h_ => h_.elim))))
      replace H := H_; clear H_; try dsimp only [setn, addE, goneL] at H
      refine nl_ <| th_n ⟨HS6132, ?_⟩
      refine wpAnyH_all (rs := [14]) (by kernel_rfl) (by simp) ?_
      refine all1 ?_
      refine wpOp_of_list rfl ?_
      obtain ⟨Fa6257, Hc6258, hb6259⟩ := H.call [17] [(6, false), (7, false), (8, false), (11, false)] rfl rfl trivial
      refine e_call E rfl rfl Try.func41 rfl rfl rfl (ref21_Watch_State_calls g2156 A1 c2 A5 c6 A9 c10 A2159 c2160 aProps aAccept aGuard aNodes x2172.2.2.2 hk5931 hk5932 hk5933 hk5935 Hc6258 h6098) ?_
      intro v6265 w6264 a hR6266 E_
      obtain ⟨x_, hr_, rfl, HR6268⟩ := hR6266
      subst hr_
      replace E := E_ _ rfl; clear E_
      obtain ⟨H_, hc6267⟩ := hb6259 _ _ HR6268 rfl
      replace HS6132 := HS6132.trans hc6267 (fun k_ hk_ h_ => h_.elim (fun h_ => by have hs_ := HS6132.size; exfalso; omega) (fun h_ => h_.elim (fun h_ => (fun _ _ h_ => Or.inr (Or.inr (Or.inl h_))) k_ hk_ h_) (fun h_ => h_.elim)))
      replace H := H_; clear H_; try dsimp only [setn, addE, goneL] at H
      refine nl_ <| th_n ⟨HS6132, ?_⟩
      refine dn tbok (by kernel_rfl) [15, 16, 17] [] [(100, .bool ((r6081 : Int) == r6097))] (fun w_ => []) 10 E (fun _ _ => by kernel_rfl) (by kernel_rfl) (fun w_ hS_ => trivial) (by kernel_rfl) HS6132 ?_
      clear E; intro a E
      replace E := E.same (t := 100) (u := .bool true) rfl (congrArg Value.bool (beq_iff_eq.2 h6112))
      refine dn tbok (by kernel_rfl) [18, 20, 21, 22] [] [(101, .pointer (some ⟨g2143, 0, none⟩)), (105, .pointer (some ⟨g2156, 4, none⟩))] (fun w_ => []) 6 E (fun _ _ => by kernel_rfl) (by kernel_rfl) (fun w_ hS_ => trivial) (by kernel_rfl) HS6132 ?_
      clear E; intro a E
      refine wpAnyH_all (rs := [19, 23]) (by kernel_rfl) (by simp) ?_
      refine all2 ?_ ?_
      ·
       refine wpOp_of_list rfl ?_
       obtain ⟨Fa6270, Hc6271, hb6272⟩ := H.call [19, 18] [(0, false)] rfl rfl ⟨flat_plain, trivial⟩
       refine e_call E rfl rfl Try.func14 rfl rfl rfl (watch_Watch_Len_calls g2143 b92 0 A2146 c2147 x95.1 x2172.2.1  Hc6271 h6114) ?_
       intro v6278 w6277 a hR6279 E_
       obtain ⟨x_, hr_, rfl, HR6281⟩ := hR6279
       subst hr_
       replace E := E_ _ rfl; clear E_
       obtain ⟨H_, hc6280⟩ := hb6272 _ _ HR6281 rfl
       replace HS6132 := HS6132.trans hc6280 (fun k_ hk_ h_ => h_.elim (fun h_ => by have hs_ := HS6132.size; exfalso; omega) (fun h_ => h_.elim (fun h_ => (fun _ _ h_ => Or.inr (Or.inl h_)) k_ hk_ h_) (fun h_ => h_.elim (fun h_ => (fun _ _ h_ => Or.inl h_) k_ hk_ h_) (fun h_ => h_.elim))))
       replace H := H_; clear H_; try dsimp only [setn, addE, goneL] at H
       refine nl_ <| th_n ⟨HS6132, ?_⟩
       refine wpAnyH_all (rs := [23]) (by kernel_rfl) (by simp) ?_
       refine all1 ?_
       refine wpOp_of_list rfl ?_
       refine vq 1 [.slice A2159 x2172.2.2.2.length c2160] [(106, .slice A2159 x2172.2.2.2.length c2160)] [World.cell? w6277 ⟨g2156, 4, none⟩ = some (.slice A2159 x2172.2.2.2.length c2160)] E ((H.box 20 rfl).cell (j := 4) rfl) ?_
       clear E; intro a E
       refine nl_ <| th_n ⟨HS6132, ?_⟩
       refine dn tbok (by kernel_rfl) [24, 25, 26, 27] [] [(6, .bool ((r6113 : Int) == (x2172.2.2.2.length : Int)))] (fun w_ => []) 0 E (fun _ _ => by kernel_rfl) (by kernel_rfl) (fun w_ hS_ => trivial) (by kernel_rfl) HS6132 ?_
       clear E; intro a E
       refine dr_done (by kernel_rfl) ?_
       exact .inl ⟨rfl, E.pk, H.sel [0, 1, 2, 21, 22, 5, 6, 7, 8, 9, 10, 11, 20, 13] rfl⟩
      refine wpOp_of_list rfl ?_
      refine vq 1 [.slice A2159 x2172.2.2.2.length c2160] [(106, .slice A2159 x2172.2.2.2.length c2160)] [World.cell? w6264 ⟨g2156, 4, none⟩ = some (.slice A2159 x2172.2.2.2.length c2160)] E ((H.box 20 rfl).cell (j := 4) rfl) ?_
      clear E; intro a E
      refine nl_ <| th_n ⟨HS6132, ?_⟩
      refine dn tbok (by kernel_rfl) [24] [] [(107, .int .i64 (x2172.2.2.2.length : Int))] (fun w_ => []) 4 E (fun _ _ => by kernel_rfl) (by kernel_rfl) (fun w_ hS_ => trivial) (by kernel_rfl) HS6132 ?_
      clear E; intro a E
      refine wpAnyH_all (rs := [19]) (by kernel_rfl) (by simp) ?_
      refine all1 ?_
      refine wpOp_of_list rfl ?_
      obtain ⟨Fa6284, Hc6285, hb6286⟩ := H.call [19, 18] [(0, false)] rfl rfl ⟨flat_plain, trivial⟩
      refine e_call E rfl rfl Try.func14 rfl rfl rfl (watch_Watch_Len_calls g2143 b92 0 A2146 c2147 x95.1 x2172.2.1  Hc6285 h6114) ?_
      intro v6292 w6291 a hR6293 E_
      obtain ⟨x_, hr_, rfl, HR6295⟩ := hR6293
      subst hr_
      replace E := E_ _ rfl; clear E_
      obtain ⟨H_, hc6294⟩ := hb6286 _ _ HR6295 rfl
      replace HS6132 := HS6132.trans hc6294 (fun k_ hk_ h_ => h_.elim (fun h_ => by have hs_ := HS6132.size; exfalso; omega) (fun h_ => h_.elim (fun h_ => (fun _ _ h_ => Or.inr (Or.inl h_)) k_ hk_ h_) (fun h_ => h_.elim (fun h_ => (fun _ _ h_ => Or.inl h_) k_ hk_ h_) (fun h_ => h_.elim))))
      replace H := H_; clear H_; try dsimp only [setn, addE, goneL] at H
      refine nl_ <| th_n ⟨HS6132, ?_⟩
      refine dn tbok (by kernel_rfl) [25, 26, 27] [] [(6, .bool ((r6113 : Int) == (x2172.2.2.2.length : Int)))] (fun w_ => []) 0 E (fun _ _ => by kernel_rfl) (by kernel_rfl) (fun w_ hS_ => trivial) (by kernel_rfl) HS6132 ?_
      clear E; intro a E
      refine dr_done (by kernel_rfl) ?_
      exact .inl ⟨rfl, E.pk, H.sel [0, 1, 2, 21, 22, 5, 6, 7, 8, 9, 10, 11, 20, 13] rfl⟩
     refine wpOp_of_list rfl ?_
     refine vq 1 [.agg #[.int .i64 aProps, .slice A1 aAccept.length c2, .slice A5 aGuard.length c6, .slice A9 aNodes.length c10]] [(88, .agg #[.int .i64 aProps, .slice A1 aAccept.length c2, .slice A5 aGuard.length c6, .slice A9 aNodes.length c10])] [cellsAt w6130 g2156 (0) [.int .i64 aProps, .slice A1 aAccept.length c2, .slice A5 aGuard.length c6, .slice A9 aNodes.length c10]] E ((H.box 12 rfl).sub 0 _ rfl) ?_
     clear E; intro a E
     refine nl_ <| th_n ⟨HS6132, ?_⟩
     refine wpAnyH_all (rs := [1]) (by kernel_rfl) (by simp) ?_
     refine all1 ?_
     refine wpOp_of_list rfl ?_
     obtain ⟨Fa6298, Hc6299, hb6300⟩ := H.call [4, 3] [(0, false)] rfl rfl ⟨flat_plain, trivial⟩
     refine e_call E rfl rfl Try.func12 rfl rfl rfl (watch_Watch_Verdict_calls g2143 b92 0 A2146 c2147 x95.1 x2172.2.1  Hc6299 h6041) ?_
     intro v6306 w6305 a hR6307 E_
     obtain ⟨x_, hr_, rfl, HR6309⟩ := hR6307
     subst hr_
     replace E := E_ _ rfl; clear E_
     obtain ⟨H_, hc6308⟩ := hb6300 _ _ HR6309 rfl
     replace HS6132 := HS6132.trans hc6308 (fun k_ hk_ h_ => h_.elim (fun h_ => by have hs_ := HS6132.size; exfalso; omega) (fun h_ => h_.elim (fun h_ => (fun _ _ h_ => Or.inr (Or.inl h_)) k_ hk_ h_) (fun h_ => h_.elim (fun h_ => (fun _ _ h_ => Or.inl h_) k_ hk_ h_) (fun h_ => h_.elim))))
     replace H := H_; clear H_; try dsimp only [setn, addE, goneL] at H
     refine nl_ <| th_n ⟨HS6132, ?_⟩
     refine wpAnyH_all (rs := [7]) (by kernel_rfl) (by simp) ?_
     refine all1 ?_
     refine wpOp_of_list rfl ?_
     obtain ⟨Fa6312, Hc6313, hb6314⟩ := H.call [12] [(6, false), (7, false), (8, false), (11, false)] rfl rfl trivial
     refine e_call E rfl rfl Try.func41 rfl rfl rfl (ref21_Watch_State_calls g2156 A1 c2 A5 c6 A9 c10 A2159 c2160 aProps aAccept aGuard aNodes x2172.2.2.2 hk5931 hk5932 hk5933 hk5935 Hc6313 h6057) ?_
     intro v6320 w6319 a hR6321 E_
     obtain ⟨x_, hr_, rfl, HR6323⟩ := hR6321
     subst hr_
     replace E := E_ _ rfl; clear E_
     obtain ⟨H_, hc6322⟩ := hb6314 _ _ HR6323 rfl
     replace HS6132 := HS6132.trans hc6322 (fun k_ hk_ h_ => h_.elim (fun h_ => by have hs_ := HS6132.size; exfalso; omega) (fun h_ => h_.elim (fun h_ => (fun _ _ h_ => Or.inr (Or.inr (Or.inl h_))) k_ hk_ h_) (fun h_ => h_.elim)))
     replace H := H_; clear H_; try dsimp only [setn, addE, goneL] at H
     refine nl_ <| th_n ⟨HS6132, ?_⟩
     refine wpAnyH_all (rs := [8]) (by kernel_rfl) (by simp) ?_
     refine all1 ?_
     refine wpOp_of_list rfl ?_
     obtain ⟨Fa6325, Hc6326, hb6327⟩ := H.call [] [(6, false), (7, false), (8, false)] rfl rfl trivial
     refine e_call E rfl rfl Try.func40 rfl rfl rfl (ref21_Verdict_calls A1 c2 A5 c6 A9 c10 aProps aAccept aGuard aNodes r6056 hk5931 hk5932 hk5933 Hc6326 h6072) ?_
     rintro v6328 w6329 a ⟨rfl, HR6330⟩ E_
     replace E := E_ _ rfl; clear E_
     obtain ⟨H_, hc6331⟩ := hb6327 _ _ HR6330 rfl
     replace HS6132 := HS6132.ext (callS_ext hc6331)
     replace H := H_; clear H_; try dsimp only [setn, addE, goneL] at H
     refine nl_ <| th_n ⟨HS6132, ?_⟩
     refine dn tbok (by kernel_rfl) [9, 10] [] [(93, .bool ((r6040 : Int) == r6071))] (fun w_ => []) 17 E (fun _ _ => by kernel_rfl) (by kernel_rfl) (fun w_ hS_ => trivial) (by kernel_rfl) HS6132 ?_
     clear E; intro a E
     replace E := E.same (t := 93) (u := .bool true) rfl (congrArg Value.bool (beq_iff_eq.2 h6080))
     refine dn tbok (by kernel_rfl) [11, 13] [] [(94, .pointer (some ⟨g2143, 0, none⟩)), (96, .pointer (some ⟨g2156, 0, none⟩))] (fun w_ => []) 15 E (fun _ _ => by kernel_rfl) (by kernel_rfl) (fun w_ hS_ => trivial) (by kernel_rfl) HS6132 ?_
     clear E; intro a E
     refine wpAnyH_all (rs := [12]) (by kernel_rfl) (by simp) ?_
     refine all1 ?_
     refine wpOp_of_list rfl ?_
     obtain ⟨Fa6332, Hc6333, hb6334⟩ := H.call [16, 15] [(0, false)] rfl rfl ⟨flat_plain, trivial⟩
     refine e_call E rfl rfl Try.func13 rfl rfl rfl (watch_Watch_State_calls g2143 b92 0 A2146 c2147 x95.1 x2172.2.1  Hc6333 h6082) ?_
     intro v6340 w6339 a hR6341 E_
     obtain ⟨x_, hr_, rfl, HR6343⟩ := hR6341
     subst hr_
     replace E := E_ _ rfl; clear E_
     obtain ⟨H_, hc6342⟩ := hb6334 _ _ HR6343 rfl
     replace HS6132 := HS6132.trans hc6342 (fun k_ hk_ h_ => h_.elim (fun h_ => by have hs_ := HS6132.size; exfalso; omega) (fun h_ => h_.elim (fun h_ => (fun _ _ h_ => Or.inr (Or.inl h_)) k_ hk_ h_) (fun h_ => h_.elim (fun h_ => (fun _ _ h_ => Or.inl h_) k_ hk_ h_) (fun h_ => h_.elim))))
     replace H := H_; clear H_; try dsimp only [setn, addE, goneL] at H
     refine nl_ <| th_n ⟨HS6132, ?_⟩
     refine wpAnyH_all (rs := [14]) (by kernel_rfl) (by simp) ?_
     refine all1 ?_
     refine wpOp_of_list rfl ?_
     obtain ⟨Fa6346, Hc6347, hb6348⟩ := H.call [17] [(6, false), (7, false), (8, false), (11, false)] rfl rfl trivial
     refine e_call E rfl rfl Try.func41 rfl rfl rfl (ref21_Watch_State_calls g2156 A1 c2 A5 c6 A9 c10 A2159 c2160 aProps aAccept aGuard aNodes x2172.2.2.2 hk5931 hk5932 hk5933 hk5935 Hc6347 h6098) ?_
     intro v6354 w6353 a hR6355 E_
     obtain ⟨x_, hr_, rfl, HR6357⟩ := hR6355
     subst hr_
     replace E := E_ _ rfl; clear E_
     obtain ⟨H_, hc6356⟩ := hb6348 _ _ HR6357 rfl
     replace HS6132 := HS6132.trans hc6356 (fun k_ hk_ h_ => h_.elim (fun h_ => by have hs_ := HS6132.size; exfalso; omega) (fun h_ => h_.elim (fun h_ => (fun _ _ h_ => Or.inr (Or.inr (Or.inl h_))) k_ hk_ h_) (fun h_ => h_.elim)))
     replace H := H_; clear H_; try dsimp only [setn, addE, goneL] at H
     refine nl_ <| th_n ⟨HS6132, ?_⟩
     refine dn tbok (by kernel_rfl) [15, 16, 17] [] [(100, .bool ((r6081 : Int) == r6097))] (fun w_ => []) 10 E (fun _ _ => by kernel_rfl) (by kernel_rfl) (fun w_ hS_ => trivial) (by kernel_rfl) HS6132 ?_
     clear E; intro a E
     replace E := E.same (t := 100) (u := .bool true) rfl (congrArg Value.bool (beq_iff_eq.2 h6112))
     refine dn tbok (by kernel_rfl) [18, 20, 21, 22] [] [(101, .pointer (some ⟨g2143, 0, none⟩)), (105, .pointer (some ⟨g2156, 4, none⟩))] (fun w_ => []) 6 E (fun _ _ => by kernel_rfl) (by kernel_rfl) (fun w_ hS_ => trivial) (by kernel_rfl) HS6132 ?_
     clear E; intro a E
     refine wpAnyH_all (rs := [19, 23]) (by kernel_rfl) (by simp) ?_
     refine all2 ?_ ?_
     ·
      refine wpOp_of_list rfl ?_
      obtain ⟨Fa6359, Hc6360, hb6361⟩ := H.call [19, 18] [(0, false)] rfl rfl ⟨flat_plain, trivial⟩
      refine e_call E rfl rfl Try.func14 rfl rfl rfl (watch_Watch_Len_calls g2143 b92 0 A2146 c2147 x95.1 x2172.2.1  Hc6360 h6114) ?_
      intro v6367 w6366 a hR6368 E_
      obtain ⟨x_, hr_, rfl, HR6370⟩ := hR6368
      subst hr_
      replace E := E_ _ rfl; clear E_
      obtain ⟨H_, hc6369⟩ := hb6361 _ _ HR6370 rfl
      replace HS6132 := HS6132.trans hc6369 (fun k_ hk_ h_ => h_.elim (fun h_ => by have hs_ := HS6132.size; exfalso; omega) (fun h_ => h_.elim (fun h_ => (fun _ _ h_ => Or.inr (Or.inl h_)) k_ hk_ h_) (fun h_ => h_.elim (fun h_ => (fun _ _ h_ => Or.inl h_) k_ hk_ h_) (fun h_ => h_.elim))))
      replace H := H_; clear H_; try dsimp only [setn, addE, goneL] at H
      refine nl_ <| th_n ⟨HS6132, ?_⟩
      refine wpAnyH_all (rs := [23]) (by kernel_rfl) (by simp) ?_
      refine all1 ?_
      refine wpOp_of_list rfl ?_
      refine vq 1 [.slice A2159 x2172.2.2.2.length c2160] [(106, .slice A2159 x2172.2.2.2.length c2160)] [World.cell? w6366 ⟨g2156, 4, none⟩ = some (.slice A2159 x2172.2.2.2.length c2160)] E ((H.box 20 rfl).cell (j := 4) rfl) ?_
      clear E; intro a E
      refine nl_ <| th_n ⟨HS6132, ?_⟩
      refine dn tbok (by kernel_rfl) [24, 25, 26, 27] [] [(6, .bool ((r6113 : Int) == (x2172.2.2.2.length : Int)))] (fun w_ => []) 0 E (fun _ _ => by kernel_rfl) (by kernel_rfl) (fun w_ hS_ => trivial) (by kernel_rfl) HS6132 ?_
      clear E; intro a E
      refine dr_done (by kernel_rfl) ?_
      exact .inl ⟨rfl, E.pk, H.sel [0, 1, 2, 21, 22, 5, 6, 7, 8, 9, 10, 11, 20, 13] rfl⟩
     refine wpOp_of_list rfl ?_
     refine vq 1 [.slice A2159 x2172.2.2.2.length c2160] [(106, .slice A2159 x2172.2.2.2.length c2160)] [World.cell? w6353 ⟨g2156, 4, none⟩ = some (.slice A2159 x2172.2.2.2.length c2160)] E ((H.box 20 rfl).cell (j := 4) rfl) ?_
     clear E; intro a E
     refine nl_ <| th_n ⟨HS6132, ?_⟩
     refine dn tbok (by kernel_rfl) [24] [] [(107, .int .i64 (x2172.2.2.2.length : Int))] (fun w_ => []) 4 E (fun _ _ => by kernel_rfl) (by kernel_rfl) (fun w_ hS_ => trivial) (by kernel_rfl) HS6132 ?_
     clear E; intro a E
     refine wpAnyH_all (rs := [19]) (by kernel_rfl) (by simp) ?_
     refine all1 ?_
     refine wpOp_of_list rfl ?_
     obtain ⟨Fa6373, Hc6374, hb6375⟩ := H.call [19, 18] [(0, false)] rfl rfl ⟨flat_plain, trivial⟩
     refine e_call E rfl rfl Try.func14 rfl rfl rfl (watch_Watch_Len_calls g2143 b92 0 A2146 c2147 x95.1 x2172.2.1  Hc6374 h6114) ?_
     intro v6381 w6380 a hR6382 E_
     obtain ⟨x_, hr_, rfl, HR6384⟩ := hR6382
     subst hr_
     replace E := E_ _ rfl; clear E_
     obtain ⟨H_, hc6383⟩ := hb6375 _ _ HR6384 rfl
     replace HS6132 := HS6132.trans hc6383 (fun k_ hk_ h_ => h_.elim (fun h_ => by have hs_ := HS6132.size; exfalso; omega) (fun h_ => h_.elim (fun h_ => (fun _ _ h_ => Or.inr (Or.inl h_)) k_ hk_ h_) (fun h_ => h_.elim (fun h_ => (fun _ _ h_ => Or.inl h_) k_ hk_ h_) (fun h_ => h_.elim))))
     replace H := H_; clear H_; try dsimp only [setn, addE, goneL] at H
     refine nl_ <| th_n ⟨HS6132, ?_⟩
     refine dn tbok (by kernel_rfl) [25, 26, 27] [] [(6, .bool ((r6113 : Int) == (x2172.2.2.2.length : Int)))] (fun w_ => []) 0 E (fun _ _ => by kernel_rfl) (by kernel_rfl) (fun w_ hS_ => trivial) (by kernel_rfl) HS6132 ?_
     clear E; intro a E
     refine dr_done (by kernel_rfl) ?_
     exact .inl ⟨rfl, E.pk, H.sel [0, 1, 2, 21, 22, 5, 6, 7, 8, 9, 10, 11, 20, 13] rfl⟩
    clear E H; rintro a w6129 ⟨E, H⟩
    have hx_ := Option.some.inj hP
    exact .inl ⟨rfl, (r6113 : Int) == (x2172.2.2.2.length : Int), E.pk, H.sel (up 14) rfl, hx_.symm⟩
   replace hP := ite_f h6112 hP
   refine meet_cut (fun a w6387 => Fr a 165 [(6, .bool false)] ∧ Hp S Fa w0 w6387 [.ro true cS78 (some ⟨b92, 0, none⟩) ([x95.1]), .row true (cInt .i64) 3 A2140 c2141 x2172.1, .box g2137 27 [.pointer (some ⟨b92, 0, none⟩), .slice A2140 x2172.1.length c2141], .row true (cInt .i64) 3 A2146 c2147 x2172.2.1, .box g2143 27 [.pointer (some ⟨b92, 0, none⟩), .slice A2146 x2172.2.1.length c2147], .box g773 23 [.pointer (some ⟨g2137, 0, none⟩), .pointer (some ⟨g2143, 0, none⟩)], .ro false cBool A1 aAccept, .ro false (cInt .i64) A5 aGuard, .ro false cNode A9 aNodes, .ro false (cInt .u8) A2152 x2172.2.2.1, .box g2149 67 [.int .i64 aProps, .slice A1 aAccept.length c2, .slice A5 aGuard.length c6, .slice A9 aNodes.length c10, .slice A2152 x2172.2.2.1.length c2153], .ro false (cInt .u8) A2159 x2172.2.2.2, .box g2156 67 [.int .i64 aProps, .slice A1 aAccept.length c2, .slice A5 aGuard.length c6, .slice A9 aNodes.length c10, .slice A2159 x2172.2.2.2.length c2160], .box g783 62 [.pointer (some ⟨g2149, 0, none⟩), .pointer (some ⟨g2156, 0, none⟩)]]) ?_ ?_
   ·
    have HR6391 := H
    refine dr_start (S := fun w_ => Chg (atL [.row true (cInt .i64) 3 A2146 c2147 x2172.2.1, .box g2143 27 [.pointer (some ⟨b92, 0, none⟩), .slice A2146 x2172.2.1.length c2147], .box g2156 67 [.int .i64 aProps, .slice A1 aAccept.length c2, .slice A5 aGuard.length c6, .slice A9 aNodes.length c10, .slice A2159 x2172.2.2.2.length c2160]]) w5941 w_) (by kernel_rfl) ?_
    intro w6388 hc6389
    have HS6390 : Chg (atL [.row true (cInt .i64) 3 A2146 c2147 x2172.2.1, .box g2143 27 [.pointer (some ⟨b92, 0, none⟩), .slice A2146 x2172.2.1.length c2147], .box g2156 67 [.int .i64 aProps, .slice A1 aAccept.length c2, .slice A5 aGuard.length c6, .slice A9 aNodes.length c10, .slice A2159 x2172.2.2.2.length c2160]]) w5941 w6388 := hc6389.mono (fun _ _ h_ => h_.elim)
    replace H := H.ext hc6389
    refine dn tbok (by kernel_rfl) [0, 2, 3, 4, 6] [] [(83, .pointer (some ⟨g2143, 0, none⟩)), (87, .pointer (some ⟨g2156, 0, none⟩)), (89, .pointer (some ⟨g2156, 0, none⟩))] (fun w_ => []) 23 E (fun _ _ => by kernel_rfl) (by kernel_rfl) (fun w_ hS_ => trivial) (by kernel_rfl) HS6390 ?_
    clear E; intro a E
    refine wpAnyH_all (rs := [1, 5]) (by kernel_rfl) (by simp) ?_
    refine all2 ?_ ?_
    ·
     refine wpOp_of_list rfl ?_
     obtain ⟨Fa6392, Hc6393, hb6394⟩ := H.call [4, 3] [(0, false)] rfl rfl ⟨flat_plain, trivial⟩
     refine e_call E rfl rfl Try.func12 rfl rfl rfl (watch_Watch_Verdict_calls g2143 b92 0 A2146 c2147 x95.1 x2172.2.1  Hc6393 h6041) ?_
     intro v6400 w6399 a hR6401 E_
     obtain ⟨x_, hr_, rfl, HR6403⟩ := hR6401
     subst hr_
     replace E := E_ _ rfl; clear E_
     obtain ⟨H_, hc6402⟩ := hb6394 _ _ HR6403 rfl
     replace HS6390 := HS6390.trans hc6402 (fun k_ hk_ h_ => h_.elim (fun h_ => by have hs_ := HS6390.size; exfalso; omega) (fun h_ => h_.elim (fun h_ => (fun _ _ h_ => Or.inr (Or.inl h_)) k_ hk_ h_) (fun h_ => h_.elim (fun h_ => (fun _ _ h_ => Or.inl h_) k_ hk_ h_) (fun h_ => h_.elim))))
     replace H := H_; clear H_; try dsimp only [setn, addE, goneL] at H
     refine nl_ <| th_n ⟨HS6390, ?_⟩
     refine wpAnyH_all (rs := [5, 7]) (by kernel_rfl) (by simp) ?_
     refine all2 ?_ ?_
     ·
      refine wpOp_of_list rfl ?_
      refine vq 1 [.agg #[.int .i64 aProps, .slice A1 aAccept.length c2, .slice A5 aGuard.length c6, .slice A9 aNodes.length c10]] [(88, .agg #[.int .i64 aProps, .slice A1 aAccept.length c2, .slice A5 aGuard.length c6, .slice A9 aNodes.length c10])] [cellsAt w6399 g2156 (0) [.int .i64 aProps, .slice A1 aAccept.length c2, .slice A5 aGuard.length c6, .slice A9 aNodes.length c10]] E ((H.box 12 rfl).sub 0 _ rfl) ?_
      clear E; intro a E
      refine nl_ <| th_n ⟨HS6390, ?_⟩
      refine wpAnyH_all (rs := [7]) (by kernel_rfl) (by simp) ?_
      refine all1 ?_
      refine wpOp_of_list rfl ?_
      obtain ⟨Fa6406, Hc6407, hb6408⟩ := H.call [12] [(6, false), (7, false), (8, false), (11, false)] rfl rfl trivial
      refine e_call E rfl rfl Try.func41 rfl rfl rfl (ref21_Watch_State_calls g2156 A1 c2 A5 c6 A9 c10 A2159 c2160 aProps aAccept aGuard aNodes x2172.2.2.2 hk5931 hk5932 hk5933 hk5935 Hc6407 h6057) ?_
      intro v6414 w6413 a hR6415 E_
      obtain ⟨x_, hr_, rfl, HR6417⟩ := hR6415
      subst hr_
      replace E := E_ _ rfl; clear E_
      obtain ⟨H_, hc6416⟩ := hb6408 _ _ HR6417 rfl
      replace HS6390 := HS6390.trans hc6416 (fun k_ hk_ h_ => h_.elim (fun h_ => by have hs_ := HS6390.size; exfalso; omega) (fun h_ => h_.elim (fun h_ => (fun _ _ h_ => Or.inr (Or.inr (Or.inl h_))) k_ hk_ h_) (fun h_ => h_.elim)))
      replace H := H_; clear H_; try dsimp only [setn, addE, goneL] at H
      refine nl_ <| th_n ⟨HS6390, ?_⟩
      refine wpAnyH_all (rs := [8]) (by kernel_rfl) (by simp) ?_
      refine all1 ?_
      refine wpOp_of_list rfl ?_
      obtain ⟨Fa6419, Hc6420, hb6421⟩ := H.call [] [(6, false), (7, false), (8, false)] rfl rfl trivial
      refine e_call E rfl rfl Try.func40 rfl rfl rfl (ref21_Verdict_calls A1 c2 A5 c6 A9 c10 aProps aAccept aGuard aNodes r6056 hk5931 hk5932 hk5933 Hc6420 h6072) ?_
      rintro v6422 w6423 a ⟨rfl, HR6424⟩ E_
      replace E := E_ _ rfl; clear E_
      obtain ⟨H_, hc6425⟩ := hb6421 _ _ HR6424 rfl
      replace HS6390 := HS6390.ext (callS_ext hc6425)
      replace H := H_; clear H_; try dsimp only [setn, addE, goneL] at H
      refine nl_ <| th_n ⟨HS6390, ?_⟩
      refine dn tbok (by kernel_rfl) [9, 10] [] [(93, .bool ((r6040 : Int) == r6071))] (fun w_ => []) 17 E (fun _ _ => by kernel_rfl) (by kernel_rfl) (fun w_ hS_ => trivial) (by kernel_rfl) HS6390 ?_
      clear E; intro a E
      replace E := E.same (t := 93) (u := .bool true) rfl (congrArg Value.bool (beq_iff_eq.2 h6080))
      refine dn tbok (by kernel_rfl) [11, 13] [] [(94, .pointer (some ⟨g2143, 0, none⟩)), (96, .pointer (some ⟨g2156, 0, none⟩))] (fun w_ => []) 15 E (fun _ _ => by kernel_rfl) (by kernel_rfl) (fun w_ hS_ => trivial) (by kernel_rfl) HS6390 ?_
      clear E; intro a E
      refine wpAnyH_all (rs := [12]) (by kernel_rfl) (by simp) ?_
      refine all1 ?_
      refine wpOp_of_list rfl ?_
      obtain ⟨Fa6426, Hc6427, hb6428⟩ := H.call [16, 15] [(0, false)] rfl rfl ⟨flat_plain, trivial⟩
      refine e_call E rfl rfl Try.func13 rfl rfl rfl (watch_Watch_State_calls g2143 b92 0 A2146 c2147 x95.1 x2172.2.1  Hc6427 h6082) ?_
      intro v6434 w6433 a hR6435 E_
      obtain ⟨x_, hr_, rfl, HR6437⟩ := hR6435
      subst hr_
      replace E := E_ _ rfl; clear E_
      obtain ⟨H_, hc6436⟩ := hb6428 _ _ HR6437 rfl
      replace HS6390 := HS6390.trans hc6436 (fun k_ hk_ h_ => h_.elim (fun h_ => by have hs_ := HS6390.size; exfalso; omega) (fun h_ => h_.elim (fun h_ => (fun _ _ h_ => Or.inr (Or.inl h_)) k_ hk_ h_) (fun h_ => h_.elim (fun h_ => (fun _ _ h_ => Or.inl h_) k_ hk_ h_) (fun h_ => h_.elim))))
      replace H := H_; clear H_; try dsimp only [setn, addE, goneL] at H
      refine nl_ <| th_n ⟨HS6390, ?_⟩
      refine wpAnyH_all (rs := [14]) (by kernel_rfl) (by simp) ?_
      refine all1 ?_
      refine wpOp_of_list rfl ?_
      obtain ⟨Fa6440, Hc6441, hb6442⟩ := H.call [17] [(6, false), (7, false), (8, false), (11, false)] rfl rfl trivial
      refine e_call E rfl rfl Try.func41 rfl rfl rfl (ref21_Watch_State_calls g2156 A1 c2 A5 c6 A9 c10 A2159 c2160 aProps aAccept aGuard aNodes x2172.2.2.2 hk5931 hk5932 hk5933 hk5935 Hc6441 h6098) ?_
      intro v6448 w6447 a hR6449 E_
      obtain ⟨x_, hr_, rfl, HR6451⟩ := hR6449
      subst hr_
      replace E := E_ _ rfl; clear E_
      obtain ⟨H_, hc6450⟩ := hb6442 _ _ HR6451 rfl
      replace HS6390 := HS6390.trans hc6450 (fun k_ hk_ h_ => h_.elim (fun h_ => by have hs_ := HS6390.size; exfalso; omega) (fun h_ => h_.elim (fun h_ => (fun _ _ h_ => Or.inr (Or.inr (Or.inl h_))) k_ hk_ h_) (fun h_ => h_.elim)))
      replace H := H_; clear H_; try dsimp only [setn, addE, goneL] at H
      refine nl_ <| th_n ⟨HS6390, ?_⟩
      refine dn tbok (by kernel_rfl) [15, 16, 17] [] [(100, .bool ((r6081 : Int) == r6097))] (fun w_ => []) 10 E (fun _ _ => by kernel_rfl) (by kernel_rfl) (fun w_ hS_ => trivial) (by kernel_rfl) HS6390 ?_
      clear E; intro a E
      replace E := E.same (t := 100) (u := .bool false) rfl (congrArg Value.bool (beq_eq_false_iff_ne.2 h6112))
      refine dn tbok (by kernel_rfl) [18, 19, 20, 21, 22, 23, 24, 25, 26, 27] [] [(6, .bool false)] (fun w_ => []) 0 E (fun _ _ => by kernel_rfl) (by kernel_rfl) (fun w_ hS_ => trivial) (by kernel_rfl) HS6390 ?_
      clear E; intro a E
      refine dr_done (by kernel_rfl) ?_
      exact .inl ⟨rfl, E.pk, H.sel [0, 1, 2, 18, 19, 5, 6, 7, 8, 9, 10, 11, 20, 13] rfl⟩
     refine wpOp_of_list rfl ?_
     obtain ⟨Fa6453, Hc6454, hb6455⟩ := H.call [12] [(6, false), (7, false), (8, false), (11, false)] rfl rfl trivial
     refine e_call E rfl rfl Try.func41 rfl rfl rfl (ref21_Watch_State_calls g2156 A1 c2 A5 c6 A9 c10 A2159 c2160 aProps aAccept aGuard aNodes x2172.2.2.2 hk5931 hk5932 hk5933 hk5935 Hc6454 h6057) ?_
     intro v6461 w6460 a hR6462 E_
     obtain ⟨x_, hr_, rfl, HR6464⟩ := hR6462
     subst hr_
     replace E := E_ _ rfl; clear E_
     obtain ⟨H_, hc6463⟩ := hb6455 _ _ HR6464 rfl
     replace HS6390 := HS6390.trans hc6463 (fun k_ hk_ h_ => h_.elim (fun h_ => by have hs_ := HS6390.size; exfalso; omega) (fun h_ => h_.elim (fun h_ => (fun _ _ h_ => Or.inr (Or.inr (Or.inl h_))) k_ hk_ h_) (fun h_ => h_.elim)))
     replace H := H_; clear H_; try dsimp only [setn, addE, goneL] at H
     refine nl_ <| th_n ⟨HS6390, ?_⟩
     refine wpAnyH_all (rs := [5]) (by kernel_rfl) (by simp) ?_
     refine all1 ?_
     refine wpOp_of_list rfl ?_
     refine vq 1 [.agg #[.int .i64 aProps, .slice A1 aAccept.length c2, .slice A5 aGuard.length c6, .slice A9 aNodes.length c10]] [(88, .agg #[.int .i64 aProps, .slice A1 aAccept.length c2, .slice A5 aGuard.length c6, .slice A9 aNodes.length c10])] [cellsAt w6460 g2156 (0) [.int .i64 aProps, .slice A1 aAccept.length c2, .slice A5 aGuard.length c6, .slice A9 aNodes.length c10]] E ((H.box 17 rfl).sub 0 _ rfl) ?_
     clear E; intro a E
     refine nl_ <| th_n ⟨HS6390, ?_⟩
     refine wpAnyH_all (rs := [8]) (by kernel_rfl) (by simp) ?_
     refine all1 ?_
     refine wpOp_of_list rfl ?_
     obtain ⟨Fa6466, Hc6467, hb6468⟩ := H.call [] [(6, false), (7, false), (8, false)] rfl rfl trivial
     refine e_call E rfl rfl Try.func40 rfl rfl rfl (ref21_Verdict_calls A1 c2 A5 c6 A9 c10 aProps aAccept aGuard aNodes r6056 hk5931 hk5932 hk5933 Hc6467 h6072) ?_
     rintro v6469 w6470 a ⟨rfl, HR6471⟩ E_
     replace E := E_ _ rfl; clear E_
     obtain ⟨H_, hc6472⟩ := hb6468 _ _ HR6471 rfl
     replace HS6390 := HS6390.ext (callS_ext hc6472)
     replace H := H_; clear H_; try dsimp only [setn, addE, goneL] at H
     refine nl_ <| th_n ⟨HS6390, ?_⟩
     refine dn tbok (by kernel_rfl) [9, 10] [] [(93, .bool ((r6040 : Int) == r6071))] (fun w_ => []) 17 E (fun _ _ => by kernel_rfl) (by kernel_rfl) (fun w_ hS_ => trivial) (by kernel_rfl) HS6390 ?_
     clear E; intro a E
     replace E := E.same (t := 93) (u := .bool true) rfl (congrArg Value.bool (beq_iff_eq.2 h6080))
     refine dn tbok (by kernel_rfl) [11, 13] [] [(94, .pointer (some ⟨g2143, 0, none⟩)), (96, .pointer (some ⟨g2156, 0, none⟩))] (fun w_ => []) 15 E (fun _ _ => by kernel_rfl) (by kernel_rfl) (fun w_ hS_ => trivial) (by kernel_rfl) HS6390 ?_
     clear E; intro a E
     refine wpAnyH_all (rs := [12]) (by kernel_rfl) (by simp) ?_
     refine all1 ?_
     refine wpOp_of_list rfl ?_
     obtain ⟨Fa6473, Hc6474, hb6475⟩ := H.call [16, 15] [(0, false)] rfl rfl ⟨flat_plain, trivial⟩
     refine e_call E rfl rfl Try.func13 rfl rfl rfl (watch_Watch_State_calls g2143 b92 0 A2146 c2147 x95.1 x2172.2.1  Hc6474 h6082) ?_
     intro v6481 w6480 a hR6482 E_
     obtain ⟨x_, hr_, rfl, HR6484⟩ := hR6482
     subst hr_
     replace E := E_ _ rfl; clear E_
     obtain ⟨H_, hc6483⟩ := hb6475 _ _ HR6484 rfl
     replace HS6390 := HS6390.trans hc6483 (fun k_ hk_ h_ => h_.elim (fun h_ => by have hs_ := HS6390.size; exfalso; omega) (fun h_ => h_.elim (fun h_ => (fun _ _ h_ => Or.inr (Or.inl h_)) k_ hk_ h_) (fun h_ => h_.elim (fun h_ => (fun _ _ h_ => Or.inl h_) k_ hk_ h_) (fun h_ => h_.elim))))
     replace H := H_; clear H_; try dsimp only [setn, addE, goneL] at H
     refine nl_ <| th_n ⟨HS6390, ?_⟩
     refine wpAnyH_all (rs := [14]) (by kernel_rfl) (by simp) ?_
     refine all1 ?_
     refine wpOp_of_list rfl ?_
     obtain ⟨Fa6487, Hc6488, hb6489⟩ := H.call [17] [(6, false), (7, false), (8, false), (11, false)] rfl rfl trivial
     refine e_call E rfl rfl Try.func41 rfl rfl rfl (ref21_Watch_State_calls g2156 A1 c2 A5 c6 A9 c10 A2159 c2160 aProps aAccept aGuard aNodes x2172.2.2.2 hk5931 hk5932 hk5933 hk5935 Hc6488 h6098) ?_
     intro v6495 w6494 a hR6496 E_
     obtain ⟨x_, hr_, rfl, HR6498⟩ := hR6496
     subst hr_
     replace E := E_ _ rfl; clear E_
     obtain ⟨H_, hc6497⟩ := hb6489 _ _ HR6498 rfl
     replace HS6390 := HS6390.trans hc6497 (fun k_ hk_ h_ => h_.elim (fun h_ => by have hs_ := HS6390.size; exfalso; omega) (fun h_ => h_.elim (fun h_ => (fun _ _ h_ => Or.inr (Or.inr (Or.inl h_))) k_ hk_ h_) (fun h_ => h_.elim)))
     replace H := H_; clear H_; try dsimp only [setn, addE, goneL] at H
     refine nl_ <| th_n ⟨HS6390, ?_⟩
     refine dn tbok (by kernel_rfl) [15, 16, 17] [] [(100, .bool ((r6081 : Int) == r6097))] (fun w_ => []) 10 E (fun _ _ => by kernel_rfl) (by kernel_rfl) (fun w_ hS_ => trivial) (by kernel_rfl) HS6390 ?_
     clear E; intro a E
     replace E := E.same (t := 100) (u := .bool false) rfl (congrArg Value.bool (beq_eq_false_iff_ne.2 h6112))
     refine dn tbok (by kernel_rfl) [18, 19, 20, 21, 22, 23, 24, 25, 26, 27] [] [(6, .bool false)] (fun w_ => []) 0 E (fun _ _ => by kernel_rfl) (by kernel_rfl) (fun w_ hS_ => trivial) (by kernel_rfl) HS6390 ?_
     clear E; intro a E
     refine dr_done (by kernel_rfl) ?_
     exact .inl ⟨rfl, E.pk, H.sel [0, 1, 2, 18, 19, 5, 6, 7, 8, 9, 10, 11, 20, 13] rfl⟩
    refine wpOp_of_list rfl ?_
    refine vq 1 [.agg #[.int .i64 aProps, .slice A1 aAccept.length c2, .slice A5 aGuard.length c6, .slice A9 aNodes.length c10]] [(88, .agg #[.int .i64 aProps, .slice A1 aAccept.length c2, .slice A5 aGuard.length c6, .slice A9 aNodes.length c10])] [cellsAt w6388 g2156 (0) [.int .i64 aProps, .slice A1 aAccept.length c2, .slice A5 aGuard.length c6, .slice A9 aNodes.length c10]] E ((H.box 12 rfl).sub 0 _ rfl) ?_
    clear E; intro a E
    refine nl_ <| th_n ⟨HS6390, ?_⟩
    refine wpAnyH_all (rs := [1]) (by kernel_rfl) (by simp) ?_
    refine all1 ?_
    refine wpOp_of_list rfl ?_
    obtain ⟨Fa6500, Hc6501, hb6502⟩ := H.call [4, 3] [(0, false)] rfl rfl ⟨flat_plain, trivial⟩
    refine e_call E rfl rfl Try.func12 rfl rfl rfl (watch_Watch_Verdict_calls g2143 b92 0 A2146 c2147 x95.1 x2172.2.1  Hc6501 h6041) ?_
    intro v6508 w6507 a hR6509 E_
    obtain ⟨x_, hr_, rfl, HR6511⟩ := hR6509
    subst hr_
    replace E := E_ _ rfl; clear E_
    obtain ⟨H_, hc6510⟩ := hb6502 _ _ HR6511 rfl
    replace HS6390 := HS6390.trans hc6510 (fun k_ hk_ h_ => h_.elim (fun h_ => by have hs_ := HS6390.size; exfalso; omega) (fun h_ => h_.elim (fun h_ => (fun _ _ h_ => Or.inr (Or.inl h_)) k_ hk_ h_) (fun h_ => h_.elim (fun h_ => (fun _ _ h_ => Or.inl h_) k_ hk_ h_) (fun h_ => h_.elim))))
    replace H := H_; clear H_; try dsimp only [setn, addE, goneL] at H
    refine nl_ <| th_n ⟨HS6390, ?_⟩
    refine wpAnyH_all (rs := [7]) (by kernel_rfl) (by simp) ?_
    refine all1 ?_
    refine wpOp_of_list rfl ?_
    obtain ⟨Fa6514, Hc6515, hb6516⟩ := H.call [12] [(6, false), (7, false), (8, false), (11, false)] rfl rfl trivial
    refine e_call E rfl rfl Try.func41 rfl rfl rfl (ref21_Watch_State_calls g2156 A1 c2 A5 c6 A9 c10 A2159 c2160 aProps aAccept aGuard aNodes x2172.2.2.2 hk5931 hk5932 hk5933 hk5935 Hc6515 h6057) ?_
    intro v6522 w6521 a hR6523 E_
    obtain ⟨x_, hr_, rfl, HR6525⟩ := hR6523
    subst hr_
    replace E := E_ _ rfl; clear E_
    obtain ⟨H_, hc6524⟩ := hb6516 _ _ HR6525 rfl
    replace HS6390 := HS6390.trans hc6524 (fun k_ hk_ h_ => h_.elim (fun h_ => by have hs_ := HS6390.size; exfalso; omega) (fun h_ => h_.elim (fun h_ => (fun _ _ h_ => Or.inr (Or.inr (Or.inl h_))) k_ hk_ h_) (fun h_ => h_.elim)))
    replace H := H_; clear H_; try dsimp only [setn, addE, goneL] at H
    refine nl_ <| th_n ⟨HS6390, ?_⟩
    refine wpAnyH_all (rs := [8]) (by kernel_rfl) (by simp) ?_
    refine all1 ?_
    refine wpOp_of_list rfl ?_
    obtain ⟨Fa6527, Hc6528, hb6529⟩ := H.call [] [(6, false), (7, false), (8, false)] rfl rfl trivial
    refine e_call E rfl rfl Try.func40 rfl rfl rfl (ref21_Verdict_calls A1 c2 A5 c6 A9 c10 aProps aAccept aGuard aNodes r6056 hk5931 hk5932 hk5933 Hc6528 h6072) ?_
    rintro v6530 w6531 a ⟨rfl, HR6532⟩ E_
    replace E := E_ _ rfl; clear E_
    obtain ⟨H_, hc6533⟩ := hb6529 _ _ HR6532 rfl
    replace HS6390 := HS6390.ext (callS_ext hc6533)
    replace H := H_; clear H_; try dsimp only [setn, addE, goneL] at H
    refine nl_ <| th_n ⟨HS6390, ?_⟩
    refine dn tbok (by kernel_rfl) [9, 10] [] [(93, .bool ((r6040 : Int) == r6071))] (fun w_ => []) 17 E (fun _ _ => by kernel_rfl) (by kernel_rfl) (fun w_ hS_ => trivial) (by kernel_rfl) HS6390 ?_
    clear E; intro a E
    replace E := E.same (t := 93) (u := .bool true) rfl (congrArg Value.bool (beq_iff_eq.2 h6080))
    refine dn tbok (by kernel_rfl) [11, 13] [] [(94, .pointer (some ⟨g2143, 0, none⟩)), (96, .pointer (some ⟨g2156, 0, none⟩))] (fun w_ => []) 15 E (fun _ _ => by kernel_rfl) (by kernel_rfl) (fun w_ hS_ => trivial) (by kernel_rfl) HS6390 ?_
    clear E; intro a E
    refine wpAnyH_all (rs := [12]) (by kernel_rfl) (by simp) ?_
    refine all1 ?_
    refine wpOp_of_list rfl ?_
    obtain ⟨Fa6534, Hc6535, hb6536⟩ := H.call [16, 15] [(0, false)] rfl rfl ⟨flat_plain, trivial⟩
    refine e_call E rfl rfl Try.func13 rfl rfl rfl (watch_Watch_State_calls g2143 b92 0 A2146 c2147 x95.1 x2172.2.1  Hc6535 h6082) ?_
    intro v6542 w6541 a hR6543 E_
    obtain ⟨x_, hr_, rfl, HR6545⟩ := hR6543
    subst hr_
    replace E := E_ _ rfl; clear E_
    obtain ⟨H_, hc6544⟩ := hb6536 _ _ HR6545 rfl
    replace HS6390 := HS6390.trans hc6544 (fun k_ hk_ h_ => h_.elim (fun h_ => by have hs_ := HS6390.size; exfalso; omega) (fun h_ => h_.elim (fun h_ => (fun _ _ h_ => Or.inr (Or.inl h_)) k_ hk_ h_) (fun h_ => h_.elim (fun h_ => (fun _ _ h_ => Or.inl h_) k_ hk_ h_) (fun h_ => h_.elim))))
    replace H := H_; clear H_; try dsimp only [setn, addE, goneL] at H
    refine nl_ <| th_n ⟨HS6390, ?_⟩
    refine wpAnyH_all (rs := [14]) (by kernel_rfl) (by simp) ?_
    refine all1 ?_
    refine wpOp_of_list rfl ?_
    obtain ⟨Fa6548, Hc6549, hb6550⟩ := H.call [17] [(6, false), (7, false), (8, false), (11, false)] rfl rfl trivial
    refine e_call E rfl rfl Try.func41 rfl rfl rfl (ref21_Watch_State_calls g2156 A1 c2 A5 c6 A9 c10 A2159 c2160 aProps aAccept aGuard aNodes x2172.2.2.2 hk5931 hk5932 hk5933 hk5935 Hc6549 h6098) ?_
    intro v6556 w6555 a hR6557 E_
    obtain ⟨x_, hr_, rfl, HR6559⟩ := hR6557
    subst hr_
    replace E := E_ _ rfl; clear E_
    obtain ⟨H_, hc6558⟩ := hb6550 _ _ HR6559 rfl
    replace HS6390 := HS6390.trans hc6558 (fun k_ hk_ h_ => h_.elim (fun h_ => by have hs_ := HS6390.size; exfalso; omega) (fun h_ => h_.elim (fun h_ => (fun _ _ h_ => Or.inr (Or.inr (Or.inl h_))) k_ hk_ h_) (fun h_ => h_.elim)))
    replace H := H_; clear H_; try dsimp only [setn, addE, goneL] at H
    refine nl_ <| th_n ⟨HS6390, ?_⟩
    refine dn tbok (by kernel_rfl) [15, 16, 17] [] [(100, .bool ((r6081 : Int) == r6097))] (fun w_ => []) 10 E (fun _ _ => by kernel_rfl) (by kernel_rfl) (fun w_ hS_ => trivial) (by kernel_rfl) HS6390 ?_
    clear E; intro a E
    replace E := E.same (t := 100) (u := .bool false) rfl (congrArg Value.bool (beq_eq_false_iff_ne.2 h6112))
    refine dn tbok (by kernel_rfl) [18, 19, 20, 21, 22, 23, 24, 25, 26, 27] [] [(6, .bool false)] (fun w_ => []) 0 E (fun _ _ => by kernel_rfl) (by kernel_rfl) (fun w_ hS_ => trivial) (by kernel_rfl) HS6390 ?_
    clear E; intro a E
    refine dr_done (by kernel_rfl) ?_
    exact .inl ⟨rfl, E.pk, H.sel [0, 1, 2, 18, 19, 5, 6, 7, 8, 9, 10, 11, 20, 13] rfl⟩
   clear E H; rintro a w6387 ⟨E, H⟩
   have hx_ := Option.some.inj hP
   exact .inl ⟨rfl, false, E.pk, H.sel (up 14) rfl, hx_.symm⟩
  replace hP := ite_f h6080 hP
  refine meet_cut (fun a w6561 => Fr a 165 [(6, .bool false)] ∧ Hp S Fa w0 w6561 [.ro true cS78 (some ⟨b92, 0, none⟩) ([x95.1]), .row true (cInt .i64) 3 A2140 c2141 x2172.1, .box g2137 27 [.pointer (some ⟨b92, 0, none⟩), .slice A2140 x2172.1.length c2141], .row true (cInt .i64) 3 A2146 c2147 x2172.2.1, .box g2143 27 [.pointer (some ⟨b92, 0, none⟩), .slice A2146 x2172.2.1.length c2147], .box g773 23 [.pointer (some ⟨g2137, 0, none⟩), .pointer (some ⟨g2143, 0, none⟩)], .ro false cBool A1 aAccept, .ro false (cInt .i64) A5 aGuard, .ro false cNode A9 aNodes, .ro false (cInt .u8) A2152 x2172.2.2.1, .box g2149 67 [.int .i64 aProps, .slice A1 aAccept.length c2, .slice A5 aGuard.length c6, .slice A9 aNodes.length c10, .slice A2152 x2172.2.2.1.length c2153], .ro false (cInt .u8) A2159 x2172.2.2.2, .box g2156 67 [.int .i64 aProps, .slice A1 aAccept.length c2, .slice A5 aGuard.length c6, .slice A9 aNodes.length c10, .slice A2159 x2172.2.2.2.length c2160], .box g783 62 [.pointer (some ⟨g2149, 0, none⟩), .pointer (some ⟨g2156, 0, none⟩)]]) ?_ ?_
  ·
   have HR6565 := H
   refine dr_start (S := fun w_ => Chg (atL [.row true (cInt .i64) 3 A2146 c2147 x2172.2.1, .box g2143 27 [.pointer (some ⟨b92, 0, none⟩), .slice A2146 x2172.2.1.length c2147], .box g2156 67 [.int .i64 aProps, .slice A1 aAccept.length c2, .slice A5 aGuard.length c6, .slice A9 aNodes.length c10, .slice A2159 x2172.2.2.2.length c2160]]) w5941 w_) (by kernel_rfl) ?_
   intro w6562 hc6563
   have HS6564 : Chg (atL [.row true (cInt .i64) 3 A2146 c2147 x2172.2.1, .box g2143 27 [.pointer (some ⟨b92, 0, none⟩), .slice A2146 x2172.2.1.length c2147], .box g2156 67 [.int .i64 aProps, .slice A1 aAccept.length c2, .slice A5 aGuard.length c6, .slice A9 aNodes.length c10, .slice A2159 x2172.2.2.2.length c2160]]) w5941 w6562 := hc6563.mono (fun _ _ h_ => h_.elim)
   replace H := H.ext hc6563
   refine dn tbok (by kernel_rfl) [0, 2, 3, 4, 6] [] [(83, .pointer (some ⟨g2143, 0, none⟩)), (87, .pointer (some ⟨g2156, 0, none⟩)), (89, .pointer (some ⟨g2156, 0, none⟩))] (fun w_ => []) 23 E (fun _ _ => by kernel_rfl) (by kernel_rfl) (fun w_ hS_ => trivial) (by kernel_rfl) HS6564 ?_
   clear E; intro a E
   refine wpAnyH_all (rs := [1, 5]) (by kernel_rfl) (by simp) ?_
   refine all2 ?_ ?_
   ·
    refine wpOp_of_list rfl ?_
    obtain ⟨Fa6566, Hc6567, hb6568⟩ := H.call [4, 3] [(0, false)] rfl rfl ⟨flat_plain, trivial⟩
    refine e_call E rfl rfl Try.func12 rfl rfl rfl (watch_Watch_Verdict_calls g2143 b92 0 A2146 c2147 x95.1 x2172.2.1  Hc6567 h6041) ?_
    intro v6574 w6573 a hR6575 E_
    obtain ⟨x_, hr_, rfl, HR6577⟩ := hR6575
    subst hr_
    replace E := E_ _ rfl; clear E_
    obtain ⟨H_, hc6576⟩ := hb6568 _ _ HR6577 rfl
    replace HS6564 := HS6564.trans hc6576 (fun k_ hk_ h_ => h_.elim (fun h_ => by have hs_ := HS6564.size; exfalso; omega) (fun h_ => h_.elim (fun h_ => (fun _ _ h_ => Or.inr (Or.inl h_)) k_ hk_ h_) (fun h_ => h_.elim (fun h_ => (fun _ _ h_ => Or.inl h_) k_ hk_ h_) (fun h_ => h_.elim))))
    replace H := H_; clear H_; try dsimp only [setn, addE, goneL] at H
    refine nl_ <| th_n ⟨HS6564, ?_⟩
    refine wpAnyH_all (rs := [5, 7]) (by kernel_rfl) (by simp) ?_
    refine all2 ?_ ?_
    ·
     refine wpOp_of_list rfl ?_
     refine vq 1 [.agg #[.int .i64 aProps, .slice A1 aAccept.length c2, .slice A5 aGuard.length c6, .slice A9 aNodes.length c10]] [(88, .agg #[.int .i64 aProps, .slice A1 aAccept.length c2, .slice A5 aGuard.length c6, .slice A9 aNodes.length c10])] [cellsAt w6573 g2156 (0) [.int .i64 aProps, .slice A1 aAccept.length c2, .slice A5 aGuard.length c6, .slice A9 aNodes.length c10]] E ((H.box 12 rfl).sub 0 _ rfl) ?_
     clear E; intro a E
     refine nl_ <| th_n ⟨HS6564, ?_⟩
     refine wpAnyH_all (rs := [7]) (by kernel_rfl) (by simp) ?_
     refine all1 ?_
     refine wpOp_of_list rfl ?_
     obtain ⟨Fa6580, Hc6581, hb6582⟩ := H.call [12] [(6, false), (7, false), (8, false), (11, false)] rfl rfl trivial
     refine e_call E rfl rfl Try.func41 rfl rfl rfl (ref21_Watch_State_calls g2156 A1 c2 A5 c6 A9 c10 A2159 c2160 aProps aAccept aGuard aNodes x2172.2.2.2 hk5931 hk5932 hk5933 hk5935 Hc6581 h6057) ?_
     intro v6588 w6587 a hR6589 E_
     obtain ⟨x_, hr_, rfl, HR6591⟩ := hR6589
     subst hr_
     replace E := E_ _ rfl; clear E_
     obtain ⟨H_, hc6590⟩ := hb6582 _ _ HR6591 rfl
     replace HS6564 := HS6564.trans hc6590 (fun k_ hk_ h_ => h_.elim (fun h_ => by have hs_ := HS6564.size; exfalso; omega) (fun h_ => h_.elim (fun h_ => (fun _ _ h_ => Or.inr (Or.inr (Or.inl h_))) k_ hk_ h_) (fun h_ => h_.elim)))
     replace H := H_; clear H_; try dsimp only [setn, addE, goneL] at H
     refine nl_ <| th_n ⟨HS6564, ?_⟩
     refine wpAnyH_all (rs := [8]) (by kernel_rfl) (by simp) ?_
     refine all1 ?_
     refine wpOp_of_list rfl ?_
     obtain ⟨Fa6593, Hc6594, hb6595⟩ := H.call [] [(6, false), (7, false), (8, false)] rfl rfl trivial
     refine e_call E rfl rfl Try.func40 rfl rfl rfl (ref21_Verdict_calls A1 c2 A5 c6 A9 c10 aProps aAccept aGuard aNodes r6056 hk5931 hk5932 hk5933 Hc6594 h6072) ?_
     rintro v6596 w6597 a ⟨rfl, HR6598⟩ E_
     replace E := E_ _ rfl; clear E_
     obtain ⟨H_, hc6599⟩ := hb6595 _ _ HR6598 rfl
     replace HS6564 := HS6564.ext (callS_ext hc6599)
     replace H := H_; clear H_; try dsimp only [setn, addE, goneL] at H
     refine nl_ <| th_n ⟨HS6564, ?_⟩
     refine dn tbok (by kernel_rfl) [9, 10] [] [(93, .bool ((r6040 : Int) == r6071))] (fun w_ => []) 17 E (fun _ _ => by kernel_rfl) (by kernel_rfl) (fun w_ hS_ => trivial) (by kernel_rfl) HS6564 ?_
     clear E; intro a E
     replace E := E.same (t := 93) (u := .bool false) rfl (congrArg Value.bool (beq_eq_false_iff_ne.2 h6080))
     refine dn tbok (by kernel_rfl) [11, 12, 13, 14, 15, 16, 17, 18, 19, 20, 21, 22, 23, 24, 25, 26, 27] [] [(6, .bool false)] (fun w_ => []) 0 E (fun _ _ => by kernel_rfl) (by kernel_rfl) (fun w_ hS_ => trivial) (by kernel_rfl) HS6564 ?_
     clear E; intro a E
     refine dr_done (by kernel_rfl) ?_
     exact .inl ⟨rfl, E.pk, H.sel [0, 1, 2, 15, 16, 5, 6, 7, 8, 9, 10, 11, 17, 13] rfl⟩
    refine wpOp_of_list rfl ?_
    obtain ⟨Fa6600, Hc6601, hb6602⟩ := H.call [12] [(6, false), (7, false), (8, false), (11, false)] rfl rfl trivial
    refine e_call E rfl rfl Try.func41 rfl rfl rfl (ref21_Watch_State_calls g2156 A1 c2 A5 c6 A9 c10 A2159 c2160 aProps aAccept aGuard aNodes x2172.2.2.2 hk5931 hk5932 hk5933 hk5935 Hc6601 h6057) ?_
    intro v6608 w6607 a hR6609 E_
    obtain ⟨x_, hr_, rfl, HR6611⟩ := hR6609
    subst hr_
    replace E := E_ _ rfl; clear E_
    obtain ⟨H_, hc6610⟩ := hb6602 _ _ HR6611 rfl
    replace HS6564 := HS6564.trans hc6610 (fun k_ hk_ h_ => h_.elim (fun h_ => by have hs_ := HS6564.size; exfalso; omega) (fun h_ => h_.elim (fun h_ => (fun _ _ h_ => Or.inr (Or.inr (Or.inl h_))) k_ hk_ h_) (fun h_ => h_.elim)))
    replace H := H_; clear H_; try dsimp only [setn, addE, goneL] at H
    refine nl_ <| th_n ⟨HS6564, ?_⟩
    refine wpAnyH_all (rs := [5]) (by kernel_rfl) (by simp) ?_
    refine all1 ?_
    refine wpOp_of_list rfl ?_
    refine vq 1 [.agg #[.int .i64 aProps, .slice A1 aAccept.length c2, .slice A5 aGuard.length c6, .slice A9 aNodes.length c10]] [(88, .agg #[.int .i64 aProps, .slice A1 aAccept.length c2, .slice A5 aGuard.length c6, .slice A9 aNodes.length c10])] [cellsAt w6607 g2156 (0) [.int .i64 aProps, .slice A1 aAccept.length c2, .slice A5 aGuard.length c6, .slice A9 aNodes.length c10]] E ((H.box 17 rfl).sub 0 _ rfl) ?_
    clear E; intro a E
    refine nl_ <| th_n ⟨HS6564, ?_⟩
    refine wpAnyH_all (rs := [8]) (by kernel_rfl) (by simp) ?_
    refine all1 ?_
    refine wpOp_of_list rfl ?_
    obtain ⟨Fa6613, Hc6614, hb6615⟩ := H.call [] [(6, false), (7, false), (8, false)] rfl rfl trivial
    refine e_call E rfl rfl Try.func40 rfl rfl rfl (ref21_Verdict_calls A1 c2 A5 c6 A9 c10 aProps aAccept aGuard aNodes r6056 hk5931 hk5932 hk5933 Hc6614 h6072) ?_
    rintro v6616 w6617 a ⟨rfl, HR6618⟩ E_
    replace E := E_ _ rfl; clear E_
    obtain ⟨H_, hc6619⟩ := hb6615 _ _ HR6618 rfl
    replace HS6564 := HS6564.ext (callS_ext hc6619)
    replace H := H_; clear H_; try dsimp only [setn, addE, goneL] at H
    refine nl_ <| th_n ⟨HS6564, ?_⟩
    refine dn tbok (by kernel_rfl) [9, 10] [] [(93, .bool ((r6040 : Int) == r6071))] (fun w_ => []) 17 E (fun _ _ => by kernel_rfl) (by kernel_rfl) (fun w_ hS_ => trivial) (by kernel_rfl) HS6564 ?_
    clear E; intro a E
    replace E := E.same (t := 93) (u := .bool false) rfl (congrArg Value.bool (beq_eq_false_iff_ne.2 h6080))
    refine dn tbok (by kernel_rfl) [11, 12, 13, 14, 15, 16, 17, 18, 19, 20, 21, 22, 23, 24, 25, 26, 27] [] [(6, .bool false)] (fun w_ => []) 0 E (fun _ _ => by kernel_rfl) (by kernel_rfl) (fun w_ hS_ => trivial) (by kernel_rfl) HS6564 ?_
    clear E; intro a E
    refine dr_done (by kernel_rfl) ?_
    exact .inl ⟨rfl, E.pk, H.sel [0, 1, 2, 15, 16, 5, 6, 7, 8, 9, 10, 11, 17, 13] rfl⟩
   refine wpOp_of_list rfl ?_
   refine vq 1 [.agg #[.int .i64 aProps, .slice A1 aAccept.length c2, .slice A5 aGuard.length c6, .slice A9 aNodes.length c10]] [(88, .agg #[.int .i64 aProps, .slice A1 aAccept.length c2, .slice A5 aGuard.length c6, .slice A9 aNodes.length c10])] [cellsAt w6562 g2156 (0) [.int .i64 aProps, .slice A1 aAccept.length c2, .slice A5 aGuard.length c6, .slice A9 aNodes.length c10]] E ((H.box 12 rfl).sub 0 _ rfl) ?_
   clear E; intro a E
   refine nl_ <| th_n ⟨HS6564, ?_⟩
   refine wpAnyH_all (rs := [1]) (by kernel_rfl) (by simp) ?_
   refine all1 ?_
   refine wpOp_of_list rfl ?_
   obtain ⟨Fa6620, Hc6621, hb6622⟩ := H.call [4, 3] [(0, false)] rfl rfl ⟨flat_plain, trivial⟩
   refine e_call E rfl rfl Try.func12 rfl rfl rfl (watch_Watch_Verdict_calls g2143 b92 0 A2146 c2147 x95.1 x2172.2.1  Hc6621 h6041) ?_
   intro v6628 w6627 a hR6629 E_
   obtain ⟨x_, hr_, rfl, HR6631⟩ := hR6629
   subst hr_
   replace E := E_ _ rfl; clear E_
   obtain ⟨H_, hc6630⟩ := hb6622 _ _ HR6631 rfl
   replace HS6564 := HS6564.trans hc6630 (fun k_ hk_ h_ => h_.elim (fun h_ => by have hs_ := HS6564.size; exfalso; omega) (fun h_ => h_.elim (fun h_ => (fun _ _ h_ => Or.inr (Or.inl h_)) k_ hk_ h_) (fun h_ => h_.elim (fun h_ => (fun _ _ h_ => Or.inl h_) k_ hk_ h_) (fun h_ => h_.elim))))
   replace H := H_; clear H_; try dsimp only [setn, addE, goneL] at H
   refine nl_ <| th_n ⟨HS6564, ?_⟩
   refine wpAnyH_all (rs := [7]) (by kernel_rfl) (by simp) ?_
   refine all1 ?_
   refine wpOp_of_list rfl ?_
   obtain ⟨Fa6634, Hc6635, hb6636⟩ := H.call [12] [(6, false), (7, false), (8, false), (11, false)] rfl rfl trivial
   refine e_call E rfl rfl Try.func41 rfl rfl rfl (ref21_Watch_State_calls g2156 A1 c2 A5 c6 A9 c10 A2159 c2160 aProps aAccept aGuard aNodes x2172.2.2.2 hk5931 hk5932 hk5933 hk5935 Hc6635 h6057) ?_
   intro v6642 w6641 a hR6643 E_
   obtain ⟨x_, hr_, rfl, HR6645⟩ := hR6643
   subst hr_
   replace E := E_ _ rfl; clear E_
   obtain ⟨H_, hc6644⟩ := hb6636 _ _ HR6645 rfl
   replace HS6564 := HS6564.trans hc6644 (fun k_ hk_ h_ => h_.elim (fun h_ => by have hs_ := HS6564.size; exfalso; omega) (fun h_ => h_.elim (fun h_ => (fun _ _ h_ => Or.inr (Or.inr (Or.inl h_))) k_ hk_ h_) (fun h_ => h_.elim)))
   replace H := H_; clear H_; try dsimp only [setn, addE, goneL] at H
   refine nl_ <| th_n ⟨HS6564, ?_⟩
   refine wpAnyH_all (rs := [8]) (by kernel_rfl) (by simp) ?_
   refine all1 ?_
   refine wpOp_of_list rfl ?_
   obtain ⟨Fa6647, Hc6648, hb6649⟩ := H.call [] [(6, false), (7, false), (8, false)] rfl rfl trivial
   refine e_call E rfl rfl Try.func40 rfl rfl rfl (ref21_Verdict_calls A1 c2 A5 c6 A9 c10 aProps aAccept aGuard aNodes r6056 hk5931 hk5932 hk5933 Hc6648 h6072) ?_
   rintro v6650 w6651 a ⟨rfl, HR6652⟩ E_
   replace E := E_ _ rfl; clear E_
   obtain ⟨H_, hc6653⟩ := hb6649 _ _ HR6652 rfl
   replace HS6564 := HS6564.ext (callS_ext hc6653)
   replace H := H_; clear H_; try dsimp only [setn, addE, goneL] at H
   refine nl_ <| th_n ⟨HS6564, ?_⟩
   refine dn tbok (by kernel_rfl) [9, 10] [] [(93, .bool ((r6040 : Int) == r6071))] (fun w_ => []) 17 E (fun _ _ => by kernel_rfl) (by kernel_rfl) (fun w_ hS_ => trivial) (by kernel_rfl) HS6564 ?_
   clear E; intro a E
   replace E := E.same (t := 93) (u := .bool false) rfl (congrArg Value.bool (beq_eq_false_iff_ne.2 h6080))
   refine dn tbok (by kernel_rfl) [11, 12, 13, 14, 15, 16, 17, 18, 19, 20, 21, 22, 23, 24, 25, 26, 27] [] [(6, .bool false)] (fun w_ => []) 0 E (fun _ _ => by kernel_rfl) (by kernel_rfl) (fun w_ hS_ => trivial) (by kernel_rfl) HS6564 ?_
   clear E; intro a E
   refine dr_done (by kernel_rfl) ?_
   exact .inl ⟨rfl, E.pk, H.sel [0, 1, 2, 15, 16, 5, 6, 7, 8, 9, 10, 11, 17, 13] rfl⟩
  clear E H; rintro a w6561 ⟨E, H⟩
  have hx_ := Option.some.inj hP
  exact .inl ⟨rfl, false, E.pk, H.sel (up 14) rfl, hx_.symm⟩
 clear E H h6036; rintro a w6039 ⟨x6038, E, H, hx_⟩
 subst hx_; have hP := hK6037; clear hK6037
 refine th_n <| wp_ret <| bl_ret <| th_ret ?_
 have hx_ := Option.some.inj hP
 refine ret1 E rfl rfl ?_
 exact ⟨_, rfl, x6035, rfl, H.sel (up 14) rfl, hx_.symm⟩

end Go.V
