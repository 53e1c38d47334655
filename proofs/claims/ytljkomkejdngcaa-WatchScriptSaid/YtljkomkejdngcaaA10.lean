/- Plain functions, and the calls that give them. -/
import Derived.Test.YtljkomkejdngcaaA9
set_option linter.all false
set_option linter.unusedVariables false
set_option linter.unnecessarySimpa false
set_option linter.unusedSimpArgs false
namespace Go.V
open Go Go.Proofs
/-! (*rejoinder/rejoinderref21.Watch).Back -/
def ref21_Watch_Back (N : Nat) (wAProps : Int) (wAAccept : List Bool) (wAGuard : List Int) (wANodes : List Nd) (wT : List Int) : Option (Int × Int × (List Int)) :=
  if ((((List.length wT) : Nat) : Int) : Int) = 0 then
    some (0, 6, wT)
  else
    ask (in64 ((((List.length wT) : Nat) : Int) - 1)) <|
    ask (0 ≤ ((((List.length wT) : Nat) : Int) - 1) ∧ ((((List.length wT) : Nat) : Int) - 1) ≤ (((List.length wT) : Nat) : Int)) <|
    Option.bind (ref21_Watch_State N wAProps wAAccept wAGuard wANodes (List.take (Int.toNat ((((List.length wT) : Nat) : Int) - 1)) wT)) fun r151 =>
    Option.bind (ref21_Verdict N wAProps wAAccept wAGuard wANodes r151) fun r166 =>
    some (r166, 0, List.take (Int.toNat ((((List.length wT) : Nat) : Int) - 1)) wT)
set_option maxRecDepth 100000 in
set_option maxHeartbeats 4000000 in
theorem ref21_Watch_Back_calls {N : Nat} {S Fa : Nat → Prop} {w0 : World} {r : Int × Int × (List Int)} (g1 : Nat) (A3 : Option Addr) (c4 : Nat) (A7 : Option Addr) (c8 : Nat) (A11 : Option Addr) (c12 : Nat) (A15 : Option Addr) (c16 : Nat) (wAProps : Int) (wAAccept : List Bool) (wAGuard : List Int) (wANodes : List Nd) (wT : List Int) (hk5 : List.length wAAccept ≤ c4) (hk9 : List.length wAGuard ≤ c8) (hk13 : List.length wANodes ≤ c12) (hk17 : List.length wT ≤ c16) (H : Hp S Fa w0 w0 [.box g1 67 [.int .i64 wAProps, .slice A3 (List.length wAAccept) c4, .slice A7 (List.length wAGuard) c8, .slice A11 (List.length wANodes) c12, .slice A15 (List.length wT) c16], .ro false cBool A3 wAAccept, .ro false (cInt .i64) A7 wAGuard, .ro false cNode A11 wANodes, .ro false (cInt .u8) A15 wT]) (hP : ref21_Watch_Back N wAProps wAAccept wAGuard wANodes wT = some r) :
    Calls Try.prog 48 #[.pointer (some ⟨g1, 0, none⟩)] w0 fun e w' => ∃ v, e = .returned v ∧ (∃ (x_ : Int × Int × (List Int)) (A23 : Option Addr) (c24 : Nat), r = x_ ∧ v = .tuple #[.int .u8 x_.1, .int .i64 x_.2.1] ∧ List.length x_.2.2 ≤ c24 ∧ Hp S Fa w0 w' [.box g1 67 [.int .i64 wAProps, .slice A3 (List.length wAAccept) c4, .slice A7 (List.length wAGuard) c8, .slice A11 (List.length wANodes) c12, .slice A23 (List.length x_.2.2) c24], .ro false (cInt .u8) A23 x_.2.2]) := by
 refine enterV (n := 31) Try.func48 rfl rfl rfl ?_
 intro a E
 replace E := E.pick [(0, .pointer (some ⟨g1, 0, none⟩))] ⟨rfl, trivial⟩
 rw [ref21_Watch_Back] at hP
 refine wp_seq ?_
 refine wp_region_lit ?_
 refine vn tbok 2 [] [] [] E (by kernel_rfl) (by kernel_rfl) trivial ?_
 clear E; intro a E
 refine wpList_nil ?_
 refine th_n ?_
 refine wp_seq ?_
 refine wp_seq ?_
 refine wp_region_lit ?_
 refine vn tbok 6 [.slice A15 (List.length wT) c16] [(9, .bool (((((List.length wT) : Nat) : Int) : Int) == 0))] [World.cell? w0 ⟨g1, 4, none⟩ = some (.slice A15 (List.length wT) c16)] E (by kernel_rfl) (by kernel_rfl) ((H.box 0 rfl).cell (j := 4) rfl) ?_
 clear E; intro a E
 refine wpList_nil ?_
 refine th_n ?_
 refine E.cases (t := 9) rfl (fun hb_ E_ => ?_) (fun hb_ E_ => ?_)
 ·
  replace E := E_; clear E_
  have h126 : ((((List.length wT) : Nat) : Int) : Int) = 0 := eq_of_beq hb_
  clear hb_; replace hP := ite_t h126 hP
  refine c_true E rfl ?_
  refine wp_seq ?_
  refine wp_region_lit ?_
  refine vn tbok 2 [] [(2, .int .u8 0), (3, .int .i64 6)] [] E (by kernel_rfl) (by kernel_rfl) trivial ?_
  clear E; intro a E
  refine wpList_nil ?_
  refine th_n ?_
  refine wp_ret ?_
  refine th_ret ?_
  obtain rfl := Option.some.inj hP
  refine ret2 E rfl rfl rfl ?_
  exact ⟨_, rfl, ⟨(0, 6, wT), A15, c16, rfl, rfl, hk17, H.sel [0, 4] rfl⟩⟩
 replace E := E_; clear E_
 have h127 : ¬ (((((List.length wT) : Nat) : Int) : Int) = 0) := ne_of_beq_false hb_
 clear hb_; replace hP := ite_f h127 hP
 refine c_false E rfl ?_
 refine wp_skip ?_
 refine th_n ?_
 refine wp_seq ?_
 obtain ⟨g128, hP⟩ := ask_inv hP
 obtain ⟨g129, hP⟩ := ask_inv hP
 refine meet_cut (fun a w138 => ∃ (A135 : Option Addr) (c136 : Nat), Fr a 31 [(0, .pointer (some ⟨g1, 0, none⟩))] ∧ Hp S Fa w0 w138 [.box g1 67 [.int .i64 wAProps, .slice A3 (List.length wAAccept) c4, .slice A7 (List.length wAGuard) c8, .slice A11 (List.length wANodes) c12, .slice A135 (List.length (List.take (Int.toNat ((((List.length wT) : Nat) : Int) - 1)) wT)) c136], .ro false cBool A3 wAAccept, .ro false (cInt .i64) A7 wAGuard, .ro false cNode A11 wANodes, .ro false (cInt .u8) A135 (List.take (Int.toNat ((((List.length wT) : Nat) : Int) - 1)) wT)] ∧ List.length (List.take (Int.toNat ((((List.length wT) : Nat) : Int) - 1)) wT) ≤ c136) ?_ ?_
 ·
  have HR142 := H
  refine dr_start (S := fun w_ => Chg (atL [.box g1 67 [.int .i64 wAProps, .slice A3 (List.length wAAccept) c4, .slice A7 (List.length wAGuard) c8, .slice A11 (List.length wANodes) c12, .slice A15 (List.length wT) c16]]) w0 w_) (by kernel_rfl) ?_
  intro w139 hc140
  have HS141 : Chg (atL [.box g1 67 [.int .i64 wAProps, .slice A3 (List.length wAAccept) c4, .slice A7 (List.length wAGuard) c8, .slice A11 (List.length wANodes) c12, .slice A15 (List.length wT) c16]]) w0 w139 := hc140.mono (fun _ _ h_ => h_.elim)
  replace H := H.ext hc140
  refine dn tbok (by kernel_rfl) [0, 1, 2, 3, 5, 6, 7] [] [(10, .pointer (some ⟨g1, 0, none⟩)), (13, .pointer (some ⟨g1, 4, none⟩)), (17, .pointer (some ⟨g1, 4, none⟩))] (fun w_ => []) 8 E (fun _ _ => by kernel_rfl) (by kernel_rfl) (fun w_ hS_ => trivial) (by kernel_rfl) HS141 ?_
  clear E; intro a E
  refine wpAnyH_all (rs := [4, 8]) (by kernel_rfl) (by simp) ?_
  refine all2 ?_ ?_
  ·
   refine wpOp_of_list rfl ?_
   refine vn tbok 1 [.slice A15 (List.length wT) c16] [(14, .slice A15 (List.length wT) c16)] [World.cell? w139 ⟨g1, 4, none⟩ = some (.slice A15 (List.length wT) c16)] E (by kernel_rfl) (by kernel_rfl) ((H.box 0 rfl).cell (j := 4) rfl) ?_
   clear E; intro a E
   refine wpList_nil ?_
   refine th_n ⟨HS141, ?_⟩
   refine wpAnyH_all (rs := [8]) (by kernel_rfl) (by simp) ?_
   refine all1 ?_
   refine wpOp_of_list rfl ?_
   refine vn tbok 1 [.slice A15 (List.length wT) c16] [(18, .slice A15 (List.length wT) c16)] [World.cell? w139 ⟨g1, 4, none⟩ = some (.slice A15 (List.length wT) c16)] E (by kernel_rfl) (by kernel_rfl) ((H.box 0 rfl).cell (j := 4) rfl) ?_
   clear E; intro a E
   refine wpList_nil ?_
   refine th_n ⟨HS141, ?_⟩
   refine dn tbok (by kernel_rfl) [9, 10] [.int .i64 ((((List.length wT) : Nat) : Int) - 1)] [(20, .int .i64 ((((List.length wT) : Nat) : Int) - 1))] (fun w_ => [IntKind.i64.wrap ((((List.length wT) : Nat) : Int) - 1) = (((List.length wT) : Nat) : Int) - 1]) 4 E (fun _ _ => by kernel_rfl) (by kernel_rfl) (fun w_ hS_ => (wrap_in g128)) (by kernel_rfl) HS141 ?_
   clear E; intro a E
   refine wpAnyH_all (rs := [11]) (by kernel_rfl) (by simp) ?_
   refine all1 ?_
   refine wpOp_of_list rfl ?_
   refine vn tbok 1 [] [(21, .slice A15 (Int.toNat ((((List.length wT) : Nat) : Int) - 1)) c16)] [0 ≤ ((((List.length wT) : Nat) : Int) - 1) ∧ ((((List.length wT) : Nat) : Int) - 1) ≤ ((c16 : Nat) : Int)] E (by kernel_rfl) (by kernel_rfl) (cut_le g129 hk17) ?_
   clear E; intro a E
   have hk144 := take_le (Int.toNat ((((List.length wT) : Nat) : Int) - 1)) hk17
   replace H := H.take 4 rfl (Int.toNat ((((List.length wT) : Nat) : Int) - 1)); try dsimp only [setn, addE, goneL] at H
   replace E := E.same (t := 21) (u := .slice A15 (List.length (List.take (Int.toNat ((((List.length wT) : Nat) : Int) - 1)) wT)) c16) rfl (congrArg (fun n_ => Value.slice A15 n_ c16) (take_len g129))
   refine wpList_nil ?_
   refine th_n ⟨HS141, ?_⟩
   refine dn tbok (by kernel_rfl) [12, 13] [] [(23, .pointer (some ⟨g1, 4, none⟩))] (fun w_ => []) 1 E (fun _ _ => by kernel_rfl) (by kernel_rfl) (fun w_ hS_ => trivial) (by kernel_rfl) HS141 ?_
   clear E; intro a E
   refine wpAnyH_all (rs := [14]) (by kernel_rfl) (by simp) ?_
   refine all1 ?_
   refine wpOp_of_list rfl ?_
   refine h_store (g := g1) (off := 4) H 0 rfl E rfl rfl rfl rfl tbok rfl rfl rfl rfl rfl ?_
   clear E; intro w145 a hc146 H_ E
   replace HS141 := HS141.trans hc146 (fun k_ hk_ h_ => (fun _ _ h_ => Or.inl h_) k_ hk_ h_)
   replace H := H_; clear H_; try dsimp only [setn, addE, goneL] at H
   refine wpList_nil ?_
   refine th_n ⟨HS141, ?_⟩
   refine dr_done (by kernel_rfl) ?_
   exact .inl ⟨rfl, A15, c16, E.pick _ ⟨rfl, trivial⟩, H.sel [0, 1, 2, 3, 5] rfl, hk144⟩
  refine wpOp_of_list rfl ?_
  refine vn tbok 1 [.slice A15 (List.length wT) c16] [(18, .slice A15 (List.length wT) c16)] [World.cell? w139 ⟨g1, 4, none⟩ = some (.slice A15 (List.length wT) c16)] E (by kernel_rfl) (by kernel_rfl) ((H.box 0 rfl).cell (j := 4) rfl) ?_
  clear E; intro a E
  refine wpList_nil ?_
  refine th_n ⟨HS141, ?_⟩
  refine dn tbok (by kernel_rfl) [9, 10] [.int .i64 ((((List.length wT) : Nat) : Int) - 1)] [(20, .int .i64 ((((List.length wT) : Nat) : Int) - 1))] (fun w_ => [IntKind.i64.wrap ((((List.length wT) : Nat) : Int) - 1) = (((List.length wT) : Nat) : Int) - 1]) 5 E (fun _ _ => by kernel_rfl) (by kernel_rfl) (fun w_ hS_ => (wrap_in g128)) (by kernel_rfl) HS141 ?_
  clear E; intro a E
  refine wpAnyH_all (rs := [4]) (by kernel_rfl) (by simp) ?_
  refine all1 ?_
  refine wpOp_of_list rfl ?_
  refine vn tbok 1 [.slice A15 (List.length wT) c16] [(14, .slice A15 (List.length wT) c16)] [World.cell? w139 ⟨g1, 4, none⟩ = some (.slice A15 (List.length wT) c16)] E (by kernel_rfl) (by kernel_rfl) ((H.box 0 rfl).cell (j := 4) rfl) ?_
  clear E; intro a E
  refine wpList_nil ?_
  refine th_n ⟨HS141, ?_⟩
  refine wpAnyH_all (rs := [11]) (by kernel_rfl) (by simp) ?_
  refine all1 ?_
  refine wpOp_of_list rfl ?_
  refine vn tbok 1 [] [(21, .slice A15 (Int.toNat ((((List.length wT) : Nat) : Int) - 1)) c16)] [0 ≤ ((((List.length wT) : Nat) : Int) - 1) ∧ ((((List.length wT) : Nat) : Int) - 1) ≤ ((c16 : Nat) : Int)] E (by kernel_rfl) (by kernel_rfl) (cut_le g129 hk17) ?_
  clear E; intro a E
  have hk148 := take_le (Int.toNat ((((List.length wT) : Nat) : Int) - 1)) hk17
  replace H := H.take 4 rfl (Int.toNat ((((List.length wT) : Nat) : Int) - 1)); try dsimp only [setn, addE, goneL] at H
  replace E := E.same (t := 21) (u := .slice A15 (List.length (List.take (Int.toNat ((((List.length wT) : Nat) : Int) - 1)) wT)) c16) rfl (congrArg (fun n_ => Value.slice A15 n_ c16) (take_len g129))
  refine wpList_nil ?_
  refine th_n ⟨HS141, ?_⟩
  refine dn tbok (by kernel_rfl) [12, 13] [] [(23, .pointer (some ⟨g1, 4, none⟩))] (fun w_ => []) 1 E (fun _ _ => by kernel_rfl) (by kernel_rfl) (fun w_ hS_ => trivial) (by kernel_rfl) HS141 ?_
  clear E; intro a E
  refine wpAnyH_all (rs := [14]) (by kernel_rfl) (by simp) ?_
  refine all1 ?_
  refine wpOp_of_list rfl ?_
  refine h_store (g := g1) (off := 4) H 0 rfl E rfl rfl rfl rfl tbok rfl rfl rfl rfl rfl ?_
  clear E; intro w149 a hc150 H_ E
  replace HS141 := HS141.trans hc150 (fun k_ hk_ h_ => (fun _ _ h_ => Or.inl h_) k_ hk_ h_)
  replace H := H_; clear H_; try dsimp only [setn, addE, goneL] at H
  refine wpList_nil ?_
  refine th_n ⟨HS141, ?_⟩
  refine dr_done (by kernel_rfl) ?_
  exact .inl ⟨rfl, A15, c16, E.pick _ ⟨rfl, trivial⟩, H.sel [0, 1, 2, 3, 5] rfl, hk148⟩
 clear E H; rintro a w138 ⟨A135, c136, E, H, hk137⟩
 refine th_n ?_
 refine wp_seq ?_
 obtain ⟨r151, h152, hP⟩ := bind_inv hP
 obtain ⟨r166, h167, hP⟩ := bind_inv hP
 refine meet_cut (fun a w175 => Fr a 31 [(2, .int .u8 r166), (3, .int .i64 0)] ∧ Hp S Fa w0 w175 [.ro false cBool A3 wAAccept, .ro false (cInt .i64) A7 wAGuard, .ro false cNode A11 wANodes, .ro false (cInt .u8) A135 (List.take (Int.toNat ((((List.length wT) : Nat) : Int) - 1)) wT), .box g1 67 [.int .i64 wAProps, .slice A3 (List.length wAAccept) c4, .slice A7 (List.length wAGuard) c8, .slice A11 (List.length wANodes) c12, .slice A135 (List.length (List.take (Int.toNat ((((List.length wT) : Nat) : Int) - 1)) wT)) c136]]) ?_ ?_
 ·
  have HR179 := H
  refine dr_start (S := fun w_ => Chg (atL [.box g1 67 [.int .i64 wAProps, .slice A3 (List.length wAAccept) c4, .slice A7 (List.length wAGuard) c8, .slice A11 (List.length wANodes) c12, .slice A135 (List.length (List.take (Int.toNat ((((List.length wT) : Nat) : Int) - 1)) wT)) c136]]) w138 w_) (by kernel_rfl) ?_
  intro w176 hc177
  have HS178 : Chg (atL [.box g1 67 [.int .i64 wAProps, .slice A3 (List.length wAAccept) c4, .slice A7 (List.length wAGuard) c8, .slice A11 (List.length wANodes) c12, .slice A135 (List.length (List.take (Int.toNat ((((List.length wT) : Nat) : Int) - 1)) wT)) c136]]) w138 w176 := hc177.mono (fun _ _ h_ => h_.elim)
  replace H := H.ext hc177
  refine dn tbok (by kernel_rfl) [0, 1, 2, 4] [] [(26, .pointer (some ⟨g1, 0, none⟩)), (28, .pointer (some ⟨g1, 0, none⟩))] (fun w_ => []) 5 E (fun _ _ => by kernel_rfl) (by kernel_rfl) (fun w_ hS_ => trivial) (by kernel_rfl) HS178 ?_
  clear E; intro a E
  refine wpAnyH_all (rs := [3, 5]) (by kernel_rfl) (by simp) ?_
  refine all2 ?_ ?_
  ·
   refine wpOp_of_list rfl ?_
   refine vn tbok 1 [.agg #[.int .i64 wAProps, .slice A3 (List.length wAAccept) c4, .slice A7 (List.length wAGuard) c8, .slice A11 (List.length wANodes) c12]] [(27, .agg #[.int .i64 wAProps, .slice A3 (List.length wAAccept) c4, .slice A7 (List.length wAGuard) c8, .slice A11 (List.length wANodes) c12])] [cellsAt w176 g1 (0) [.int .i64 wAProps, .slice A3 (List.length wAAccept) c4, .slice A7 (List.length wAGuard) c8, .slice A11 (List.length wANodes) c12]] E (by kernel_rfl) (by kernel_rfl) ((H.box 0 rfl).sub 0 _ rfl) ?_
   clear E; intro a E
   refine wpList_nil ?_
   refine th_n ⟨HS178, ?_⟩
   refine wpAnyH_all (rs := [5]) (by kernel_rfl) (by simp) ?_
   refine all1 ?_
   refine wpOp_of_list rfl ?_
   obtain ⟨Fa180, Hc181, hb182⟩ := H.call [0] [(1, false), (2, false), (3, false), (4, false)] rfl rfl trivial
   refine e_call E rfl rfl Try.func41 rfl rfl rfl (ref21_Watch_State_calls g1 A3 c4 A7 c8 A11 c12 A135 c136 wAProps wAAccept wAGuard wANodes (List.take (Int.toNat ((((List.length wT) : Nat) : Int) - 1)) wT) hk5 hk9 hk13 hk137 Hc181 h152) ?_
   intro v188 w187 a hR189 E_
   obtain ⟨x_, hr_, rfl, HR191⟩ := hR189
   subst hr_
   replace E := E_ _ rfl; clear E_
   obtain ⟨H_, hc190⟩ := hb182 _ _ HR191 rfl
   replace HS178 := HS178.trans hc190 (fun k_ hk_ h_ => h_.elim (fun h_ => by have hs_ := HS178.size; exfalso; omega) (fun h_ => h_.elim (fun h_ => (fun _ _ h_ => Or.inl h_) k_ hk_ h_) (fun h_ => h_.elim)))
   replace H := H_; clear H_; try dsimp only [setn, addE, goneL] at H
   refine wpList_nil ?_
   refine th_n ⟨HS178, ?_⟩
   refine wpAnyH_all (rs := [6]) (by kernel_rfl) (by simp) ?_
   refine all1 ?_
   refine wpOp_of_list rfl ?_
   obtain ⟨Fa193, Hc194, hb195⟩ := H.call [] [(1, false), (2, false), (3, false)] rfl rfl trivial
   refine e_call E rfl rfl Try.func40 rfl rfl rfl (ref21_Verdict_calls A3 c4 A7 c8 A11 c12 wAProps wAAccept wAGuard wANodes r151 hk5 hk9 hk13 Hc194 h167) ?_
   rintro v196 w197 a ⟨rfl, HR198⟩ E_
   replace E := E_ _ rfl; clear E_
   obtain ⟨H_, hc199⟩ := hb195 _ _ HR198 rfl
   replace HS178 := HS178.ext (callS_ext hc199)
   replace H := H_; clear H_; try dsimp only [setn, addE, goneL] at H
   refine wpList_nil ?_
   refine th_n ⟨HS178, ?_⟩
   refine dn tbok (by kernel_rfl) [7, 8] [] [(2, .int .u8 r166), (3, .int .i64 0)] (fun w_ => []) 0 E (fun _ _ => by kernel_rfl) (by kernel_rfl) (fun w_ hS_ => trivial) (by kernel_rfl) HS178 ?_
   clear E; intro a E
   refine dr_done (by kernel_rfl) ?_
   exact .inl ⟨rfl, E.pick _ ⟨rfl, rfl, trivial⟩, H.sel [1, 2, 3, 4, 5] rfl⟩
  refine wpOp_of_list rfl ?_
  obtain ⟨Fa200, Hc201, hb202⟩ := H.call [0] [(1, false), (2, false), (3, false), (4, false)] rfl rfl trivial
  refine e_call E rfl rfl Try.func41 rfl rfl rfl (ref21_Watch_State_calls g1 A3 c4 A7 c8 A11 c12 A135 c136 wAProps wAAccept wAGuard wANodes (List.take (Int.toNat ((((List.length wT) : Nat) : Int) - 1)) wT) hk5 hk9 hk13 hk137 Hc201 h152) ?_
  intro v208 w207 a hR209 E_
  obtain ⟨x_, hr_, rfl, HR211⟩ := hR209
  subst hr_
  replace E := E_ _ rfl; clear E_
  obtain ⟨H_, hc210⟩ := hb202 _ _ HR211 rfl
  replace HS178 := HS178.trans hc210 (fun k_ hk_ h_ => h_.elim (fun h_ => by have hs_ := HS178.size; exfalso; omega) (fun h_ => h_.elim (fun h_ => (fun _ _ h_ => Or.inl h_) k_ hk_ h_) (fun h_ => h_.elim)))
  replace H := H_; clear H_; try dsimp only [setn, addE, goneL] at H
  refine wpList_nil ?_
  refine th_n ⟨HS178, ?_⟩
  refine wpAnyH_all (rs := [3]) (by kernel_rfl) (by simp) ?_
  refine all1 ?_
  refine wpOp_of_list rfl ?_
  refine vn tbok 1 [.agg #[.int .i64 wAProps, .slice A3 (List.length wAAccept) c4, .slice A7 (List.length wAGuard) c8, .slice A11 (List.length wANodes) c12]] [(27, .agg #[.int .i64 wAProps, .slice A3 (List.length wAAccept) c4, .slice A7 (List.length wAGuard) c8, .slice A11 (List.length wANodes) c12])] [cellsAt w207 g1 (0) [.int .i64 wAProps, .slice A3 (List.length wAAccept) c4, .slice A7 (List.length wAGuard) c8, .slice A11 (List.length wANodes) c12]] E (by kernel_rfl) (by kernel_rfl) ((H.box 5 rfl).sub 0 _ rfl) ?_
  clear E; intro a E
  refine wpList_nil ?_
  refine th_n ⟨HS178, ?_⟩
  refine wpAnyH_all (rs := [6]) (by kernel_rfl) (by simp) ?_
  refine all1 ?_
  refine wpOp_of_list rfl ?_
  obtain ⟨Fa213, Hc214, hb215⟩ := H.call [] [(1, false), (2, false), (3, false)] rfl rfl trivial
  refine e_call E rfl rfl Try.func40 rfl rfl rfl (ref21_Verdict_calls A3 c4 A7 c8 A11 c12 wAProps wAAccept wAGuard wANodes r151 hk5 hk9 hk13 Hc214 h167) ?_
  rintro v216 w217 a ⟨rfl, HR218⟩ E_
  replace E := E_ _ rfl; clear E_
  obtain ⟨H_, hc219⟩ := hb215 _ _ HR218 rfl
  replace HS178 := HS178.ext (callS_ext hc219)
  replace H := H_; clear H_; try dsimp only [setn, addE, goneL] at H
  refine wpList_nil ?_
  refine th_n ⟨HS178, ?_⟩
  refine dn tbok (by kernel_rfl) [7, 8] [] [(2, .int .u8 r166), (3, .int .i64 0)] (fun w_ => []) 0 E (fun _ _ => by kernel_rfl) (by kernel_rfl) (fun w_ hS_ => trivial) (by kernel_rfl) HS178 ?_
  clear E; intro a E
  refine dr_done (by kernel_rfl) ?_
  exact .inl ⟨rfl, E.pick _ ⟨rfl, rfl, trivial⟩, H.sel [1, 2, 3, 4, 5] rfl⟩
 clear E H; rintro a w175 ⟨E, H⟩
 refine th_n ?_
 refine wp_ret ?_
 obtain rfl := Option.some.inj hP
 refine ret2 E rfl rfl rfl ?_
 exact ⟨_, rfl, ⟨(r166, 0, List.take (Int.toNat ((((List.length wT) : Nat) : Int) - 1)) wT), A135, c136, rfl, rfl, hk137, H.sel [4, 3] rfl⟩⟩

/-! (*rejoinder/watch.Watch).Len -/
def watch_Watch_Len (N : Nat) (wboard : (Int × (List Bool) × (List Int) × (List Nd)) × (List Int) × (List Int)) (wcame : List Int) : Option Int :=
  Option.bind (watch_Watch_none N wboard wcame) fun r110 =>
  if r110 = true then
    some 0
  else
    some (((List.length wcame) : Nat) : Int)
set_option maxRecDepth 100000 in
set_option maxHeartbeats 4000000 in
theorem watch_Watch_Len_calls {N : Nat} {S Fa : Nat → Prop} {w0 : World} {r : Int} (g1 : Nat) (b3 : Nat) (o4 : Nat) (A6 : Option Addr) (c7 : Nat) (wboard : (Int × (List Bool) × (List Int) × (List Nd)) × (List Int) × (List Int)) (wcame : List Int) (H : Hp S Fa w0 w0 [.box g1 27 [.pointer (some ⟨b3, o4, none⟩), .slice A6 (List.length wcame) c7], .row true (cInt .i64) 3 A6 c7 wcame, .ro false cS78 (some ⟨b3, o4, none⟩) ([wboard])]) (hP : watch_Watch_Len N wboard wcame = some r) :
    Calls Try.prog 14 #[.pointer (some ⟨g1, 0, none⟩)] w0 fun e w' => ∃ v, e = .returned v ∧ (∃ (x_ : Int), r = x_ ∧ v = .int .i64 x_ ∧ Hp S Fa w0 w' [.row true (cInt .i64) 3 A6 c7 wcame, .box g1 27 [.pointer (some ⟨b3, o4, none⟩), .slice A6 (List.length wcame) c7]]) := by
 refine enterV (n := 10) Try.func14 rfl rfl rfl ?_
 intro a E
 replace E := E.pick [(0, .pointer (some ⟨g1, 0, none⟩))] ⟨rfl, trivial⟩
 rw [watch_Watch_Len] at hP
 refine wp_seq ?_
 refine wp_region_lit ?_
 refine vn tbok 1 [] [] [] E (by kernel_rfl) (by kernel_rfl) trivial ?_
 clear E; intro a E
 refine wpList_nil ?_
 refine th_n ?_
 refine wp_seq ?_
 refine wp_seq ?_
 refine wp_region_lit ?_
 refine vn tbok 1 [] [(3, .pointer (some ⟨g1, 0, none⟩))] [] E (by kernel_rfl) (by kernel_rfl) trivial ?_
 clear E; intro a E
 obtain ⟨r110, h111, hP⟩ := bind_inv hP
 obtain ⟨Fa112, Hc113, hb114⟩ := H.call [0, 1] [(2, false)] rfl rfl ⟨flat_plain, trivial⟩
 refine e_call E rfl rfl Try.func32 rfl rfl rfl (watch_Watch_none_calls g1 b3 o4 A6 c7 wboard wcame  Hc113 h111) ?_
 intro v120 w119 a hR121 E_
 obtain ⟨x_, hr_, rfl, HR123⟩ := hR121
 subst hr_
 replace E := E_ _ rfl; clear E_
 obtain ⟨H_, hc122⟩ := hb114 _ _ HR123 rfl
 replace H := H_; clear H_; try dsimp only [setn, addE, goneL] at H
 refine wpList_nil ?_
 refine th_n ?_
 refine E.cases (t := 4) rfl (fun hb_ E_ => ?_) (fun hb_ E_ => ?_)
 ·
  replace E := E_; clear E_
  have h126 : r110 = true := hb_
  clear hb_; replace hP := ite_t h126 hP
  refine c_true E rfl ?_
  refine wp_seq ?_
  refine wp_region_lit ?_
  refine vn tbok 1 [] [(2, .int .i64 0)] [] E (by kernel_rfl) (by kernel_rfl) trivial ?_
  clear E; intro a E
  refine wpList_nil ?_
  refine th_n ?_
  refine wp_ret ?_
  refine th_ret ?_
  obtain rfl := Option.some.inj hP
  refine ret1 E rfl rfl ?_
  exact ⟨_, rfl, ⟨0, rfl, rfl, H.sel [3, 4] rfl⟩⟩
 replace E := E_; clear E_
 have h127 : ¬ (r110 = true) := (ne_true_of_eq_false hb_)
 clear hb_; replace hP := ite_f h127 hP
 refine c_false E rfl ?_
 refine wp_skip ?_
 refine th_n ?_
 refine wp_seq ?_
 refine wp_region_lit ?_
 refine vn tbok 6 [.slice A6 (List.length wcame) c7] [(2, .int .i64 (((List.length wcame) : Nat) : Int))] [World.cell? w119 ⟨g1, 1, none⟩ = some (.slice A6 (List.length wcame) c7)] E (by kernel_rfl) (by kernel_rfl) ((H.box 4 rfl).cell (j := 1) rfl) ?_
 clear E; intro a E
 refine wpList_nil ?_
 refine th_n ?_
 refine wp_ret ?_
 obtain rfl := Option.some.inj hP
 refine ret1 E rfl rfl ?_
 exact ⟨_, rfl, ⟨(((List.length wcame) : Nat) : Int), rfl, rfl, H.sel [3, 4] rfl⟩⟩

/-! (*rejoinder/watch.Watch).Off -/
def watch_Watch_Off (N : Nat) (wboard : (Int × (List Bool) × (List Int) × (List Nd)) × (List Int) × (List Int)) (wcame : List Int) : Option (Int × Int) :=
  Option.bind (watch_Watch_none N wboard wcame) fun r111 =>
  if r111 = true then
    some (0, 1)
  else
    Option.bind (watch_Watch_State N wboard wcame) fun r170 =>
    ask (idx r170 (List.length wboard.2.1)) <|
    if (List.getD wboard.2.1 (Int.toNat r170) 0) < 0 then
      some (0, 6)
    else
      some ((List.getD wboard.2.1 (Int.toNat r170) 0), 0)
set_option maxRecDepth 100000 in
set_option maxHeartbeats 4000000 in
theorem watch_Watch_Off_calls {N : Nat} {S Fa : Nat → Prop} {w0 : World} {r : Int × Int} (g1 : Nat) (b3 : Nat) (o4 : Nat) (A6 : Option Addr) (c7 : Nat) (wboard : (Int × (List Bool) × (List Int) × (List Nd)) × (List Int) × (List Int)) (wcame : List Int) (H : Hp S Fa w0 w0 [.box g1 27 [.pointer (some ⟨b3, o4, none⟩), .slice A6 (List.length wcame) c7], .row true (cInt .i64) 3 A6 c7 wcame, .ro false cS78 (some ⟨b3, o4, none⟩) ([wboard])]) (hP : watch_Watch_Off N wboard wcame = some r) :
    Calls Try.prog 11 #[.pointer (some ⟨g1, 0, none⟩)] w0 fun e w' => ∃ v, e = .returned v ∧ (∃ (x_ : Int × Int), r = x_ ∧ v = .tuple #[.int .i64 x_.1, .int .i64 x_.2] ∧ Hp S Fa w0 w' [.row true (cInt .i64) 3 A6 c7 wcame, .box g1 27 [.pointer (some ⟨b3, o4, none⟩), .slice A6 (List.length wcame) c7]]) := by
 refine enterV (n := 21) Try.func11 rfl rfl rfl ?_
 intro a E
 replace E := E.pick [(0, .pointer (some ⟨g1, 0, none⟩))] ⟨rfl, trivial⟩
 rw [watch_Watch_Off] at hP
 refine wp_seq ?_
 refine wp_region_lit ?_
 refine vn tbok 2 [] [] [] E (by kernel_rfl) (by kernel_rfl) trivial ?_
 clear E; intro a E
 refine wpList_nil ?_
 refine th_n ?_
 refine wp_seq ?_
 refine wp_seq ?_
 refine wp_region_lit ?_
 refine vn tbok 1 [] [(5, .pointer (some ⟨g1, 0, none⟩))] [] E (by kernel_rfl) (by kernel_rfl) trivial ?_
 clear E; intro a E
 obtain ⟨r111, h112, hP⟩ := bind_inv hP
 obtain ⟨Fa113, Hc114, hb115⟩ := H.call [0, 1] [(2, false)] rfl rfl ⟨flat_plain, trivial⟩
 refine e_call E rfl rfl Try.func32 rfl rfl rfl (watch_Watch_none_calls g1 b3 o4 A6 c7 wboard wcame  Hc114 h112) ?_
 intro v121 w120 a hR122 E_
 obtain ⟨x_, hr_, rfl, HR124⟩ := hR122
 subst hr_
 replace E := E_ _ rfl; clear E_
 obtain ⟨H_, hc123⟩ := hb115 _ _ HR124 rfl
 replace H := H_; clear H_; try dsimp only [setn, addE, goneL] at H
 refine wpList_nil ?_
 refine th_n ?_
 refine E.cases (t := 6) rfl (fun hb_ E_ => ?_) (fun hb_ E_ => ?_)
 ·
  replace E := E_; clear E_
  have h127 : r111 = true := hb_
  clear hb_; replace hP := ite_t h127 hP
  refine c_true E rfl ?_
  refine wp_seq ?_
  refine wp_region_lit ?_
  refine vn tbok 2 [] [(2, .int .i64 0), (3, .int .i64 1)] [] E (by kernel_rfl) (by kernel_rfl) trivial ?_
  clear E; intro a E
  refine wpList_nil ?_
  refine th_n ?_
  refine wp_ret ?_
  refine th_ret ?_
  obtain rfl := Option.some.inj hP
  refine ret2 E rfl rfl rfl ?_
  exact ⟨_, rfl, ⟨(0, 1), rfl, rfl, H.sel [3, 4] rfl⟩⟩
 replace E := E_; clear E_
 have h128 : ¬ (r111 = true) := (ne_true_of_eq_false hb_)
 clear hb_; replace hP := ite_f h128 hP
 refine c_false E rfl ?_
 refine wp_skip ?_
 refine th_n ?_
 refine wp_seq ?_
 obtain ⟨Fz129, cs131, HF130, hK132, hc133⟩ := H.elem 2 false (el_ro rfl) wboard (idx_one _)
 obtain ⟨_, _, rfl, hK134, hK135⟩ := hK132
 obtain ⟨_, _, rfl, hK136, hK137⟩ := hK134
 obtain rfl := hK136
 obtain ⟨_, _, rfl, hK138, hK139⟩ := hK137
 obtain ⟨A140, c141, rfl, hk142, hC143⟩ := hK138
 obtain ⟨_, _, rfl, hK145, hK146⟩ := hK139
 obtain ⟨A147, c148, rfl, hk149, hC150⟩ := hK145
 obtain ⟨A152, c153, rfl, hk154, hC155⟩ := hK146
 obtain ⟨_, _, rfl, hK157, hK158⟩ := hK135
 obtain ⟨A159, c160, rfl, hk161, hC162⟩ := hK157
 obtain ⟨A164, c165, rfl, hk166, hC167⟩ := hK158
 replace HF130 := HF130.ins hC143
 replace HF130 := HF130.ins hC150
 replace HF130 := HF130.ins hC155
 replace HF130 := HF130.ins hC162
 replace HF130 := HF130.ins hC167
 replace H := HF130.hp; try dsimp only [addE] at H
 have hc169 : cellsAt w120 b3 (o4) [.int .i64 wboard.1.1, .slice A140 (List.length wboard.1.2.1) c141, .slice A147 (List.length wboard.1.2.2.1) c148, .slice A152 (List.length wboard.1.2.2.2) c153, .slice A159 (List.length wboard.2.1) c160, .slice A164 (List.length wboard.2.2) c165] := hc133
 obtain ⟨r170, h171, hP⟩ := bind_inv hP
 obtain ⟨g186, hP⟩ := ask_inv hP
 obtain ⟨b187, o188, e_b187⟩ := (H.rd 8 rds_ro).addr (idx_pos g186)
 subst e_b187
 refine meet_cut (fun a w189 => Fr a 21 [(4, .int .i64 (List.getD wboard.2.1 (Int.toNat r170) 0))] ∧ Hp S Fa w0 w189 [.ro false cS78 (some ⟨b3, o4, none⟩) ([wboard]), .row true (cInt .i64) 3 A6 c7 wcame, .box g1 27 [.pointer (some ⟨b3, o4, none⟩), .slice A6 (List.length wcame) c7]]) ?_ ?_
 ·
  have HR193 := H
  refine dr_start (S := fun w_ => Chg (atL [.row true (cInt .i64) 3 A6 c7 wcame, .box g1 27 [.pointer (some ⟨b3, o4, none⟩), .slice A6 (List.length wcame) c7]]) w120 w_) (by kernel_rfl) ?_
  intro w190 hc191
  have HS192 : Chg (atL [.row true (cInt .i64) 3 A6 c7 wcame, .box g1 27 [.pointer (some ⟨b3, o4, none⟩), .slice A6 (List.length wcame) c7]]) w120 w190 := hc191.mono (fun _ _ h_ => h_.elim)
  replace H := H.ext hc191
  refine dn tbok (by kernel_rfl) [0, 1, 2, 7] [] [(9, .pointer (some ⟨g1, 0, none⟩)), (14, .pointer (some ⟨g1, 0, none⟩))] (fun w_ => []) 8 E (fun _ _ => by kernel_rfl) (by kernel_rfl) (fun w_ hS_ => trivial) (by kernel_rfl) HS192 ?_
  clear E; intro a E
  refine wpAnyH_all (rs := [3, 8]) (by kernel_rfl) (by simp) ?_
  refine all2 ?_ ?_
  ·
   refine wpOp_of_list rfl ?_
   refine vn tbok 1 [.pointer (some ⟨b3, o4, none⟩)] [(10, .pointer (some ⟨b3, o4, none⟩))] [World.cell? w190 ⟨g1, 0, none⟩ = some (.pointer (some ⟨b3, o4, none⟩))] E (by kernel_rfl) (by kernel_rfl) ((H.box 4 rfl).cell (j := 0) rfl) ?_
   clear E; intro a E
   refine wpList_nil ?_
   refine th_n ⟨HS192, ?_⟩
   refine dn tbok (by kernel_rfl) [4, 5, 6] [.slice (some ⟨b187, o188, none⟩) (List.length wboard.2.1) c160] [(13, .slice (some ⟨b187, o188, none⟩) (List.length wboard.2.1) c160)] (fun w_ => [World.cell? w_ ⟨b3, o4 + 4, none⟩ = some (.slice (some ⟨b187, o188, none⟩) (List.length wboard.2.1) c160)]) 4 E (fun _ _ => by kernel_rfl) (by kernel_rfl) (fun w_ hS_ => (hS_.cell (hc169.get 4 _ rfl) (HR193.blk [3, 4] 2 rds_ro (idx_pos (idx_one _)) rfl))) (by kernel_rfl) HS192 ?_
   clear E; intro a E
   refine wpAnyH_all (rs := [8]) (by kernel_rfl) (by simp) ?_
   refine all1 ?_
   refine wpOp_of_list rfl ?_
   obtain ⟨Fa194, Hc195, hb196⟩ := H.call [4, 3] [(2, false)] rfl rfl ⟨flat_plain, trivial⟩
   refine e_call E rfl rfl Try.func13 rfl rfl rfl (watch_Watch_State_calls g1 b3 o4 A6 c7 wboard wcame  Hc195 h171) ?_
   intro v202 w201 a hR203 E_
   obtain ⟨x_, hr_, rfl, HR205⟩ := hR203
   subst hr_
   replace E := E_ _ rfl; clear E_
   obtain ⟨H_, hc204⟩ := hb196 _ _ HR205 rfl
   replace HS192 := HS192.trans hc204 (fun k_ hk_ h_ => h_.elim (fun h_ => by have hs_ := HS192.size; exfalso; omega) (fun h_ => h_.elim (fun h_ => (fun _ _ h_ => Or.inr (Or.inl h_)) k_ hk_ h_) (fun h_ => h_.elim (fun h_ => (fun _ _ h_ => Or.inl h_) k_ hk_ h_) (fun h_ => h_.elim))))
   replace H := H_; clear H_; try dsimp only [setn, addE, goneL] at H
   refine wpList_nil ?_
   refine th_n ⟨HS192, ?_⟩
   refine dn tbok (by kernel_rfl) [9, 10, 11] [.int .i64 (List.getD wboard.2.1 (Int.toNat r170) 0)] [(4, .int .i64 (List.getD wboard.2.1 (Int.toNat r170) 0))] (fun w_ => [0 ≤ r170 ∧ r170 < (((List.length wboard.2.1) : Nat) : Int), World.cell? w_ ⟨b187, o188 + (Int.toNat r170) * 1, none⟩ = some (.int .i64 (List.getD wboard.2.1 (Int.toNat r170) 0))]) 0 E (fun _ _ => by kernel_rfl) (by kernel_rfl) (fun w_ hS_ => ⟨g186, Rds.at1 (HR193.rdk [3, 4] hS_ 8 rds_ro rfl) 0 g186⟩) (by kernel_rfl) HS192 ?_
   clear E; intro a E
   refine dr_done (by kernel_rfl) ?_
   exact .inl ⟨rfl, E.pick _ ⟨rfl, trivial⟩, H.sel [2, 10, 11] rfl⟩
  refine wpOp_of_list rfl ?_
  obtain ⟨Fa208, Hc209, hb210⟩ := H.call [4, 3] [(2, false)] rfl rfl ⟨flat_plain, trivial⟩
  refine e_call E rfl rfl Try.func13 rfl rfl rfl (watch_Watch_State_calls g1 b3 o4 A6 c7 wboard wcame  Hc209 h171) ?_
  intro v216 w215 a hR217 E_
  obtain ⟨x_, hr_, rfl, HR219⟩ := hR217
  subst hr_
  replace E := E_ _ rfl; clear E_
  obtain ⟨H_, hc218⟩ := hb210 _ _ HR219 rfl
  replace HS192 := HS192.trans hc218 (fun k_ hk_ h_ => h_.elim (fun h_ => by have hs_ := HS192.size; exfalso; omega) (fun h_ => h_.elim (fun h_ => (fun _ _ h_ => Or.inr (Or.inl h_)) k_ hk_ h_) (fun h_ => h_.elim (fun h_ => (fun _ _ h_ => Or.inl h_) k_ hk_ h_) (fun h_ => h_.elim))))
  replace H := H_; clear H_; try dsimp only [setn, addE, goneL] at H
  refine wpList_nil ?_
  refine th_n ⟨HS192, ?_⟩
  refine wpAnyH_all (rs := [3]) (by kernel_rfl) (by simp) ?_
  refine all1 ?_
  refine wpOp_of_list rfl ?_
  refine vn tbok 1 [.pointer (some ⟨b3, o4, none⟩)] [(10, .pointer (some ⟨b3, o4, none⟩))] [World.cell? w215 ⟨g1, 0, none⟩ = some (.pointer (some ⟨b3, o4, none⟩))] E (by kernel_rfl) (by kernel_rfl) ((H.box 11 rfl).cell (j := 0) rfl) ?_
  clear E; intro a E
  refine wpList_nil ?_
  refine th_n ⟨HS192, ?_⟩
  refine dn tbok (by kernel_rfl) [4, 5, 6, 9, 10, 11] [.slice (some ⟨b187, o188, none⟩) (List.length wboard.2.1) c160, .int .i64 (List.getD wboard.2.1 (Int.toNat r170) 0)] [(4, .int .i64 (List.getD wboard.2.1 (Int.toNat r170) 0))] (fun w_ => [World.cell? w_ ⟨b3, o4 + 4, none⟩ = some (.slice (some ⟨b187, o188, none⟩) (List.length wboard.2.1) c160), 0 ≤ r170 ∧ r170 < (((List.length wboard.2.1) : Nat) : Int), World.cell? w_ ⟨b187, o188 + (Int.toNat r170) * 1, none⟩ = some (.int .i64 (List.getD wboard.2.1 (Int.toNat r170) 0))]) 0 E (fun _ _ => by kernel_rfl) (by kernel_rfl) (fun w_ hS_ => ⟨hS_.cell (hc169.get 4 _ rfl) (HR193.blk [3, 4] 2 rds_ro (idx_pos (idx_one _)) rfl), g186, Rds.at1 (HR193.rdk [3, 4] hS_ 8 rds_ro rfl) 0 g186⟩) (by kernel_rfl) HS192 ?_
  clear E; intro a E
  refine dr_done (by kernel_rfl) ?_
  exact .inl ⟨rfl, E.pick _ ⟨rfl, trivial⟩, H.sel [2, 10, 11] rfl⟩
 clear E H; rintro a w189 ⟨E, H⟩
 refine th_n ?_
 refine wp_seq ?_
 refine wp_seq ?_
 refine wp_region_lit ?_
 refine vn tbok 2 [] [(19, .bool (decide ((List.getD wboard.2.1 (Int.toNat r170) 0) < 0)))] [] E (by kernel_rfl) (by kernel_rfl) trivial ?_
 clear E; intro a E
 refine wpList_nil ?_
 refine th_n ?_
 refine E.cases (t := 19) rfl (fun hb_ E_ => ?_) (fun hb_ E_ => ?_)
 ·
  replace E := E_; clear E_
  have h222 : (List.getD wboard.2.1 (Int.toNat r170) 0) < 0 := of_decide_eq_true hb_
  clear hb_; replace hP := ite_t h222 hP
  refine c_true E rfl ?_
  refine wp_seq ?_
  refine wp_region_lit ?_
  refine vn tbok 2 [] [(2, .int .i64 0), (3, .int .i64 6)] [] E (by kernel_rfl) (by kernel_rfl) trivial ?_
  clear E; intro a E
  refine wpList_nil ?_
  refine th_n ?_
  refine wp_ret ?_
  refine th_ret ?_
  obtain rfl := Option.some.inj hP
  refine ret2 E rfl rfl rfl ?_
  exact ⟨_, rfl, ⟨(0, 6), rfl, rfl, H.sel [1, 2] rfl⟩⟩
 replace E := E_; clear E_
 have h223 : ¬ ((List.getD wboard.2.1 (Int.toNat r170) 0) < 0) := of_decide_eq_false hb_
 clear hb_; replace hP := ite_f h223 hP
 refine c_false E rfl ?_
 refine wp_skip ?_
 refine th_n ?_
 refine wp_seq ?_
 refine wp_region_lit ?_
 refine vn tbok 3 [] [(2, .int .i64 (List.getD wboard.2.1 (Int.toNat r170) 0)), (3, .int .i64 0)] [] E (by kernel_rfl) (by kernel_rfl) trivial ?_
 clear E; intro a E
 refine wpList_nil ?_
 refine th_n ?_
 refine wp_ret ?_
 obtain rfl := Option.some.inj hP
 refine ret2 E rfl rfl rfl ?_
 exact ⟨_, rfl, ⟨((List.getD wboard.2.1 (Int.toNat r170) 0), 0), rfl, rfl, H.sel [1, 2] rfl⟩⟩

/-! rejoinder/rejoinderref21.Off -/
def ref21_Off_l0 (N : Nat) (aAccept : List Bool) (r18 : (List Int) × (List Int)) : Nat → Int → Option (Unit ⊕ (Int × Int))
  | 0, _ => none
  | m69 + 1, i50 =>
    if i50 < (((List.length r18.1) : Nat) : Int) then
      ask (idx i50 (List.length r18.1)) <|
      ask (idx (List.getD r18.1 (Int.toNat i50) 0) (List.length aAccept)) <|
      if (List.getD aAccept (Int.toNat (List.getD r18.1 (Int.toNat i50) 0)) false) = true then
        ask (idx i50 (List.length r18.2)) <|
        some (Sum.inr ((List.getD r18.2 (Int.toNat i50) 0), 0))
      else
        ask (in64 (i50 + 1)) <|
        ref21_Off_l0 N aAccept r18 m69 (i50 + 1)
    else
      some (Sum.inl ())
def ref21_Off (N : Nat) (aProps : Int) (aAccept : List Bool) (aGuard : List Int) (aNodes : List Nd) (q : Int) : Option (Int × Int) :=
  Option.bind (ref21_reached N aProps aAccept aGuard aNodes q) fun r18 =>
  Option.bind (ref21_Off_l0 N aAccept r18 N 0) fun x70 =>
  Sum.elim (fun x75 =>
    some (0, 6))
   (fun x94 =>
    some x94) x70
set_option maxRecDepth 100000 in
set_option maxHeartbeats 4000000 in
theorem ref21_Off_calls {N : Nat} {S Fa : Nat → Prop} {w0 : World} {r : Int × Int} (A1 : Option Addr) (c2 : Nat) (A5 : Option Addr) (c6 : Nat) (A9 : Option Addr) (c10 : Nat) (aProps : Int) (aAccept : List Bool) (aGuard : List Int) (aNodes : List Nd) (q : Int) (hk3 : List.length aAccept ≤ c2) (hk7 : List.length aGuard ≤ c6) (hk11 : List.length aNodes ≤ c10) (H : Hp S Fa w0 w0 [.ro false cBool A1 aAccept, .ro false (cInt .i64) A5 aGuard, .ro false cNode A9 aNodes]) (hP : ref21_Off N aProps aAccept aGuard aNodes q = some r) :
    Calls Try.prog 49 #[.agg #[.int .i64 aProps, .slice A1 (List.length aAccept) c2, .slice A5 (List.length aGuard) c6, .slice A9 (List.length aNodes) c10], .int .i64 q] w0 fun e w' => ∃ v, e = .returned v ∧ v = .tuple #[.int .i64 r.1, .int .i64 r.2] ∧ Hp S Fa w0 w' [] := by
 refine enterV (n := 33) Try.func49 rfl rfl rfl ?_
 intro a E
 replace E := E.pick [(0, .agg #[.int .i64 aProps, .slice A1 (List.length aAccept) c2, .slice A5 (List.length aGuard) c6, .slice A9 (List.length aNodes) c10]), (1, .int .i64 q)] ⟨rfl, rfl, trivial⟩
 rw [ref21_Off] at hP
 refine wp_seq ?_
 refine wp_region_lit ?_
 refine h_box H E rfl rfl rfl ?_
 intro w14 g13 a hc15 hg17 H_ E_
 replace E := E_ _ rfl; clear E_
 replace H := H_; clear H_; try dsimp only [setn, addE, goneL] at H
 refine vn tbok 2 [] [] [] E (by kernel_rfl) (by kernel_rfl) trivial ?_
 clear E; intro a E
 refine wpList_nil ?_
 refine th_n ?_
 refine wp_seq ?_
 refine wp_region_lit ?_
 refine vn tbok 2 [.agg #[.int .i64 aProps, .slice A1 (List.length aAccept) c2, .slice A5 (List.length aGuard) c6, .slice A9 (List.length aNodes) c10]] [(10, .agg #[.int .i64 aProps, .slice A1 (List.length aAccept) c2, .slice A5 (List.length aGuard) c6, .slice A9 (List.length aNodes) c10]), (11, .int .i64 q)] [cellsAt w14 g13 (0) [.int .i64 aProps, .slice A1 (List.length aAccept) c2, .slice A5 (List.length aGuard) c6, .slice A9 (List.length aNodes) c10]] E (by kernel_rfl) (by kernel_rfl) ((H.box 3 rfl).sub 0 _ rfl) ?_
 clear E; intro a E
 obtain ⟨r18, h19, hP⟩ := bind_inv hP
 obtain ⟨Fa20, Hc21, hb22⟩ := H.call [] [(0, false), (1, false), (2, false)] rfl rfl trivial
 refine e_call E rfl rfl Try.func55 rfl rfl rfl (ref21_reached_calls A1 c2 A5 c6 A9 c10 aProps aAccept aGuard aNodes q hk3 hk7 hk11 Hc21 h19) ?_
 rintro v23 w24 a ⟨A27, c28, A30, c31, rfl, HR25⟩ E_
 replace E := E_ _ rfl; clear E_
 obtain ⟨H_, hc26⟩ := hb22 _ _ HR25 rfl
 replace H := H_; clear H_; try dsimp only [setn, addE, goneL] at H
 refine vn tbok 5 [] [(6, .slice A27 (List.length r18.1) c28), (7, .slice A30 (List.length r18.2) c31)] [] E (by kernel_rfl) (by kernel_rfl) trivial ?_
 clear E; intro a E
 refine wpList_nil ?_
 refine th_n ?_
 refine wp_seq ?_
 refine wp_seq ?_
 refine wp_region_lit ?_
 refine vn tbok 1 [] [(8, .int .i64 0)] [] E (by kernel_rfl) (by kernel_rfl) trivial ?_
 clear E; intro a E
 refine wpList_nil ?_
 refine th_n ?_
 refine wp_block ?_
 obtain ⟨x70, hL71, hK72⟩ := bind_inv hP
 clear hP
 refine loop_cut (fun i_ a w_ => (i_ = 0 ∧ ∃ (x75 : Unit), Fr a 33 [] ∧ Hp S Fa w0 w_ [] ∧ x70 = Sum.inl x75)) ?_ ?_
 ·
  refine loopV (fun m74 a w73 => ∃ (i50 : Int), Fr a 33 [(2, .pointer (some ⟨g13, 0, none⟩)), (6, .slice A27 (List.length r18.1) c28), (7, .slice A30 (List.length r18.2) c31), (8, .int .i64 i50)] ∧ Hp S Fa w0 w73 [.ro false cBool A1 aAccept, .ro false (cInt .i64) A5 aGuard, .ro false cNode A9 aNodes, .box g13 43 [.int .i64 aProps, .slice A1 (List.length aAccept) c2, .slice A5 (List.length aGuard) c6, .slice A9 (List.length aNodes) c10], .row true (cInt .i64) 3 A27 c28 r18.1, .row true (cInt .i64) 3 A30 c31 r18.2] ∧ ref21_Off_l0 N aAccept r18 m74 i50 = some x70) N ?_ ?_
  ·
   exact ⟨0, E.pick _ ⟨rfl, rfl, rfl, rfl, trivial⟩, H.sel [0, 1, 2, 3, 4, 5] rfl, hL71⟩
  clear E H hL71; intro m74 a w73 hI_
  obtain ⟨i50, E, H, hP⟩ := hI_
  obtain ⟨m69, rfl⟩ : ∃ q_, m74 = q_ + 1 := by cases m74 with | zero => rw [ref21_Off_l0] at hP; cases hP | succ q_ => exact ⟨q_, rfl⟩
  rw [ref21_Off_l0] at hP
  refine wp_seq ?_
  refine wp_seq ?_
  refine wp_region_lit ?_
  refine vn tbok 4 [] [(18, .bool (decide (i50 < (((List.length r18.1) : Nat) : Int))))] [] E (by kernel_rfl) (by kernel_rfl) trivial ?_
  clear E; intro a E
  refine wpList_nil ?_
  refine th_n ?_
  refine E.cases (t := 18) rfl (fun hb_ E_ => ?_) (fun hb_ E_ => ?_)
  ·
   replace E := E_; clear E_
   have h76 : i50 < (((List.length r18.1) : Nat) : Int) := of_decide_eq_true hb_
   clear hb_; replace hP := ite_t h76 hP
   refine c_true E rfl ?_
   refine wp_skip ?_
   refine th_n ?_
   refine wp_seq ?_
   refine wp_block ?_
   refine wp_seq ?_
   obtain ⟨g77, hP⟩ := ask_inv hP
   obtain ⟨b78, e_b78⟩ := H.raddr 4 rfl (idx_pos g77)
   subst e_b78
   obtain ⟨g80, hP⟩ := ask_inv hP
   obtain ⟨b81, o82, e_b81⟩ := (H.rd 0 rds_ro).addr (idx_pos g80)
   subst e_b81
   have HR86 := H
   refine dr_start (S := fun w_ => Chg (atL []) w73 w_) (by kernel_rfl) ?_
   intro w83 hc84
   have HS85 : Chg (atL []) w73 w83 := hc84.mono (fun _ _ h_ => h_.elim)
   replace H := H.ext hc84
   refine dn tbok (by kernel_rfl) [0, 1, 2, 3, 4, 5, 6, 7] [.slice (some ⟨b81, o82, none⟩) (List.length aAccept) c2, .int .i64 (List.getD r18.1 (Int.toNat i50) 0), .bool (List.getD aAccept (Int.toNat (List.getD r18.1 (Int.toNat i50) 0)) false)] [(28, .bool (List.getD aAccept (Int.toNat (List.getD r18.1 (Int.toNat i50) 0)) false))] (fun w_ => [World.cell? w_ ⟨g13, 1, none⟩ = some (.slice (some ⟨b81, o82, none⟩) (List.length aAccept) c2), 0 ≤ i50 ∧ i50 < (((List.length r18.1) : Nat) : Int), World.cell? w_ ⟨b78, 0 + (Int.toNat i50) * 1, none⟩ = some (.int .i64 (List.getD r18.1 (Int.toNat i50) 0)), 0 ≤ (List.getD r18.1 (Int.toNat i50) 0) ∧ (List.getD r18.1 (Int.toNat i50) 0) < (((List.length aAccept) : Nat) : Int), World.cell? w_ ⟨b81, o82 + (Int.toNat (List.getD r18.1 (Int.toNat i50) 0)) * 1, none⟩ = some (.bool (List.getD aAccept (Int.toNat (List.getD r18.1 (Int.toNat i50) 0)) false))]) 0 E (fun _ _ => by kernel_rfl) (by kernel_rfl) (fun w_ hS_ => ⟨(HR86.boxk [] hS_ 3 rfl rfl).cell (j := 1) rfl, g77, Rds.at1 (HR86.rdk [] hS_ 4 rds_row rfl) 0 g77, g80, Rds.at1 (HR86.rdk [] hS_ 0 rds_ro rfl) false g80⟩) (by kernel_rfl) HS85 ?_
   clear E; intro a E
   refine dr_done (by kernel_rfl) ?_
   clear HS85 HR86
   refine th_n ?_
   refine E.cases (t := 28) rfl (fun hb_ E_ => ?_) (fun hb_ E_ => ?_)
   ·
    replace E := E_; clear E_
    have h87 : (List.getD aAccept (Int.toNat (List.getD r18.1 (Int.toNat i50) 0)) false) = true := hb_
    clear hb_; replace hP := ite_t h87 hP
    refine c_true E rfl ?_
    refine wp_seq ?_
    refine wp_region_lit ?_
    obtain ⟨g88, hP⟩ := ask_inv hP
    obtain ⟨b89, e_b89⟩ := H.raddr 5 rfl (idx_pos g88)
    subst e_b89
    refine vn tbok 6 [.int .i64 (List.getD r18.2 (Int.toNat i50) 0)] [(4, .int .i64 (List.getD r18.2 (Int.toNat i50) 0)), (5, .int .i64 0)] [0 ≤ i50 ∧ i50 < (((List.length r18.2) : Nat) : Int), World.cell? w83 ⟨b89, 0 + (Int.toNat i50) * 1, none⟩ = some (.int .i64 (List.getD r18.2 (Int.toNat i50) 0))] E (by kernel_rfl) (by kernel_rfl) ⟨g88, Rds.at1 (H.rd 5 rds_row) 0 g88⟩ ?_
    clear E; intro a E
    refine wpList_nil ?_
    refine th_n ?_
    refine wp_ret ?_
    refine bl_ret ?_
    refine th_ret ?_
    refine th_ret ?_
    refine .inr ⟨rfl, ?_⟩
    refine bl_ret ?_
    refine th_ret ?_
    have hx_ := Option.some.inj hP; subst hx_
    have hP : some (((List.getD r18.2 (Int.toNat i50) 0), 0)) = some r := hK72
    obtain rfl := Option.some.inj hP
    refine ret2 E rfl rfl rfl ?_
    exact ⟨_, rfl, rfl, H.sel [] rfl⟩
   replace E := E_; clear E_
   have h91 : ¬ ((List.getD aAccept (Int.toNat (List.getD r18.1 (Int.toNat i50) 0)) false) = true) := (ne_true_of_eq_false hb_)
   clear hb_; replace hP := ite_f h91 hP
   refine c_false E rfl ?_
   refine wp_skip ?_
   refine bl_n ?_
   refine th_n ?_
   refine wp_region_lit ?_
   obtain ⟨g92, hP⟩ := ask_inv hP
   refine vn tbok 3 [.int .i64 (i50 + 1)] [(8, .int .i64 (i50 + 1))] [IntKind.i64.wrap (i50 + 1) = i50 + 1] E (by kernel_rfl) (by kernel_rfl) (wrap_in g92) ?_
   clear E; intro a E
   refine wpList_nil ?_
   exact th_n ⟨m69, Nat.lt_succ_self _, i50 + 1, E.pick _ ⟨rfl, rfl, rfl, rfl, trivial⟩, H.sel [0, 1, 2, 3, 4, 5] rfl, hP⟩
  replace E := E_; clear E_
  have h93 : ¬ (i50 < (((List.length r18.1) : Nat) : Int)) := of_decide_eq_false hb_
  clear hb_; replace hP := ite_f h93 hP
  refine c_false E rfl ?_
  refine wp_exit ?_
  refine th_exit ?_
  have hx_ := Option.some.inj hP
  refine th_exit (.inl ⟨0, rfl, ?_⟩)
  exact ⟨rfl, (), E.pick _ trivial, H.sel [] rfl, hx_.symm⟩
 clear E H hL71; intro i_ a w73 hM_
 obtain ⟨rfl, x75, E, H, hx_⟩ := hM_
 subst hx_; have hP := elim_l hK72
 clear hK72
 refine bl_hit ?_
 refine th_n ?_
 refine wp_seq ?_
 refine wp_region_lit ?_
 refine vn tbok 2 [] [(4, .int .i64 0), (5, .int .i64 6)] [] E (by kernel_rfl) (by kernel_rfl) trivial ?_
 clear E; intro a E
 refine wpList_nil ?_
 refine th_n ?_
 refine wp_ret ?_
 obtain rfl := Option.some.inj hP
 refine ret2 E rfl rfl rfl ?_
 exact ⟨_, rfl, rfl, H.sel [] rfl⟩

/-! rejoinder/rejoinderlaw21.awake -/
/-! rejoinder/canon.Run -/
end Go.V
