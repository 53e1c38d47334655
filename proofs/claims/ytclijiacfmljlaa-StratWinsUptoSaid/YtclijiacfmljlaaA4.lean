/- Plain functions, and the calls that give them. -/
import Derived.Test.YtclijiacfmljlaaA3
set_option linter.all false
set_option linter.unusedVariables false
set_option linter.unnecessarySimpa false
set_option linter.unusedSimpArgs false
namespace Go.V
open Go Go.Proofs
/-! rejoinder/strat.best -/
def strat_best_f1 (N : Nat) (row : List Int) (ranks : List Int) (x35 : Int) (x36 : Int) : Option Bool :=
    if x35 < 0 then
      some true
    else
      ask (idx x35 (List.length row)) <|
      ask (idx (List.getD row (Int.toNat x35) 0) (List.length ranks)) <|
      some (decide ((List.getD ranks (Int.toNat (List.getD row (Int.toNat x36) 0)) 0) < (List.getD ranks (Int.toNat (List.getD row (Int.toNat x35) 0)) 0)))
def strat_best_l0 (N : Nat) (row : List Int) (ranks : List Int) : Nat → Int → Int → Option Int
  | 0, _, _ => none
  | m67 + 1, x35, x36 =>
    if x36 < (((List.length row) : Nat) : Int) then
      ask (idx x36 (List.length row)) <|
      ask (idx (List.getD row (Int.toNat x36) 0) (List.length ranks)) <|
      if 0 ≤ (List.getD ranks (Int.toNat (List.getD row (Int.toNat x36) 0)) 0) then
        Option.bind (strat_best_f1 N row ranks x35 x36) fun x94 =>
        if x94 = true then
          ask (in64 (x36 + 1)) <|
          strat_best_l0 N row ranks m67 x36 (x36 + 1)
        else
          ask (in64 (x36 + 1)) <|
          strat_best_l0 N row ranks m67 x35 (x36 + 1)
      else
        ask (in64 (x36 + 1)) <|
        strat_best_l0 N row ranks m67 x35 (x36 + 1)
    else
      some x35
def strat_best (N : Nat) (row : List Int) (ranks : List Int) : Option Int :=
  Option.bind (strat_best_l0 N row ranks N (-1) 0) fun x68 =>
  some x68
set_option maxRecDepth 100000 in
set_option maxHeartbeats 4000000 in
theorem strat_best_calls {N : Nat} {S Fa : Nat → Prop} {w0 : World} {r : Int} (A1 : Option Addr) (c2 : Nat) (A5 : Option Addr) (c6 : Nat) (row : List Int) (ranks : List Int) (hk3 : List.length row ≤ c2) (hk7 : List.length ranks ≤ c6) (H : Hp S Fa w0 w0 [.ro false (cInt .i64) A1 row, .ro false (cInt .i64) A5 ranks]) (hP : strat_best N row ranks = some r) :
    Calls Try.prog 35 #[.slice A1 (List.length row) c2, .slice A5 (List.length ranks) c6] w0 fun e w' => ∃ v, e = .returned v ∧ v = .int .i64 r ∧ Hp S Fa w0 w' [] := by
 refine enterV (n := 31) Try.func35 rfl rfl rfl ?_
 intro a E
 replace E := E.pick [(0, .slice A1 (List.length row) c2), (1, .slice A5 (List.length ranks) c6)] ⟨rfl, rfl, trivial⟩
 rw [strat_best] at hP
 refine wp_seq ?_
 refine wp_region_lit ?_
 refine h_box H E rfl rfl rfl ?_
 intro w10 g9 a hc11 hg13 H_ E_
 replace E := E_ _ rfl; clear E_
 replace H := H_; clear H_; try dsimp only [setn, addE, goneL] at H
 refine h_box H E rfl rfl rfl ?_
 intro w15 g14 a hc16 hg18 H_ E_
 replace E := E_ _ rfl; clear E_
 replace H := H_; clear H_; try dsimp only [setn, addE, goneL] at H
 refine vn tbok 1 [] [] [] E (by kernel_rfl) (by kernel_rfl) trivial ?_
 clear E; intro a E
 refine wpList_nil ?_
 refine th_n ?_
 refine wp_seq ?_
 refine wp_region_lit ?_
 refine e_makeFunc (vs := [.pointer (some ⟨g14, 0, none⟩), .pointer (some ⟨g9, 0, none⟩)]) E rfl rfl rfl rfl ?_
 clear E; intro a E
 refine vn tbok 1 [] [(5, .func (.func 60) #[] #[.pointer (some ⟨g14, 0, none⟩), .pointer (some ⟨g9, 0, none⟩)])] [] E (by kernel_rfl) (by kernel_rfl) trivial ?_
 clear E; intro a E
 refine wpList_nil ?_
 refine th_n ?_
 refine wp_seq ?_
 refine wp_region_lit ?_
 refine vn tbok 1 [] [(6, .int .i64 (-1))] [] E (by kernel_rfl) (by kernel_rfl) trivial ?_
 clear E; intro a E
 refine wpList_nil ?_
 refine th_n ?_
 refine wp_seq ?_
 refine wp_seq ?_
 refine wp_region_lit ?_
 refine vn tbok 3 [.slice A1 (List.length row) c2] [(10, .slice A1 (List.length row) c2), (11, .int .i64 (((List.length row) : Nat) : Int)), (12, .int .i64 0)] [World.cell? w15 ⟨g9, 0, none⟩ = some (.slice A1 (List.length row) c2)] E (by kernel_rfl) (by kernel_rfl) ((H.box 2 rfl).cell (j := 0) rfl) ?_
 clear E; intro a E
 refine wpList_nil ?_
 refine th_n ?_
 refine wp_block ?_
 obtain ⟨x68, hL69, hK70⟩ := bind_inv hP
 clear hP
 refine loop_cut (fun i_ a w_ => (i_ = 0 ∧ ∃ (x73 : Int), Fr a 31 [(6, .int .i64 x73)] ∧ Hp S Fa w0 w_ [] ∧ x68 = x73)) ?_ ?_
 ·
  refine loopV (fun m72 a w71 => ∃ (x35 : Int) (x36 : Int), Fr a 31 [(3, .pointer (some ⟨g14, 0, none⟩)), (5, .func (.func 60) #[] #[.pointer (some ⟨g14, 0, none⟩), .pointer (some ⟨g9, 0, none⟩)]), (6, .int .i64 x35), (10, .slice A1 (List.length row) c2), (11, .int .i64 (((List.length row) : Nat) : Int)), (12, .int .i64 x36)] ∧ Hp S Fa w0 w71 [.ro false (cInt .i64) A5 ranks, .box g14 23 [.slice A5 (List.length ranks) c6], .ro false (cInt .i64) A1 row, .box g9 23 [.slice A1 (List.length row) c2]] ∧ strat_best_l0 N row ranks m72 x35 x36 = some x68) N ?_ ?_
  ·
   exact ⟨-1, 0, E.pick _ ⟨rfl, rfl, rfl, rfl, rfl, rfl, trivial⟩, H.sel [1, 3, 0, 2] rfl, hL69⟩
  clear E H hL69; intro m72 a w71 hI_
  obtain ⟨x35, x36, E, H, hP⟩ := hI_
  obtain ⟨m67, rfl⟩ : ∃ q_, m72 = q_ + 1 := by cases m72 with | zero => rw [strat_best_l0] at hP; cases hP | succ q_ => exact ⟨q_, rfl⟩
  rw [strat_best_l0] at hP
  refine wp_seq ?_
  refine wp_region_lit ?_
  refine vn tbok 1 [] [(13, .bool (decide (x36 < (((List.length row) : Nat) : Int))))] [] E (by kernel_rfl) (by kernel_rfl) trivial ?_
  clear E; intro a E
  refine wpList_nil ?_
  refine th_n ?_
  refine wp_seq ?_
  refine E.cases (t := 13) rfl (fun hb_ E_ => ?_) (fun hb_ E_ => ?_)
  ·
   replace E := E_; clear E_
   have h74 : x36 < (((List.length row) : Nat) : Int) := of_decide_eq_true hb_
   clear hb_; replace hP := ite_t h74 hP
   refine c_true E rfl ?_
   refine wp_skip ?_
   refine th_n ?_
   refine wp_seq ?_
   refine wp_block ?_
   refine wp_seq ?_
   refine wp_region_lit ?_
   obtain ⟨g75, hP⟩ := ask_inv hP
   obtain ⟨b76, o77, e_b76⟩ := (H.rd 2 rds_ro).addr (idx_pos g75)
   subst e_b76
   refine vn tbok 5 [.int .i64 (List.getD row (Int.toNat x36) 0)] [(7, .int .i64 x36), (8, .int .i64 (List.getD row (Int.toNat x36) 0))] [0 ≤ x36 ∧ x36 < (((List.length row) : Nat) : Int), World.cell? w71 ⟨b76, o77 + (Int.toNat x36) * 1, none⟩ = some (.int .i64 (List.getD row (Int.toNat x36) 0))] E (by kernel_rfl) (by kernel_rfl) ⟨g75, Rds.at1 (H.rd 2 rds_ro) 0 g75⟩ ?_
   clear E; intro a E
   refine wpList_nil ?_
   refine th_n ?_
   refine wp_seq ?_
   refine wp_region_lit ?_
   obtain ⟨g78, hP⟩ := ask_inv hP
   obtain ⟨b79, o80, e_b79⟩ := (H.rd 0 rds_ro).addr (idx_pos g78)
   subst e_b79
   refine vn tbok 6 [.slice (some ⟨b79, o80, none⟩) (List.length ranks) c6, .int .i64 (List.getD ranks (Int.toNat (List.getD row (Int.toNat x36) 0)) 0)] [(22, .bool (decide (0 ≤ (List.getD ranks (Int.toNat (List.getD row (Int.toNat x36) 0)) 0))))] [World.cell? w71 ⟨g14, 0, none⟩ = some (.slice (some ⟨b79, o80, none⟩) (List.length ranks) c6), 0 ≤ (List.getD row (Int.toNat x36) 0) ∧ (List.getD row (Int.toNat x36) 0) < (((List.length ranks) : Nat) : Int), World.cell? w71 ⟨b79, o80 + (Int.toNat (List.getD row (Int.toNat x36) 0)) * 1, none⟩ = some (.int .i64 (List.getD ranks (Int.toNat (List.getD row (Int.toNat x36) 0)) 0))] E (by kernel_rfl) (by kernel_rfl) ⟨(H.box 1 rfl).cell (j := 0) rfl, g78, Rds.at1 (H.rd 0 rds_ro) 0 g78⟩ ?_
   clear E; intro a E
   refine E.cases (t := 22) rfl (fun hb_ E_ => ?_) (fun hb_ E_ => ?_)
   ·
    replace E := E_; clear E_
    have h81 : 0 ≤ (List.getD ranks (Int.toNat (List.getD row (Int.toNat x36) 0)) 0) := of_decide_eq_true hb_
    clear hb_; replace hP := ite_t h81 hP
    refine vn tbok 3 [] [(23, .func (.func 60) #[] #[.pointer (some ⟨g14, 0, none⟩), .pointer (some ⟨g9, 0, none⟩)]), (24, .int .i64 x36), (25, .int .i64 x35)] [] E (by kernel_rfl) (by kernel_rfl) trivial ?_
    clear E; intro a E
    obtain ⟨x94, h95, hP⟩ := bind_inv hP
    refine e_callv (R := fun v_ w_ => ∃ (x96 : Bool), v_ = .bool x96 ∧ Hp S Fa w0 w_ [.ro false (cInt .i64) (some ⟨b79, o80, none⟩) ranks, .box g14 23 [.slice (some ⟨b79, o80, none⟩) (List.length ranks) c6], .ro false (cInt .i64) (some ⟨b76, o77, none⟩) row, .box g9 23 [.slice (some ⟨b76, o77, none⟩) (List.length row) c2]] ∧ x94 = x96) E rfl rfl rfl Try.func60 rfl rfl rfl ?_ ?_
    ·
     clear E hP; have hP := h95; clear h95; rw [strat_best_f1] at hP
     refine enterV (n := 26) Try.func60 rfl rfl rfl ?_
     intro a E
     replace E := E.pick [(0, .int .i64 x36), (1, .int .i64 x35), (2, .pointer (some ⟨g14, 0, none⟩)), (3, .pointer (some ⟨g9, 0, none⟩))] ⟨rfl, rfl, rfl, rfl, trivial⟩
     refine wp_seq ?_
     refine wp_region_lit ?_
     refine vn tbok 1 [] [] [] E (by kernel_rfl) (by kernel_rfl) trivial ?_
     clear E; intro a E
     refine wpList_nil ?_
     refine th_n ?_
     refine wp_seq ?_
     by_cases h97 : x35 < 0
     ·
      replace hP := ite_t h97 hP
      have HR101 := H
      refine dr_start (S := fun w_ => Chg (atL []) w71 w_) (by kernel_rfl) ?_
      intro w98 hc99
      have HS100 : Chg (atL []) w71 w98 := hc99.mono (fun _ _ h_ => h_.elim)
      replace H := H.ext hc99
      refine dn tbok (by kernel_rfl) [0, 1, 2] [] [(9, .bool (decide (x35 < 0)))] (fun w_ => []) 17 E (fun _ _ => by kernel_rfl) (by kernel_rfl) (fun w_ hS_ => trivial) (by kernel_rfl) HS100 ?_
      clear E; intro a E
      replace E := E.same (t := 9) (u := .bool true) rfl (congrArg Value.bool (decide_eq_true h97))
      refine dn tbok (by kernel_rfl) [3, 4, 5, 6, 7, 8, 9, 10, 11, 12, 13, 14, 15, 16, 17, 18, 19] [] [(6, .bool true)] (fun w_ => []) 0 E (fun _ _ => by kernel_rfl) (by kernel_rfl) (fun w_ hS_ => trivial) (by kernel_rfl) HS100 ?_
      clear E; intro a E
      refine dr_done (by kernel_rfl) ?_
      clear HS100 HR101
      refine th_n ?_
      refine wp_ret ?_
      have hx_ := Option.some.inj hP
      refine ret1 E rfl rfl ?_
      exact ⟨_, rfl, true, rfl, H.sel [0, 1, 2, 3] rfl, hx_.symm⟩
     replace hP := ite_f h97 hP
     obtain ⟨g102, hP⟩ := ask_inv hP
     obtain ⟨g103, hP⟩ := ask_inv hP
     have HR107 := H
     refine dr_start (S := fun w_ => Chg (atL []) w71 w_) (by kernel_rfl) ?_
     intro w104 hc105
     have HS106 : Chg (atL []) w71 w104 := hc105.mono (fun _ _ h_ => h_.elim)
     replace H := H.ext hc105
     refine dn tbok (by kernel_rfl) [0, 1, 2] [] [(9, .bool (decide (x35 < 0)))] (fun w_ => []) 17 E (fun _ _ => by kernel_rfl) (by kernel_rfl) (fun w_ hS_ => trivial) (by kernel_rfl) HS106 ?_
     clear E; intro a E
     replace E := E.same (t := 9) (u := .bool false) rfl (congrArg Value.bool (decide_eq_false h97))
     refine dn tbok (by kernel_rfl) [3, 4, 5, 6, 7, 8, 9, 10, 11, 12, 13, 14, 15, 16, 17, 18, 19] [.slice (some ⟨b79, o80, none⟩) (List.length ranks) c6, .slice (some ⟨b76, o77, none⟩) (List.length row) c2, .int .i64 (List.getD row (Int.toNat x36) 0), .int .i64 (List.getD ranks (Int.toNat (List.getD row (Int.toNat x36) 0)) 0), .slice (some ⟨b79, o80, none⟩) (List.length ranks) c6, .slice (some ⟨b76, o77, none⟩) (List.length row) c2, .int .i64 (List.getD row (Int.toNat x35) 0), .int .i64 (List.getD ranks (Int.toNat (List.getD row (Int.toNat x35) 0)) 0)] [(6, .bool (decide ((List.getD ranks (Int.toNat (List.getD row (Int.toNat x36) 0)) 0) < (List.getD ranks (Int.toNat (List.getD row (Int.toNat x35) 0)) 0))))] (fun w_ => [World.cell? w_ ⟨g14, 0, none⟩ = some (.slice (some ⟨b79, o80, none⟩) (List.length ranks) c6), World.cell? w_ ⟨g9, 0, none⟩ = some (.slice (some ⟨b76, o77, none⟩) (List.length row) c2), 0 ≤ x36 ∧ x36 < (((List.length row) : Nat) : Int), World.cell? w_ ⟨b76, o77 + (Int.toNat x36) * 1, none⟩ = some (.int .i64 (List.getD row (Int.toNat x36) 0)), 0 ≤ (List.getD row (Int.toNat x36) 0) ∧ (List.getD row (Int.toNat x36) 0) < (((List.length ranks) : Nat) : Int), World.cell? w_ ⟨b79, o80 + (Int.toNat (List.getD row (Int.toNat x36) 0)) * 1, none⟩ = some (.int .i64 (List.getD ranks (Int.toNat (List.getD row (Int.toNat x36) 0)) 0)), World.cell? w_ ⟨g14, 0, none⟩ = some (.slice (some ⟨b79, o80, none⟩) (List.length ranks) c6), World.cell? w_ ⟨g9, 0, none⟩ = some (.slice (some ⟨b76, o77, none⟩) (List.length row) c2), 0 ≤ x35 ∧ x35 < (((List.length row) : Nat) : Int), World.cell? w_ ⟨b76, o77 + (Int.toNat x35) * 1, none⟩ = some (.int .i64 (List.getD row (Int.toNat x35) 0)), 0 ≤ (List.getD row (Int.toNat x35) 0) ∧ (List.getD row (Int.toNat x35) 0) < (((List.length ranks) : Nat) : Int), World.cell? w_ ⟨b79, o80 + (Int.toNat (List.getD row (Int.toNat x35) 0)) * 1, none⟩ = some (.int .i64 (List.getD ranks (Int.toNat (List.getD row (Int.toNat x35) 0)) 0))]) 0 E (fun _ _ => by kernel_rfl) (by kernel_rfl) (fun w_ hS_ => ⟨(HR107.boxk [] hS_ 1 rfl rfl).cell (j := 0) rfl, (HR107.boxk [] hS_ 3 rfl rfl).cell (j := 0) rfl, g75, Rds.at1 (HR107.rdk [] hS_ 2 rds_ro rfl) 0 g75, g78, Rds.at1 (HR107.rdk [] hS_ 0 rds_ro rfl) 0 g78, (HR107.boxk [] hS_ 1 rfl rfl).cell (j := 0) rfl, (HR107.boxk [] hS_ 3 rfl rfl).cell (j := 0) rfl, g102, Rds.at1 (HR107.rdk [] hS_ 2 rds_ro rfl) 0 g102, g103, Rds.at1 (HR107.rdk [] hS_ 0 rds_ro rfl) 0 g103⟩) (by kernel_rfl) HS106 ?_
     clear E; intro a E
     refine dr_done (by kernel_rfl) ?_
     clear HS106 HR107
     refine th_n ?_
     refine wp_ret ?_
     have hx_ := Option.some.inj hP
     refine ret1 E rfl rfl ?_
     exact ⟨_, rfl, decide ((List.getD ranks (Int.toNat (List.getD row (Int.toNat x36) 0)) 0) < (List.getD ranks (Int.toNat (List.getD row (Int.toNat x35) 0)) 0)), rfl, H.sel [0, 1, 2, 3] rfl, hx_.symm⟩
    clear H
    rintro v109 w108 a ⟨x96, rfl, H, hx_⟩ E_
    subst hx_
    replace E := E_ _ rfl; clear E_
    refine vn tbok 1 [] [(27, .bool x94)] [] E (by kernel_rfl) (by kernel_rfl) trivial ?_
    clear E; intro a E
    refine wpList_nil ?_
    refine th_n ?_
    refine E.cases (t := 27) rfl (fun hb_ E_ => ?_) (fun hb_ E_ => ?_)
    ·
     replace E := E_; clear E_
     have h110 : x94 = true := hb_
     clear hb_; replace hP := ite_t h110 hP
     refine c_true E rfl ?_
     refine wp_region_lit ?_
     refine vn tbok 2 [] [(6, .int .i64 x36)] [] E (by kernel_rfl) (by kernel_rfl) trivial ?_
     clear E; intro a E
     refine wpList_nil ?_
     refine bl_n ?_
     refine th_n ?_
     refine wp_region_lit ?_
     obtain ⟨g111, hP⟩ := ask_inv hP
     refine vn tbok 2 [.int .i64 (x36 + 1)] [(12, .int .i64 (x36 + 1))] [IntKind.i64.wrap (x36 + 1) = x36 + 1] E (by kernel_rfl) (by kernel_rfl) (wrap_in g111) ?_
     clear E; intro a E
     refine wpList_nil ?_
     exact th_n ⟨m67, Nat.lt_succ_self _, x36, x36 + 1, E.pick _ ⟨rfl, rfl, rfl, rfl, rfl, rfl, trivial⟩, H.sel [0, 1, 2, 3] rfl, hP⟩
    replace E := E_; clear E_
    have h112 : ¬ (x94 = true) := (ne_true_of_eq_false hb_)
    clear hb_; replace hP := ite_f h112 hP
    refine c_false E rfl ?_
    refine wp_skip ?_
    refine bl_n ?_
    refine th_n ?_
    refine wp_region_lit ?_
    obtain ⟨g113, hP⟩ := ask_inv hP
    refine vn tbok 2 [.int .i64 (x36 + 1)] [(12, .int .i64 (x36 + 1))] [IntKind.i64.wrap (x36 + 1) = x36 + 1] E (by kernel_rfl) (by kernel_rfl) (wrap_in g113) ?_
    clear E; intro a E
    refine wpList_nil ?_
    exact th_n ⟨m67, Nat.lt_succ_self _, x35, x36 + 1, E.pick _ ⟨rfl, rfl, rfl, rfl, rfl, rfl, trivial⟩, H.sel [0, 1, 2, 3] rfl, hP⟩
   replace E := E_; clear E_
   have h114 : ¬ (0 ≤ (List.getD ranks (Int.toNat (List.getD row (Int.toNat x36) 0)) 0)) := of_decide_eq_false hb_
   clear hb_; replace hP := ite_f h114 hP
   refine vn tbok 5 [] [(27, .bool false)] [] E (by kernel_rfl) (by kernel_rfl) trivial ?_
   clear E; intro a E
   refine wpList_nil ?_
   refine th_n ?_
   refine c_false E rfl ?_
   refine wp_skip ?_
   refine bl_n ?_
   refine th_n ?_
   refine wp_region_lit ?_
   obtain ⟨g115, hP⟩ := ask_inv hP
   refine vn tbok 2 [.int .i64 (x36 + 1)] [(12, .int .i64 (x36 + 1))] [IntKind.i64.wrap (x36 + 1) = x36 + 1] E (by kernel_rfl) (by kernel_rfl) (wrap_in g115) ?_
   clear E; intro a E
   refine wpList_nil ?_
   exact th_n ⟨m67, Nat.lt_succ_self _, x35, x36 + 1, E.pick _ ⟨rfl, rfl, rfl, rfl, rfl, rfl, trivial⟩, H.sel [0, 1, 2, 3] rfl, hP⟩
  replace E := E_; clear E_
  have h116 : ¬ (x36 < (((List.length row) : Nat) : Int)) := of_decide_eq_false hb_
  clear hb_; replace hP := ite_f h116 hP
  refine c_false E rfl ?_
  refine wp_exit ?_
  refine th_exit ?_
  have hx_ := Option.some.inj hP
  refine th_exit (.inl ⟨0, rfl, ?_⟩)
  exact ⟨rfl, x35, E.pick _ ⟨rfl, trivial⟩, H.sel [] rfl, hx_.symm⟩
 clear E H hL69; intro i_ a w71 hM_
 obtain ⟨rfl, x73, E, H, hx_⟩ := hM_
 subst hx_; have hP := hK70; clear hK70
 refine bl_hit ?_
 refine th_n ?_
 refine wp_seq ?_
 refine wp_region_lit ?_
 refine vn tbok 2 [] [(4, .int .i64 x68)] [] E (by kernel_rfl) (by kernel_rfl) trivial ?_
 clear E; intro a E
 refine wpList_nil ?_
 refine th_n ?_
 refine wp_ret ?_
 obtain rfl := Option.some.inj hP
 refine ret1 E rfl rfl ?_
 exact ⟨_, rfl, rfl, H.sel [] rfl⟩

/-! rejoinder/strat.lost -/
def strat_lost_f3 (N : Nat) (row : List Int) (ranks : List Int) (x89 : Int) : Option Unit :=
    ask (idx (List.getD row (Int.toNat x89) 0) (List.length ranks)) <|
    some ()
def strat_lost_l2 (N : Nat) (row : List Int) (ranks : List Int) : Nat → Int → Option (Unit ⊕ Int)
  | 0, _ => none
  | m103 + 1, x89 =>
    if x89 < (((List.length row) : Nat) : Int) then
      ask (idx x89 (List.length row)) <|
      Option.bind (strat_lost_f3 N row ranks x89) fun x117 =>
      if ((List.getD ranks (Int.toNat (List.getD row (Int.toNat x89) 0)) 0) : Int) = -1 then
        ask (in64 (x89 + 1)) <|
        strat_lost_l2 N row ranks m103 (x89 + 1)
      else
        some (Sum.inr x89)
    else
      some (Sum.inl ())
def strat_lost_f1 (N : Nat) (row : List Int) (ranks : List Int) : Option Int :=
    Option.bind (strat_lost_l2 N row ranks N 0) fun x104 =>
    Sum.elim (fun x109 =>
      some (-1))
     (fun x129 =>
      some x129) x104
def strat_lost_f0 (N : Nat) (row : List Int) (ranks : List Int) : Option Bool :=
    Option.bind (strat_lost_f1 N row ranks) fun x74 =>
    some (decide (0 ≤ x74))
def strat_lost (N : Nat) (row : List Int) (ranks : List Int) : Option Bool :=
  Option.bind (strat_lost_f0 N row ranks) fun x44 =>
  some (!x44)
set_option maxRecDepth 100000 in
set_option maxHeartbeats 4000000 in
theorem strat_lost_calls {N : Nat} {S Fa : Nat → Prop} {w0 : World} {r : Bool} (A1 : Option Addr) (c2 : Nat) (A5 : Option Addr) (c6 : Nat) (row : List Int) (ranks : List Int) (hk3 : List.length row ≤ c2) (hk7 : List.length ranks ≤ c6) (H : Hp S Fa w0 w0 [.ro false (cInt .i64) A1 row, .ro false (cInt .i64) A5 ranks]) (hP : strat_lost N row ranks = some r) :
    Calls Try.prog 38 #[.slice A1 (List.length row) c2, .slice A5 (List.length ranks) c6] w0 fun e w' => ∃ v, e = .returned v ∧ v = .bool r ∧ Hp S Fa w0 w' [] := by
 refine enterV (n := 9) Try.func38 rfl rfl rfl ?_
 intro a E
 replace E := E.pick [(0, .slice A1 (List.length row) c2), (1, .slice A5 (List.length ranks) c6)] ⟨rfl, rfl, trivial⟩
 rw [strat_lost] at hP
 refine wp_seq ?_
 refine wp_region_lit ?_
 refine h_box H E rfl rfl rfl ?_
 intro w10 g9 a hc11 hg13 H_ E_
 replace E := E_ _ rfl; clear E_
 replace H := H_; clear H_; try dsimp only [setn, addE, goneL] at H
 refine vn tbok 1 [] [] [] E (by kernel_rfl) (by kernel_rfl) trivial ?_
 clear E; intro a E
 refine wpList_nil ?_
 refine th_n ?_
 refine wp_seq ?_
 refine wp_region_lit ?_
 refine vn tbok 1 [] [(5, .slice A1 (List.length row) c2)] [] E (by kernel_rfl) (by kernel_rfl) trivial ?_
 clear E; intro a E
 refine e_makeFunc (vs := [.pointer (some ⟨g9, 0, none⟩)]) E rfl rfl rfl rfl ?_
 clear E; intro a E
 obtain ⟨x44, h45, hP⟩ := bind_inv hP
 refine e_call (R := fun v_ w_ => ∃ (x46 : Bool), v_ = .bool x46 ∧ Hp S Fa w0 w_ [.ro false (cInt .i64) A5 ranks, .box g9 23 [.slice A5 (List.length ranks) c6], .ro false (cInt .i64) A1 row] ∧ x44 = x46) E rfl rfl Try.func61 rfl rfl rfl ?_ ?_
 ·
  clear E hP; have hP := h45; clear h45; rw [strat_lost_f0] at hP
  refine enterV (n := 9) Try.func61 rfl rfl rfl ?_
  intro a E
  replace E := E.pick [(0, .slice A1 (List.length row) c2), (1, .func (.func 62) #[] #[.pointer (some ⟨g9, 0, none⟩)])] ⟨rfl, rfl, trivial⟩
  refine wp_seq ?_
  refine wp_region_lit ?_
  refine vn tbok 1 [] [] [] E (by kernel_rfl) (by kernel_rfl) trivial ?_
  clear E; intro a E
  refine wpList_nil ?_
  refine th_n ?_
  refine wp_seq ?_
  refine wp_region_lit ?_
  refine vn tbok 2 [] [(5, .slice A1 (List.length row) c2), (6, .func (.func 62) #[] #[.pointer (some ⟨g9, 0, none⟩)])] [] E (by kernel_rfl) (by kernel_rfl) trivial ?_
  clear E; intro a E
  obtain ⟨x74, h75, hP⟩ := bind_inv hP
  refine e_call (R := fun v_ w_ => ∃ (x76 : Int), v_ = .int .i64 x76 ∧ Hp S Fa w0 w_ [.ro false (cInt .i64) A5 ranks, .box g9 23 [.slice A5 (List.length ranks) c6], .ro false (cInt .i64) A1 row] ∧ x74 = x76) E rfl rfl Try.func78 rfl rfl rfl ?_ ?_
  ·
   clear E hP; have hP := h75; clear h75; rw [strat_lost_f1] at hP
   refine enterV (n := 19) Try.func78 rfl rfl rfl ?_
   intro a E
   replace E := E.pick [(0, .slice A1 (List.length row) c2), (1, .func (.func 62) #[] #[.pointer (some ⟨g9, 0, none⟩)])] ⟨rfl, rfl, trivial⟩
   refine wp_seq ?_
   refine wp_region_lit ?_
   refine vn tbok 1 [] [] [] E (by kernel_rfl) (by kernel_rfl) trivial ?_
   clear E; intro a E
   refine wpList_nil ?_
   refine th_n ?_
   refine wp_seq ?_
   refine wp_seq ?_
   refine wp_region_lit ?_
   refine vn tbok 3 [] [(7, .int .i64 (((List.length row) : Nat) : Int)), (8, .int .i64 0)] [] E (by kernel_rfl) (by kernel_rfl) trivial ?_
   clear E; intro a E
   refine wpList_nil ?_
   refine th_n ?_
   refine wp_block ?_
   obtain ⟨x104, hL105, hK106⟩ := bind_inv hP
   clear hP
   refine loop_cut (fun i_ a w_ => (i_ = 0 ∧ ∃ (x109 : Unit), Fr a 19 [] ∧ Hp S Fa w0 w_ [.ro false (cInt .i64) A5 ranks, .box g9 23 [.slice A5 (List.length ranks) c6], .ro false (cInt .i64) A1 row] ∧ x104 = Sum.inl x109)) ?_ ?_
   ·
    refine loopV (fun m108 a w107 => ∃ (x89 : Int), Fr a 19 [(0, .slice A1 (List.length row) c2), (1, .func (.func 62) #[] #[.pointer (some ⟨g9, 0, none⟩)]), (7, .int .i64 (((List.length row) : Nat) : Int)), (8, .int .i64 x89)] ∧ Hp S Fa w0 w107 [.ro false (cInt .i64) A1 row, .ro false (cInt .i64) A5 ranks, .box g9 23 [.slice A5 (List.length ranks) c6]] ∧ strat_lost_l2 N row ranks m108 x89 = some x104) N ?_ ?_
    ·
     exact ⟨0, E.pick _ ⟨rfl, rfl, rfl, rfl, trivial⟩, H.sel [0, 1, 2] rfl, hL105⟩
    clear E H hL105; intro m108 a w107 hI_
    obtain ⟨x89, E, H, hP⟩ := hI_
    obtain ⟨m103, rfl⟩ : ∃ q_, m108 = q_ + 1 := by cases m108 with | zero => rw [strat_lost_l2] at hP; cases hP | succ q_ => exact ⟨q_, rfl⟩
    rw [strat_lost_l2] at hP
    refine wp_seq ?_
    refine wp_region_lit ?_
    refine vn tbok 1 [] [(9, .bool (decide (x89 < (((List.length row) : Nat) : Int))))] [] E (by kernel_rfl) (by kernel_rfl) trivial ?_
    clear E; intro a E
    refine wpList_nil ?_
    refine th_n ?_
    refine wp_seq ?_
    refine E.cases (t := 9) rfl (fun hb_ E_ => ?_) (fun hb_ E_ => ?_)
    ·
     replace E := E_; clear E_
     have h110 : x89 < (((List.length row) : Nat) : Int) := of_decide_eq_true hb_
     clear hb_; replace hP := ite_t h110 hP
     refine c_true E rfl ?_
     refine wp_skip ?_
     refine th_n ?_
     refine wp_seq ?_
     refine wp_block ?_
     refine wp_seq ?_
     refine wp_region_lit ?_
     refine vn tbok 2 [] [(5, .int .i64 x89)] [] E (by kernel_rfl) (by kernel_rfl) trivial ?_
     clear E; intro a E
     refine wpList_nil ?_
     refine th_n ?_
     refine wp_seq ?_
     refine wp_region_lit ?_
     obtain ⟨g111, hP⟩ := ask_inv hP
     obtain ⟨b112, o113, e_b112⟩ := (H.rd 0 rds_ro).addr (idx_pos g111)
     subst e_b112
     refine vn tbok 5 [.int .i64 (List.getD row (Int.toNat x89) 0)] [(11, .func (.func 62) #[] #[.pointer (some ⟨g9, 0, none⟩)]), (15, .int .i64 (List.getD row (Int.toNat x89) 0))] [0 ≤ x89 ∧ x89 < (((List.length row) : Nat) : Int), World.cell? w107 ⟨b112, o113 + (Int.toNat x89) * 1, none⟩ = some (.int .i64 (List.getD row (Int.toNat x89) 0))] E (by kernel_rfl) (by kernel_rfl) ⟨g111, Rds.at1 (H.rd 0 rds_ro) 0 g111⟩ ?_
     clear E; intro a E
     obtain ⟨x117, h118, hP⟩ := bind_inv hP
     refine e_callv (R := fun v_ w_ => ∃ (x119 : Unit), v_ = .bool (((List.getD ranks (Int.toNat (List.getD row (Int.toNat x89) 0)) 0) : Int) != (-1)) ∧ Hp S Fa w0 w_ [.ro false (cInt .i64) A5 ranks, .box g9 23 [.slice A5 (List.length ranks) c6], .ro false (cInt .i64) (some ⟨b112, o113, none⟩) row] ∧ x117 = x119) E rfl rfl rfl Try.func62 rfl rfl rfl ?_ ?_
     ·
      clear E hP; have hP := h118; clear h118; rw [strat_lost_f3] at hP
      refine enterV (n := 9) Try.func62 rfl rfl rfl ?_
      intro a E
      replace E := E.pick [(0, .int .i64 (List.getD row (Int.toNat x89) 0)), (1, .pointer (some ⟨g9, 0, none⟩))] ⟨rfl, rfl, trivial⟩
      refine wp_seq ?_
      refine wp_region_lit ?_
      refine vn tbok 1 [] [] [] E (by kernel_rfl) (by kernel_rfl) trivial ?_
      clear E; intro a E
      refine wpList_nil ?_
      refine th_n ?_
      refine wp_seq ?_
      refine wp_region_lit ?_
      obtain ⟨g120, hP⟩ := ask_inv hP
      obtain ⟨b121, o122, e_b121⟩ := (H.rd 1 rds_ro).addr (idx_pos g120)
      subst e_b121
      refine vn tbok 6 [.slice (some ⟨b121, o122, none⟩) (List.length ranks) c6, .int .i64 (List.getD ranks (Int.toNat (List.getD row (Int.toNat x89) 0)) 0)] [(3, .bool (((List.getD ranks (Int.toNat (List.getD row (Int.toNat x89) 0)) 0) : Int) != (-1)))] [World.cell? w107 ⟨g9, 0, none⟩ = some (.slice (some ⟨b121, o122, none⟩) (List.length ranks) c6), 0 ≤ (List.getD row (Int.toNat x89) 0) ∧ (List.getD row (Int.toNat x89) 0) < (((List.length ranks) : Nat) : Int), World.cell? w107 ⟨b121, o122 + (Int.toNat (List.getD row (Int.toNat x89) 0)) * 1, none⟩ = some (.int .i64 (List.getD ranks (Int.toNat (List.getD row (Int.toNat x89) 0)) 0))] E (by kernel_rfl) (by kernel_rfl) ⟨(H.box 2 rfl).cell (j := 0) rfl, g120, Rds.at1 (H.rd 1 rds_ro) 0 g120⟩ ?_
      clear E; intro a E
      refine wpList_nil ?_
      refine th_n ?_
      refine wp_ret ?_
      have hx_ := Option.some.inj hP
      refine ret1 E rfl rfl ?_
      exact ⟨_, rfl, (), rfl, H.sel [1, 2, 0] rfl, hx_.symm⟩
     clear H
     rintro v124 w123 a ⟨x119, rfl, H, hx_⟩ E_
     subst hx_
     replace E := E_ _ rfl; clear E_
     refine wpList_nil ?_
     refine th_n ?_
     refine E.cases (t := 16) rfl (fun hb_ E_ => ?_) (fun hb_ E_ => ?_)
     ·
      replace E := E_; clear E_
      have h125 : ¬ (((List.getD ranks (Int.toNat (List.getD row (Int.toNat x89) 0)) 0) : Int) = -1) := bne_iff_ne.1 hb_
      clear hb_; replace hP := ite_f h125 hP
      refine c_true E rfl ?_
      refine wp_seq ?_
      refine wp_region_lit ?_
      refine vn tbok 2 [] [(4, .int .i64 x89)] [] E (by kernel_rfl) (by kernel_rfl) trivial ?_
      clear E; intro a E
      refine wpList_nil ?_
      refine th_n ?_
      refine wp_ret ?_
      refine bl_ret ?_
      refine th_ret ?_
      refine th_ret ?_
      refine .inr ⟨rfl, ?_⟩
      refine bl_ret ?_
      refine th_ret ?_
      have hx_ := Option.some.inj hP; subst hx_
      have hP : some (x89) = some x74 := hK106
      have hx_ := Option.some.inj hP
      refine ret1 E rfl rfl ?_
      exact ⟨_, rfl, x89, rfl, H.sel [0, 1, 2] rfl, hx_.symm⟩
     replace E := E_; clear E_
     have h126 : ((List.getD ranks (Int.toNat (List.getD row (Int.toNat x89) 0)) 0) : Int) = -1 := bne_eq_false_iff_eq.1 hb_
     clear hb_; replace hP := ite_t h126 hP
     refine c_false E rfl ?_
     refine wp_skip ?_
     refine bl_n ?_
     refine th_n ?_
     refine wp_region_lit ?_
     obtain ⟨g127, hP⟩ := ask_inv hP
     refine vn tbok 2 [.int .i64 (x89 + 1)] [(8, .int .i64 (x89 + 1))] [IntKind.i64.wrap (x89 + 1) = x89 + 1] E (by kernel_rfl) (by kernel_rfl) (wrap_in g127) ?_
     clear E; intro a E
     refine wpList_nil ?_
     exact th_n ⟨m103, Nat.lt_succ_self _, x89 + 1, E.pick _ ⟨rfl, rfl, rfl, rfl, trivial⟩, H.sel [2, 0, 1] rfl, hP⟩
    replace E := E_; clear E_
    have h128 : ¬ (x89 < (((List.length row) : Nat) : Int)) := of_decide_eq_false hb_
    clear hb_; replace hP := ite_f h128 hP
    refine c_false E rfl ?_
    refine wp_exit ?_
    refine th_exit ?_
    have hx_ := Option.some.inj hP
    refine th_exit (.inl ⟨0, rfl, ?_⟩)
    exact ⟨rfl, (), E.pick _ trivial, H.sel [1, 2, 0] rfl, hx_.symm⟩
   clear E H hL105; intro i_ a w107 hM_
   obtain ⟨rfl, x109, E, H, hx_⟩ := hM_
   subst hx_; have hP := elim_l hK106
   clear hK106
   refine bl_hit ?_
   refine th_n ?_
   refine wp_seq ?_
   refine wp_region_lit ?_
   refine vn tbok 1 [] [(4, .int .i64 (-1))] [] E (by kernel_rfl) (by kernel_rfl) trivial ?_
   clear E; intro a E
   refine wpList_nil ?_
   refine th_n ?_
   refine wp_ret ?_
   have hx_ := Option.some.inj hP
   refine ret1 E rfl rfl ?_
   exact ⟨_, rfl, -1, rfl, H.sel [0, 1, 2] rfl, hx_.symm⟩
  clear H
  rintro v131 w130 a ⟨x76, rfl, H, hx_⟩ E_
  subst hx_
  replace E := E_ _ rfl; clear E_
  refine vn tbok 2 [] [(4, .bool (decide (0 ≤ x74)))] [] E (by kernel_rfl) (by kernel_rfl) trivial ?_
  clear E; intro a E
  refine wpList_nil ?_
  refine th_n ?_
  refine wp_ret ?_
  have hx_ := Option.some.inj hP
  refine ret1 E rfl rfl ?_
  exact ⟨_, rfl, decide (0 ≤ x74), rfl, H.sel [0, 1, 2] rfl, hx_.symm⟩
 clear H
 rintro v133 w132 a ⟨x46, rfl, H, hx_⟩ E_
 subst hx_
 replace E := E_ _ rfl; clear E_
 refine vn tbok 2 [] [(4, .bool (!x44))] [] E (by kernel_rfl) (by kernel_rfl) trivial ?_
 clear E; intro a E
 refine wpList_nil ?_
 refine th_n ?_
 refine wp_ret ?_
 obtain rfl := Option.some.inj hP
 refine ret1 E rfl rfl ?_
 exact ⟨_, rfl, rfl, H.sel [] rfl⟩

/-! rejoinder/strat.Of -/
def strat_Of_l2 (N : Nat) (r28 : (List Int) × Int) (r99 : List Int) (r537 : (List (List Int)) × Int) : Nat → (List Int) → Int → Option (List Int)
  | 0, _, _ => none
  | m776 + 1, reply733, x736 =>
    if x736 < (((List.length r537.1) : Nat) : Int) then
      ask (idx x736 (List.length r537.1)) <|
      Option.bind (strat_best N (List.getD r537.1 (Int.toNat x736) []) r28.1) fun r793 =>
      ask (idx r793 (List.length r99)) <|
      ask (List.length reply733 + List.length ([(List.getD r99 (Int.toNat r793) 0)] : List Int) ≤ 1000000000) <|
      ask (in64 (x736 + 1)) <|
      strat_Of_l2 N r28 r99 r537 m776 (reply733 ++ ([(List.getD r99 (Int.toNat r793) 0)] : List Int)) (x736 + 1)
    else
      some reply733
def strat_Of_f5 (N : Nat) (r28 : (List Int) × Int) (r537 : (List (List Int)) × Int) (x898 : Int) : Option Bool :=
    Option.bind (strat_lost N (List.getD r537.1 (Int.toNat x898) []) r28.1) fun r953 =>
    some r953
def strat_Of_l4 (N : Nat) (r28 : (List Int) × Int) (r537 : (List (List Int)) × Int) : Nat → Int → Option (Unit ⊕ Int)
  | 0, _ => none
  | m924 + 1, x898 =>
    if x898 < (((List.length r537.1) : Nat) : Int) then
      ask (idx x898 (List.length r537.1)) <|
      Option.bind (strat_Of_f5 N r28 r537 x898) fun x950 =>
      if x950 = true then
        some (Sum.inr x898)
      else
        ask (in64 (x898 + 1)) <|
        strat_Of_l4 N r28 r537 m924 (x898 + 1)
    else
      some (Sum.inl ())
def strat_Of_f3 (N : Nat) (r28 : (List Int) × Int) (r537 : (List (List Int)) × Int) : Option Int :=
    Option.bind (strat_Of_l4 N r28 r537 N 0) fun x925 =>
    Sum.elim (fun x930 =>
      some (-1))
     (fun x968 =>
      some x968) x925
def strat_Of_j1 (N : Nat) (r28 : (List Int) × Int) (r87 : List Int) (r99 : List Int) (x329 : Int) (r537 : (List (List Int)) × Int) : Option ((List Int) × Int) :=
    if 0 < (List.getD r28.1 (Int.toNat x329) 0) then
      Option.bind (strat_Of_l2 N r28 r99 r537 N [] 0) fun x777 =>
      some (x777, 0)
    else
      if (List.getD r28.1 (Int.toNat x329) 0) < 0 then
        Option.bind (strat_Of_f3 N r28 r537) fun x871 =>
        ask (idx x871 (List.length r87)) <|
        some ([], (List.getD r87 (Int.toNat x871) 0))
      else
        some ([], 0)
def strat_Of_l0 (N : Nat) (aProps : Int) (aAccept : List Bool) (aGuard : List Int) (aNodes : List Nd) (s : Int × Int) (r28 : (List Int) × Int) (r87 : List Int) (r99 : List Int) : Nat → (List (List Int)) → (List Int) → Int → Option ((List (List Int)) × (List Int))
  | 0, _, _, _ => none
  | m526 + 1, x322, x326, x329 =>
    if x329 < (((List.length r28.1) : Nat) : Int) then
      ask (idx x329 (List.length r28.1)) <|
      Option.bind (board_Goes N aProps aAccept aGuard aNodes (s.1, s.2) x329) fun r537 =>
      Option.bind (strat_Of_j1 N r28 r87 r99 x329 r537) fun x692 =>
      ask (List.length x322 + List.length ([x692.1] : List (List Int)) ≤ 1000000000) <|
      ask (List.length x326 + List.length ([x692.2] : List Int) ≤ 1000000000) <|
      ask (in64 (x329 + 1)) <|
      strat_Of_l0 N aProps aAccept aGuard aNodes s r28 r87 r99 m526 (x322 ++ ([x692.1] : List (List Int))) (x326 ++ ([x692.2] : List Int)) (x329 + 1)
    else
      some (x322, x326)
def strat_Of (N : Nat) (aProps : Int) (aAccept : List Bool) (aGuard : List Int) (aNodes : List Nd) (s : Int × Int) : Option ((Bool × (List Int) × (List (List Int)) × (List Int)) × Int) :=
  Option.bind (attract_Ranks N aProps aAccept aGuard aNodes (s.1, s.2)) fun r28 =>
  if (r28.2 : Int) = 0 then
    ask (idx (0 : Int) (List.length r28.1)) <|
    Option.bind (board_Moves N s.1) fun r87 =>
    Option.bind (board_Moves N s.2) fun r99 =>
    Option.bind (strat_Of_l0 N aProps aAccept aGuard aNodes s r28 r87 r99 N [] [] 0) fun x527 =>
    some ((decide (0 ≤ (List.getD r28.1 (Int.toNat (0 : Int)) 0)), r28.1, x527.1, x527.2), 0)
  else
    some ((false, [], [], []), r28.2)
set_option maxRecDepth 100000 in
set_option maxHeartbeats 4000000 in
theorem strat_Of_calls {N : Nat} {S Fa : Nat → Prop} {w0 : World} {r : (Bool × (List Int) × (List (List Int)) × (List Int)) × Int} (A1 : Option Addr) (c2 : Nat) (A5 : Option Addr) (c6 : Nat) (A9 : Option Addr) (c10 : Nat) (aProps : Int) (aAccept : List Bool) (aGuard : List Int) (aNodes : List Nd) (s : Int × Int) (hk3 : List.length aAccept ≤ c2) (hk7 : List.length aGuard ≤ c6) (hk11 : List.length aNodes ≤ c10) (H : Hp S Fa w0 w0 [.ro false cBool A1 aAccept, .ro false (cInt .i64) A5 aGuard, .ro false cNode A9 aNodes]) (hP : strat_Of N aProps aAccept aGuard aNodes s = some r) :
    Calls Try.prog 12 #[.agg #[.int .i64 aProps, .slice A1 (List.length aAccept) c2, .slice A5 (List.length aGuard) c6, .slice A9 (List.length aNodes) c10], .agg #[.int .u8 s.1, .int .u8 s.2]] w0 fun e w' => ∃ v, e = .returned v ∧ ∃ (A1008 : Option Addr) (c1009 : Nat) (A1010 : Option Addr) (c1011 : Nat) (A1012 : Option Addr) (c1013 : Nat), v = .tuple #[.agg #[.bool r.1.1, .slice A1008 (List.length r.1.2.1) c1009, .slice A1010 (List.length r.1.2.2.1) c1011, .slice A1012 (List.length r.1.2.2.2) c1013], .int .i64 r.2] ∧ Hp S Fa w0 w' [.row true (cInt .i64) 3 A1008 c1009 r.1.2.1, .row true (cSl (cInt .u8)) 31 A1010 c1011 r.1.2.2.1, .row true (cInt .u8) 27 A1012 c1013 r.1.2.2.2] := by
 refine enterV (n := 97) Try.func12 rfl rfl rfl ?_
 intro a E
 replace E := E.pick [(0, .agg #[.int .i64 aProps, .slice A1 (List.length aAccept) c2, .slice A5 (List.length aGuard) c6, .slice A9 (List.length aNodes) c10]), (1, .agg #[.int .u8 s.1, .int .u8 s.2])] ⟨rfl, rfl, trivial⟩
 rw [strat_Of] at hP
 refine wp_seq ?_
 refine wp_region_lit ?_
 refine h_box H E rfl rfl rfl ?_
 intro w14 g13 a hc15 hg17 H_ E_
 replace E := E_ _ rfl; clear E_
 replace H := H_; clear H_; try dsimp only [setn, addE, goneL] at H
 refine h_box H E rfl rfl rfl ?_
 intro w19 g18 a hc20 hg22 H_ E_
 replace E := E_ _ rfl; clear E_
 replace H := H_; clear H_; try dsimp only [setn, addE, goneL] at H
 refine h_alloc H E rfl rfl tbok rfl ?_
 intro w24 g23 a hc25 hg27 H_ E_
 replace E := E_ _ rfl; clear E_
 replace H := H_; clear H_; try dsimp only [setn, addE, goneL] at H
 refine vn tbok 1 [] [] [] E (by kernel_rfl) (by kernel_rfl) trivial ?_
 clear E; intro a E
 refine wpList_nil ?_
 refine th_n ?_
 refine wp_seq ?_
 refine wp_region_lit ?_
 refine vn tbok 2 [.agg #[.int .i64 aProps, .slice A1 (List.length aAccept) c2, .slice A5 (List.length aGuard) c6, .slice A9 (List.length aNodes) c10], .agg #[.int .u8 s.1, .int .u8 s.2]] [(20, .agg #[.int .i64 aProps, .slice A1 (List.length aAccept) c2, .slice A5 (List.length aGuard) c6, .slice A9 (List.length aNodes) c10]), (21, .agg #[.int .u8 s.1, .int .u8 s.2])] [cellsAt w24 g13 (0) [.int .i64 aProps, .slice A1 (List.length aAccept) c2, .slice A5 (List.length aGuard) c6, .slice A9 (List.length aNodes) c10], cellsAt w24 g18 (0) [.int .u8 s.1, .int .u8 s.2]] E (by kernel_rfl) (by kernel_rfl) ⟨(H.box 3 rfl).sub 0 _ rfl, (H.box 4 rfl).sub 0 _ rfl⟩ ?_
 clear E; intro a E
 obtain ⟨r28, h29, hP⟩ := bind_inv hP
 obtain ⟨Fa30, Hc31, hb32⟩ := H.call [] [(0, false), (1, false), (2, false)] rfl rfl trivial
 refine e_call E rfl rfl Try.func32 rfl rfl rfl (attract_Ranks_calls A1 c2 A5 c6 A9 c10 aProps aAccept aGuard aNodes (s.1, s.2) hk3 hk7 hk11 Hc31 h29) ?_
 rintro v33 w34 a ⟨A37, c38, rfl, HR35⟩ E_
 replace E := E_ _ rfl; clear E_
 obtain ⟨H_, hc36⟩ := hb32 _ _ HR35 rfl
 replace H := H_; clear H_; try dsimp only [setn, addE, goneL] at H
 refine vn tbok 3 [] [(23, .slice A37 (List.length r28.1) c38), (24, .int .i64 r28.2)] [] E (by kernel_rfl) (by kernel_rfl) trivial ?_
 clear E; intro a E
 refine h_alloc H E rfl rfl tbok rfl ?_
 intro w41 g40 a hc42 hg44 H_ E_
 replace E := E_ _ rfl; clear E_
 replace H := H_; clear H_; try dsimp only [setn, addE, goneL] at H
 refine h_store (g := g40) (off := 0) H 7 rfl E rfl rfl rfl rfl tbok rfl rfl rfl rfl rfl ?_
 clear E; intro w45 a hc46 H_ E
 replace H := H_; clear H_; try dsimp only [setn, addE, goneL] at H
 refine vn tbok 1 [] [(7, .int .i64 r28.2)] [] E (by kernel_rfl) (by kernel_rfl) trivial ?_
 clear E; intro a E
 refine wpList_nil ?_
 refine th_n ?_
 refine wp_seq ?_
 refine wp_seq ?_
 refine wp_region_lit ?_
 refine vn tbok 2 [] [(26, .bool ((r28.2 : Int) != 0))] [] E (by kernel_rfl) (by kernel_rfl) trivial ?_
 clear E; intro a E
 refine wpList_nil ?_
 refine th_n ?_
 refine E.cases (t := 26) rfl (fun hb_ E_ => ?_) (fun hb_ E_ => ?_)
 ·
  replace E := E_; clear E_
  have h47 : ¬ ((r28.2 : Int) = 0) := bne_iff_ne.1 hb_
  clear hb_; replace hP := ite_f h47 hP
  refine c_true E rfl ?_
  refine wp_seq ?_
  refine wp_region_lit ?_
  refine e_build (ps := []) (v := .agg #[.bool false, .slice none 0 0, .slice none 0 0, .slice none 0 0]) E rfl rfl tbok rfl (by kernel_rfl) rfl ?_
  clear E; intro a E
  refine vn tbok 1 [] [(28, .int .i64 r28.2)] [] E (by kernel_rfl) (by kernel_rfl) trivial ?_
  clear E; intro a E
  refine h_store (g := g23) (off := 0) H 5 rfl E rfl rfl rfl rfl tbok rfl rfl rfl rfl rfl ?_
  clear E; intro w48 a hc49 H_ E
  replace H := H_; clear H_; try dsimp only [setn, addE, goneL] at H
  refine vn tbok 1 [] [(5, .int .i64 r28.2)] [] E (by kernel_rfl) (by kernel_rfl) trivial ?_
  clear E; intro a E
  refine wpList_nil ?_
  refine th_n ?_
  refine wp_ret ?_
  refine th_ret ?_
  replace H := H.nilrow (cInt .i64) 3; try dsimp only [setn, addE, goneL] at H
  replace H := H.nilrow (cSl (cInt .u8)) 31; try dsimp only [setn, addE, goneL] at H
  replace H := H.nilrow (cInt .u8) 27; try dsimp only [setn, addE, goneL] at H
  obtain rfl := Option.some.inj hP
  refine retV E [.cell 4 33, .tmp 5] [.agg #[.bool false, .slice none 0 0, .slice none 0 0, .slice none 0 0], .int .i64 r28.2] rfl ⟨⟨_, rfl, run_loadBx tbok (H.box 5 rfl) rfl rfl rfl 0 rfl rfl⟩, rfl, trivial⟩ (.inl rfl) ?_
  exact ⟨_, rfl, none, 0, none, 0, none, 0, rfl, H.sel [8, 9, 10] rfl⟩
 replace E := E_; clear E_
 have h53 : (r28.2 : Int) = 0 := bne_eq_false_iff_eq.1 hb_
 clear hb_; replace hP := ite_t h53 hP
 refine c_false E rfl ?_
 refine wp_skip ?_
 refine th_n ?_
 refine wp_seq ?_
 obtain ⟨g54, hP⟩ := ask_inv hP
 obtain ⟨b55, e_b55⟩ := H.raddrx 6 rfl (idx_pos g54)
 subst e_b55
 refine meet_cut (fun a w66 => ∃ (g65 : Nat), Fr a 97 [(2, .pointer (some ⟨g13, 0, none⟩)), (3, .pointer (some ⟨g18, 0, none⟩)), (4, .pointer (some ⟨g23, 0, none⟩)), (6, .pointer (some ⟨g40, 0, none⟩)), (8, .pointer (some ⟨g65, 0, none⟩))] ∧ Hp S Fa w0 w66 [.ro false cBool A1 aAccept, .ro false (cInt .i64) A5 aGuard, .ro false cNode A9 aNodes, .box g13 26 [.int .i64 aProps, .slice A1 (List.length aAccept) c2, .slice A5 (List.length aGuard) c6, .slice A9 (List.length aNodes) c10], .box g18 29 [.int .u8 s.1, .int .u8 s.2], .box g23 33 [.bool false, .slice none 0 0, .slice none 0 0, .slice none 0 0], .rowx true (cInt .i64) 3 (some ⟨b55, 0, none⟩) c38 r28.1 [], .box g40 23 [.slice (some ⟨b55, 0, none⟩) (List.length r28.1) c38], .box g65 33 [.bool (decide (0 ≤ (List.getD r28.1 (Int.toNat (0 : Int)) 0))), .slice (some ⟨b55, 0, none⟩) (List.length r28.1) c38, .slice none 0 0, .slice none 0 0]]) ?_ ?_
 ·
  have HR70 := H
  refine dr_start (S := fun w_ => Chg (atL []) w45 w_) (by kernel_rfl) ?_
  intro w67 hc68
  have HS69 : Chg (atL []) w45 w67 := hc68.mono (fun _ _ h_ => h_.elim)
  replace H := H.ext hc68
  refine dn tbok (by kernel_rfl) [0, 1, 2, 3, 4] [.slice (some ⟨b55, 0, none⟩) (List.length r28.1) c38, .int .i64 (List.getD r28.1 (Int.toNat (0 : Int)) 0), .slice (some ⟨b55, 0, none⟩) (List.length r28.1) c38] [(32, .bool (decide (0 ≤ (List.getD r28.1 (Int.toNat (0 : Int)) 0)))), (33, .slice (some ⟨b55, 0, none⟩) (List.length r28.1) c38)] (fun w_ => [World.cell? w_ ⟨g40, 0, none⟩ = some (.slice (some ⟨b55, 0, none⟩) (List.length r28.1) c38), 0 ≤ (0 : Int) ∧ (0 : Int) < (((List.length r28.1) : Nat) : Int), World.cell? w_ ⟨b55, 0 + (Int.toNat (0 : Int)) * 1, none⟩ = some (.int .i64 (List.getD r28.1 (Int.toNat (0 : Int)) 0)), World.cell? w_ ⟨g40, 0, none⟩ = some (.slice (some ⟨b55, 0, none⟩) (List.length r28.1) c38)]) 3 E (fun _ _ => by kernel_rfl) (by kernel_rfl) (fun w_ hS_ => ⟨(HR70.boxk [] hS_ 7 rfl rfl).cell (j := 0) rfl, g54, Rds.at1 (HR70.rdk [] hS_ 6 rds_rowx rfl) 0 g54, (HR70.boxk [] hS_ 7 rfl rfl).cell (j := 0) rfl⟩) (by kernel_rfl) HS69 ?_
  clear E; intro a E
  refine wpAnyH_all (rs := [5, 6]) (by kernel_rfl) (by simp) ?_
  refine all2 ?_ ?_
  ·
   refine wpOp_of_list rfl ?_
   refine e_build (ps := [(0, .bool (decide (0 ≤ (List.getD r28.1 (Int.toNat (0 : Int)) 0)))), (1, .slice (some ⟨b55, 0, none⟩) (List.length r28.1) c38)]) (v := .agg #[.bool (decide (0 ≤ (List.getD r28.1 (Int.toNat (0 : Int)) 0))), .slice (some ⟨b55, 0, none⟩) (List.length r28.1) c38, .slice none 0 0, .slice none 0 0]) E rfl rfl tbok rfl (by kernel_rfl) rfl ?_
   clear E; intro a E
   refine wpList_nil ?_
   refine th_n ⟨HS69, ?_⟩
   refine wpAnyH_all (rs := [6]) (by kernel_rfl) (by simp) ?_
   refine all1 ?_
   refine wpOp_of_list rfl ?_
   refine h_alloc H E rfl rfl tbok rfl ?_
   intro w72 g71 a hc73 hg75 H_ E_
   replace E := E_ _ rfl; clear E_
   have hin76 : ∀ q_, q_ < w45.heap.size → q_ = g71 → (atL []) q_ := fun q_ h1_ h2_ => by have hs_ := HS69.size; have h4_ : q_ = g71 := h2_; exfalso; omega
   replace HS69 := HS69.ext hc73
   replace H := H_; clear H_; try dsimp only [setn, addE, goneL] at H
   refine wpList_nil ?_
   refine th_n ⟨HS69, ?_⟩
   refine wpAnyH_all (rs := [7]) (by kernel_rfl) (by simp) ?_
   refine all1 ?_
   refine wpOp_of_list rfl ?_
   refine h_store (g := g71) (off := 0) H 8 rfl E rfl rfl rfl rfl tbok rfl rfl rfl rfl rfl ?_
   clear E; intro w77 a hc78 H_ E
   replace HS69 := HS69.trans hc78 (fun k_ hk_ h_ => hin76 k_ hk_ h_)
   replace H := H_; clear H_; try dsimp only [setn, addE, goneL] at H
   refine wpList_nil ?_
   refine th_n ⟨HS69, ?_⟩
   refine dr_done (by kernel_rfl) ?_
   exact .inl ⟨rfl, g71, E.pick _ ⟨rfl, rfl, rfl, rfl, rfl, trivial⟩, H.sel [0, 1, 2, 3, 4, 5, 6, 7, 8] rfl⟩
  refine wpOp_of_list rfl ?_
  refine h_alloc H E rfl rfl tbok rfl ?_
  intro w80 g79 a hc81 hg83 H_ E_
  replace E := E_ _ rfl; clear E_
  have hin84 : ∀ q_, q_ < w45.heap.size → q_ = g79 → (atL []) q_ := fun q_ h1_ h2_ => by have hs_ := HS69.size; have h4_ : q_ = g79 := h2_; exfalso; omega
  replace HS69 := HS69.ext hc81
  replace H := H_; clear H_; try dsimp only [setn, addE, goneL] at H
  refine wpList_nil ?_
  refine th_n ⟨HS69, ?_⟩
  refine wpAnyH_all (rs := [5]) (by kernel_rfl) (by simp) ?_
  refine all1 ?_
  refine wpOp_of_list rfl ?_
  refine e_build (ps := [(0, .bool (decide (0 ≤ (List.getD r28.1 (Int.toNat (0 : Int)) 0)))), (1, .slice (some ⟨b55, 0, none⟩) (List.length r28.1) c38)]) (v := .agg #[.bool (decide (0 ≤ (List.getD r28.1 (Int.toNat (0 : Int)) 0))), .slice (some ⟨b55, 0, none⟩) (List.length r28.1) c38, .slice none 0 0, .slice none 0 0]) E rfl rfl tbok rfl (by kernel_rfl) rfl ?_
  clear E; intro a E
  refine wpList_nil ?_
  refine th_n ⟨HS69, ?_⟩
  refine wpAnyH_all (rs := [7]) (by kernel_rfl) (by simp) ?_
  refine all1 ?_
  refine wpOp_of_list rfl ?_
  refine h_store (g := g79) (off := 0) H 8 rfl E rfl rfl rfl rfl tbok rfl rfl rfl rfl rfl ?_
  clear E; intro w85 a hc86 H_ E
  replace HS69 := HS69.trans hc86 (fun k_ hk_ h_ => hin84 k_ hk_ h_)
  replace H := H_; clear H_; try dsimp only [setn, addE, goneL] at H
  refine wpList_nil ?_
  refine th_n ⟨HS69, ?_⟩
  refine dr_done (by kernel_rfl) ?_
  exact .inl ⟨rfl, g79, E.pick _ ⟨rfl, rfl, rfl, rfl, rfl, trivial⟩, H.sel [0, 1, 2, 3, 4, 5, 6, 7, 8] rfl⟩
 clear E H; rintro a w66 ⟨g65, E, H⟩
 refine th_n ?_
 refine wp_seq ?_
 obtain ⟨r87, h88, hP⟩ := bind_inv hP
 obtain ⟨r99, h100, hP⟩ := bind_inv hP
 have HR114 := H
 refine dr_start (S := fun w_ => Chg (atL []) w66 w_) (by kernel_rfl) ?_
 intro w111 hc112
 have HS113 : Chg (atL []) w66 w111 := hc112.mono (fun _ _ h_ => h_.elim)
 replace H := H.ext hc112
 refine dn tbok (by kernel_rfl) [0, 1, 3, 4] [.int .u8 s.1, .int .u8 s.2] [(36, .int .u8 s.1), (39, .int .u8 s.2)] (fun w_ => [World.cell? w_ ⟨g18, 0, none⟩ = some (.int .u8 s.1), World.cell? w_ ⟨g18, 1, none⟩ = some (.int .u8 s.2)]) 4 E (fun _ _ => by kernel_rfl) (by kernel_rfl) (fun w_ hS_ => ⟨(HR114.boxk [] hS_ 4 rfl rfl).cell (j := 0) rfl, (HR114.boxk [] hS_ 4 rfl rfl).cell (j := 1) rfl⟩) (by kernel_rfl) HS113 ?_
 clear E; intro a E
 refine wpAnyH_all (rs := [2]) (by kernel_rfl) (by simp) ?_
 refine all1 ?_
 refine wpOp_of_list rfl ?_
 obtain ⟨Fa115, Hc116, hb117⟩ := H.call [] [] rfl rfl trivial
 refine e_call E rfl rfl Try.func33 rfl rfl rfl (board_Moves_calls  s.1  Hc116 h88) ?_
 rintro v118 w119 a ⟨A122, c123, rfl, HR120⟩ E_
 replace E := E_ _ rfl; clear E_
 obtain ⟨H_, hc121⟩ := hb117 _ _ HR120 rfl
 replace HS113 := HS113.ext (callS_ext hc121)
 replace H := H_; clear H_; try dsimp only [setn, addE, goneL] at H
 refine wpList_nil ?_
 refine th_n ⟨HS113, ?_⟩
 refine wpAnyH_all (rs := [5]) (by kernel_rfl) (by simp) ?_
 refine all1 ?_
 refine wpOp_of_list rfl ?_
 obtain ⟨Fa125, Hc126, hb127⟩ := H.call [] [] rfl rfl trivial
 refine e_call E rfl rfl Try.func33 rfl rfl rfl (board_Moves_calls  s.2  Hc126 h100) ?_
 rintro v128 w129 a ⟨A132, c133, rfl, HR130⟩ E_
 replace E := E_ _ rfl; clear E_
 obtain ⟨H_, hc131⟩ := hb127 _ _ HR130 rfl
 replace HS113 := HS113.ext (callS_ext hc131)
 replace H := H_; clear H_; try dsimp only [setn, addE, goneL] at H
 refine wpList_nil ?_
 refine th_n ⟨HS113, ?_⟩
 refine dn tbok (by kernel_rfl) [6, 7] [] [(9, .slice A122 (List.length r87) c123), (10, .slice A132 (List.length r99) c133)] (fun w_ => []) 0 E (fun _ _ => by kernel_rfl) (by kernel_rfl) (fun w_ hS_ => trivial) (by kernel_rfl) HS113 ?_
 clear E; intro a E
 refine dr_done (by kernel_rfl) ?_
 clear HS113 HR114
 refine th_n ?_
 refine wp_seq ?_
 refine wp_seq ?_
 refine wp_region_lit ?_
 refine vn tbok 3 [.slice (some ⟨b55, 0, none⟩) (List.length r28.1) c38] [(41, .slice (some ⟨b55, 0, none⟩) (List.length r28.1) c38), (42, .int .i64 (((List.length r28.1) : Nat) : Int)), (43, .int .i64 0)] [World.cell? w129 ⟨g40, 0, none⟩ = some (.slice (some ⟨b55, 0, none⟩) (List.length r28.1) c38)] E (by kernel_rfl) (by kernel_rfl) ((H.box 7 rfl).cell (j := 0) rfl) ?_
 clear E; intro a E
 refine wpList_nil ?_
 refine th_n ?_
 refine wp_block ?_
 obtain ⟨x527, hL528, hK529⟩ := bind_inv hP
 clear hP
 replace H := H.nilrow (cSl (cInt .u8)) 31; try dsimp only [setn, addE, goneL] at H
 replace H := H.nilrow (cInt .u8) 27; try dsimp only [setn, addE, goneL] at H
 refine loop_cut (fun i_ a w_ => (i_ = 0 ∧ ∃ (x534 : (List (List Int)) × (List Int)), ∃ (A520 : Option Addr) (c521 : Nat) (A524 : Option Addr) (c525 : Nat), Fr a 97 [(4, .pointer (some ⟨g23, 0, none⟩)), (8, .pointer (some ⟨g65, 0, none⟩))] ∧ Hp S Fa w0 w_ [.box g23 33 [.bool false, .slice none 0 0, .slice none 0 0, .slice none 0 0], .box g65 33 [.bool (decide (0 ≤ (List.getD r28.1 (Int.toNat (0 : Int)) 0))), .slice (some ⟨b55, 0, none⟩) (List.length r28.1) c38, .slice A520 (List.length x534.1) c521, .slice A524 (List.length x534.2) c525], .rowx true (cInt .i64) 3 (some ⟨b55, 0, none⟩) c38 r28.1 [], .row true (cSl (cInt .u8)) 31 A520 c521 x534.1, .row true (cInt .u8) 27 A524 c525 x534.2] ∧ x527 = x534)) ?_ ?_
 ·
  refine loopV (fun m533 a w532 => ∃ (x322 : List (List Int)) (x326 : List Int) (x329 : Int), ∃ (A323 : Option Addr) (c324 : Nat) (A327 : Option Addr) (c328 : Nat), Fr a 97 [(2, .pointer (some ⟨g13, 0, none⟩)), (3, .pointer (some ⟨g18, 0, none⟩)), (4, .pointer (some ⟨g23, 0, none⟩)), (6, .pointer (some ⟨g40, 0, none⟩)), (8, .pointer (some ⟨g65, 0, none⟩)), (9, .slice A122 (List.length r87) c123), (10, .slice A132 (List.length r99) c133), (41, .slice (some ⟨b55, 0, none⟩) (List.length r28.1) c38), (42, .int .i64 (((List.length r28.1) : Nat) : Int)), (43, .int .i64 x329)] ∧ Hp S Fa w0 w532 [.ro false cBool A1 aAccept, .ro false (cInt .i64) A5 aGuard, .ro false cNode A9 aNodes, .box g13 26 [.int .i64 aProps, .slice A1 (List.length aAccept) c2, .slice A5 (List.length aGuard) c6, .slice A9 (List.length aNodes) c10], .box g18 29 [.int .u8 s.1, .int .u8 s.2], .box g23 33 [.bool false, .slice none 0 0, .slice none 0 0, .slice none 0 0], .rowx true (cInt .i64) 3 (some ⟨b55, 0, none⟩) c38 r28.1 [], .box g40 23 [.slice (some ⟨b55, 0, none⟩) (List.length r28.1) c38], .box g65 33 [.bool (decide (0 ≤ (List.getD r28.1 (Int.toNat (0 : Int)) 0))), .slice (some ⟨b55, 0, none⟩) (List.length r28.1) c38, .slice A323 (List.length x322) c324, .slice A327 (List.length x326) c328], .row true (cSl (cInt .u8)) 31 A323 c324 x322, .row true (cInt .u8) 27 A327 c328 x326, .row true (cInt .u8) 27 A122 c123 r87, .row true (cInt .u8) 27 A132 c133 r99] ∧ strat_Of_l0 N aProps aAccept aGuard aNodes s r28 r87 r99 m533 x322 x326 x329 = some x527) N ?_ ?_
  ·
   exact ⟨[], [], 0, none, 0, none, 0, E.pick _ ⟨rfl, rfl, rfl, rfl, rfl, rfl, rfl, rfl, rfl, rfl, trivial⟩, H.sel [0, 1, 2, 3, 4, 5, 6, 7, 8, 11, 12, 9, 10] rfl, hL528⟩
  clear E H hL528; intro m533 a w532 hI_
  obtain ⟨x322, x326, x329, A323, c324, A327, c328, E, H, hP⟩ := hI_
  obtain ⟨m526, rfl⟩ : ∃ q_, m533 = q_ + 1 := by cases m533 with | zero => rw [strat_Of_l0] at hP; cases hP | succ q_ => exact ⟨q_, rfl⟩
  rw [strat_Of_l0] at hP
  refine wp_seq ?_
  refine wp_region_lit ?_
  refine vn tbok 1 [] [(44, .bool (decide (x329 < (((List.length r28.1) : Nat) : Int))))] [] E (by kernel_rfl) (by kernel_rfl) trivial ?_
  clear E; intro a E
  refine wpList_nil ?_
  refine th_n ?_
  refine wp_seq ?_
  refine E.cases (t := 44) rfl (fun hb_ E_ => ?_) (fun hb_ E_ => ?_)
  ·
   replace E := E_; clear E_
   have h535 : x329 < (((List.length r28.1) : Nat) : Int) := of_decide_eq_true hb_
   clear hb_; replace hP := ite_t h535 hP
   refine c_true E rfl ?_
   refine wp_skip ?_
   refine th_n ?_
   refine wp_seq ?_
   refine wp_block ?_
   refine wp_seq ?_
   refine wp_region_lit ?_
   obtain ⟨g536, hP⟩ := ask_inv hP
   refine vn tbok 5 [.int .i64 (List.getD r28.1 (Int.toNat x329) 0)] [(11, .int .i64 x329), (12, .int .i64 (List.getD r28.1 (Int.toNat x329) 0))] [0 ≤ x329 ∧ x329 < (((List.length r28.1) : Nat) : Int), World.cell? w532 ⟨b55, 0 + (Int.toNat x329) * 1, none⟩ = some (.int .i64 (List.getD r28.1 (Int.toNat x329) 0))] E (by kernel_rfl) (by kernel_rfl) ⟨g536, Rds.at1 (H.rd 6 rds_rowx) 0 g536⟩ ?_
   clear E; intro a E
   refine wpList_nil ?_
   refine th_n ?_
   refine wp_seq ?_
   refine wp_region_lit ?_
   refine vn tbok 3 [.agg #[.int .i64 aProps, .slice A1 (List.length aAccept) c2, .slice A5 (List.length aGuard) c6, .slice A9 (List.length aNodes) c10], .agg #[.int .u8 s.1, .int .u8 s.2]] [(49, .agg #[.int .i64 aProps, .slice A1 (List.length aAccept) c2, .slice A5 (List.length aGuard) c6, .slice A9 (List.length aNodes) c10]), (50, .agg #[.int .u8 s.1, .int .u8 s.2]), (51, .int .i64 x329)] [cellsAt w532 g13 (0) [.int .i64 aProps, .slice A1 (List.length aAccept) c2, .slice A5 (List.length aGuard) c6, .slice A9 (List.length aNodes) c10], cellsAt w532 g18 (0) [.int .u8 s.1, .int .u8 s.2]] E (by kernel_rfl) (by kernel_rfl) ⟨(H.box 3 rfl).sub 0 _ rfl, (H.box 4 rfl).sub 0 _ rfl⟩ ?_
   clear E; intro a E
   obtain ⟨r537, h538, hP⟩ := bind_inv hP
   obtain ⟨Fa539, Hc540, hb541⟩ := H.call [] [(0, false), (1, false), (2, false)] rfl rfl trivial
   refine e_call E rfl rfl Try.func34 rfl rfl rfl (board_Goes_calls A1 c2 A5 c6 A9 c10 aProps aAccept aGuard aNodes (s.1, s.2) x329 hk3 hk7 hk11 Hc540 h538) ?_
   rintro v542 w543 a ⟨A546, c547, rfl, HR544⟩ E_
   replace E := E_ _ rfl; clear E_
   obtain ⟨H_, hc545⟩ := hb541 _ _ HR544 rfl
   replace H := H_; clear H_; try dsimp only [setn, addE, goneL] at H
   refine vn tbok 5 [] [(13, .slice A546 (List.length r537.1) c547)] [] E (by kernel_rfl) (by kernel_rfl) trivial ?_
   clear E; intro a E
   refine wpList_nil ?_
   refine th_n ?_
   refine wp_seq ?_
   refine wp_region_lit ?_
   refine vn tbok 1 [] [(15, .slice none 0 0)] [] E (by kernel_rfl) (by kernel_rfl) trivial ?_
   clear E; intro a E
   refine wpList_nil ?_
   refine th_n ?_
   refine wp_seq ?_
   refine wp_region_lit ?_
   refine vn tbok 1 [] [(16, .int .u8 0)] [] E (by kernel_rfl) (by kernel_rfl) trivial ?_
   clear E; intro a E
   refine wpList_nil ?_
   refine th_n ?_
   refine wp_seq ?_
   refine wp_block ?_
   refine wp_seq ?_
   refine wp_region_lit ?_
   refine vn tbok 3 [] [(55, .bool (decide (0 < (List.getD r28.1 (Int.toNat x329) 0))))] [] E (by kernel_rfl) (by kernel_rfl) trivial ?_
   clear E; intro a E
   refine wpList_nil ?_
   refine th_n ?_
   obtain ⟨x692, h693, hK694⟩ := bind_inv hP
   clear hP
   refine meet_cut (fun a w696 => ∃ (x695 : (List Int) × Int), ∃ (A689 : Option Addr) (c690 : Nat), Fr a 97 [(2, .pointer (some ⟨g13, 0, none⟩)), (3, .pointer (some ⟨g18, 0, none⟩)), (4, .pointer (some ⟨g23, 0, none⟩)), (6, .pointer (some ⟨g40, 0, none⟩)), (8, .pointer (some ⟨g65, 0, none⟩)), (9, .slice A122 (List.length r87) c123), (10, .slice A132 (List.length r99) c133), (15, .slice A689 (List.length x695.1) c690), (16, .int .u8 x695.2), (41, .slice (some ⟨b55, 0, none⟩) (List.length r28.1) c38), (42, .int .i64 (((List.length r28.1) : Nat) : Int)), (43, .int .i64 x329)] ∧ Hp S Fa w0 w696 [.ro false cBool A1 aAccept, .ro false (cInt .i64) A5 aGuard, .ro false cNode A9 aNodes, .box g13 26 [.int .i64 aProps, .slice A1 (List.length aAccept) c2, .slice A5 (List.length aGuard) c6, .slice A9 (List.length aNodes) c10], .box g18 29 [.int .u8 s.1, .int .u8 s.2], .box g23 33 [.bool false, .slice none 0 0, .slice none 0 0, .slice none 0 0], .rowx true (cInt .i64) 3 (some ⟨b55, 0, none⟩) c38 r28.1 [], .box g40 23 [.slice (some ⟨b55, 0, none⟩) (List.length r28.1) c38], .row true (cSl (cInt .u8)) 31 A323 c324 x322, .row true (cInt .u8) 27 A327 c328 x326, .box g65 33 [.bool (decide (0 ≤ (List.getD r28.1 (Int.toNat (0 : Int)) 0))), .slice (some ⟨b55, 0, none⟩) (List.length r28.1) c38, .slice A323 (List.length x322) c324, .slice A327 (List.length x326) c328], .row true (cInt .u8) 27 A122 c123 r87, .row true (cInt .u8) 27 A132 c133 r99, .row true (cInt .u8) 27 A689 c690 x695.1] ∧ x692 = x695) ?_ ?_
   ·
    have hP := h693; clear h693; rw [strat_Of_j1] at hP
    refine E.cases (t := 55) rfl (fun hb_ E_ => ?_) (fun hb_ E_ => ?_)
    ·
     replace E := E_; clear E_
     have h697 : 0 < (List.getD r28.1 (Int.toNat x329) 0) := of_decide_eq_true hb_
     clear hb_; replace hP := ite_t h697 hP
     refine c_true E rfl ?_
     refine wp_seq ?_
     refine wp_region_lit ?_
     refine vn tbok 3 [] [(58, .slice A546 (List.length r537.1) c547), (59, .int .i64 (((List.length r537.1) : Nat) : Int)), (60, .int .i64 0)] [] E (by kernel_rfl) (by kernel_rfl) trivial ?_
     clear E; intro a E
     refine wpList_nil ?_
     refine th_n ?_
     refine wp_block ?_
     obtain ⟨x777, hL778, hK779⟩ := bind_inv hP
     clear hP
     replace H := H.nilrow (cInt .u8) 27; try dsimp only [setn, addE, goneL] at H
     refine loop_cut (fun i_ a w_ => (i_ = 3 ∧ ∃ (x783 : List Int), ∃ (A774 : Option Addr) (c775 : Nat), Fr a 97 [(2, .pointer (some ⟨g13, 0, none⟩)), (3, .pointer (some ⟨g18, 0, none⟩)), (4, .pointer (some ⟨g23, 0, none⟩)), (6, .pointer (some ⟨g40, 0, none⟩)), (8, .pointer (some ⟨g65, 0, none⟩)), (9, .slice A122 (List.length r87) c123), (10, .slice A132 (List.length r99) c133), (15, .slice A774 (List.length x783) c775), (16, .int .u8 0), (41, .slice (some ⟨b55, 0, none⟩) (List.length r28.1) c38), (42, .int .i64 (((List.length r28.1) : Nat) : Int)), (43, .int .i64 x329)] ∧ Hp S Fa w0 w_ [.ro false cBool A1 aAccept, .ro false (cInt .i64) A5 aGuard, .ro false cNode A9 aNodes, .box g13 26 [.int .i64 aProps, .slice A1 (List.length aAccept) c2, .slice A5 (List.length aGuard) c6, .slice A9 (List.length aNodes) c10], .box g18 29 [.int .u8 s.1, .int .u8 s.2], .box g23 33 [.bool false, .slice none 0 0, .slice none 0 0, .slice none 0 0], .rowx true (cInt .i64) 3 (some ⟨b55, 0, none⟩) c38 r28.1 [], .box g40 23 [.slice (some ⟨b55, 0, none⟩) (List.length r28.1) c38], .row true (cSl (cInt .u8)) 31 A323 c324 x322, .row true (cInt .u8) 27 A327 c328 x326, .box g65 33 [.bool (decide (0 ≤ (List.getD r28.1 (Int.toNat (0 : Int)) 0))), .slice (some ⟨b55, 0, none⟩) (List.length r28.1) c38, .slice A323 (List.length x322) c324, .slice A327 (List.length x326) c328], .row true (cInt .u8) 27 A122 c123 r87, .row true (cInt .u8) 27 A132 c133 r99, .row true (cInt .u8) 27 A774 c775 x783] ∧ x777 = x783)) ?_ ?_
     ·
      refine loopV (fun m782 a w781 => ∃ (reply733 : List Int) (x736 : Int), ∃ (A734 : Option Addr) (c735 : Nat), Fr a 97 [(2, .pointer (some ⟨g13, 0, none⟩)), (3, .pointer (some ⟨g18, 0, none⟩)), (4, .pointer (some ⟨g23, 0, none⟩)), (6, .pointer (some ⟨g40, 0, none⟩)), (8, .pointer (some ⟨g65, 0, none⟩)), (9, .slice A122 (List.length r87) c123), (10, .slice A132 (List.length r99) c133), (15, .slice A734 (List.length reply733) c735), (16, .int .u8 0), (41, .slice (some ⟨b55, 0, none⟩) (List.length r28.1) c38), (42, .int .i64 (((List.length r28.1) : Nat) : Int)), (43, .int .i64 x329), (58, .slice A546 (List.length r537.1) c547), (59, .int .i64 (((List.length r537.1) : Nat) : Int)), (60, .int .i64 x736)] ∧ Hp S Fa w0 w781 [.ro false cBool A1 aAccept, .ro false (cInt .i64) A5 aGuard, .ro false cNode A9 aNodes, .box g13 26 [.int .i64 aProps, .slice A1 (List.length aAccept) c2, .slice A5 (List.length aGuard) c6, .slice A9 (List.length aNodes) c10], .box g18 29 [.int .u8 s.1, .int .u8 s.2], .box g23 33 [.bool false, .slice none 0 0, .slice none 0 0, .slice none 0 0], .rowx true (cInt .i64) 3 (some ⟨b55, 0, none⟩) c38 r28.1 [], .box g40 23 [.slice (some ⟨b55, 0, none⟩) (List.length r28.1) c38], .row true (cSl (cInt .u8)) 31 A323 c324 x322, .row true (cInt .u8) 27 A327 c328 x326, .box g65 33 [.bool (decide (0 ≤ (List.getD r28.1 (Int.toNat (0 : Int)) 0))), .slice (some ⟨b55, 0, none⟩) (List.length r28.1) c38, .slice A323 (List.length x322) c324, .slice A327 (List.length x326) c328], .row true (cInt .u8) 27 A122 c123 r87, .row true (cInt .u8) 27 A132 c133 r99, .row true (cInt .u8) 27 A734 c735 reply733, .row true (cSl (cInt .i64)) 23 A546 c547 r537.1] ∧ strat_Of_l2 N r28 r99 r537 m782 reply733 x736 = some x777) N ?_ ?_
      ·
       exact ⟨[], 0, none, 0, E.pick _ ⟨rfl, rfl, rfl, rfl, rfl, rfl, rfl, rfl, rfl, rfl, rfl, rfl, rfl, rfl, rfl, trivial⟩, H.sel [0, 1, 2, 3, 4, 5, 6, 7, 9, 10, 8, 11, 12, 14, 13] rfl, hL778⟩
      clear E H hL778; intro m782 a w781 hI_
      obtain ⟨reply733, x736, A734, c735, E, H, hP⟩ := hI_
      obtain ⟨m776, rfl⟩ : ∃ q_, m782 = q_ + 1 := by cases m782 with | zero => rw [strat_Of_l2] at hP; cases hP | succ q_ => exact ⟨q_, rfl⟩
      rw [strat_Of_l2] at hP
      refine wp_seq ?_
      refine wp_region_lit ?_
      refine vn tbok 1 [] [(61, .bool (decide (x736 < (((List.length r537.1) : Nat) : Int))))] [] E (by kernel_rfl) (by kernel_rfl) trivial ?_
      clear E; intro a E
      refine wpList_nil ?_
      refine th_n ?_
      refine wp_seq ?_
      refine E.cases (t := 61) rfl (fun hb_ E_ => ?_) (fun hb_ E_ => ?_)
      ·
       replace E := E_; clear E_
       have h784 : x736 < (((List.length r537.1) : Nat) : Int) := of_decide_eq_true hb_
       clear hb_; replace hP := ite_t h784 hP
       refine c_true E rfl ?_
       refine wp_skip ?_
       refine th_n ?_
       refine wp_seq ?_
       refine wp_block ?_
       refine wp_seq ?_
       refine wp_region_lit ?_
       obtain ⟨g785, hP⟩ := ask_inv hP
       obtain ⟨b786, e_b786⟩ := H.raddr 14 rfl (idx_pos g785)
       subst e_b786
       obtain ⟨A788, c789, hl790, hk791, H⟩ := H.subSl 14 true (el_row rfl) g785
       try dsimp only [addE] at H
       refine vn tbok 3 [.slice A788 (List.length (List.getD r537.1 (Int.toNat x736) [])) c789] [(18, .slice A788 (List.length (List.getD r537.1 (Int.toNat x736) [])) c789)] [0 ≤ x736 ∧ x736 < (((List.length r537.1) : Nat) : Int), World.cell? w781 ⟨b786, 0 + (Int.toNat x736) * 1, none⟩ = some (.slice A788 (List.length (List.getD r537.1 (Int.toNat x736) [])) c789)] E (by kernel_rfl) (by kernel_rfl) ⟨g785, hl790⟩ ?_
       clear E; intro a E
       refine wpList_nil ?_
       refine th_n ?_
       refine wp_region_lit ?_
       refine vn tbok 4 [.slice (some ⟨b55, 0, none⟩) (List.length r28.1) c38] [(64, .slice A734 (List.length reply733) c735), (65, .slice A132 (List.length r99) c133), (66, .slice A788 (List.length (List.getD r537.1 (Int.toNat x736) [])) c789), (67, .slice (some ⟨b55, 0, none⟩) (List.length r28.1) c38)] [World.cell? w781 ⟨g40, 0, none⟩ = some (.slice (some ⟨b55, 0, none⟩) (List.length r28.1) c38)] E (by kernel_rfl) (by kernel_rfl) ((H.box 7 rfl).cell (j := 0) rfl) ?_
       clear E; intro a E
       obtain ⟨r793, h794, hP⟩ := bind_inv hP
       obtain ⟨Fa795, Hc796, hb797⟩ := H.call [] [(15, false), (6, false)] rfl rfl trivial
       refine e_call E rfl rfl Try.func35 rfl rfl rfl (strat_best_calls A788 c789 (some ⟨b55, 0, none⟩) c38 (List.getD r537.1 (Int.toNat x736) []) r28.1 hk791 (H.rcapx 6 rfl) Hc796 h794) ?_
       rintro v798 w799 a ⟨rfl, HR800⟩ E_
       replace E := E_ _ rfl; clear E_
       obtain ⟨H_, hc801⟩ := hb797 _ _ HR800 rfl
       replace H := H_; clear H_; try dsimp only [setn, addE, goneL] at H
       obtain ⟨g802, hP⟩ := ask_inv hP
       obtain ⟨b803, e_b803⟩ := H.raddr 12 rfl (idx_pos g802)
       subst e_b803
       refine vn tbok 2 [.int .u8 (List.getD r99 (Int.toNat r793) 0)] [(70, .int .u8 (List.getD r99 (Int.toNat r793) 0))] [0 ≤ r793 ∧ r793 < (((List.length r99) : Nat) : Int), World.cell? w799 ⟨b803, 0 + (Int.toNat r793) * 1, none⟩ = some (.int .u8 (List.getD r99 (Int.toNat r793) 0))] E (by kernel_rfl) (by kernel_rfl) ⟨g802, Rds.at1 (H.rd 12 rds_row) 0 g802⟩ ?_
       clear E; intro a E
       refine h_buildSlice (ps := [(0, .int .u8 (List.getD r99 (Int.toNat r793) 0))]) (cs := [.int .u8 (List.getD r99 (Int.toNat r793) 0)]) H E rfl rfl tbok rfl rfl (by kernel_rfl) ?_
       intro w806 g805 a hc807 hg809 H_ E_
       replace E := E_ _ rfl; clear E_
       replace H := H_; clear H_; try dsimp only [setn, addE, goneL] at H
       obtain ⟨g810, hP⟩ := ask_inv hP
       refine h_append (cInt .u8) (xs := reply733) (ys := ([(List.getD r99 (Int.toNat r793) 0)] : List Int)) (0 : Int) H 13 rfl E rfl rfl tbok rfl rfl rfl rfl rfl (fun _ _ => rfl) rfl rfl (fun _ HF_ => HF_.srcB 16 rfl (⟨_, _, rfl, rfl, rfl⟩)) g810 ?_
       intro w811 A812 c813 a hc814 hA815 H_ E_
       replace E := E_ _ rfl; clear E_
       replace H := H_; clear H_; try dsimp only [setn, addE, goneL] at H
       refine vn tbok 1 [] [(15, .slice A812 (List.length (reply733 ++ ([(List.getD r99 (Int.toNat r793) 0)] : List Int))) c813)] [] E (by kernel_rfl) (by kernel_rfl) trivial ?_
       clear E; intro a E
       refine wpList_nil ?_
       refine bl_n ?_
       refine th_n ?_
       refine wp_region_lit ?_
       obtain ⟨g816, hP⟩ := ask_inv hP
       refine vn tbok 2 [.int .i64 (x736 + 1)] [(60, .int .i64 (x736 + 1))] [IntKind.i64.wrap (x736 + 1) = x736 + 1] E (by kernel_rfl) (by kernel_rfl) (wrap_in g816) ?_
       clear E; intro a E
       refine wpList_nil ?_
       exact th_n ⟨m776, Nat.lt_succ_self _, reply733 ++ ([(List.getD r99 (Int.toNat r793) 0)] : List Int), x736 + 1, A812, c813, E.pick _ ⟨rfl, rfl, rfl, rfl, rfl, rfl, rfl, rfl, rfl, rfl, rfl, rfl, rfl, rfl, rfl, trivial⟩, H.sel [0, 1, 2, 3, 4, 5, 6, 7, 8, 9, 10, 11, 12, 13, 14] rfl, hP⟩
      replace E := E_; clear E_
      have h817 : ¬ (x736 < (((List.length r537.1) : Nat) : Int)) := of_decide_eq_false hb_
      clear hb_; replace hP := ite_f h817 hP
      refine c_false E rfl ?_
      refine wp_exit ?_
      refine th_exit ?_
      have hx_ := Option.some.inj hP
      refine th_exit (.inl ⟨3, rfl, ?_⟩)
      exact ⟨rfl, reply733, A734, c735, E.pick _ ⟨rfl, rfl, rfl, rfl, rfl, rfl, rfl, rfl, rfl, rfl, rfl, rfl, trivial⟩, H.sel [0, 1, 2, 3, 4, 5, 6, 7, 8, 9, 10, 11, 12, 13] rfl, hx_.symm⟩
     clear E H hL778; intro i_ a w781 hM_
     obtain ⟨rfl, x783, A774, c775, E, H, hx_⟩ := hM_
     subst hx_; have hP := hK779; clear hK779
     refine bl_hit ?_
     have hx_ := Option.some.inj hP
     exact .inl ⟨rfl, (x777, 0), A774, c775, E.pick _ ⟨rfl, rfl, rfl, rfl, rfl, rfl, rfl, rfl, rfl, rfl, rfl, rfl, trivial⟩, H.sel [0, 1, 2, 3, 4, 5, 6, 7, 8, 9, 10, 11, 12, 13] rfl, hx_.symm⟩
    replace E := E_; clear E_
    have h818 : ¬ (0 < (List.getD r28.1 (Int.toNat x329) 0)) := of_decide_eq_false hb_
    clear hb_; replace hP := ite_f h818 hP
    refine c_false E rfl ?_
    refine wp_seq ?_
    refine wp_region_lit ?_
    refine vn tbok 3 [] [(74, .bool (decide ((List.getD r28.1 (Int.toNat x329) 0) < 0)))] [] E (by kernel_rfl) (by kernel_rfl) trivial ?_
    clear E; intro a E
    refine wpList_nil ?_
    refine th_n ?_
    refine E.cases (t := 74) rfl (fun hb_ E_ => ?_) (fun hb_ E_ => ?_)
    ·
     replace E := E_; clear E_
     have h819 : (List.getD r28.1 (Int.toNat x329) 0) < 0 := of_decide_eq_true hb_
     clear hb_; replace hP := ite_t h819 hP
     refine c_true E rfl ?_
     refine wp_region_lit ?_
     refine vn tbok 2 [] [(77, .slice A122 (List.length r87) c123), (78, .slice A546 (List.length r537.1) c547)] [] E (by kernel_rfl) (by kernel_rfl) trivial ?_
     clear E; intro a E
     refine e_makeFunc (vs := [.pointer (some ⟨g40, 0, none⟩)]) E rfl rfl rfl rfl ?_
     clear E; intro a E
     obtain ⟨x871, h872, hP⟩ := bind_inv hP
     refine e_call (R := fun v_ w_ => ∃ (x873 : Int), v_ = .int .i64 x873 ∧ Hp S Fa w0 w_ [.ro false cBool A1 aAccept, .ro false (cInt .i64) A5 aGuard, .ro false cNode A9 aNodes, .box g13 26 [.int .i64 aProps, .slice A1 (List.length aAccept) c2, .slice A5 (List.length aGuard) c6, .slice A9 (List.length aNodes) c10], .box g18 29 [.int .u8 s.1, .int .u8 s.2], .box g23 33 [.bool false, .slice none 0 0, .slice none 0 0, .slice none 0 0], .rowx true (cInt .i64) 3 (some ⟨b55, 0, none⟩) c38 r28.1 [], .box g40 23 [.slice (some ⟨b55, 0, none⟩) (List.length r28.1) c38], .row true (cSl (cInt .u8)) 31 A323 c324 x322, .row true (cInt .u8) 27 A327 c328 x326, .box g65 33 [.bool (decide (0 ≤ (List.getD r28.1 (Int.toNat (0 : Int)) 0))), .slice (some ⟨b55, 0, none⟩) (List.length r28.1) c38, .slice A323 (List.length x322) c324, .slice A327 (List.length x326) c328], .row true (cInt .u8) 27 A122 c123 r87, .row true (cInt .u8) 27 A132 c133 r99, .row true (cSl (cInt .i64)) 23 A546 c547 r537.1] ∧ x871 = x873) E rfl rfl Try.func36 rfl rfl rfl ?_ ?_
     ·
      clear E hP; have hP := h872; clear h872; rw [strat_Of_f3] at hP
      refine enterV (n := 19) Try.func36 rfl rfl rfl ?_
      intro a E
      replace E := E.pick [(0, .slice A546 (List.length r537.1) c547), (1, .func (.func 37) #[] #[.pointer (some ⟨g40, 0, none⟩)])] ⟨rfl, rfl, trivial⟩
      refine wp_seq ?_
      refine wp_region_lit ?_
      refine vn tbok 1 [] [] [] E (by kernel_rfl) (by kernel_rfl) trivial ?_
      clear E; intro a E
      refine wpList_nil ?_
      refine th_n ?_
      refine wp_seq ?_
      refine wp_seq ?_
      refine wp_region_lit ?_
      refine vn tbok 3 [] [(7, .int .i64 (((List.length r537.1) : Nat) : Int)), (8, .int .i64 0)] [] E (by kernel_rfl) (by kernel_rfl) trivial ?_
      clear E; intro a E
      refine wpList_nil ?_
      refine th_n ?_
      refine wp_block ?_
      obtain ⟨x925, hL926, hK927⟩ := bind_inv hP
      clear hP
      refine loop_cut (fun i_ a w_ => (i_ = 0 ∧ ∃ (x930 : Unit), Fr a 19 [] ∧ Hp S Fa w0 w_ [.ro false cBool A1 aAccept, .ro false (cInt .i64) A5 aGuard, .ro false cNode A9 aNodes, .box g13 26 [.int .i64 aProps, .slice A1 (List.length aAccept) c2, .slice A5 (List.length aGuard) c6, .slice A9 (List.length aNodes) c10], .box g18 29 [.int .u8 s.1, .int .u8 s.2], .box g23 33 [.bool false, .slice none 0 0, .slice none 0 0, .slice none 0 0], .rowx true (cInt .i64) 3 (some ⟨b55, 0, none⟩) c38 r28.1 [], .box g40 23 [.slice (some ⟨b55, 0, none⟩) (List.length r28.1) c38], .row true (cSl (cInt .u8)) 31 A323 c324 x322, .row true (cInt .u8) 27 A327 c328 x326, .box g65 33 [.bool (decide (0 ≤ (List.getD r28.1 (Int.toNat (0 : Int)) 0))), .slice (some ⟨b55, 0, none⟩) (List.length r28.1) c38, .slice A323 (List.length x322) c324, .slice A327 (List.length x326) c328], .row true (cInt .u8) 27 A122 c123 r87, .row true (cInt .u8) 27 A132 c133 r99, .row true (cSl (cInt .i64)) 23 A546 c547 r537.1] ∧ x925 = Sum.inl x930)) ?_ ?_
      ·
       refine loopV (fun m929 a w928 => ∃ (x898 : Int), Fr a 19 [(0, .slice A546 (List.length r537.1) c547), (1, .func (.func 37) #[] #[.pointer (some ⟨g40, 0, none⟩)]), (7, .int .i64 (((List.length r537.1) : Nat) : Int)), (8, .int .i64 x898)] ∧ Hp S Fa w0 w928 [.row true (cSl (cInt .i64)) 23 A546 c547 r537.1, .rowx true (cInt .i64) 3 (some ⟨b55, 0, none⟩) c38 r28.1 [], .box g40 23 [.slice (some ⟨b55, 0, none⟩) (List.length r28.1) c38], .ro false cBool A1 aAccept, .ro false (cInt .i64) A5 aGuard, .ro false cNode A9 aNodes, .box g13 26 [.int .i64 aProps, .slice A1 (List.length aAccept) c2, .slice A5 (List.length aGuard) c6, .slice A9 (List.length aNodes) c10], .box g18 29 [.int .u8 s.1, .int .u8 s.2], .box g23 33 [.bool false, .slice none 0 0, .slice none 0 0, .slice none 0 0], .row true (cSl (cInt .u8)) 31 A323 c324 x322, .row true (cInt .u8) 27 A327 c328 x326, .box g65 33 [.bool (decide (0 ≤ (List.getD r28.1 (Int.toNat (0 : Int)) 0))), .slice (some ⟨b55, 0, none⟩) (List.length r28.1) c38, .slice A323 (List.length x322) c324, .slice A327 (List.length x326) c328], .row true (cInt .u8) 27 A122 c123 r87, .row true (cInt .u8) 27 A132 c133 r99] ∧ strat_Of_l4 N r28 r537 m929 x898 = some x925) N ?_ ?_
       ·
        exact ⟨0, E.pick _ ⟨rfl, rfl, rfl, rfl, trivial⟩, H.sel [13, 6, 7, 0, 1, 2, 3, 4, 5, 9, 10, 8, 11, 12] rfl, hL926⟩
       clear E H hL926; intro m929 a w928 hI_
       obtain ⟨x898, E, H, hP⟩ := hI_
       obtain ⟨m924, rfl⟩ : ∃ q_, m929 = q_ + 1 := by cases m929 with | zero => rw [strat_Of_l4] at hP; cases hP | succ q_ => exact ⟨q_, rfl⟩
       rw [strat_Of_l4] at hP
       refine wp_seq ?_
       refine wp_region_lit ?_
       refine vn tbok 1 [] [(9, .bool (decide (x898 < (((List.length r537.1) : Nat) : Int))))] [] E (by kernel_rfl) (by kernel_rfl) trivial ?_
       clear E; intro a E
       refine wpList_nil ?_
       refine th_n ?_
       refine wp_seq ?_
       refine E.cases (t := 9) rfl (fun hb_ E_ => ?_) (fun hb_ E_ => ?_)
       ·
        replace E := E_; clear E_
        have h931 : x898 < (((List.length r537.1) : Nat) : Int) := of_decide_eq_true hb_
        clear hb_; replace hP := ite_t h931 hP
        refine c_true E rfl ?_
        refine wp_skip ?_
        refine th_n ?_
        refine wp_seq ?_
        refine wp_block ?_
        refine wp_seq ?_
        refine wp_region_lit ?_
        refine vn tbok 2 [] [(5, .int .i64 x898)] [] E (by kernel_rfl) (by kernel_rfl) trivial ?_
        clear E; intro a E
        refine wpList_nil ?_
        refine th_n ?_
        refine wp_seq ?_
        refine wp_region_lit ?_
        obtain ⟨g932, hP⟩ := ask_inv hP
        obtain ⟨b933, e_b933⟩ := H.raddr 0 rfl (idx_pos g932)
        subst e_b933
        obtain ⟨A935, c936, hl937, hk938, H⟩ := H.subSl 0 true (el_row rfl) g932
        try dsimp only [addE] at H
        refine vn tbok 5 [.slice A935 (List.length (List.getD r537.1 (Int.toNat x898) [])) c936] [(11, .func (.func 37) #[] #[.pointer (some ⟨g40, 0, none⟩)]), (15, .slice A935 (List.length (List.getD r537.1 (Int.toNat x898) [])) c936)] [0 ≤ x898 ∧ x898 < (((List.length r537.1) : Nat) : Int), World.cell? w928 ⟨b933, 0 + (Int.toNat x898) * 1, none⟩ = some (.slice A935 (List.length (List.getD r537.1 (Int.toNat x898) [])) c936)] E (by kernel_rfl) (by kernel_rfl) ⟨g932, hl937⟩ ?_
        clear E; intro a E
        obtain ⟨x950, h951, hP⟩ := bind_inv hP
        refine e_callv (R := fun v_ w_ => ∃ (x952 : Bool), v_ = .bool x952 ∧ Hp S Fa w0 w_ [.ro false cBool A1 aAccept, .ro false (cInt .i64) A5 aGuard, .ro false cNode A9 aNodes, .box g13 26 [.int .i64 aProps, .slice A1 (List.length aAccept) c2, .slice A5 (List.length aGuard) c6, .slice A9 (List.length aNodes) c10], .box g18 29 [.int .u8 s.1, .int .u8 s.2], .box g23 33 [.bool false, .slice none 0 0, .slice none 0 0, .slice none 0 0], .rowx true (cInt .i64) 3 (some ⟨b55, 0, none⟩) c38 r28.1 [], .box g40 23 [.slice (some ⟨b55, 0, none⟩) (List.length r28.1) c38], .row true (cSl (cInt .u8)) 31 A323 c324 x322, .row true (cInt .u8) 27 A327 c328 x326, .box g65 33 [.bool (decide (0 ≤ (List.getD r28.1 (Int.toNat (0 : Int)) 0))), .slice (some ⟨b55, 0, none⟩) (List.length r28.1) c38, .slice A323 (List.length x322) c324, .slice A327 (List.length x326) c328], .row true (cInt .u8) 27 A122 c123 r87, .row true (cInt .u8) 27 A132 c133 r99, .row true (cSl (cInt .i64)) 23 (some ⟨b933, 0, none⟩) c547 r537.1, .ro true (cInt .i64) A935 (List.getD r537.1 (Int.toNat x898) [])] ∧ x950 = x952) E rfl rfl rfl Try.func37 rfl rfl rfl ?_ ?_
        ·
         clear E hP; have hP := h951; clear h951; rw [strat_Of_f5] at hP
         refine enterV (n := 7) Try.func37 rfl rfl rfl ?_
         intro a E
         replace E := E.pick [(0, .slice A935 (List.length (List.getD r537.1 (Int.toNat x898) [])) c936), (1, .pointer (some ⟨g40, 0, none⟩))] ⟨rfl, rfl, trivial⟩
         refine wp_seq ?_
         refine wp_region_lit ?_
         refine vn tbok 1 [] [] [] E (by kernel_rfl) (by kernel_rfl) trivial ?_
         clear E; intro a E
         refine wpList_nil ?_
         refine th_n ?_
         refine wp_seq ?_
         refine wp_region_lit ?_
         refine vn tbok 2 [.slice (some ⟨b55, 0, none⟩) (List.length r28.1) c38] [(4, .slice A935 (List.length (List.getD r537.1 (Int.toNat x898) [])) c936), (5, .slice (some ⟨b55, 0, none⟩) (List.length r28.1) c38)] [World.cell? w928 ⟨g40, 0, none⟩ = some (.slice (some ⟨b55, 0, none⟩) (List.length r28.1) c38)] E (by kernel_rfl) (by kernel_rfl) ((H.box 2 rfl).cell (j := 0) rfl) ?_
         clear E; intro a E
         obtain ⟨r953, h954, hP⟩ := bind_inv hP
         obtain ⟨Fa955, Hc956, hb957⟩ := H.call [] [(14, false), (1, false)] rfl rfl trivial
         refine e_call E rfl rfl Try.func38 rfl rfl rfl (strat_lost_calls A935 c936 (some ⟨b55, 0, none⟩) c38 (List.getD r537.1 (Int.toNat x898) []) r28.1 hk938 (H.rcapx 1 rfl) Hc956 h954) ?_
         rintro v958 w959 a ⟨rfl, HR960⟩ E_
         replace E := E_ _ rfl; clear E_
         obtain ⟨H_, hc961⟩ := hb957 _ _ HR960 rfl
         replace H := H_; clear H_; try dsimp only [setn, addE, goneL] at H
         refine vn tbok 1 [] [(3, .bool r953)] [] E (by kernel_rfl) (by kernel_rfl) trivial ?_
         clear E; intro a E
         refine wpList_nil ?_
         refine th_n ?_
         refine wp_ret ?_
         have hx_ := Option.some.inj hP
         refine ret1 E rfl rfl ?_
         exact ⟨_, rfl, r953, rfl, H.sel [3, 4, 5, 6, 7, 8, 1, 2, 9, 10, 11, 12, 13, 0, 14] rfl, hx_.symm⟩
        clear H
        rintro v963 w962 a ⟨x952, rfl, H, hx_⟩ E_
        subst hx_
        replace E := E_ _ rfl; clear E_
        refine wpList_nil ?_
        refine th_n ?_
        refine E.cases (t := 16) rfl (fun hb_ E_ => ?_) (fun hb_ E_ => ?_)
        ·
         replace E := E_; clear E_
         have h964 : x950 = true := hb_
         clear hb_; replace hP := ite_t h964 hP
         refine c_true E rfl ?_
         refine wp_seq ?_
         refine wp_region_lit ?_
         refine vn tbok 2 [] [(4, .int .i64 x898)] [] E (by kernel_rfl) (by kernel_rfl) trivial ?_
         clear E; intro a E
         refine wpList_nil ?_
         refine th_n ?_
         refine wp_ret ?_
         refine bl_ret ?_
         refine th_ret ?_
         refine th_ret ?_
         refine .inr ⟨rfl, ?_⟩
         refine bl_ret ?_
         refine th_ret ?_
         have hx_ := Option.some.inj hP; subst hx_
         have hP : some (x898) = some x871 := hK927
         have hx_ := Option.some.inj hP
         refine ret1 E rfl rfl ?_
         exact ⟨_, rfl, x898, rfl, H.sel [0, 1, 2, 3, 4, 5, 6, 7, 8, 9, 10, 11, 12, 13] rfl, hx_.symm⟩
        replace E := E_; clear E_
        have h965 : ¬ (x950 = true) := (ne_true_of_eq_false hb_)
        clear hb_; replace hP := ite_f h965 hP
        refine c_false E rfl ?_
        refine wp_skip ?_
        refine bl_n ?_
        refine th_n ?_
        refine wp_region_lit ?_
        obtain ⟨g966, hP⟩ := ask_inv hP
        refine vn tbok 2 [.int .i64 (x898 + 1)] [(8, .int .i64 (x898 + 1))] [IntKind.i64.wrap (x898 + 1) = x898 + 1] E (by kernel_rfl) (by kernel_rfl) (wrap_in g966) ?_
        clear E; intro a E
        refine wpList_nil ?_
        exact th_n ⟨m924, Nat.lt_succ_self _, x898 + 1, E.pick _ ⟨rfl, rfl, rfl, rfl, trivial⟩, H.sel [13, 6, 7, 0, 1, 2, 3, 4, 5, 8, 9, 10, 11, 12] rfl, hP⟩
       replace E := E_; clear E_
       have h967 : ¬ (x898 < (((List.length r537.1) : Nat) : Int)) := of_decide_eq_false hb_
       clear hb_; replace hP := ite_f h967 hP
       refine c_false E rfl ?_
       refine wp_exit ?_
       refine th_exit ?_
       have hx_ := Option.some.inj hP
       refine th_exit (.inl ⟨0, rfl, ?_⟩)
       exact ⟨rfl, (), E.pick _ trivial, H.sel [3, 4, 5, 6, 7, 8, 1, 2, 9, 10, 11, 12, 13, 0] rfl, hx_.symm⟩
      clear E H hL926; intro i_ a w928 hM_
      obtain ⟨rfl, x930, E, H, hx_⟩ := hM_
      subst hx_; have hP := elim_l hK927
      clear hK927
      refine bl_hit ?_
      refine th_n ?_
      refine wp_seq ?_
      refine wp_region_lit ?_
      refine vn tbok 1 [] [(4, .int .i64 (-1))] [] E (by kernel_rfl) (by kernel_rfl) trivial ?_
      clear E; intro a E
      refine wpList_nil ?_
      refine th_n ?_
      refine wp_ret ?_
      have hx_ := Option.some.inj hP
      refine ret1 E rfl rfl ?_
      exact ⟨_, rfl, -1, rfl, H.sel [0, 1, 2, 3, 4, 5, 6, 7, 8, 9, 10, 11, 12, 13] rfl, hx_.symm⟩
     clear H
     rintro v970 w969 a ⟨x873, rfl, H, hx_⟩ E_
     subst hx_
     replace E := E_ _ rfl; clear E_
     obtain ⟨g971, hP⟩ := ask_inv hP
     obtain ⟨b972, e_b972⟩ := H.raddr 11 rfl (idx_pos g971)
     subst e_b972
     refine vn tbok 3 [.int .u8 (List.getD r87 (Int.toNat x871) 0)] [(16, .int .u8 (List.getD r87 (Int.toNat x871) 0))] [0 ≤ x871 ∧ x871 < (((List.length r87) : Nat) : Int), World.cell? w969 ⟨b972, 0 + (Int.toNat x871) * 1, none⟩ = some (.int .u8 (List.getD r87 (Int.toNat x871) 0))] E (by kernel_rfl) (by kernel_rfl) ⟨g971, Rds.at1 (H.rd 11 rds_row) 0 g971⟩ ?_
     clear E; intro a E
     refine wpList_nil ?_
     replace H := H.nilrow (cInt .u8) 27; try dsimp only [setn, addE, goneL] at H
     have hx_ := Option.some.inj hP
     exact .inl ⟨rfl, ([], (List.getD r87 (Int.toNat x871) 0)), none, 0, E.pick _ ⟨rfl, rfl, rfl, rfl, rfl, rfl, rfl, rfl, rfl, rfl, rfl, rfl, trivial⟩, H.sel [0, 1, 2, 3, 4, 5, 6, 7, 8, 9, 10, 11, 12, 14] rfl, hx_.symm⟩
    replace E := E_; clear E_
    have h975 : ¬ ((List.getD r28.1 (Int.toNat x329) 0) < 0) := of_decide_eq_false hb_
    clear hb_; replace hP := ite_f h975 hP
    refine c_false E rfl ?_
    refine wp_skip ?_
    replace H := H.nilrow (cInt .u8) 27; try dsimp only [setn, addE, goneL] at H
    have hx_ := Option.some.inj hP
    exact .inl ⟨rfl, ([], 0), none, 0, E.pick _ ⟨rfl, rfl, rfl, rfl, rfl, rfl, rfl, rfl, rfl, rfl, rfl, rfl, trivial⟩, H.sel [0, 1, 2, 3, 4, 5, 6, 7, 9, 10, 8, 11, 12, 14] rfl, hx_.symm⟩
   clear E H h693; rintro a w696 ⟨x695, A689, c690, E, H, hx_⟩
   subst hx_; have hP := hK694; clear hK694
   refine bl_n ?_
   refine th_n ?_
   refine wp_seq ?_
   refine wp_region_lit ?_
   refine vn tbok 3 [.slice A323 (List.length x322) c324] [(84, .slice A323 (List.length x322) c324), (85, .slice A689 (List.length x692.1) c690)] [World.cell? w696 ⟨g65, 2, none⟩ = some (.slice A323 (List.length x322) c324)] E (by kernel_rfl) (by kernel_rfl) ((H.box 10 rfl).cell (j := 2) rfl) ?_
   clear E; intro a E
   refine h_buildSlice (ps := [(0, .slice A689 (List.length x692.1) c690)]) (cs := [.slice A689 (List.length x692.1) c690]) H E rfl rfl tbok rfl rfl (by kernel_rfl) ?_
   intro w978 g977 a hc979 hg981 H_ E_
   replace E := E_ _ rfl; clear E_
   replace H := H_; clear H_; try dsimp only [setn, addE, goneL] at H
   have hk982 := H.rcap 13 rfl
   replace H := H.frz 13 rfl; try dsimp only [setn, addE, goneL] at H
   obtain ⟨g983, hP⟩ := ask_inv hP
   refine h_append (cSl (cInt .u8)) (xs := x322) (ys := ([x692.1] : List (List Int))) ([] : List Int) H 8 rfl E rfl rfl tbok rfl rfl rfl rfl rfl (fun _ _ => kSl_nil) rfl rfl (fun _ HF_ => HF_.srcB 14 rfl ⟨_, _, rfl, ⟨_, _, rfl, hk982, (HF_.roC 13 rfl)⟩, rfl⟩) g983 ?_
   intro w984 A985 c986 a hc987 hA988 H_ E_
   replace E := E_ _ rfl; clear E_
   replace H := H_; clear H_; try dsimp only [setn, addE, goneL] at H
   refine vn tbok 1 [] [(88, .pointer (some ⟨g65, 2, none⟩))] [] E (by kernel_rfl) (by kernel_rfl) trivial ?_
   clear E; intro a E
   refine h_store (g := g65) (off := 2) H 10 rfl E rfl rfl rfl rfl tbok rfl rfl rfl rfl rfl ?_
   clear E; intro w989 a hc990 H_ E
   replace H := H_; clear H_; try dsimp only [setn, addE, goneL] at H
   refine wpList_nil ?_
   refine th_n ?_
   refine wp_region_lit ?_
   refine vn tbok 3 [.slice A327 (List.length x326) c328] [(90, .slice A327 (List.length x326) c328), (91, .int .u8 x692.2)] [World.cell? w989 ⟨g65, 3, none⟩ = some (.slice A327 (List.length x326) c328)] E (by kernel_rfl) (by kernel_rfl) ((H.box 10 rfl).cell (j := 3) rfl) ?_
   clear E; intro a E
   refine h_buildSlice (ps := [(0, .int .u8 x692.2)]) (cs := [.int .u8 x692.2]) H E rfl rfl tbok rfl rfl (by kernel_rfl) ?_
   intro w992 g991 a hc993 hg995 H_ E_
   replace E := E_ _ rfl; clear E_
   replace H := H_; clear H_; try dsimp only [setn, addE, goneL] at H
   obtain ⟨g996, hP⟩ := ask_inv hP
   refine h_append (cInt .u8) (xs := x326) (ys := ([x692.2] : List Int)) (0 : Int) H 9 rfl E rfl rfl tbok rfl rfl rfl rfl rfl (fun _ _ => rfl) rfl rfl (fun _ HF_ => HF_.srcB 15 rfl (⟨_, _, rfl, rfl, rfl⟩)) g996 ?_
   intro w997 A998 c999 a hc1000 hA1001 H_ E_
   replace E := E_ _ rfl; clear E_
   replace H := H_; clear H_; try dsimp only [setn, addE, goneL] at H
   refine vn tbok 1 [] [(94, .pointer (some ⟨g65, 3, none⟩))] [] E (by kernel_rfl) (by kernel_rfl) trivial ?_
   clear E; intro a E
   refine h_store (g := g65) (off := 3) H 10 rfl E rfl rfl rfl rfl tbok rfl rfl rfl rfl rfl ?_
   clear E; intro w1002 a hc1003 H_ E
   replace H := H_; clear H_; try dsimp only [setn, addE, goneL] at H
   refine wpList_nil ?_
   refine bl_n ?_
   refine th_n ?_
   refine wp_region_lit ?_
   obtain ⟨g1004, hP⟩ := ask_inv hP
   refine vn tbok 2 [.int .i64 (x329 + 1)] [(43, .int .i64 (x329 + 1))] [IntKind.i64.wrap (x329 + 1) = x329 + 1] E (by kernel_rfl) (by kernel_rfl) (wrap_in g1004) ?_
   clear E; intro a E
   refine wpList_nil ?_
   exact th_n ⟨m526, Nat.lt_succ_self _, x322 ++ ([x692.1] : List (List Int)), x326 ++ ([x692.2] : List Int), x329 + 1, A985, c986, A998, c999, E.pick _ ⟨rfl, rfl, rfl, rfl, rfl, rfl, rfl, rfl, rfl, rfl, trivial⟩, H.sel [0, 1, 2, 3, 4, 5, 6, 7, 10, 8, 9, 11, 12] rfl, hP⟩
  replace E := E_; clear E_
  have h1005 : ¬ (x329 < (((List.length r28.1) : Nat) : Int)) := of_decide_eq_false hb_
  clear hb_; replace hP := ite_f h1005 hP
  refine c_false E rfl ?_
  refine wp_exit ?_
  refine th_exit ?_
  have hx_ := Option.some.inj hP
  refine th_exit (.inl ⟨0, rfl, ?_⟩)
  exact ⟨rfl, (x322, x326), A323, c324, A327, c328, E.pick _ ⟨rfl, rfl, trivial⟩, H.sel [5, 8, 6, 9, 10] rfl, hx_.symm⟩
 clear E H hL528; intro i_ a w532 hM_
 obtain ⟨rfl, x534, A520, c521, A524, c525, E, H, hx_⟩ := hM_
 subst hx_; have hP := hK529; clear hK529
 refine bl_hit ?_
 refine th_n ?_
 refine wp_seq ?_
 refine wp_region_lit ?_
 refine vn tbok 1 [.agg #[.bool (decide (0 ≤ (List.getD r28.1 (Int.toNat (0 : Int)) 0))), .slice (some ⟨b55, 0, none⟩) (List.length r28.1) c38, .slice A520 (List.length x527.1) c521, .slice A524 (List.length x527.2) c525]] [(96, .agg #[.bool (decide (0 ≤ (List.getD r28.1 (Int.toNat (0 : Int)) 0))), .slice (some ⟨b55, 0, none⟩) (List.length r28.1) c38, .slice A520 (List.length x527.1) c521, .slice A524 (List.length x527.2) c525])] [cellsAt w532 g65 (0) [.bool (decide (0 ≤ (List.getD r28.1 (Int.toNat (0 : Int)) 0))), .slice (some ⟨b55, 0, none⟩) (List.length r28.1) c38, .slice A520 (List.length x527.1) c521, .slice A524 (List.length x527.2) c525]] E (by kernel_rfl) (by kernel_rfl) ((H.box 1 rfl).sub 0 _ rfl) ?_
 clear E; intro a E
 refine h_store (g := g23) (off := 0) H 0 rfl E rfl rfl rfl rfl tbok rfl rfl rfl rfl rfl ?_
 clear E; intro w1006 a hc1007 H_ E
 replace H := H_; clear H_; try dsimp only [setn, addE, goneL] at H
 refine vn tbok 1 [] [(5, .int .i64 0)] [] E (by kernel_rfl) (by kernel_rfl) trivial ?_
 clear E; intro a E
 refine wpList_nil ?_
 refine th_n ?_
 refine wp_ret ?_
 replace H := H.rowx 2 rfl; try dsimp only [setn, addE, goneL] at H
 obtain rfl := Option.some.inj hP
 refine retV E [.cell 4 33, .tmp 5] [.agg #[.bool (decide (0 ≤ (List.getD r28.1 (Int.toNat (0 : Int)) 0))), .slice (some ⟨b55, 0, none⟩) (List.length r28.1) c38, .slice A520 (List.length x527.1) c521, .slice A524 (List.length x527.2) c525], .int .i64 0] rfl ⟨⟨_, rfl, run_loadBx tbok (H.box 0 rfl) rfl rfl rfl 0 rfl rfl⟩, rfl, trivial⟩ (.inl rfl) ?_
 exact ⟨_, rfl, (some ⟨b55, 0, none⟩), c38, A520, c521, A524, c525, rfl, H.sel [2, 3, 4] rfl⟩

end Go.V
