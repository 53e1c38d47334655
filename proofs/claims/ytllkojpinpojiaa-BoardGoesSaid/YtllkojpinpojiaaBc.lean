/- Contracts of functions of the program: walks. -/
import Derived.Test.YtllkojpinpojiaaG2
import Derived.Test.YtllkojpinpojiaaCx
set_option linter.all false
set_option linter.unusedVariables false
set_option linter.unnecessarySimpa false
set_option linter.unusedSimpArgs false
namespace Go.V
open Go Go.Proofs

/-! rejoinder/board.Check -/
set_option maxRecDepth 100000 in
theorem CheckB_calls (p0 : Int) (A1 A2 A3 : Option Addr) (c1 c2 c3 : Nat) (acc : List Bool) (gd : List Int) (nodes : List Nd) (env sys : Int) (w0 : World) (hl1 : acc.length ≤ 140737488351232) (hl2 : gd.length ≤ 140737488351232) (hl3 : nodes.length ≤ 140737488351232) (H1 : C cBool w0 (Lo w0.heap.size) A1 acc) (H2 : C (cInt .i64) w0 (Lo w0.heap.size) A2 gd) (H3 : C cNode w0 (Lo w0.heap.size) A3 nodes) (hW : ∀ x ∈ nodes, x.wf) (he : 0 ≤ env ∧ env ≤ 255) (hs : 0 ≤ sys ∧ sys ≤ 255) :
    Calls Try.prog 14 #[.agg #[.int .i64 p0, .slice A1 acc.length c1, .slice A2 gd.length c2, .slice A3 nodes.length c3], .agg #[.int .u8 env, .int .u8 sys]] w0 fun e w' => ∃ v, e = .returned v ∧ (v = .int .i64 (checkBV p0 acc gd nodes env sys) ∧ Ext w0 w') := by
  have HW : Chg (Hi w0.heap.size) w0 w0 := Chg.refl _ _
  refine enterV (n := 34) Try.func14 rfl rfl rfl ?_
  intro a E
  replace E := E.pick [(0, .agg #[.int .i64 p0, .slice A1 acc.length c1, .slice A2 gd.length c2, .slice A3 nodes.length c3]), (1, .agg #[.int .u8 env, .int .u8 sys])] ⟨rfl, rfl, trivial⟩
  refine wp_seq ?_
  refine wp_region_lit ?_
  refine e_box E rfl rfl rfl ?_
  intro w2 g1 a hc3 hg4 B5 E_
  replace E := E_ _ rfl; clear E_
  replace B5 : Bx w2 g1 26 [.int .i64 p0, .slice A1 acc.length c1, .slice A2 gd.length c2, .slice A3 nodes.length c3] := B5
  have hi_g1 : w0.heap.size ≤ g1 := Nat.le_trans HW.size hg4
  replace HW := HW.trans hc3 (fun _ _ h_ => h_.elim)
  refine e_box E rfl rfl rfl ?_
  intro w7 g6 a hc8 hg9 B10 E_
  replace E := E_ _ rfl; clear E_
  replace B10 : Bx w7 g6 33 [.int .u8 env, .int .u8 sys] := B10
  have hi_g6 : w0.heap.size ≤ g6 := Nat.le_trans HW.size hg9
  have ne_g1_g6 : g1 ≠ g6 := by have h_ := B5.lt; omega
  replace B5 := B5.chg hc8 (fun h_ => h_)
  replace HW := HW.trans hc8 (fun _ _ h_ => h_.elim)
  refine vrun (w := w7) (lp := [(2, .pointer (some ⟨g1, 0, none⟩)), (3, .pointer (some ⟨g6, 0, none⟩))]) (φ := []) tbok 1 [] [2, 3] E (by kernel_rfl) trivial ?_
  clear E; intro a E
  refine wpList_nil ?_
  refine th_n ?_
  refine wp_seq ?_
  refine wp_seq ?_
  refine wp_region_lit ?_
  refine vrun (w := w7) (lp := [(2, .pointer (some ⟨g1, 0, none⟩)), (3, .pointer (some ⟨g6, 0, none⟩)), (6, .agg #[.int .i64 p0, .slice A1 acc.length c1, .slice A2 gd.length c2, .slice A3 nodes.length c3])]) (φ := [cellsAt w7 g1 (0) [.int .i64 p0, .slice A1 acc.length c1, .slice A2 gd.length c2, .slice A3 nodes.length c3]]) tbok 1 [.agg #[.int .i64 p0, .slice A1 acc.length c1, .slice A2 gd.length c2, .slice A3 nodes.length c3]] [2, 3, 6] E (by kernel_rfl) (B5.sub 0 _ rfl) ?_
  clear E; intro a E
  refine e_call E rfl rfl Try.func9 rfl rfl rfl (Check_calls p0 A1 A2 A3 c1 c2 c3 acc gd nodes  _ (by omega) (by omega) (by omega) (H1.now HW) (H2.now HW) (H3.now HW) hW) ?_
  intro v11 w12 a hR13 E_
  obtain ⟨rfl, hc14⟩ := hR13
  replace E := E_ _ rfl; clear E_
  replace B5 := B5.chg hc14 (fun h_ => h_)
  replace B10 := B10.chg hc14 (fun h_ => h_)
  replace HW := HW.trans hc14 (fun _ _ h_ => h_.elim)
  refine vrun (w := w12) (lp := [(2, .pointer (some ⟨g1, 0, none⟩)), (3, .pointer (some ⟨g6, 0, none⟩)), (5, .int .i64 (checkV p0 (List.length acc) gd nodes))]) (φ := []) tbok 1 [] [2, 3, 5] E (by kernel_rfl) trivial ?_
  clear E; intro a E
  refine wpList_nil ?_
  refine th_n ?_
  refine wp_seq ?_
  refine wp_region_lit ?_
  refine vrun (w := w12) (lp := [(2, .pointer (some ⟨g1, 0, none⟩)), (3, .pointer (some ⟨g6, 0, none⟩)), (5, .int .i64 (checkV p0 (List.length acc) gd nodes)), (9, .bool ((checkV p0 (List.length acc) gd nodes : Int) != 0))]) (φ := []) tbok 2 [] [2, 3, 5, 9] E (by kernel_rfl) trivial ?_
  clear E; intro a E
  refine wpList_nil ?_
  refine th_n ?_
  refine E.cases (t := 9) rfl (fun hb_ E_ => ?_) (fun hb_ E_ => ?_)
  · replace E := E_; clear E_
    have h15 : ¬ ((checkV p0 (List.length acc) gd nodes : Int) = 0) := bne_iff_ne.1 hb_
    clear hb_
    refine c_true E rfl ?_
    refine wp_seq ?_
    refine wp_region_lit ?_
    refine vrun (w := w12) (lp := [(4, .int .i64 (checkV p0 (List.length acc) gd nodes))]) (φ := []) tbok 2 [] [4] E (by kernel_rfl) trivial ?_
    clear E; intro a E
    refine wpList_nil ?_
    refine th_n ?_
    refine wp_ret ?_
    refine th_ret ?_
    refine ret1 E rfl rfl ?_
    exact ⟨_, rfl, by rw [checkBV_a (by assumption), checkV_no (by assumption)], HW.own⟩
  · replace E := E_; clear E_
    have h16 : (checkV p0 (List.length acc) gd nodes : Int) = 0 := bne_eq_false_iff_eq.1 hb_
    clear hb_
    refine c_false E rfl ?_
    refine wp_skip ?_
    refine th_n ?_
    refine wp_seq ?_
    refine wp_seq ?_
    refine wp_region_lit ?_
    have hx_13 : 0 ≤ (0 : Int) ∧ (0 : Int) < ((acc.length : Nat) : Int) := ⟨by omega, by have h_ := (checkV_yes (by assumption : checkV p0 acc.length gd nodes = 0)).n1; omega⟩
    obtain ⟨b17, o18, e_b17⟩ := H1.addr (by omega)
    subst e_b17
    refine vrun (w := w12) (lp := [(2, .pointer (some ⟨g1, 0, none⟩)), (3, .pointer (some ⟨g6, 0, none⟩)), (14, .bool (List.getD acc (Int.toNat (0 : Int)) false))]) (φ := [World.cell? w12 ⟨g1, 1, none⟩ = some (.slice (some ⟨b17, o18, none⟩) acc.length c1), 0 ≤ (0 : Int) ∧ (0 : Int) < ((acc.length : Nat) : Int), World.cell? w12 ⟨b17, o18 + (Int.toNat (0 : Int)) * 1, none⟩ = some (.bool (List.getD acc (Int.toNat (0 : Int)) false))]) tbok 4 [.slice (some ⟨b17, o18, none⟩) acc.length c1, .bool (List.getD acc (Int.toNat (0 : Int)) false)] [2, 3, 14] E (by kernel_rfl) ⟨B5.cell (j := 1) rfl, hx_13, C.at1 (H1.keep HW lo_hi) false hx_13.1 hx_13.2⟩ ?_
    clear E; intro a E
    refine wpList_nil ?_
    refine th_n ?_
    refine E.cases (t := 14) rfl (fun hb_ E_ => ?_) (fun hb_ E_ => ?_)
    · replace E := E_; clear E_
      have h19 : ((List.getD acc (Int.toNat (0 : Int)) false)) = true := hb_
      clear hb_
      refine c_true E rfl ?_
      refine wp_seq ?_
      refine wp_region_lit ?_
      refine vrun (w := w12) (lp := [(4, .int .i64 12)]) (φ := []) tbok 1 [] [4] E (by kernel_rfl) trivial ?_
      clear E; intro a E
      refine wpList_nil ?_
      refine th_n ?_
      refine wp_ret ?_
      refine th_ret ?_
      refine ret1 E rfl rfl ?_
      exact ⟨_, rfl, by rw [checkBV_b (by assumption) (by assumption)], HW.own⟩
    · replace E := E_; clear E_
      have h20 : ((List.getD acc (Int.toNat (0 : Int)) false)) = false := hb_
      clear hb_
      refine c_false E rfl ?_
      refine wp_skip ?_
      refine th_n ?_
      refine wp_seq ?_
      refine wp_seq ?_
      refine dr_start (S := fun w_ => Chg No w12 w_) (by kernel_rfl) ?_
      intro w21 hc22
      have HWs := HW
      have B5s := B5
      have B10s := B10
      have HS : Chg No w12 w21 := hc22.mono (fun _ _ h_ => h_.elim)
      replace B5 := B5.chg hc22 (fun h_ => h_)
      replace B10 := B10.chg hc22 (fun h_ => h_)
      replace HW := HW.trans hc22 (fun _ _ h_ => h_.elim)
      refine drun (lp := [(2, .pointer (some ⟨g1, 0, none⟩)), (3, .pointer (some ⟨g6, 0, none⟩)), (21, .bool ((((Nat.land (Int.toNat env) (Int.toNat sys) : Nat) : Int) : Int) != 0))]) tbok (by kernel_rfl) [0, 1, 2, 3, 4, 5, 6] [.int .u8 env, .int .u8 sys, .int .u8 ((Nat.land (Int.toNat env) (Int.toNat sys) : Nat) : Int)] [2, 3, 21] (fun w_ => [World.cell? w_ ⟨g6, 0, none⟩ = some (.int .u8 env), World.cell? w_ ⟨g6, 1, none⟩ = some (.int .u8 sys), IntKind.u8.wrap (BitVec.ofInt (IntKind.bits .u8) env &&& BitVec.ofInt (IntKind.bits .u8) sys).toNat = ((Nat.land (Int.toNat env) (Int.toNat sys) : Nat) : Int)]) (fuel := 12) E (fun _ _ => by kernel_rfl) (fun w_ hS_ => ⟨hS_.cell (B10s.cell (j := 0) rfl) (fun h_ => h_), hS_.cell (B10s.cell (j := 1) rfl) (fun h_ => h_), and_u8 he hs⟩) (by kernel_rfl) HS ?_
      clear E; intro a E
      refine E.cases (t := 21) rfl (fun hb_ E_ => ?_) (fun hb_ E_ => ?_)
      · replace E := E_; clear E_
        have h23 : ¬ ((((Nat.land (Int.toNat env) (Int.toNat sys) : Nat) : Int) : Int) = 0) := bne_iff_ne.1 hb_
        clear hb_
        refine drun (lp := [(33, .bool true)]) tbok (by kernel_rfl) [7, 8, 9, 10, 11, 12, 13, 14, 15, 16, 17, 18] [] [33] (fun w_ => []) (fuel := 0) E (fun _ _ => by kernel_rfl) (fun w_ hS_ => trivial) (by kernel_rfl) HS ?_
        clear E; intro a E
        refine dr_done (by kernel_rfl) ?_
        clear HS HWs
        refine th_n ?_
        refine c_true E rfl ?_
        refine wp_seq ?_
        refine wp_region_lit ?_
        refine vrun (w := w21) (lp := [(4, .int .i64 13)]) (φ := []) tbok 1 [] [4] E (by kernel_rfl) trivial ?_
        clear E; intro a E
        refine wpList_nil ?_
        refine th_n ?_
        refine wp_ret ?_
        refine th_ret ?_
        refine ret1 E rfl rfl ?_
        exact ⟨_, rfl, by rw [checkBV_c (by assumption) (by assumption) (fun h_ => by have h1_ := h_.1; have h2_ := h_.2; omega)], HW.own⟩
      · replace E := E_; clear E_
        have h24 : (((Nat.land (Int.toNat env) (Int.toNat sys) : Nat) : Int) : Int) = 0 := bne_eq_false_iff_eq.1 hb_
        clear hb_
        refine drun (lp := [(33, .bool ((((Nat.lor (Int.toNat env) (Int.toNat sys) : Nat) : Int) : Int) != (((pw p0 : Nat) : Int) - 1)))]) tbok (by kernel_rfl) [7, 8, 9, 10, 11, 12, 13, 14, 15, 16, 17, 18] [.int .u8 env, .int .u8 sys, .int .u8 ((Nat.lor (Int.toNat env) (Int.toNat sys) : Nat) : Int), .int .i64 ((Nat.lor (Int.toNat env) (Int.toNat sys) : Nat) : Int), .int .i64 p0, .int .i64 ((pw p0 : Nat) : Int), .int .i64 (((pw p0 : Nat) : Int) - 1)] [33] (fun w_ => [World.cell? w_ ⟨g6, 0, none⟩ = some (.int .u8 env), World.cell? w_ ⟨g6, 1, none⟩ = some (.int .u8 sys), IntKind.u8.wrap (BitVec.ofInt (IntKind.bits .u8) env ||| BitVec.ofInt (IntKind.bits .u8) sys).toNat = ((Nat.lor (Int.toNat env) (Int.toNat sys) : Nat) : Int), IntKind.i64.wrap ((Nat.lor (Int.toNat env) (Int.toNat sys) : Nat) : Int) = ((Nat.lor (Int.toNat env) (Int.toNat sys) : Nat) : Int), World.cell? w_ ⟨g1, 0, none⟩ = some (.int .i64 p0), 0 ≤ p0 ∧ IntKind.i64.wrap (1 * 2 ^ (min (Int.toNat p0) (IntKind.bits .i64))) = ((pw p0 : Nat) : Int), IntKind.i64.wrap (((pw p0 : Nat) : Int) - 1) = ((pw p0 : Nat) : Int) - 1]) (fuel := 0) E (fun _ _ => by kernel_rfl) (fun w_ hS_ => ⟨hS_.cell (B10s.cell (j := 0) rfl) (fun h_ => h_), hS_.cell (B10s.cell (j := 1) rfl) (fun h_ => h_), or_u8 he hs, wrap_i64 (by have h_ := or_lt he hs; omega) (by have h_ := or_lt he hs; omega), hS_.cell (B5s.cell (j := 0) rfl) (fun h_ => h_), pw_shl (checkV_yes (by assumption : checkV p0 acc.length gd nodes = 0)).p0 (checkV_yes (by assumption : checkV p0 acc.length gd nodes = 0)).p8, wrap_i64 (by have h_ := pw_le (checkV_yes (by assumption : checkV p0 acc.length gd nodes = 0)).p8; omega) (by have h_ := pw_le (checkV_yes (by assumption : checkV p0 acc.length gd nodes = 0)).p8; omega)⟩) (by kernel_rfl) HS ?_
        clear E; intro a E
        refine dr_done (by kernel_rfl) ?_
        clear HS HWs
        refine th_n ?_
        refine E.cases (t := 33) rfl (fun hb_ E_ => ?_) (fun hb_ E_ => ?_)
        · replace E := E_; clear E_
          have h25 : ¬ ((((Nat.lor (Int.toNat env) (Int.toNat sys) : Nat) : Int) : Int) = ((pw p0 : Nat) : Int) - 1) := bne_iff_ne.1 hb_
          clear hb_
          refine c_true E rfl ?_
          refine wp_seq ?_
          refine wp_region_lit ?_
          refine vrun (w := w21) (lp := [(4, .int .i64 13)]) (φ := []) tbok 1 [] [4] E (by kernel_rfl) trivial ?_
          clear E; intro a E
          refine wpList_nil ?_
          refine th_n ?_
          refine wp_ret ?_
          refine th_ret ?_
          refine ret1 E rfl rfl ?_
          exact ⟨_, rfl, by rw [checkBV_c (by assumption) (by assumption) (fun h_ => by have h1_ := h_.1; have h2_ := h_.2; omega)], HW.own⟩
        · replace E := E_; clear E_
          have h26 : (((Nat.lor (Int.toNat env) (Int.toNat sys) : Nat) : Int) : Int) = ((pw p0 : Nat) : Int) - 1 := bne_eq_false_iff_eq.1 hb_
          clear hb_
          refine c_false E rfl ?_
          refine wp_skip ?_
          refine th_n ?_
          refine wp_seq ?_
          refine wp_region_lit ?_
          refine vrun (w := w21) (lp := [(4, .int .i64 0)]) (φ := []) tbok 1 [] [4] E (by kernel_rfl) trivial ?_
          clear E; intro a E
          refine wpList_nil ?_
          refine th_n ?_
          refine wp_ret ?_
          refine ret1 E rfl rfl ?_
          exact ⟨_, rfl, by rw [checkBV_d (by assumption) (by assumption) (by assumption) (by assumption)], HW.own⟩

end Go.V
