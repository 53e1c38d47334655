/- Contracts of functions of the program: walks. -/
import Derived.Test.YtldjjbgnicknkaaGo
import Derived.Test.YtldjjbgnicknkaaG2
import Derived.Test.YtldjjbgnicknkaaRc
import Derived.Test.YtldjjbgnicknkaaLt
set_option linter.all false
set_option linter.unusedVariables false
set_option linter.unnecessarySimpa false
set_option linter.unusedSimpArgs false
namespace Go.V
open Go Go.Proofs

/-! rejoinder/rejoinderref14.Next -/
set_option maxRecDepth 100000 in
theorem rNext14_calls (p0 : Int) (A1 A2 A3 : Option Addr) (c1 c2 c3 : Nat) (acc : List Bool) (gd : List Int) (nodes : List Nd) (q l : Int) (w0 : World) (hl1 : acc.length ≤ 140737488351232) (hl2 : gd.length ≤ 140737488351232) (hl3 : nodes.length ≤ 140737488351232) (H1 : C cBool w0 (Lo w0.heap.size) A1 acc) (H2 : C (cInt .i64) w0 (Lo w0.heap.size) A2 gd) (H3 : C cNode w0 (Lo w0.heap.size) A3 nodes) (hlt : 0 ≤ l ∧ l ≤ 255) (hW : ∀ x ∈ nodes, x.wf) (hG : ∀ x ∈ gd, -9223372036854775808 ≤ x ∧ x ≤ 9223372036854775807) (hq : 0 ≤ q ∧ q < gd.length) :
    Calls Try.prog 33 #[.agg #[.int .i64 p0, .slice A1 acc.length c1, .slice A2 gd.length c2, .slice A3 nodes.length c3], .int .i64 q, .int .u8 l] w0 fun e w' => ∃ v, e = .returned v ∧ (v = .int .i64 (nextV gd nodes q l) ∧ Ext w0 w') := by
  have HW : Chg (Hi w0.heap.size) w0 w0 := Chg.refl _ _
  refine enterV (n := 22) Try.func33 rfl rfl rfl ?_
  intro a E
  replace E := E.pick [(0, .agg #[.int .i64 p0, .slice A1 acc.length c1, .slice A2 gd.length c2, .slice A3 nodes.length c3]), (1, .int .i64 q), (2, .int .u8 l)] ⟨rfl, rfl, rfl, trivial⟩
  refine wp_seq ?_
  refine wp_region_lit ?_
  refine e_box E rfl rfl rfl ?_
  intro w2 g1 a hc3 hg4 B5 E_
  replace E := E_ _ rfl; clear E_
  replace B5 : Bx w2 g1 26 [.int .i64 p0, .slice A1 acc.length c1, .slice A2 gd.length c2, .slice A3 nodes.length c3] := B5
  have hi_g1 : w0.heap.size ≤ g1 := Nat.le_trans HW.size hg4
  replace HW := HW.trans hc3 (fun _ _ h_ => h_.elim)
  refine vrun (w := w2) (lp := [(1, .int .i64 q), (2, .int .u8 l), (3, .pointer (some ⟨g1, 0, none⟩))]) (φ := []) tbok 1 [] [1, 2, 3] E (by kernel_rfl) trivial ?_
  clear E; intro a E
  refine wpList_nil ?_
  refine th_n ?_
  refine wp_seq ?_
  refine dr_start (S := fun w_ => Chg No w2 w_) (by kernel_rfl) ?_
  intro w6 hc7
  have HWs := HW
  have B5s := B5
  have HS : Chg No w2 w6 := hc7.mono (fun _ _ h_ => h_.elim)
  replace B5 := B5.chg hc7 (fun h_ => h_)
  replace HW := HW.trans hc7 (fun _ _ h_ => h_.elim)
  have hx_15 : 0 ≤ q ∧ q < ((gd.length : Nat) : Int) := ⟨by omega, by omega⟩
  obtain ⟨b8, o9, e_b8⟩ := H2.addr (by omega)
  subst e_b8
  refine drun (lp := [(11, .slice A3 nodes.length c3), (16, .int .i64 (List.getD gd (Int.toNat q) 0)), (17, .int .u8 l)]) tbok (by kernel_rfl) [0, 1, 2, 3, 4, 5, 6, 7] [.slice A3 nodes.length c3, .slice (some ⟨b8, o9, none⟩) gd.length c2, .int .i64 (List.getD gd (Int.toNat q) 0)] [11, 16, 17] (fun w_ => [World.cell? w_ ⟨g1, 3, none⟩ = some (.slice A3 nodes.length c3), World.cell? w_ ⟨g1, 2, none⟩ = some (.slice (some ⟨b8, o9, none⟩) gd.length c2), 0 ≤ q ∧ q < ((gd.length : Nat) : Int), World.cell? w_ ⟨b8, o9 + (Int.toNat q) * 1, none⟩ = some (.int .i64 (List.getD gd (Int.toNat q) 0))]) (fuel := 6) E (fun _ _ => by kernel_rfl) (fun w_ hS_ => ⟨hS_.cell (B5s.cell (j := 3) rfl) (fun h_ => h_), hS_.cell (B5s.cell (j := 2) rfl) (fun h_ => h_), hx_15, hS_.cell (C.at1 (H2.keep HWs lo_hi) 0 hx_15.1 hx_15.2) (fun h_ => h_)⟩) (by kernel_rfl) HS ?_
  clear E; intro a E
  refine wpAnyH_all (rs := [8]) (by kernel_rfl) (by simp) ?_
  refine all1 ?_
  · refine wpOp_of_list rfl ?_
    refine e_call E rfl rfl Try.func59 rfl rfl rfl (rGo_calls A3 c3 nodes (List.getD gd (Int.toNat q) 0) l _ (getD_w64 hG _) hlt (by omega) (H3.now HW) hW) ?_
    intro v10 w11 a hR12 E_
    obtain ⟨rfl, hc13⟩ := hR12
    replace E := E_ _ rfl; clear E_
    replace B5 := B5.chg hc13 (fun h_ => h_)
    replace HS := HS.trans hc13 (fun _ _ h_ => h_.elim)
    replace HW := HW.trans hc13 (fun _ _ h_ => h_.elim)
    refine wpList_nil ?_
    refine th_n ⟨HS, ?_⟩
    refine drun (lp := [(7, .int .i64 ((goF nodes l 9 (List.getD gd (Int.toNat q) 0)).1))]) tbok (by kernel_rfl) [9, 10, 11, 12, 13] [] [7] (fun w_ => []) (fuel := 0) E (fun _ _ => by kernel_rfl) (fun w_ hS_ => trivial) (by kernel_rfl) HS ?_
    clear E; intro a E
    refine dr_done (by kernel_rfl) ?_
    clear HS HWs
    refine th_n ?_
    refine wp_seq ?_
    refine wp_region_lit ?_
    refine vrun (w := w11) (lp := [(6, .int .i64 ((goF nodes l 9 (List.getD gd (Int.toNat q) 0)).1))]) (φ := []) tbok 2 [] [6] E (by kernel_rfl) trivial ?_
    clear E; intro a E
    refine wpList_nil ?_
    refine th_n ?_
    refine wp_ret ?_
    refine ret1 E rfl rfl ?_
    exact ⟨_, rfl, rfl, HW.own⟩

/-! rejoinder/canon.Next -/
set_option maxRecDepth 100000 in
theorem Next_calls (p0 : Int) (A1 A2 A3 : Option Addr) (c1 c2 c3 : Nat) (acc : List Bool) (gd : List Int) (nodes : List Nd) (q l : Int) (w0 : World) (hl1 : acc.length ≤ 140737488351232) (hl2 : gd.length ≤ 140737488351232) (hl3 : nodes.length ≤ 140737488351232) (H1 : C cBool w0 (Lo w0.heap.size) A1 acc) (H2 : C (cInt .i64) w0 (Lo w0.heap.size) A2 gd) (H3 : C cNode w0 (Lo w0.heap.size) A3 nodes) (hlt : 0 ≤ l ∧ l ≤ 255) (hW : ∀ x ∈ nodes, x.wf) (hG : ∀ x ∈ gd, -9223372036854775808 ≤ x ∧ x ≤ 9223372036854775807) :
    Calls Try.prog 10 #[.agg #[.int .i64 p0, .slice A1 acc.length c1, .slice A2 gd.length c2, .slice A3 nodes.length c3], .int .i64 q, .int .u8 l] w0 fun e w' => ∃ v, e = .returned v ∧ (v = .tuple #[.int .i64 (nextE p0 acc.length gd nodes q l).1, .int .i64 (nextE p0 acc.length gd nodes q l).2] ∧ Ext w0 w') := by
  have HW : Chg (Hi w0.heap.size) w0 w0 := Chg.refl _ _
  refine enterV (n := 45) Try.func10 rfl rfl rfl ?_
  intro a E
  replace E := E.pick [(0, .agg #[.int .i64 p0, .slice A1 acc.length c1, .slice A2 gd.length c2, .slice A3 nodes.length c3]), (1, .int .i64 q), (2, .int .u8 l)] ⟨rfl, rfl, rfl, trivial⟩
  refine wp_seq ?_
  refine wp_region_lit ?_
  refine e_box E rfl rfl rfl ?_
  intro w2 g1 a hc3 hg4 B5 E_
  replace E := E_ _ rfl; clear E_
  replace B5 : Bx w2 g1 26 [.int .i64 p0, .slice A1 acc.length c1, .slice A2 gd.length c2, .slice A3 nodes.length c3] := B5
  have hi_g1 : w0.heap.size ≤ g1 := Nat.le_trans HW.size hg4
  replace HW := HW.trans hc3 (fun _ _ h_ => h_.elim)
  refine vrun (w := w2) (lp := [(1, .int .i64 q), (2, .int .u8 l), (3, .pointer (some ⟨g1, 0, none⟩))]) (φ := []) tbok 2 [] [1, 2, 3] E (by kernel_rfl) trivial ?_
  clear E; intro a E
  refine wpList_nil ?_
  refine th_n ?_
  refine wp_seq ?_
  refine wp_seq ?_
  refine wp_region_lit ?_
  refine vrun (w := w2) (lp := [(1, .int .i64 q), (2, .int .u8 l), (3, .pointer (some ⟨g1, 0, none⟩)), (11, .agg #[.int .i64 p0, .slice A1 acc.length c1, .slice A2 gd.length c2, .slice A3 nodes.length c3])]) (φ := [cellsAt w2 g1 (0) [.int .i64 p0, .slice A1 acc.length c1, .slice A2 gd.length c2, .slice A3 nodes.length c3]]) tbok 1 [.agg #[.int .i64 p0, .slice A1 acc.length c1, .slice A2 gd.length c2, .slice A3 nodes.length c3]] [1, 2, 3, 11] E (by kernel_rfl) (B5.sub 0 _ rfl) ?_
  clear E; intro a E
  refine e_call E rfl rfl Try.func28 rfl rfl rfl (Check_calls p0 A1 A2 A3 c1 c2 c3 acc gd nodes  _ (by omega) (by omega) (by omega) (H1.now HW) (H2.now HW) (H3.now HW) hW) ?_
  intro v6 w7 a hR8 E_
  obtain ⟨rfl, hc9⟩ := hR8
  replace E := E_ _ rfl; clear E_
  replace B5 := B5.chg hc9 (fun h_ => h_)
  replace HW := HW.trans hc9 (fun _ _ h_ => h_.elim)
  refine vrun (w := w7) (lp := [(1, .int .i64 q), (2, .int .u8 l), (3, .pointer (some ⟨g1, 0, none⟩)), (8, .int .i64 (checkV p0 (List.length acc) gd nodes))]) (φ := []) tbok 1 [] [1, 2, 3, 8] E (by kernel_rfl) trivial ?_
  clear E; intro a E
  refine wpList_nil ?_
  refine th_n ?_
  refine wp_seq ?_
  refine wp_region_lit ?_
  refine vrun (w := w7) (lp := [(1, .int .i64 q), (2, .int .u8 l), (3, .pointer (some ⟨g1, 0, none⟩)), (8, .int .i64 (checkV p0 (List.length acc) gd nodes)), (14, .bool ((checkV p0 (List.length acc) gd nodes : Int) != 0))]) (φ := []) tbok 2 [] [1, 2, 3, 8, 14] E (by kernel_rfl) trivial ?_
  clear E; intro a E
  refine wpList_nil ?_
  refine th_n ?_
  refine E.cases (t := 14) rfl (fun hb_ E_ => ?_) (fun hb_ E_ => ?_)
  · replace E := E_; clear E_
    have h10 : ¬ ((checkV p0 (List.length acc) gd nodes : Int) = 0) := bne_iff_ne.1 hb_
    clear hb_
    refine c_true E rfl ?_
    refine wp_seq ?_
    refine wp_region_lit ?_
    refine vrun (w := w7) (lp := [(6, .int .i64 0), (7, .int .i64 (checkV p0 (List.length acc) gd nodes))]) (φ := []) tbok 3 [] [6, 7] E (by kernel_rfl) trivial ?_
    clear E; intro a E
    refine wpList_nil ?_
    refine th_n ?_
    refine wp_ret ?_
    refine th_ret ?_
    refine ret2 E rfl rfl rfl ?_
    exact ⟨_, rfl, by rw [nextE_check (by assumption), checkV_no (by assumption)], HW.own⟩
  · replace E := E_; clear E_
    have h11 : (checkV p0 (List.length acc) gd nodes : Int) = 0 := bne_eq_false_iff_eq.1 hb_
    clear hb_
    refine c_false E rfl ?_
    refine wp_skip ?_
    refine th_n ?_
    refine wp_seq ?_
    refine wp_seq ?_
    refine wp_region_lit ?_
    refine vrun (w := w7) (lp := [(1, .int .i64 q), (2, .int .u8 l), (3, .pointer (some ⟨g1, 0, none⟩)), (18, .bool (decide (q < 0)))]) (φ := []) tbok 3 [] [1, 2, 3, 18] E (by kernel_rfl) trivial ?_
    clear E; intro a E
    refine E.cases (t := 18) rfl (fun hb_ E_ => ?_) (fun hb_ E_ => ?_)
    · replace E := E_; clear E_
      have h12 : q < 0 := of_decide_eq_true hb_
      clear hb_
      refine vrun (w := w7) (lp := [(1, .int .i64 q), (2, .int .u8 l), (3, .pointer (some ⟨g1, 0, none⟩)), (31, .bool true)]) (φ := []) tbok 13 [] [1, 2, 3, 31] E (by kernel_rfl) trivial ?_
      clear E; intro a E
      refine wpList_nil ?_
      refine th_n ?_
      refine c_true E rfl ?_
      refine wp_seq ?_
      refine wp_region_lit ?_
      refine vrun (w := w7) (lp := [(6, .int .i64 0), (7, .int .i64 2)]) (φ := []) tbok 2 [] [6, 7] E (by kernel_rfl) trivial ?_
      clear E; intro a E
      refine wpList_nil ?_
      refine th_n ?_
      refine wp_ret ?_
      refine th_ret ?_
      refine ret2 E rfl rfl rfl ?_
      exact ⟨_, rfl, by rw [nextE_arg (by assumption) (by first | (exact Or.inl (by omega)) | (exact Or.inr (Or.inl (by omega))) | (exact Or.inr (Or.inr (by assumption))))], HW.own⟩
    · replace E := E_; clear E_
      have h13 : ¬ (q < 0) := of_decide_eq_false hb_
      clear hb_
      refine vrun (w := w7) (lp := [(1, .int .i64 q), (2, .int .u8 l), (3, .pointer (some ⟨g1, 0, none⟩)), (25, .bool (decide (((acc.length : Nat) : Int) ≤ q)))]) (φ := [World.cell? w7 ⟨g1, 1, none⟩ = some (.slice A1 acc.length c1)]) tbok 7 [.slice A1 acc.length c1] [1, 2, 3, 25] E (by kernel_rfl) (B5.cell (j := 1) rfl) ?_
      clear E; intro a E
      refine E.cases (t := 25) rfl (fun hb_ E_ => ?_) (fun hb_ E_ => ?_)
      · replace E := E_; clear E_
        have h14 : ((acc.length : Nat) : Int) ≤ q := of_decide_eq_true hb_
        clear hb_
        refine vrun (w := w7) (lp := [(1, .int .i64 q), (2, .int .u8 l), (3, .pointer (some ⟨g1, 0, none⟩)), (31, .bool true)]) (φ := []) tbok 6 [] [1, 2, 3, 31] E (by kernel_rfl) trivial ?_
        clear E; intro a E
        refine wpList_nil ?_
        refine th_n ?_
        refine c_true E rfl ?_
        refine wp_seq ?_
        refine wp_region_lit ?_
        refine vrun (w := w7) (lp := [(6, .int .i64 0), (7, .int .i64 2)]) (φ := []) tbok 2 [] [6, 7] E (by kernel_rfl) trivial ?_
        clear E; intro a E
        refine wpList_nil ?_
        refine th_n ?_
        refine wp_ret ?_
        refine th_ret ?_
        refine ret2 E rfl rfl rfl ?_
        exact ⟨_, rfl, by rw [nextE_arg (by assumption) (by first | (exact Or.inl (by omega)) | (exact Or.inr (Or.inl (by omega))) | (exact Or.inr (Or.inr (by assumption))))], HW.own⟩
      · replace E := E_; clear E_
        have h15 : ¬ (((acc.length : Nat) : Int) ≤ q) := of_decide_eq_false hb_
        clear hb_
        refine vrun (w := w7) (lp := [(1, .int .i64 q), (2, .int .u8 l), (3, .pointer (some ⟨g1, 0, none⟩)), (25, .bool false), (27, .int .i64 p0), (28, .int .u8 l)]) (φ := [World.cell? w7 ⟨g1, 0, none⟩ = some (.int .i64 p0)]) tbok 3 [.int .i64 p0] [1, 2, 3, 25, 27, 28] E (by kernel_rfl) (B5.cell (j := 0) rfl) ?_
        clear E; intro a E
        refine e_call E rfl rfl Try.func29 rfl rfl rfl (Fits_calls p0 l _ hlt) ?_
        intro v16 w17 a hR18 E_
        obtain ⟨rfl, hc19⟩ := hR18
        replace E := E_ _ rfl; clear E_
        replace B5 := B5.chg hc19 (fun h_ => h_)
        replace HW := HW.trans hc19 (fun _ _ h_ => h_.elim)
        refine vrun (w := w17) (lp := [(1, .int .i64 q), (2, .int .u8 l), (3, .pointer (some ⟨g1, 0, none⟩)), (31, .bool (!(fitsB p0 l)))]) (φ := []) tbok 2 [] [1, 2, 3, 31] E (by kernel_rfl) trivial ?_
        clear E; intro a E
        refine wpList_nil ?_
        refine th_n ?_
        refine E.cases (t := 31) rfl (fun hb_ E_ => ?_) (fun hb_ E_ => ?_)
        · replace E := E_; clear E_
          have h20 : fitsB p0 l = false := not_t hb_
          clear hb_
          refine c_true E rfl ?_
          refine wp_seq ?_
          refine wp_region_lit ?_
          refine vrun (w := w17) (lp := [(6, .int .i64 0), (7, .int .i64 2)]) (φ := []) tbok 2 [] [6, 7] E (by kernel_rfl) trivial ?_
          clear E; intro a E
          refine wpList_nil ?_
          refine th_n ?_
          refine wp_ret ?_
          refine th_ret ?_
          refine ret2 E rfl rfl rfl ?_
          exact ⟨_, rfl, by rw [nextE_arg (by assumption) (by first | (exact Or.inl (by omega)) | (exact Or.inr (Or.inl (by omega))) | (exact Or.inr (Or.inr (by assumption))))], HW.own⟩
        · replace E := E_; clear E_
          have h21 : fitsB p0 l = true := not_f hb_
          clear hb_
          refine c_false E rfl ?_
          refine wp_skip ?_
          refine th_n ?_
          refine wp_seq ?_
          refine dr_start (S := fun w_ => Chg No w17 w_) (by kernel_rfl) ?_
          intro w22 hc23
          have HWs := HW
          have B5s := B5
          have HS : Chg No w17 w22 := hc23.mono (fun _ _ h_ => h_.elim)
          replace B5 := B5.chg hc23 (fun h_ => h_)
          replace HW := HW.trans hc23 (fun _ _ h_ => h_.elim)
          have hx_38 : 0 ≤ q ∧ q < ((gd.length : Nat) : Int) := ⟨by omega, by have h_ := (checkV_yes (by assumption : checkV p0 acc.length gd nodes = 0)).gl; omega⟩
          obtain ⟨b24, o25, e_b24⟩ := H2.addr (by omega)
          subst e_b24
          refine drun (lp := [(34, .slice A3 nodes.length c3), (39, .int .i64 (List.getD gd (Int.toNat q) 0)), (40, .int .u8 l)]) tbok (by kernel_rfl) [0, 1, 2, 3, 4, 5, 6, 7] [.slice A3 nodes.length c3, .slice (some ⟨b24, o25, none⟩) gd.length c2, .int .i64 (List.getD gd (Int.toNat q) 0)] [34, 39, 40] (fun w_ => [World.cell? w_ ⟨g1, 3, none⟩ = some (.slice A3 nodes.length c3), World.cell? w_ ⟨g1, 2, none⟩ = some (.slice (some ⟨b24, o25, none⟩) gd.length c2), 0 ≤ q ∧ q < ((gd.length : Nat) : Int), World.cell? w_ ⟨b24, o25 + (Int.toNat q) * 1, none⟩ = some (.int .i64 (List.getD gd (Int.toNat q) 0))]) (fuel := 6) E (fun _ _ => by kernel_rfl) (fun w_ hS_ => ⟨hS_.cell (B5s.cell (j := 3) rfl) (fun h_ => h_), hS_.cell (B5s.cell (j := 2) rfl) (fun h_ => h_), hx_38, hS_.cell (C.at1 (H2.keep HWs lo_hi) 0 hx_38.1 hx_38.2) (fun h_ => h_)⟩) (by kernel_rfl) HS ?_
          clear E; intro a E
          refine wpAnyH_all (rs := [8]) (by kernel_rfl) (by simp) ?_
          refine all1 ?_
          · refine wpOp_of_list rfl ?_
            refine e_call E rfl rfl Try.func30 rfl rfl rfl (Go_calls A3 c3 nodes (List.getD gd (Int.toNat q) 0) l _ (getD_w64 hG _) hlt (by omega) (H3.now HW) hW) ?_
            intro v26 w27 a hR28 E_
            obtain ⟨rfl, hc29⟩ := hR28
            replace E := E_ _ rfl; clear E_
            replace B5 := B5.chg hc29 (fun h_ => h_)
            replace HS := HS.trans hc29 (fun _ _ h_ => h_.elim)
            replace HW := HW.trans hc29 (fun _ _ h_ => h_.elim)
            refine wpList_nil ?_
            refine th_n ⟨HS, ?_⟩
            refine drun (lp := [(9, .int .i64 ((goF nodes l 9 (List.getD gd (Int.toNat q) 0)).1))]) tbok (by kernel_rfl) [9, 10, 11, 12, 13] [] [9] (fun w_ => []) (fuel := 0) E (fun _ _ => by kernel_rfl) (fun w_ hS_ => trivial) (by kernel_rfl) HS ?_
            clear E; intro a E
            refine dr_done (by kernel_rfl) ?_
            clear HS HWs
            refine th_n ?_
            refine wp_seq ?_
            refine wp_region_lit ?_
            refine vrun (w := w27) (lp := [(6, .int .i64 ((goF nodes l 9 (List.getD gd (Int.toNat q) 0)).1)), (7, .int .i64 0)]) (φ := []) tbok 3 [] [6, 7] E (by kernel_rfl) trivial ?_
            clear E; intro a E
            refine wpList_nil ?_
            refine th_n ?_
            refine wp_ret ?_
            refine ret2 E rfl rfl rfl ?_
            exact ⟨_, rfl, by rw [nextE_ok (by assumption) (by omega) (by omega) (by assumption)] <;> rfl, HW.own⟩

/-! rejoinder/rejoinderref17.Next -/
set_option maxRecDepth 100000 in
theorem rNext_calls (p0 : Int) (A1 A2 A3 : Option Addr) (c1 c2 c3 : Nat) (acc : List Bool) (gd : List Int) (nodes : List Nd) (q l : Int) (w0 : World) (hl1 : acc.length ≤ 140737488351232) (hl2 : gd.length ≤ 140737488351232) (hl3 : nodes.length ≤ 140737488351232) (H1 : C cBool w0 (Lo w0.heap.size) A1 acc) (H2 : C (cInt .i64) w0 (Lo w0.heap.size) A2 gd) (H3 : C cNode w0 (Lo w0.heap.size) A3 nodes) (hlt : 0 ≤ l ∧ l ≤ 255) (hW : ∀ x ∈ nodes, x.wf) (hG : ∀ x ∈ gd, -9223372036854775808 ≤ x ∧ x ≤ 9223372036854775807) :
    Calls Try.prog 11 #[.agg #[.int .i64 p0, .slice A1 acc.length c1, .slice A2 gd.length c2, .slice A3 nodes.length c3], .int .i64 q, .int .u8 l] w0 fun e w' => ∃ v, e = .returned v ∧ (v = .tuple #[.int .i64 (nextE p0 acc.length gd nodes q l).1, .int .i64 (nextE p0 acc.length gd nodes q l).2] ∧ Ext w0 w') := by
  have HW : Chg (Hi w0.heap.size) w0 w0 := Chg.refl _ _
  refine enterV (n := 31) Try.func11 rfl rfl rfl ?_
  intro a E
  replace E := E.pick [(0, .agg #[.int .i64 p0, .slice A1 acc.length c1, .slice A2 gd.length c2, .slice A3 nodes.length c3]), (1, .int .i64 q), (2, .int .u8 l)] ⟨rfl, rfl, rfl, trivial⟩
  refine wp_seq ?_
  refine wp_region_lit ?_
  refine e_box E rfl rfl rfl ?_
  intro w2 g1 a hc3 hg4 B5 E_
  replace E := E_ _ rfl; clear E_
  replace B5 : Bx w2 g1 26 [.int .i64 p0, .slice A1 acc.length c1, .slice A2 gd.length c2, .slice A3 nodes.length c3] := B5
  have hi_g1 : w0.heap.size ≤ g1 := Nat.le_trans HW.size hg4
  replace HW := HW.trans hc3 (fun _ _ h_ => h_.elim)
  refine vrun (w := w2) (lp := [(1, .int .i64 q), (2, .int .u8 l), (3, .pointer (some ⟨g1, 0, none⟩))]) (φ := []) tbok 2 [] [1, 2, 3] E (by kernel_rfl) trivial ?_
  clear E; intro a E
  refine wpList_nil ?_
  refine th_n ?_
  refine wp_seq ?_
  refine wp_seq ?_
  refine wp_region_lit ?_
  refine vrun (w := w2) (lp := [(1, .int .i64 q), (2, .int .u8 l), (3, .pointer (some ⟨g1, 0, none⟩)), (8, .agg #[.int .i64 p0, .slice A1 acc.length c1, .slice A2 gd.length c2, .slice A3 nodes.length c3])]) (φ := [cellsAt w2 g1 (0) [.int .i64 p0, .slice A1 acc.length c1, .slice A2 gd.length c2, .slice A3 nodes.length c3]]) tbok 1 [.agg #[.int .i64 p0, .slice A1 acc.length c1, .slice A2 gd.length c2, .slice A3 nodes.length c3]] [1, 2, 3, 8] E (by kernel_rfl) (B5.sub 0 _ rfl) ?_
  clear E; intro a E
  refine e_call E rfl rfl Try.func31 rfl rfl rfl (rCheck_calls p0 A1 A2 A3 c1 c2 c3 acc gd nodes  _ (by omega) (by omega) (by omega) (H1.now HW) (H2.now HW) (H3.now HW)) ?_
  intro v6 w7 a hR8 E_
  obtain ⟨rfl, hc9⟩ := hR8
  replace E := E_ _ rfl; clear E_
  replace B5 := B5.chg hc9 (fun h_ => h_)
  replace HW := HW.trans hc9 (fun _ _ h_ => h_.elim)
  refine vrun (w := w7) (lp := [(1, .int .i64 q), (2, .int .u8 l), (3, .pointer (some ⟨g1, 0, none⟩)), (10, .bool ((checkV p0 (List.length acc) gd nodes : Int) != 0))]) (φ := []) tbok 1 [] [1, 2, 3, 10] E (by kernel_rfl) trivial ?_
  clear E; intro a E
  refine wpList_nil ?_
  refine th_n ?_
  refine E.cases (t := 10) rfl (fun hb_ E_ => ?_) (fun hb_ E_ => ?_)
  · replace E := E_; clear E_
    have h10 : ¬ ((checkV p0 (List.length acc) gd nodes : Int) = 0) := bne_iff_ne.1 hb_
    clear hb_
    refine c_true E rfl ?_
    refine wp_seq ?_
    refine wp_region_lit ?_
    refine vrun (w := w7) (lp := [(6, .int .i64 0), (7, .int .i64 12)]) (φ := []) tbok 2 [] [6, 7] E (by kernel_rfl) trivial ?_
    clear E; intro a E
    refine wpList_nil ?_
    refine th_n ?_
    refine wp_ret ?_
    refine th_ret ?_
    refine ret2 E rfl rfl rfl ?_
    exact ⟨_, rfl, by rw [nextE_check (by assumption)], HW.own⟩
  · replace E := E_; clear E_
    have h11 : (checkV p0 (List.length acc) gd nodes : Int) = 0 := bne_eq_false_iff_eq.1 hb_
    clear hb_
    refine c_false E rfl ?_
    refine wp_skip ?_
    refine th_n ?_
    refine wp_seq ?_
    refine wp_seq ?_
    refine wp_region_lit ?_
    refine vrun (w := w7) (lp := [(1, .int .i64 q), (2, .int .u8 l), (3, .pointer (some ⟨g1, 0, none⟩)), (13, .bool (decide (q < 0)))]) (φ := []) tbok 3 [] [1, 2, 3, 13] E (by kernel_rfl) trivial ?_
    clear E; intro a E
    refine E.cases (t := 13) rfl (fun hb_ E_ => ?_) (fun hb_ E_ => ?_)
    · replace E := E_; clear E_
      have h12 : q < 0 := of_decide_eq_true hb_
      clear hb_
      refine vrun (w := w7) (lp := [(1, .int .i64 q), (2, .int .u8 l), (3, .pointer (some ⟨g1, 0, none⟩)), (26, .bool true)]) (φ := []) tbok 13 [] [1, 2, 3, 26] E (by kernel_rfl) trivial ?_
      clear E; intro a E
      refine wpList_nil ?_
      refine th_n ?_
      refine c_true E rfl ?_
      refine wp_seq ?_
      refine wp_region_lit ?_
      refine vrun (w := w7) (lp := [(6, .int .i64 0), (7, .int .i64 2)]) (φ := []) tbok 2 [] [6, 7] E (by kernel_rfl) trivial ?_
      clear E; intro a E
      refine wpList_nil ?_
      refine th_n ?_
      refine wp_ret ?_
      refine th_ret ?_
      refine ret2 E rfl rfl rfl ?_
      exact ⟨_, rfl, by rw [nextE_arg (by assumption) (by first | (exact Or.inl (by omega)) | (exact Or.inr (Or.inl (by omega))) | (exact Or.inr (Or.inr (by assumption))))], HW.own⟩
    · replace E := E_; clear E_
      have h13 : ¬ (q < 0) := of_decide_eq_false hb_
      clear hb_
      refine vrun (w := w7) (lp := [(1, .int .i64 q), (2, .int .u8 l), (3, .pointer (some ⟨g1, 0, none⟩)), (20, .bool (decide (((acc.length : Nat) : Int) ≤ q)))]) (φ := [World.cell? w7 ⟨g1, 1, none⟩ = some (.slice A1 acc.length c1)]) tbok 7 [.slice A1 acc.length c1] [1, 2, 3, 20] E (by kernel_rfl) (B5.cell (j := 1) rfl) ?_
      clear E; intro a E
      refine E.cases (t := 20) rfl (fun hb_ E_ => ?_) (fun hb_ E_ => ?_)
      · replace E := E_; clear E_
        have h14 : ((acc.length : Nat) : Int) ≤ q := of_decide_eq_true hb_
        clear hb_
        refine vrun (w := w7) (lp := [(1, .int .i64 q), (2, .int .u8 l), (3, .pointer (some ⟨g1, 0, none⟩)), (26, .bool true)]) (φ := []) tbok 6 [] [1, 2, 3, 26] E (by kernel_rfl) trivial ?_
        clear E; intro a E
        refine wpList_nil ?_
        refine th_n ?_
        refine c_true E rfl ?_
        refine wp_seq ?_
        refine wp_region_lit ?_
        refine vrun (w := w7) (lp := [(6, .int .i64 0), (7, .int .i64 2)]) (φ := []) tbok 2 [] [6, 7] E (by kernel_rfl) trivial ?_
        clear E; intro a E
        refine wpList_nil ?_
        refine th_n ?_
        refine wp_ret ?_
        refine th_ret ?_
        refine ret2 E rfl rfl rfl ?_
        exact ⟨_, rfl, by rw [nextE_arg (by assumption) (by first | (exact Or.inl (by omega)) | (exact Or.inr (Or.inl (by omega))) | (exact Or.inr (Or.inr (by assumption))))], HW.own⟩
      · replace E := E_; clear E_
        have h15 : ¬ (((acc.length : Nat) : Int) ≤ q) := of_decide_eq_false hb_
        clear hb_
        refine vrun (w := w7) (lp := [(1, .int .i64 q), (2, .int .u8 l), (3, .pointer (some ⟨g1, 0, none⟩)), (20, .bool false), (22, .int .i64 p0), (23, .int .u8 l)]) (φ := [World.cell? w7 ⟨g1, 0, none⟩ = some (.int .i64 p0)]) tbok 3 [.int .i64 p0] [1, 2, 3, 20, 22, 23] E (by kernel_rfl) (B5.cell (j := 0) rfl) ?_
        clear E; intro a E
        refine e_call E rfl rfl Try.func32 rfl rfl rfl (rFits_calls p0 l _ hlt) ?_
        intro v16 w17 a hR18 E_
        obtain ⟨rfl, hc19⟩ := hR18
        replace E := E_ _ rfl; clear E_
        replace B5 := B5.chg hc19 (fun h_ => h_)
        replace HW := HW.trans hc19 (fun _ _ h_ => h_.elim)
        refine vrun (w := w17) (lp := [(1, .int .i64 q), (2, .int .u8 l), (3, .pointer (some ⟨g1, 0, none⟩)), (26, .bool (!(fitsB p0 l)))]) (φ := []) tbok 2 [] [1, 2, 3, 26] E (by kernel_rfl) trivial ?_
        clear E; intro a E
        refine wpList_nil ?_
        refine th_n ?_
        refine E.cases (t := 26) rfl (fun hb_ E_ => ?_) (fun hb_ E_ => ?_)
        · replace E := E_; clear E_
          have h20 : fitsB p0 l = false := not_t hb_
          clear hb_
          refine c_true E rfl ?_
          refine wp_seq ?_
          refine wp_region_lit ?_
          refine vrun (w := w17) (lp := [(6, .int .i64 0), (7, .int .i64 2)]) (φ := []) tbok 2 [] [6, 7] E (by kernel_rfl) trivial ?_
          clear E; intro a E
          refine wpList_nil ?_
          refine th_n ?_
          refine wp_ret ?_
          refine th_ret ?_
          refine ret2 E rfl rfl rfl ?_
          exact ⟨_, rfl, by rw [nextE_arg (by assumption) (by first | (exact Or.inl (by omega)) | (exact Or.inr (Or.inl (by omega))) | (exact Or.inr (Or.inr (by assumption))))], HW.own⟩
        · replace E := E_; clear E_
          have h21 : fitsB p0 l = true := not_f hb_
          clear hb_
          refine c_false E rfl ?_
          refine wp_skip ?_
          refine th_n ?_
          refine wp_seq ?_
          refine wp_region_lit ?_
          refine vrun (w := w17) (lp := [(27, .agg #[.int .i64 p0, .slice A1 acc.length c1, .slice A2 gd.length c2, .slice A3 nodes.length c3]), (28, .int .i64 q), (29, .int .u8 l)]) (φ := [cellsAt w17 g1 (0) [.int .i64 p0, .slice A1 acc.length c1, .slice A2 gd.length c2, .slice A3 nodes.length c3]]) tbok 3 [.agg #[.int .i64 p0, .slice A1 acc.length c1, .slice A2 gd.length c2, .slice A3 nodes.length c3]] [27, 28, 29] E (by kernel_rfl) (B5.sub 0 _ rfl) ?_
          clear E; intro a E
          have hgl_ := (checkV_yes (by assumption : checkV p0 acc.length gd nodes = 0)).gl
          refine e_call E rfl rfl Try.func33 rfl rfl rfl (rNext14_calls p0 A1 A2 A3 c1 c2 c3 acc gd nodes q l _ (by omega) (by omega) (by omega) (H1.now HW) (H2.now HW) (H3.now HW) hlt hW hG ⟨by omega, by omega⟩) ?_
          intro v22 w23 a hR24 E_
          obtain ⟨rfl, hc25⟩ := hR24
          replace E := E_ _ rfl; clear E_
          replace B5 := B5.chg hc25 (fun h_ => h_)
          replace HW := HW.trans hc25 (fun _ _ h_ => h_.elim)
          refine vrun (w := w23) (lp := [(6, .int .i64 (nextV gd nodes q l)), (7, .int .i64 0)]) (φ := []) tbok 2 [] [6, 7] E (by kernel_rfl) trivial ?_
          clear E; intro a E
          refine wpList_nil ?_
          refine th_n ?_
          refine wp_ret ?_
          refine ret2 E rfl rfl rfl ?_
          exact ⟨_, rfl, by rw [nextE_ok (by assumption) (by omega) (by omega) (by assumption)] <;> rfl, HW.own⟩

/-! rejoinder/canon.Run -/
set_option maxRecDepth 100000 in
theorem Run_calls (p0 : Int) (A1 A2 A3 : Option Addr) (c1 c2 c3 : Nat) (acc : List Bool) (gd : List Int) (nodes : List Nd) (A : Option Addr) (c : Nat) (t : List Int) (w0 : World) (hl1 : acc.length ≤ 140737488351232) (hl2 : gd.length ≤ 140737488351232) (hl3 : nodes.length ≤ 140737488351232) (H1 : C cBool w0 (Lo w0.heap.size) A1 acc) (H2 : C (cInt .i64) w0 (Lo w0.heap.size) A2 gd) (H3 : C cNode w0 (Lo w0.heap.size) A3 nodes) (hl : t.length ≤ 9223372036854775807) (H : C (cInt .u8) w0 (Lo w0.heap.size) A t) (hW : ∀ x ∈ nodes, x.wf) (hG : ∀ x ∈ gd, -9223372036854775808 ≤ x ∧ x ≤ 9223372036854775807) (hT : ∀ x ∈ t, 0 ≤ x ∧ x ≤ 255) :
    Calls Try.prog 12 #[.agg #[.int .i64 p0, .slice A1 acc.length c1, .slice A2 gd.length c2, .slice A3 nodes.length c3], .slice A t.length c] w0 fun e w' => ∃ v, e = .returned v ∧ (v = .tuple #[.int .i64 (runE p0 acc.length gd nodes t).1, .int .i64 (runE p0 acc.length gd nodes t).2] ∧ Ext w0 w') := by
  have HW : Chg (Hi w0.heap.size) w0 w0 := Chg.refl _ _
  refine enterV (n := 43) Try.func12 rfl rfl rfl ?_
  intro a E
  replace E := E.pick [(0, .agg #[.int .i64 p0, .slice A1 acc.length c1, .slice A2 gd.length c2, .slice A3 nodes.length c3]), (1, .slice A t.length c)] ⟨rfl, rfl, trivial⟩
  refine wp_seq ?_
  refine wp_region_lit ?_
  refine e_box E rfl rfl rfl ?_
  intro w2 g1 a hc3 hg4 B5 E_
  replace E := E_ _ rfl; clear E_
  replace B5 : Bx w2 g1 26 [.int .i64 p0, .slice A1 acc.length c1, .slice A2 gd.length c2, .slice A3 nodes.length c3] := B5
  have hi_g1 : w0.heap.size ≤ g1 := Nat.le_trans HW.size hg4
  replace HW := HW.trans hc3 (fun _ _ h_ => h_.elim)
  refine vrun (w := w2) (lp := [(1, .slice A t.length c), (2, .pointer (some ⟨g1, 0, none⟩))]) (φ := []) tbok 2 [] [1, 2] E (by kernel_rfl) trivial ?_
  clear E; intro a E
  refine wpList_nil ?_
  refine th_n ?_
  refine wp_seq ?_
  refine wp_seq ?_
  refine wp_region_lit ?_
  refine vrun (w := w2) (lp := [(1, .slice A t.length c), (2, .pointer (some ⟨g1, 0, none⟩)), (11, .agg #[.int .i64 p0, .slice A1 acc.length c1, .slice A2 gd.length c2, .slice A3 nodes.length c3])]) (φ := [cellsAt w2 g1 (0) [.int .i64 p0, .slice A1 acc.length c1, .slice A2 gd.length c2, .slice A3 nodes.length c3]]) tbok 1 [.agg #[.int .i64 p0, .slice A1 acc.length c1, .slice A2 gd.length c2, .slice A3 nodes.length c3]] [1, 2, 11] E (by kernel_rfl) (B5.sub 0 _ rfl) ?_
  clear E; intro a E
  refine e_call E rfl rfl Try.func28 rfl rfl rfl (Check_calls p0 A1 A2 A3 c1 c2 c3 acc gd nodes  _ (by omega) (by omega) (by omega) (H1.now HW) (H2.now HW) (H3.now HW) hW) ?_
  intro v6 w7 a hR8 E_
  obtain ⟨rfl, hc9⟩ := hR8
  replace E := E_ _ rfl; clear E_
  replace B5 := B5.chg hc9 (fun h_ => h_)
  replace HW := HW.trans hc9 (fun _ _ h_ => h_.elim)
  refine vrun (w := w7) (lp := [(1, .slice A t.length c), (2, .pointer (some ⟨g1, 0, none⟩)), (6, .int .i64 (checkV p0 (List.length acc) gd nodes))]) (φ := []) tbok 1 [] [1, 2, 6] E (by kernel_rfl) trivial ?_
  clear E; intro a E
  refine wpList_nil ?_
  refine th_n ?_
  refine wp_seq ?_
  refine wp_region_lit ?_
  refine vrun (w := w7) (lp := [(1, .slice A t.length c), (2, .pointer (some ⟨g1, 0, none⟩)), (6, .int .i64 (checkV p0 (List.length acc) gd nodes)), (14, .bool ((checkV p0 (List.length acc) gd nodes : Int) != 0))]) (φ := []) tbok 2 [] [1, 2, 6, 14] E (by kernel_rfl) trivial ?_
  clear E; intro a E
  refine wpList_nil ?_
  refine th_n ?_
  refine E.cases (t := 14) rfl (fun hb_ E_ => ?_) (fun hb_ E_ => ?_)
  · replace E := E_; clear E_
    have h10 : ¬ ((checkV p0 (List.length acc) gd nodes : Int) = 0) := bne_iff_ne.1 hb_
    clear hb_
    refine c_true E rfl ?_
    refine wp_seq ?_
    refine wp_region_lit ?_
    refine vrun (w := w7) (lp := [(4, .int .i64 0), (5, .int .i64 (checkV p0 (List.length acc) gd nodes))]) (φ := []) tbok 3 [] [4, 5] E (by kernel_rfl) trivial ?_
    clear E; intro a E
    refine wpList_nil ?_
    refine th_n ?_
    refine wp_ret ?_
    refine th_ret ?_
    refine ret2 E rfl rfl rfl ?_
    exact ⟨_, rfl, by rw [runE_check (by assumption), checkV_no (by assumption)], HW.own⟩
  · replace E := E_; clear E_
    have h11 : (checkV p0 (List.length acc) gd nodes : Int) = 0 := bne_eq_false_iff_eq.1 hb_
    clear hb_
    refine c_false E rfl ?_
    refine wp_skip ?_
    refine th_n ?_
    refine wp_seq ?_
    refine wp_seq ?_
    refine wp_region_lit ?_
    refine vrun (w := w7) (lp := [(1, .slice A t.length c), (2, .pointer (some ⟨g1, 0, none⟩)), (17, .int .i64 p0), (18, .slice A t.length c)]) (φ := [World.cell? w7 ⟨g1, 0, none⟩ = some (.int .i64 p0)]) tbok 3 [.int .i64 p0] [1, 2, 17, 18] E (by kernel_rfl) (B5.cell (j := 0) rfl) ?_
    clear E; intro a E
    refine e_call E rfl rfl Try.func34 rfl rfl rfl (Trace_calls p0 A c t _ (by omega) (H.now HW) hT) ?_
    intro v12 w13 a hR14 E_
    obtain ⟨rfl, hc15⟩ := hR14
    replace E := E_ _ rfl; clear E_
    replace B5 := B5.chg hc15 (fun h_ => h_)
    replace HW := HW.trans hc15 (fun _ _ h_ => h_.elim)
    refine vrun (w := w13) (lp := [(1, .slice A t.length c), (2, .pointer (some ⟨g1, 0, none⟩)), (7, .int .i64 (traceV p0 t))]) (φ := []) tbok 1 [] [1, 2, 7] E (by kernel_rfl) trivial ?_
    clear E; intro a E
    refine wpList_nil ?_
    refine th_n ?_
    refine wp_seq ?_
    refine wp_region_lit ?_
    refine vrun (w := w13) (lp := [(1, .slice A t.length c), (2, .pointer (some ⟨g1, 0, none⟩)), (7, .int .i64 (traceV p0 t)), (21, .bool ((traceV p0 t : Int) != 0))]) (φ := []) tbok 2 [] [1, 2, 7, 21] E (by kernel_rfl) trivial ?_
    clear E; intro a E
    refine wpList_nil ?_
    refine th_n ?_
    refine E.cases (t := 21) rfl (fun hb_ E_ => ?_) (fun hb_ E_ => ?_)
    · replace E := E_; clear E_
      have h16 : ¬ ((traceV p0 t : Int) = 0) := bne_iff_ne.1 hb_
      clear hb_
      refine c_true E rfl ?_
      refine wp_seq ?_
      refine wp_region_lit ?_
      refine vrun (w := w13) (lp := [(4, .int .i64 0), (5, .int .i64 (traceV p0 t))]) (φ := []) tbok 3 [] [4, 5] E (by kernel_rfl) trivial ?_
      clear E; intro a E
      refine wpList_nil ?_
      refine th_n ?_
      refine wp_ret ?_
      refine th_ret ?_
      refine ret2 E rfl rfl rfl ?_
      exact ⟨_, rfl, by rw [runE_trace (by assumption) (by assumption)], HW.own⟩
    · replace E := E_; clear E_
      have h17 : (traceV p0 t : Int) = 0 := bne_eq_false_iff_eq.1 hb_
      clear hb_
      refine c_false E rfl ?_
      refine wp_skip ?_
      refine th_n ?_
      refine wp_seq ?_
      refine wp_region_lit ?_
      refine vrun (w := w13) (lp := [(1, .slice A t.length c), (2, .pointer (some ⟨g1, 0, none⟩)), (8, .int .i64 0)]) (φ := []) tbok 1 [] [1, 2, 8] E (by kernel_rfl) trivial ?_
      clear E; intro a E
      refine wpList_nil ?_
      refine th_n ?_
      refine wp_seq ?_
      refine wp_seq ?_
      refine wp_region_lit ?_
      refine vrun (w := w13) (lp := [(2, .pointer (some ⟨g1, 0, none⟩)), (8, .int .i64 0), (23, .slice A t.length c), (24, .int .i64 ((t.length : Nat) : Int)), (25, .int .i64 0)]) (φ := []) tbok 3 [] [2, 8, 23, 24, 25] E (by kernel_rfl) trivial ?_
      clear E; intro a E
      refine wpList_nil ?_
      refine th_n ?_
      refine wp_block ?_
      refine loopV (fun m19 a w18 => ∃ (k : Nat), Fr a 43 [(2, .pointer (some ⟨g1, 0, none⟩)), (8, .int .i64 (runF gd nodes t k)), (23, .slice A t.length c), (24, .int .i64 ((t.length : Nat) : Int)), (25, .int .i64 (k : Int))] ∧ Chg (Hi w0.heap.size) w0 w18 ∧ Bx w18 g1 26 [.int .i64 p0, .slice A1 acc.length c1, .slice A2 gd.length c2, .slice A3 nodes.length c3] ∧ (k ≤ t.length) ∧ m19 = t.length - k) (t.length - (0)) ?_ ?_
      · skip
        exact ⟨0, E.pick _ ⟨rfl, rfl, rfl, rfl, rfl, trivial⟩, HW, B5, (by omega), rfl⟩
      · clear E HW; intro m19 a w18 hI_
        obtain ⟨k, hI_⟩ := hI_
        clear B5
        obtain ⟨E, HW, B5, hk, hm_m19⟩ := hI_
        have ho_ := checkV_yes (by assumption : checkV p0 acc.length gd nodes = 0)
        have hs_ := runF_in ho_ t k
        have hgl_ := ho_.gl
        refine wp_seq ?_
        refine wp_region_lit ?_
        refine vrun (w := w18) (lp := [(2, .pointer (some ⟨g1, 0, none⟩)), (8, .int .i64 (runF gd nodes t k)), (23, .slice A t.length c), (24, .int .i64 ((t.length : Nat) : Int)), (25, .int .i64 (k : Int)), (26, .bool (decide ((k : Int) < ((t.length : Nat) : Int))))]) (φ := []) tbok 1 [] [2, 8, 23, 24, 25, 26] E (by kernel_rfl) trivial ?_
        clear E; intro a E
        refine wpList_nil ?_
        refine th_n ?_
        refine wp_seq ?_
        refine E.cases (t := 26) rfl (fun hb_ E_ => ?_) (fun hb_ E_ => ?_)
        · replace E := E_; clear E_
          have h20 : (k : Int) < ((t.length : Nat) : Int) := of_decide_eq_true hb_
          clear hb_
          refine c_true E rfl ?_
          refine wp_skip ?_
          refine th_n ?_
          refine wp_seq ?_
          refine wp_block ?_
          refine wp_seq ?_
          refine wp_region_lit ?_
          have hx_27 : 0 ≤ (k : Int) ∧ (k : Int) < ((t.length : Nat) : Int) := ⟨by omega, by omega⟩
          obtain ⟨b21, o22, e_b21⟩ := H.addr (by omega)
          subst e_b21
          refine vrun (w := w18) (lp := [(2, .pointer (some ⟨g1, 0, none⟩)), (8, .int .i64 (runF gd nodes t k)), (10, .int .u8 (List.getD t (Int.toNat (k : Int)) 0)), (23, .slice (some ⟨b21, o22, none⟩) t.length c), (24, .int .i64 ((t.length : Nat) : Int)), (25, .int .i64 (k : Int))]) (φ := [0 ≤ (k : Int) ∧ (k : Int) < ((t.length : Nat) : Int), World.cell? w18 ⟨b21, o22 + (Int.toNat (k : Int)) * 1, none⟩ = some (.int .u8 (List.getD t (Int.toNat (k : Int)) 0))]) tbok 3 [.int .u8 (List.getD t (Int.toNat (k : Int)) 0)] [2, 8, 10, 23, 24, 25] E (by kernel_rfl) ⟨hx_27, C.at1 (H.keep HW lo_hi) 0 hx_27.1 hx_27.2⟩ ?_
          clear E; intro a E
          refine wpList_nil ?_
          refine th_n ?_
          refine dr_start (S := fun w_ => Chg No w18 w_) (by kernel_rfl) ?_
          intro w23 hc24
          have HWs := HW
          have B5s := B5
          have HS : Chg No w18 w23 := hc24.mono (fun _ _ h_ => h_.elim)
          replace B5 := B5.chg hc24 (fun h_ => h_)
          replace HW := HW.trans hc24 (fun _ _ h_ => h_.elim)
          have hx_35 : 0 ≤ (runF gd nodes t k) ∧ (runF gd nodes t k) < ((gd.length : Nat) : Int) := ⟨by omega, by omega⟩
          obtain ⟨b25, o26, e_b25⟩ := H2.addr (by omega)
          subst e_b25
          refine drun (lp := [(2, .pointer (some ⟨g1, 0, none⟩)), (8, .int .i64 (runF gd nodes t k)), (23, .slice (some ⟨b21, o22, none⟩) t.length c), (24, .int .i64 ((t.length : Nat) : Int)), (25, .int .i64 (k : Int)), (31, .slice A3 nodes.length c3), (36, .int .i64 (List.getD gd (Int.toNat (runF gd nodes t k)) 0)), (37, .int .u8 (List.getD t (Int.toNat (k : Int)) 0))]) tbok (by kernel_rfl) [0, 1, 2, 3, 4, 5, 6, 7] [.slice A3 nodes.length c3, .slice (some ⟨b25, o26, none⟩) gd.length c2, .int .i64 (List.getD gd (Int.toNat (runF gd nodes t k)) 0)] [2, 8, 23, 24, 25, 31, 36, 37] (fun w_ => [World.cell? w_ ⟨g1, 3, none⟩ = some (.slice A3 nodes.length c3), World.cell? w_ ⟨g1, 2, none⟩ = some (.slice (some ⟨b25, o26, none⟩) gd.length c2), 0 ≤ (runF gd nodes t k) ∧ (runF gd nodes t k) < ((gd.length : Nat) : Int), World.cell? w_ ⟨b25, o26 + (Int.toNat (runF gd nodes t k)) * 1, none⟩ = some (.int .i64 (List.getD gd (Int.toNat (runF gd nodes t k)) 0))]) (fuel := 5) E (fun _ _ => by kernel_rfl) (fun w_ hS_ => ⟨hS_.cell (B5s.cell (j := 3) rfl) (fun h_ => h_), hS_.cell (B5s.cell (j := 2) rfl) (fun h_ => h_), hx_35, hS_.cell (C.at1 (H2.keep HWs lo_hi) 0 hx_35.1 hx_35.2) (fun h_ => h_)⟩) (by kernel_rfl) HS ?_
          clear E; intro a E
          refine wpAnyH_all (rs := [8]) (by kernel_rfl) (by simp) ?_
          refine all1 ?_
          · refine wpOp_of_list rfl ?_
            refine e_call E rfl rfl Try.func30 rfl rfl rfl (Go_calls A3 c3 nodes (List.getD gd (Int.toNat (runF gd nodes t k)) 0) (List.getD t (Int.toNat (k : Int)) 0) _ (getD_w64 hG _) (getD_u8 hT _) (by omega) (H3.now HW) hW) ?_
            intro v27 w28 a hR29 E_
            obtain ⟨rfl, hc30⟩ := hR29
            replace E := E_ _ rfl; clear E_
            replace B5 := B5.chg hc30 (fun h_ => h_)
            replace HS := HS.trans hc30 (fun _ _ h_ => h_.elim)
            replace HW := HW.trans hc30 (fun _ _ h_ => h_.elim)
            refine wpList_nil ?_
            refine th_n ⟨HS, ?_⟩
            refine drun (lp := [(2, .pointer (some ⟨g1, 0, none⟩)), (8, .int .i64 ((goF nodes (List.getD t (Int.toNat (k : Int)) 0) 9 (List.getD gd (Int.toNat (runF gd nodes t k)) 0)).1)), (23, .slice (some ⟨b21, o22, none⟩) t.length c), (24, .int .i64 ((t.length : Nat) : Int)), (25, .int .i64 (k : Int))]) tbok (by kernel_rfl) [9, 10, 11, 12] [] [2, 8, 23, 24, 25] (fun w_ => []) (fuel := 0) E (fun _ _ => by kernel_rfl) (fun w_ hS_ => trivial) (by kernel_rfl) HS ?_
            clear E; intro a E
            refine dr_done (by kernel_rfl) ?_
            clear HS HWs
            refine bl_n ?_
            refine th_n ?_
            refine wp_region_lit ?_
            refine vrun (w := w28) (lp := [(2, .pointer (some ⟨g1, 0, none⟩)), (8, .int .i64 ((goF nodes (List.getD t (Int.toNat (k : Int)) 0) 9 (List.getD gd (Int.toNat (runF gd nodes t k)) 0)).1)), (23, .slice (some ⟨b21, o22, none⟩) t.length c), (24, .int .i64 ((t.length : Nat) : Int)), (25, .int .i64 ((k : Int) + 1))]) (φ := [IntKind.i64.wrap ((k : Int) + 1) = (k : Int) + 1]) tbok 2 [.int .i64 ((k : Int) + 1)] [2, 8, 23, 24, 25] E (by kernel_rfl) (wrap_i64 (by omega) (by omega)) ?_
            clear E; intro a E
            refine wpList_nil ?_
            refine th_n ⟨t.length - (k + 1), by omega, ?_⟩
            exact ⟨k + 1, E.pick _ ⟨rfl, rfl, rfl, rfl, rfl, trivial⟩, HW, B5, (by omega), rfl⟩
        · replace E := E_; clear E_
          have h31 : ¬ ((k : Int) < ((t.length : Nat) : Int)) := of_decide_eq_false hb_
          clear hb_
          refine c_false E rfl ?_
          refine wp_exit ?_
          refine th_exit ?_
          refine th_exit ?_
          refine bl_hit ?_
          refine th_n ?_
          refine wp_seq ?_
          refine wp_region_lit ?_
          refine vrun (w := w18) (lp := [(4, .int .i64 (runF gd nodes t k)), (5, .int .i64 0)]) (φ := []) tbok 3 [] [4, 5] E (by kernel_rfl) trivial ?_
          clear E; intro a E
          refine wpList_nil ?_
          refine th_n ?_
          refine wp_ret ?_
          refine ret2 E rfl rfl rfl ?_
          obtain rfl : k = t.length := by omega
          exact ⟨_, rfl, by rw [runE_ok (by assumption) (by assumption)], HW.own⟩

/-! rejoinder/rejoinderref17.Run -/
set_option maxRecDepth 100000 in
theorem rRun_calls (p0 : Int) (A1 A2 A3 : Option Addr) (c1 c2 c3 : Nat) (acc : List Bool) (gd : List Int) (nodes : List Nd) (A : Option Addr) (c : Nat) (t : List Int) (w0 : World) (hl1 : acc.length ≤ 140737488351232) (hl2 : gd.length ≤ 140737488351232) (hl3 : nodes.length ≤ 140737488351232) (H1 : C cBool w0 (Lo w0.heap.size) A1 acc) (H2 : C (cInt .i64) w0 (Lo w0.heap.size) A2 gd) (H3 : C cNode w0 (Lo w0.heap.size) A3 nodes) (hl : t.length ≤ 9223372036854775807) (H : C (cInt .u8) w0 (Lo w0.heap.size) A t) (hW : ∀ x ∈ nodes, x.wf) (hG : ∀ x ∈ gd, -9223372036854775808 ≤ x ∧ x ≤ 9223372036854775807) (hT : ∀ x ∈ t, 0 ≤ x ∧ x ≤ 255) :
    Calls Try.prog 13 #[.agg #[.int .i64 p0, .slice A1 acc.length c1, .slice A2 gd.length c2, .slice A3 nodes.length c3], .slice A t.length c] w0 fun e w' => ∃ v, e = .returned v ∧ (v = .tuple #[.int .i64 (runE p0 acc.length gd nodes t).1, .int .i64 (runE p0 acc.length gd nodes t).2] ∧ Ext w0 w') := by
  have HW : Chg (Hi w0.heap.size) w0 w0 := Chg.refl _ _
  refine enterV (n := 33) Try.func13 rfl rfl rfl ?_
  intro a E
  replace E := E.pick [(0, .agg #[.int .i64 p0, .slice A1 acc.length c1, .slice A2 gd.length c2, .slice A3 nodes.length c3]), (1, .slice A t.length c)] ⟨rfl, rfl, trivial⟩
  refine wp_seq ?_
  refine wp_region_lit ?_
  refine e_box E rfl rfl rfl ?_
  intro w2 g1 a hc3 hg4 B5 E_
  replace E := E_ _ rfl; clear E_
  replace B5 : Bx w2 g1 26 [.int .i64 p0, .slice A1 acc.length c1, .slice A2 gd.length c2, .slice A3 nodes.length c3] := B5
  have hi_g1 : w0.heap.size ≤ g1 := Nat.le_trans HW.size hg4
  replace HW := HW.trans hc3 (fun _ _ h_ => h_.elim)
  refine vrun (w := w2) (lp := [(1, .slice A t.length c), (2, .pointer (some ⟨g1, 0, none⟩))]) (φ := []) tbok 2 [] [1, 2] E (by kernel_rfl) trivial ?_
  clear E; intro a E
  refine wpList_nil ?_
  refine th_n ?_
  refine wp_seq ?_
  refine wp_seq ?_
  refine wp_region_lit ?_
  refine vrun (w := w2) (lp := [(1, .slice A t.length c), (2, .pointer (some ⟨g1, 0, none⟩)), (9, .agg #[.int .i64 p0, .slice A1 acc.length c1, .slice A2 gd.length c2, .slice A3 nodes.length c3])]) (φ := [cellsAt w2 g1 (0) [.int .i64 p0, .slice A1 acc.length c1, .slice A2 gd.length c2, .slice A3 nodes.length c3]]) tbok 1 [.agg #[.int .i64 p0, .slice A1 acc.length c1, .slice A2 gd.length c2, .slice A3 nodes.length c3]] [1, 2, 9] E (by kernel_rfl) (B5.sub 0 _ rfl) ?_
  clear E; intro a E
  refine e_call E rfl rfl Try.func31 rfl rfl rfl (rCheck_calls p0 A1 A2 A3 c1 c2 c3 acc gd nodes  _ (by omega) (by omega) (by omega) (H1.now HW) (H2.now HW) (H3.now HW)) ?_
  intro v6 w7 a hR8 E_
  obtain ⟨rfl, hc9⟩ := hR8
  replace E := E_ _ rfl; clear E_
  replace B5 := B5.chg hc9 (fun h_ => h_)
  replace HW := HW.trans hc9 (fun _ _ h_ => h_.elim)
  refine vrun (w := w7) (lp := [(1, .slice A t.length c), (2, .pointer (some ⟨g1, 0, none⟩)), (11, .bool ((checkV p0 (List.length acc) gd nodes : Int) != 0))]) (φ := []) tbok 1 [] [1, 2, 11] E (by kernel_rfl) trivial ?_
  clear E; intro a E
  refine wpList_nil ?_
  refine th_n ?_
  refine E.cases (t := 11) rfl (fun hb_ E_ => ?_) (fun hb_ E_ => ?_)
  · replace E := E_; clear E_
    have h10 : ¬ ((checkV p0 (List.length acc) gd nodes : Int) = 0) := bne_iff_ne.1 hb_
    clear hb_
    refine c_true E rfl ?_
    refine wp_seq ?_
    refine wp_region_lit ?_
    refine vrun (w := w7) (lp := [(4, .int .i64 0), (5, .int .i64 12)]) (φ := []) tbok 2 [] [4, 5] E (by kernel_rfl) trivial ?_
    clear E; intro a E
    refine wpList_nil ?_
    refine th_n ?_
    refine wp_ret ?_
    refine th_ret ?_
    refine ret2 E rfl rfl rfl ?_
    exact ⟨_, rfl, by rw [runE_check (by assumption)], HW.own⟩
  · replace E := E_; clear E_
    have h11 : (checkV p0 (List.length acc) gd nodes : Int) = 0 := bne_eq_false_iff_eq.1 hb_
    clear hb_
    refine c_false E rfl ?_
    refine wp_skip ?_
    refine th_n ?_
    refine wp_seq ?_
    refine wp_region_lit ?_
    refine vrun (w := w7) (lp := [(1, .slice A t.length c), (2, .pointer (some ⟨g1, 0, none⟩)), (13, .int .i64 p0), (14, .slice A t.length c)]) (φ := [World.cell? w7 ⟨g1, 0, none⟩ = some (.int .i64 p0)]) tbok 3 [.int .i64 p0] [1, 2, 13, 14] E (by kernel_rfl) (B5.cell (j := 0) rfl) ?_
    clear E; intro a E
    refine e_call E rfl rfl Try.func35 rfl rfl rfl (rTrace_calls p0 A c t _ (by omega) (H.now HW) hT) ?_
    intro v12 w13 a hR14 E_
    obtain ⟨rfl, hc15⟩ := hR14
    replace E := E_ _ rfl; clear E_
    replace B5 := B5.chg hc15 (fun h_ => h_)
    replace HW := HW.trans hc15 (fun _ _ h_ => h_.elim)
    refine vrun (w := w13) (lp := [(1, .slice A t.length c), (2, .pointer (some ⟨g1, 0, none⟩)), (6, .int .i64 (traceV p0 t))]) (φ := []) tbok 1 [] [1, 2, 6] E (by kernel_rfl) trivial ?_
    clear E; intro a E
    refine wpList_nil ?_
    refine th_n ?_
    refine wp_seq ?_
    refine wp_seq ?_
    refine wp_region_lit ?_
    refine vrun (w := w13) (lp := [(1, .slice A t.length c), (2, .pointer (some ⟨g1, 0, none⟩)), (6, .int .i64 (traceV p0 t)), (17, .bool ((traceV p0 t : Int) != 0))]) (φ := []) tbok 2 [] [1, 2, 6, 17] E (by kernel_rfl) trivial ?_
    clear E; intro a E
    refine wpList_nil ?_
    refine th_n ?_
    refine E.cases (t := 17) rfl (fun hb_ E_ => ?_) (fun hb_ E_ => ?_)
    · replace E := E_; clear E_
      have h16 : ¬ ((traceV p0 t : Int) = 0) := bne_iff_ne.1 hb_
      clear hb_
      refine c_true E rfl ?_
      refine wp_seq ?_
      refine wp_region_lit ?_
      refine vrun (w := w13) (lp := [(4, .int .i64 0), (5, .int .i64 (traceV p0 t))]) (φ := []) tbok 3 [] [4, 5] E (by kernel_rfl) trivial ?_
      clear E; intro a E
      refine wpList_nil ?_
      refine th_n ?_
      refine wp_ret ?_
      refine th_ret ?_
      refine ret2 E rfl rfl rfl ?_
      exact ⟨_, rfl, by rw [runE_trace (by assumption) (by assumption)], HW.own⟩
    · replace E := E_; clear E_
      have h17 : (traceV p0 t : Int) = 0 := bne_eq_false_iff_eq.1 hb_
      clear hb_
      refine c_false E rfl ?_
      refine wp_skip ?_
      refine th_n ?_
      refine wp_seq ?_
      refine wp_region_lit ?_
      refine vrun (w := w13) (lp := [(1, .slice A t.length c), (2, .pointer (some ⟨g1, 0, none⟩)), (7, .int .i64 0)]) (φ := []) tbok 1 [] [1, 2, 7] E (by kernel_rfl) trivial ?_
      clear E; intro a E
      refine wpList_nil ?_
      refine th_n ?_
      refine wp_seq ?_
      refine wp_seq ?_
      refine wp_region_lit ?_
      refine vrun (w := w13) (lp := [(1, .slice A t.length c), (2, .pointer (some ⟨g1, 0, none⟩)), (7, .int .i64 0), (8, .int .i64 0)]) (φ := []) tbok 1 [] [1, 2, 7, 8] E (by kernel_rfl) trivial ?_
      clear E; intro a E
      refine wpList_nil ?_
      refine th_n ?_
      refine wp_block ?_
      refine loopV (fun m19 a w18 => ∃ (k : Nat), Fr a 33 [(1, .slice A t.length c), (2, .pointer (some ⟨g1, 0, none⟩)), (7, .int .i64 (runF gd nodes t k)), (8, .int .i64 (k : Int))] ∧ Chg (Hi w0.heap.size) w0 w18 ∧ Bx w18 g1 26 [.int .i64 p0, .slice A1 acc.length c1, .slice A2 gd.length c2, .slice A3 nodes.length c3] ∧ (k ≤ t.length) ∧ m19 = t.length - k) (t.length - (0)) ?_ ?_
      · skip
        exact ⟨0, E.pick _ ⟨rfl, rfl, rfl, rfl, trivial⟩, HW, B5, (by omega), rfl⟩
      · clear E HW; intro m19 a w18 hI_
        obtain ⟨k, hI_⟩ := hI_
        clear B5
        obtain ⟨E, HW, B5, hk, hm_m19⟩ := hI_
        have ho_ := checkV_yes (by assumption : checkV p0 acc.length gd nodes = 0)
        have hs_ := runF_in ho_ t k
        have hgl_ := ho_.gl
        refine wp_seq ?_
        refine wp_seq ?_
        refine wp_region_lit ?_
        refine vrun (w := w18) (lp := [(1, .slice A t.length c), (2, .pointer (some ⟨g1, 0, none⟩)), (7, .int .i64 (runF gd nodes t k)), (8, .int .i64 (k : Int)), (22, .bool (decide ((k : Int) < ((t.length : Nat) : Int))))]) (φ := []) tbok 4 [] [1, 2, 7, 8, 22] E (by kernel_rfl) trivial ?_
        clear E; intro a E
        refine wpList_nil ?_
        refine th_n ?_
        refine E.cases (t := 22) rfl (fun hb_ E_ => ?_) (fun hb_ E_ => ?_)
        · replace E := E_; clear E_
          have h20 : (k : Int) < ((t.length : Nat) : Int) := of_decide_eq_true hb_
          clear hb_
          refine c_true E rfl ?_
          refine wp_skip ?_
          refine th_n ?_
          refine wp_seq ?_
          refine wp_block ?_
          refine dr_start (S := fun w_ => Chg No w18 w_) (by kernel_rfl) ?_
          intro w21 hc22
          have HWs := HW
          have B5s := B5
          have HS : Chg No w18 w21 := hc22.mono (fun _ _ h_ => h_.elim)
          replace B5 := B5.chg hc22 (fun h_ => h_)
          replace HW := HW.trans hc22 (fun _ _ h_ => h_.elim)
          have hx_29 : 0 ≤ (k : Int) ∧ (k : Int) < ((t.length : Nat) : Int) := ⟨by omega, by omega⟩
          obtain ⟨b23, o24, e_b23⟩ := H.addr (by omega)
          subst e_b23
          refine drun (lp := [(1, .slice (some ⟨b23, o24, none⟩) t.length c), (2, .pointer (some ⟨g1, 0, none⟩)), (7, .int .i64 (runF gd nodes t k)), (8, .int .i64 (k : Int)), (25, .agg #[.int .i64 p0, .slice A1 acc.length c1, .slice A2 gd.length c2, .slice A3 nodes.length c3]), (26, .int .i64 (runF gd nodes t k)), (30, .int .u8 (List.getD t (Int.toNat (k : Int)) 0))]) tbok (by kernel_rfl) [0, 1, 2, 3, 4, 5] [.agg #[.int .i64 p0, .slice A1 acc.length c1, .slice A2 gd.length c2, .slice A3 nodes.length c3], .int .u8 (List.getD t (Int.toNat (k : Int)) 0)] [1, 2, 7, 8, 25, 26, 30] (fun w_ => [cellsAt w_ g1 (0) [.int .i64 p0, .slice A1 acc.length c1, .slice A2 gd.length c2, .slice A3 nodes.length c3], 0 ≤ (k : Int) ∧ (k : Int) < ((t.length : Nat) : Int), World.cell? w_ ⟨b23, o24 + (Int.toNat (k : Int)) * 1, none⟩ = some (.int .u8 (List.getD t (Int.toNat (k : Int)) 0))]) (fuel := 2) E (fun _ _ => by kernel_rfl) (fun w_ hS_ => ⟨hS_.cellsAt (fun h_ => h_) (B5s.sub 0 _ rfl), hx_29, hS_.cell (C.at1 (H.keep HWs lo_hi) 0 hx_29.1 hx_29.2) (fun h_ => h_)⟩) (by kernel_rfl) HS ?_
          clear E; intro a E
          refine wpAnyH_all (rs := [6]) (by kernel_rfl) (by simp) ?_
          refine all1 ?_
          · refine wpOp_of_list rfl ?_
            refine e_call E rfl rfl Try.func33 rfl rfl rfl (rNext14_calls p0 A1 A2 A3 c1 c2 c3 acc gd nodes (runF gd nodes t k) (List.getD t (Int.toNat (k : Int)) 0) _ (by omega) (by omega) (by omega) (H1.now HW) (H2.now HW) (H3.now HW) (getD_u8 hT _) hW hG ⟨by omega, by omega⟩) ?_
            intro v25 w26 a hR27 E_
            obtain ⟨rfl, hc28⟩ := hR27
            replace E := E_ _ rfl; clear E_
            replace B5 := B5.chg hc28 (fun h_ => h_)
            replace HS := HS.trans hc28 (fun _ _ h_ => h_.elim)
            replace HW := HW.trans hc28 (fun _ _ h_ => h_.elim)
            refine wpList_nil ?_
            refine th_n ⟨HS, ?_⟩
            refine drun (lp := [(1, .slice (some ⟨b23, o24, none⟩) t.length c), (2, .pointer (some ⟨g1, 0, none⟩)), (7, .int .i64 (nextV gd nodes (runF gd nodes t k) (List.getD t (Int.toNat (k : Int)) 0))), (8, .int .i64 (k : Int))]) tbok (by kernel_rfl) [7] [] [1, 2, 7, 8] (fun w_ => []) (fuel := 0) E (fun _ _ => by kernel_rfl) (fun w_ hS_ => trivial) (by kernel_rfl) HS ?_
            clear E; intro a E
            refine dr_done (by kernel_rfl) ?_
            clear HS HWs
            refine bl_n ?_
            refine th_n ?_
            refine wp_region_lit ?_
            refine vrun (w := w26) (lp := [(1, .slice (some ⟨b23, o24, none⟩) t.length c), (2, .pointer (some ⟨g1, 0, none⟩)), (7, .int .i64 (nextV gd nodes (runF gd nodes t k) (List.getD t (Int.toNat (k : Int)) 0))), (8, .int .i64 ((k : Int) + 1))]) (φ := [IntKind.i64.wrap ((k : Int) + 1) = (k : Int) + 1]) tbok 3 [.int .i64 ((k : Int) + 1)] [1, 2, 7, 8] E (by kernel_rfl) (wrap_i64 (by omega) (by omega)) ?_
            clear E; intro a E
            refine wpList_nil ?_
            refine th_n ⟨t.length - (k + 1), by omega, ?_⟩
            exact ⟨k + 1, E.pick _ ⟨rfl, rfl, rfl, rfl, trivial⟩, HW, B5, (by omega), rfl⟩
        · replace E := E_; clear E_
          have h29 : ¬ ((k : Int) < ((t.length : Nat) : Int)) := of_decide_eq_false hb_
          clear hb_
          refine c_false E rfl ?_
          refine wp_exit ?_
          refine th_exit ?_
          refine th_exit ?_
          refine bl_hit ?_
          refine th_n ?_
          refine wp_seq ?_
          refine wp_region_lit ?_
          refine vrun (w := w18) (lp := [(4, .int .i64 (runF gd nodes t k)), (5, .int .i64 0)]) (φ := []) tbok 3 [] [4, 5] E (by kernel_rfl) trivial ?_
          clear E; intro a E
          refine wpList_nil ?_
          refine th_n ?_
          refine wp_ret ?_
          refine ret2 E rfl rfl rfl ?_
          obtain rfl : k = t.length := by omega
          exact ⟨_, rfl, by rw [runE_ok (by assumption) (by assumption)], HW.own⟩

end Go.V
