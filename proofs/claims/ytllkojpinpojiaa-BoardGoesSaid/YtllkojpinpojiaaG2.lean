/- Contracts of functions of the program: walks. -/
import Derived.Test.YtllkojpinpojiaaKeys
import Derived.Test.YtllkojpinpojiaaG1
set_option linter.all false
set_option linter.unusedVariables false
set_option linter.unnecessarySimpa false
set_option linter.unusedSimpArgs false
namespace Go.V
open Go Go.Proofs

/-! rejoinder/guard.Check -/
set_option maxRecDepth 100000 in
theorem Check_calls (p0 : Int) (A1 A2 A3 : Option Addr) (c1 c2 c3 : Nat) (acc : List Bool) (gd : List Int) (nodes : List Nd) (w0 : World) (hl1 : acc.length ≤ 140737488351232) (hl2 : gd.length ≤ 140737488351232) (hl3 : nodes.length ≤ 140737488351232) (H1 : C cBool w0 (Lo w0.heap.size) A1 acc) (H2 : C (cInt .i64) w0 (Lo w0.heap.size) A2 gd) (H3 : C cNode w0 (Lo w0.heap.size) A3 nodes) (hW : ∀ x ∈ nodes, x.wf) :
    Calls Try.prog 9 #[.agg #[.int .i64 p0, .slice A1 acc.length c1, .slice A2 gd.length c2, .slice A3 nodes.length c3]] w0 fun e w' => ∃ v, e = .returned v ∧ (v = .int .i64 (checkV p0 acc.length gd nodes) ∧ Ext w0 w') := by
  have HW : Chg (Hi w0.heap.size) w0 w0 := Chg.refl _ _
  refine enterV (n := 110) Try.func9 rfl rfl rfl ?_
  intro a E
  replace E := E.pick [(0, .agg #[.int .i64 p0, .slice A1 acc.length c1, .slice A2 gd.length c2, .slice A3 nodes.length c3])] ⟨rfl, trivial⟩
  refine wp_seq ?_
  refine wp_region_lit ?_
  refine e_box E rfl rfl rfl ?_
  intro w2 g1 a hc3 hg4 B5 E_
  replace E := E_ _ rfl; clear E_
  replace B5 : Bx w2 g1 26 [.int .i64 p0, .slice A1 acc.length c1, .slice A2 gd.length c2, .slice A3 nodes.length c3] := B5
  have hi_g1 : w0.heap.size ≤ g1 := Nat.le_trans HW.size hg4
  replace HW := HW.trans hc3 (fun _ _ h_ => h_.elim)
  refine vrun (w := w2) (lp := [(1, .pointer (some ⟨g1, 0, none⟩))]) (φ := []) tbok 1 [] [1] E (by kernel_rfl) trivial ?_
  clear E; intro a E
  refine wpList_nil ?_
  refine th_n ?_
  refine wp_seq ?_
  refine wp_region_lit ?_
  refine vrun (w := w2) (lp := [(1, .pointer (some ⟨g1, 0, none⟩)), (3, .int .i64 ((acc.length : Nat) : Int))]) (φ := [World.cell? w2 ⟨g1, 1, none⟩ = some (.slice A1 acc.length c1)]) tbok 4 [.slice A1 acc.length c1] [1, 3] E (by kernel_rfl) (B5.cell (j := 1) rfl) ?_
  clear E; intro a E
  refine wpList_nil ?_
  refine th_n ?_
  refine wp_seq ?_
  refine wp_seq ?_
  refine wp_region_lit ?_
  refine vrun (w := w2) (lp := [(1, .pointer (some ⟨g1, 0, none⟩)), (3, .int .i64 ((acc.length : Nat) : Int)), (15, .bool (decide (p0 < 0)))]) (φ := [World.cell? w2 ⟨g1, 0, none⟩ = some (.int .i64 p0)]) tbok 4 [.int .i64 p0] [1, 3, 15] E (by kernel_rfl) (B5.cell (j := 0) rfl) ?_
  clear E; intro a E
  refine E.cases (t := 15) rfl (fun hb_ E_ => ?_) (fun hb_ E_ => ?_)
  · replace E := E_; clear E_
    have h6 : p0 < 0 := of_decide_eq_true hb_
    clear hb_
    refine vrun (w := w2) (lp := [(1, .pointer (some ⟨g1, 0, none⟩)), (40, .bool true)]) (φ := []) tbok 25 [] [1, 40] E (by kernel_rfl) trivial ?_
    clear E; intro a E
    refine wpList_nil ?_
    refine th_n ?_
    refine c_true E rfl ?_
    refine wp_seq ?_
    refine wp_region_lit ?_
    refine vrun (w := w2) (lp := [(2, .int .i64 12)]) (φ := []) tbok 1 [] [2] E (by kernel_rfl) trivial ?_
    clear E; intro a E
    refine wpList_nil ?_
    refine th_n ?_
    refine wp_ret ?_
    refine th_ret ?_
    refine ret1 E rfl rfl ?_
    refine ⟨_, rfl, ?_, HW.own⟩
    rw [checkV_bad (fun h => ?_)]
    have h1 := h.p0; have h2 := h.p8; have h3 := h.n1; have h4 := h.n256; have h5 := h.gl; have h6 := h.nl; omega
  · replace E := E_; clear E_
    have h7 : ¬ (p0 < 0) := of_decide_eq_false hb_
    clear hb_
    refine vrun (w := w2) (lp := [(1, .pointer (some ⟨g1, 0, none⟩)), (3, .int .i64 ((acc.length : Nat) : Int)), (20, .bool (decide (8 < p0)))]) (φ := [World.cell? w2 ⟨g1, 0, none⟩ = some (.int .i64 p0)]) tbok 5 [.int .i64 p0] [1, 3, 20] E (by kernel_rfl) (B5.cell (j := 0) rfl) ?_
    clear E; intro a E
    refine E.cases (t := 20) rfl (fun hb_ E_ => ?_) (fun hb_ E_ => ?_)
    · replace E := E_; clear E_
      have h8 : 8 < p0 := of_decide_eq_true hb_
      clear hb_
      refine vrun (w := w2) (lp := [(1, .pointer (some ⟨g1, 0, none⟩)), (40, .bool true)]) (φ := []) tbok 20 [] [1, 40] E (by kernel_rfl) trivial ?_
      clear E; intro a E
      refine wpList_nil ?_
      refine th_n ?_
      refine c_true E rfl ?_
      refine wp_seq ?_
      refine wp_region_lit ?_
      refine vrun (w := w2) (lp := [(2, .int .i64 12)]) (φ := []) tbok 1 [] [2] E (by kernel_rfl) trivial ?_
      clear E; intro a E
      refine wpList_nil ?_
      refine th_n ?_
      refine wp_ret ?_
      refine th_ret ?_
      refine ret1 E rfl rfl ?_
      refine ⟨_, rfl, ?_, HW.own⟩
      rw [checkV_bad (fun h => ?_)]
      have h1 := h.p0; have h2 := h.p8; have h3 := h.n1; have h4 := h.n256; have h5 := h.gl; have h6 := h.nl; omega
    · replace E := E_; clear E_
      have h9 : ¬ (8 < p0) := of_decide_eq_false hb_
      clear hb_
      refine vrun (w := w2) (lp := [(1, .pointer (some ⟨g1, 0, none⟩)), (3, .int .i64 ((acc.length : Nat) : Int)), (24, .bool (decide (((acc.length : Nat) : Int) < 1)))]) (φ := []) tbok 4 [] [1, 3, 24] E (by kernel_rfl) trivial ?_
      clear E; intro a E
      refine E.cases (t := 24) rfl (fun hb_ E_ => ?_) (fun hb_ E_ => ?_)
      · replace E := E_; clear E_
        have h10 : ((acc.length : Nat) : Int) < 1 := of_decide_eq_true hb_
        clear hb_
        refine vrun (w := w2) (lp := [(1, .pointer (some ⟨g1, 0, none⟩)), (40, .bool true)]) (φ := []) tbok 16 [] [1, 40] E (by kernel_rfl) trivial ?_
        clear E; intro a E
        refine wpList_nil ?_
        refine th_n ?_
        refine c_true E rfl ?_
        refine wp_seq ?_
        refine wp_region_lit ?_
        refine vrun (w := w2) (lp := [(2, .int .i64 12)]) (φ := []) tbok 1 [] [2] E (by kernel_rfl) trivial ?_
        clear E; intro a E
        refine wpList_nil ?_
        refine th_n ?_
        refine wp_ret ?_
        refine th_ret ?_
        refine ret1 E rfl rfl ?_
        refine ⟨_, rfl, ?_, HW.own⟩
        rw [checkV_bad (fun h => ?_)]
        have h1 := h.p0; have h2 := h.p8; have h3 := h.n1; have h4 := h.n256; have h5 := h.gl; have h6 := h.nl; omega
      · replace E := E_; clear E_
        have h11 : ¬ (((acc.length : Nat) : Int) < 1) := of_decide_eq_false hb_
        clear hb_
        refine vrun (w := w2) (lp := [(1, .pointer (some ⟨g1, 0, none⟩)), (3, .int .i64 ((acc.length : Nat) : Int)), (28, .bool (decide (256 < ((acc.length : Nat) : Int))))]) (φ := []) tbok 4 [] [1, 3, 28] E (by kernel_rfl) trivial ?_
        clear E; intro a E
        refine E.cases (t := 28) rfl (fun hb_ E_ => ?_) (fun hb_ E_ => ?_)
        · replace E := E_; clear E_
          have h12 : 256 < ((acc.length : Nat) : Int) := of_decide_eq_true hb_
          clear hb_
          refine vrun (w := w2) (lp := [(1, .pointer (some ⟨g1, 0, none⟩)), (40, .bool true)]) (φ := []) tbok 12 [] [1, 40] E (by kernel_rfl) trivial ?_
          clear E; intro a E
          refine wpList_nil ?_
          refine th_n ?_
          refine c_true E rfl ?_
          refine wp_seq ?_
          refine wp_region_lit ?_
          refine vrun (w := w2) (lp := [(2, .int .i64 12)]) (φ := []) tbok 1 [] [2] E (by kernel_rfl) trivial ?_
          clear E; intro a E
          refine wpList_nil ?_
          refine th_n ?_
          refine wp_ret ?_
          refine th_ret ?_
          refine ret1 E rfl rfl ?_
          refine ⟨_, rfl, ?_, HW.own⟩
          rw [checkV_bad (fun h => ?_)]
          have h1 := h.p0; have h2 := h.p8; have h3 := h.n1; have h4 := h.n256; have h5 := h.gl; have h6 := h.nl; omega
        · replace E := E_; clear E_
          have h13 : ¬ (256 < ((acc.length : Nat) : Int)) := of_decide_eq_false hb_
          clear hb_
          refine vrun (w := w2) (lp := [(1, .pointer (some ⟨g1, 0, none⟩)), (35, .bool ((((gd.length : Nat) : Int) : Int) != ((acc.length : Nat) : Int)))]) (φ := [World.cell? w2 ⟨g1, 2, none⟩ = some (.slice A2 gd.length c2)]) tbok 7 [.slice A2 gd.length c2] [1, 35] E (by kernel_rfl) (B5.cell (j := 2) rfl) ?_
          clear E; intro a E
          refine E.cases (t := 35) rfl (fun hb_ E_ => ?_) (fun hb_ E_ => ?_)
          · replace E := E_; clear E_
            have h14 : ¬ ((((gd.length : Nat) : Int) : Int) = ((acc.length : Nat) : Int)) := bne_iff_ne.1 hb_
            clear hb_
            refine vrun (w := w2) (lp := [(1, .pointer (some ⟨g1, 0, none⟩)), (40, .bool true)]) (φ := []) tbok 5 [] [1, 40] E (by kernel_rfl) trivial ?_
            clear E; intro a E
            refine wpList_nil ?_
            refine th_n ?_
            refine c_true E rfl ?_
            refine wp_seq ?_
            refine wp_region_lit ?_
            refine vrun (w := w2) (lp := [(2, .int .i64 12)]) (φ := []) tbok 1 [] [2] E (by kernel_rfl) trivial ?_
            clear E; intro a E
            refine wpList_nil ?_
            refine th_n ?_
            refine wp_ret ?_
            refine th_ret ?_
            refine ret1 E rfl rfl ?_
            refine ⟨_, rfl, ?_, HW.own⟩
            rw [checkV_bad (fun h => ?_)]
            have h1 := h.p0; have h2 := h.p8; have h3 := h.n1; have h4 := h.n256; have h5 := h.gl; have h6 := h.nl; omega
          · replace E := E_; clear E_
            have h15 : (((gd.length : Nat) : Int) : Int) = ((acc.length : Nat) : Int) := bne_eq_false_iff_eq.1 hb_
            clear hb_
            refine vrun (w := w2) (lp := [(1, .pointer (some ⟨g1, 0, none⟩)), (40, .bool (decide (4096 < ((nodes.length : Nat) : Int))))]) (φ := [World.cell? w2 ⟨g1, 3, none⟩ = some (.slice A3 nodes.length c3)]) tbok 5 [.slice A3 nodes.length c3] [1, 40] E (by kernel_rfl) (B5.cell (j := 3) rfl) ?_
            clear E; intro a E
            refine wpList_nil ?_
            refine th_n ?_
            refine E.cases (t := 40) rfl (fun hb_ E_ => ?_) (fun hb_ E_ => ?_)
            · replace E := E_; clear E_
              have h16 : 4096 < ((nodes.length : Nat) : Int) := of_decide_eq_true hb_
              clear hb_
              refine c_true E rfl ?_
              refine wp_seq ?_
              refine wp_region_lit ?_
              refine vrun (w := w2) (lp := [(2, .int .i64 12)]) (φ := []) tbok 1 [] [2] E (by kernel_rfl) trivial ?_
              clear E; intro a E
              refine wpList_nil ?_
              refine th_n ?_
              refine wp_ret ?_
              refine th_ret ?_
              refine ret1 E rfl rfl ?_
              refine ⟨_, rfl, ?_, HW.own⟩
              rw [checkV_bad (fun h => ?_)]
              have h1 := h.p0; have h2 := h.p8; have h3 := h.n1; have h4 := h.n256; have h5 := h.gl; have h6 := h.nl; omega
            · replace E := E_; clear E_
              have h17 : ¬ (4096 < ((nodes.length : Nat) : Int)) := of_decide_eq_false hb_
              clear hb_
              refine c_false E rfl ?_
              refine wp_skip ?_
              refine th_n ?_
              refine wp_seq ?_
              refine wp_region_lit ?_
              refine e_makeMap (P := Try.prog) (k0 := 63) E rfl rfl ?_
              intro w19 g18 a hc20 hg21 M22 E_
              replace E := E_ _ rfl; clear E_
              have hi_g18 : w0.heap.size ≤ g18 := Nat.le_trans HW.size hg21
              have ne_g1_g18 : g1 ≠ g18 := by have h_ := B5.lt; omega
              replace B5 := B5.chg hc20 (fun h_ => h_)
              replace HW := HW.trans hc20 (fun _ _ h_ => h_.elim)
              refine vrun (w := w19) (lp := [(1, .pointer (some ⟨g1, 0, none⟩)), (4, .map (some g18))]) (φ := []) tbok 1 [] [1, 4] E (by kernel_rfl) trivial ?_
              clear E; intro a E
              refine wpList_nil ?_
              refine th_n ?_
              refine wp_seq ?_
              refine wp_seq ?_
              refine wp_region_lit ?_
              refine vrun (w := w19) (lp := [(1, .pointer (some ⟨g1, 0, none⟩)), (4, .map (some g18)), (43, .slice A3 nodes.length c3), (44, .int .i64 ((nodes.length : Nat) : Int)), (45, .int .i64 0)]) (φ := [World.cell? w19 ⟨g1, 3, none⟩ = some (.slice A3 nodes.length c3)]) tbok 4 [.slice A3 nodes.length c3] [1, 4, 43, 44, 45] E (by kernel_rfl) (B5.cell (j := 3) rfl) ?_
              clear E; intro a E
              refine wpList_nil ?_
              refine th_n ?_
              refine wp_block ?_
              refine loopV (fun m24 a w23 => ∃ (k : Nat), Fr a 110 [(1, .pointer (some ⟨g1, 0, none⟩)), (4, .map (some g18)), (43, .slice A3 nodes.length c3), (44, .int .i64 ((nodes.length : Nat) : Int)), (45, .int .i64 (k : Int))] ∧ Chg (Hi w0.heap.size) w0 w23 ∧ Bx w23 g1 26 [.int .i64 p0, .slice A1 acc.length c1, .slice A2 gd.length c2, .slice A3 nodes.length c3] ∧ Mp Try.prog 63 w23 g18 ((List.map (fun x => (ndV x, Value.bool true)) (List.take k nodes))) ∧ (k ≤ nodes.length) ∧ (∀ i, i < k → NodeOk p0 acc.length nodes i) ∧ m24 = nodes.length - k) (nodes.length - (0)) ?_ ?_
              · skip
                exact ⟨0, E.pick _ ⟨rfl, rfl, rfl, rfl, rfl, trivial⟩, HW, B5, M22, (by omega), (fun i hi => absurd hi (by omega)), rfl⟩
              · clear E HW; intro m24 a w23 hI_
                obtain ⟨k, hI_⟩ := hI_
                clear B5
                clear M22
                obtain ⟨E, HW, B5, M22, hk, hI, hm_m24⟩ := hI_
                have hkn : k < nodes.length → (nodes.getD (Int.toNat (k : Int)) default).wf := fun h => hW _ (by simp [List.getD_eq_getElem?_getD, h])
                refine wp_seq ?_
                refine wp_region_lit ?_
                refine vrun (w := w23) (lp := [(1, .pointer (some ⟨g1, 0, none⟩)), (4, .map (some g18)), (43, .slice A3 nodes.length c3), (44, .int .i64 ((nodes.length : Nat) : Int)), (45, .int .i64 (k : Int)), (46, .bool (decide ((k : Int) < ((nodes.length : Nat) : Int))))]) (φ := []) tbok 1 [] [1, 4, 43, 44, 45, 46] E (by kernel_rfl) trivial ?_
                clear E; intro a E
                refine wpList_nil ?_
                refine th_n ?_
                refine wp_seq ?_
                refine E.cases (t := 46) rfl (fun hb_ E_ => ?_) (fun hb_ E_ => ?_)
                · replace E := E_; clear E_
                  have h25 : (k : Int) < ((nodes.length : Nat) : Int) := of_decide_eq_true hb_
                  clear hb_
                  refine c_true E rfl ?_
                  refine wp_skip ?_
                  refine th_n ?_
                  refine wp_seq ?_
                  refine wp_block ?_
                  refine wp_seq ?_
                  refine wp_region_lit ?_
                  have hx_48 : 0 ≤ (k : Int) ∧ (k : Int) < ((nodes.length : Nat) : Int) := ⟨by omega, by omega⟩
                  obtain ⟨b26, o27, e_b26⟩ := H3.addr (by omega)
                  subst e_b26
                  refine vrun (w := w23) (lp := [(1, .pointer (some ⟨g1, 0, none⟩)), (4, .map (some g18)), (43, .slice (some ⟨b26, o27, none⟩) nodes.length c3), (44, .int .i64 ((nodes.length : Nat) : Int)), (45, .int .i64 (k : Int)), (47, .int .i64 (k : Int)), (49, .agg #[.int .i64 ((List.getD nodes (Int.toNat (k : Int)) default).P), .int .i64 ((List.getD nodes (Int.toNat (k : Int)) default).Lo), .int .i64 ((List.getD nodes (Int.toNat (k : Int)) default).Hi)])]) (φ := [0 ≤ (k : Int) ∧ (k : Int) < ((nodes.length : Nat) : Int), cellsAt w23 b26 (o27 + (Int.toNat (k : Int)) * 3) [.int .i64 ((List.getD nodes (Int.toNat (k : Int)) default).P), .int .i64 ((List.getD nodes (Int.toNat (k : Int)) default).Lo), .int .i64 ((List.getD nodes (Int.toNat (k : Int)) default).Hi)]]) tbok 3 [.agg #[.int .i64 ((List.getD nodes (Int.toNat (k : Int)) default).P), .int .i64 ((List.getD nodes (Int.toNat (k : Int)) default).Lo), .int .i64 ((List.getD nodes (Int.toNat (k : Int)) default).Hi)]] [1, 4, 43, 44, 45, 47, 49] E (by kernel_rfl) ⟨hx_48, C.atP (H3.keep HW lo_hi) default hx_48.1 hx_48.2⟩ ?_
                  clear E; intro a E
                  refine e_alloc E rfl rfl tbok rfl ?_
                  intro w29 g28 a hc30 hg31 B32 E_
                  replace E := E_ _ rfl; clear E_
                  replace B32 : Bx w29 g28 63 [.int .i64 0, .int .i64 0, .int .i64 0] := B32
                  have hi_g28 : w0.heap.size ≤ g28 := Nat.le_trans HW.size hg31
                  have ne_g1_g28 : g1 ≠ g28 := by have h_ := B5.lt; omega
                  have ne_g18_g28 : g18 ≠ g28 := by have h_ := M22.lt; omega
                  replace B5 := B5.chg hc30 (fun h_ => h_)
                  replace M22 := M22.chg hc30 (fun h_ => h_)
                  replace HW := HW.trans hc30 (fun _ _ h_ => h_.elim)
                  refine vrun (w := w29) (lp := [(1, .pointer (some ⟨g1, 0, none⟩)), (4, .map (some g18)), (5, .int .i64 (k : Int)), (6, .pointer (some ⟨g28, 0, none⟩)), (43, .slice (some ⟨b26, o27, none⟩) nodes.length c3), (44, .int .i64 ((nodes.length : Nat) : Int)), (45, .int .i64 (k : Int)), (49, .agg #[.int .i64 ((List.getD nodes (Int.toNat (k : Int)) default).P), .int .i64 ((List.getD nodes (Int.toNat (k : Int)) default).Lo), .int .i64 ((List.getD nodes (Int.toNat (k : Int)) default).Hi)])]) (φ := []) tbok 1 [] [1, 4, 5, 6, 43, 44, 45, 49] E (by kernel_rfl) trivial ?_
                  clear E; intro a E
                  refine e_store (g := g28) (off := 0) E rfl rfl rfl rfl tbok rfl B32 rfl rfl rfl rfl ?_
                  clear E; intro w33 a hc34 B32 E
                  replace B32 : Bx w33 g28 63 [.int .i64 ((List.getD nodes (Int.toNat (k : Int)) default).P), .int .i64 ((List.getD nodes (Int.toNat (k : Int)) default).Lo), .int .i64 ((List.getD nodes (Int.toNat (k : Int)) default).Hi)] := B32
                  replace B5 := B5.chg hc34 (fun h_ => ne_g1_g28 h_)
                  replace M22 := M22.chg hc34 (fun h_ => ne_g18_g28 h_)
                  replace HW := HW.trans hc34 (fun _ _ h_ => by subst h_; exact hi_g28)
                  refine wpList_nil ?_
                  refine th_n ?_
                  refine wp_seq ?_
                  refine wp_seq ?_
                  refine wp_region_lit ?_
                  refine vrun (w := w33) (lp := [(1, .pointer (some ⟨g1, 0, none⟩)), (4, .map (some g18)), (5, .int .i64 (k : Int)), (6, .pointer (some ⟨g28, 0, none⟩)), (43, .slice (some ⟨b26, o27, none⟩) nodes.length c3), (44, .int .i64 ((nodes.length : Nat) : Int)), (45, .int .i64 (k : Int)), (53, .bool (decide (((List.getD nodes (Int.toNat (k : Int)) default).P) < 0)))]) (φ := [World.cell? w33 ⟨g28, 0, none⟩ = some (.int .i64 ((List.getD nodes (Int.toNat (k : Int)) default).P))]) tbok 4 [.int .i64 ((List.getD nodes (Int.toNat (k : Int)) default).P)] [1, 4, 5, 6, 43, 44, 45, 53] E (by kernel_rfl) (B32.cell (j := 0) rfl) ?_
                  clear E; intro a E
                  refine E.cases (t := 53) rfl (fun hb_ E_ => ?_) (fun hb_ E_ => ?_)
                  · replace E := E_; clear E_
                    have h35 : ((List.getD nodes (Int.toNat (k : Int)) default).P) < 0 := of_decide_eq_true hb_
                    clear hb_
                    refine vrun (w := w33) (lp := [(1, .pointer (some ⟨g1, 0, none⟩)), (4, .map (some g18)), (6, .pointer (some ⟨g28, 0, none⟩)), (43, .slice (some ⟨b26, o27, none⟩) nodes.length c3), (44, .int .i64 ((nodes.length : Nat) : Int)), (45, .int .i64 (k : Int)), (54, .tuple #[]), (55, .tuple #[]), (56, .tuple #[]), (57, .tuple #[]), (58, .tuple #[]), (61, .tuple #[]), (62, .tuple #[]), (63, .tuple #[]), (64, .tuple #[]), (65, .tuple #[]), (68, .tuple #[]), (69, .tuple #[]), (70, .tuple #[]), (73, .tuple #[]), (74, .tuple #[]), (75, .tuple #[]), (76, .tuple #[]), (77, .tuple #[]), (78, .tuple #[]), (79, .tuple #[]), (80, .tuple #[]), (83, .tuple #[]), (84, .tuple #[]), (85, .tuple #[]), (86, .tuple #[]), (87, .tuple #[]), (88, .tuple #[]), (89, .tuple #[]), (90, .tuple #[]), (91, .bool true)]) (φ := []) tbok 38 [] [1, 4, 6, 43, 44, 45, 54, 55, 56, 57, 58, 61, 62, 63, 64, 65, 68, 69, 70, 73, 74, 75, 76, 77, 78, 79, 80, 83, 84, 85, 86, 87, 88, 89, 90, 91] E (by kernel_rfl) trivial ?_
                    clear E; intro a E
                    refine wpList_nil ?_
                    refine th_n ?_
                    refine c_true E rfl ?_
                    refine wp_seq ?_
                    refine wp_region_lit ?_
                    refine vrun (w := w33) (lp := [(2, .int .i64 12)]) (φ := []) tbok 1 [] [2] E (by kernel_rfl) trivial ?_
                    clear E; intro a E
                    refine wpList_nil ?_
                    refine th_n ?_
                    refine wp_ret ?_
                    refine th_ret ?_
                    refine bl_ret ?_
                    refine th_ret ?_
                    refine th_ret ?_
                    refine bl_ret ?_
                    refine th_ret ?_
                    refine ret1 E rfl rfl ?_
                    refine ⟨_, rfl, ?_, HW.own⟩
                    rw [checkV_bad (fun h => ?_)]
                    have h7 := h.nd k (by omega)
                    have h8 := h7.p0; have h9 := h7.pp; have h10 := h7.ne; simp only [Int.toNat_natCast] at *; omega
                  · replace E := E_; clear E_
                    have h36 : ¬ (((List.getD nodes (Int.toNat (k : Int)) default).P) < 0) := of_decide_eq_false hb_
                    clear hb_
                    refine vrun (w := w33) (lp := [(1, .pointer (some ⟨g1, 0, none⟩)), (4, .map (some g18)), (5, .int .i64 (k : Int)), (6, .pointer (some ⟨g28, 0, none⟩)), (43, .slice (some ⟨b26, o27, none⟩) nodes.length c3), (44, .int .i64 ((nodes.length : Nat) : Int)), (45, .int .i64 (k : Int)), (54, .pointer (some ⟨g28, 0, none⟩)), (55, .int .i64 ((List.getD nodes (Int.toNat (k : Int)) default).P)), (56, .pointer (some ⟨g1, 0, none⟩)), (57, .int .i64 p0), (58, .bool (decide (p0 ≤ ((List.getD nodes (Int.toNat (k : Int)) default).P)))), (60, .bool (decide (p0 ≤ ((List.getD nodes (Int.toNat (k : Int)) default).P))))]) (φ := [World.cell? w33 ⟨g28, 0, none⟩ = some (.int .i64 ((List.getD nodes (Int.toNat (k : Int)) default).P)), World.cell? w33 ⟨g1, 0, none⟩ = some (.int .i64 p0)]) tbok 7 [.int .i64 ((List.getD nodes (Int.toNat (k : Int)) default).P), .int .i64 p0] [1, 4, 5, 6, 43, 44, 45, 54, 55, 56, 57, 58, 60] E (by kernel_rfl) ⟨B32.cell (j := 0) rfl, B5.cell (j := 0) rfl⟩ ?_
                    clear E; intro a E
                    refine E.cases (t := 60) rfl (fun hb_ E_ => ?_) (fun hb_ E_ => ?_)
                    · replace E := E_; clear E_
                      have h37 : p0 ≤ ((List.getD nodes (Int.toNat (k : Int)) default).P) := of_decide_eq_true hb_
                      clear hb_
                      refine vrun (w := w33) (lp := [(1, .pointer (some ⟨g1, 0, none⟩)), (4, .map (some g18)), (6, .pointer (some ⟨g28, 0, none⟩)), (43, .slice (some ⟨b26, o27, none⟩) nodes.length c3), (44, .int .i64 ((nodes.length : Nat) : Int)), (45, .int .i64 (k : Int)), (54, .pointer (some ⟨g28, 0, none⟩)), (55, .int .i64 ((List.getD nodes (Int.toNat (k : Int)) default).P)), (56, .pointer (some ⟨g1, 0, none⟩)), (57, .int .i64 p0), (58, .bool (decide (p0 ≤ ((List.getD nodes (Int.toNat (k : Int)) default).P)))), (61, .tuple #[]), (62, .tuple #[]), (63, .tuple #[]), (64, .tuple #[]), (65, .tuple #[]), (68, .tuple #[]), (69, .tuple #[]), (70, .tuple #[]), (73, .tuple #[]), (74, .tuple #[]), (75, .tuple #[]), (76, .tuple #[]), (77, .tuple #[]), (78, .tuple #[]), (79, .tuple #[]), (80, .tuple #[]), (83, .tuple #[]), (84, .tuple #[]), (85, .tuple #[]), (86, .tuple #[]), (87, .tuple #[]), (88, .tuple #[]), (89, .tuple #[]), (90, .tuple #[]), (91, .bool true)]) (φ := []) tbok 31 [] [1, 4, 6, 43, 44, 45, 54, 55, 56, 57, 58, 61, 62, 63, 64, 65, 68, 69, 70, 73, 74, 75, 76, 77, 78, 79, 80, 83, 84, 85, 86, 87, 88, 89, 90, 91] E (by kernel_rfl) trivial ?_
                      clear E; intro a E
                      refine wpList_nil ?_
                      refine th_n ?_
                      refine c_true E rfl ?_
                      refine wp_seq ?_
                      refine wp_region_lit ?_
                      refine vrun (w := w33) (lp := [(2, .int .i64 12)]) (φ := []) tbok 1 [] [2] E (by kernel_rfl) trivial ?_
                      clear E; intro a E
                      refine wpList_nil ?_
                      refine th_n ?_
                      refine wp_ret ?_
                      refine th_ret ?_
                      refine bl_ret ?_
                      refine th_ret ?_
                      refine th_ret ?_
                      refine bl_ret ?_
                      refine th_ret ?_
                      refine ret1 E rfl rfl ?_
                      refine ⟨_, rfl, ?_, HW.own⟩
                      rw [checkV_bad (fun h => ?_)]
                      have h7 := h.nd k (by omega)
                      have h8 := h7.p0; have h9 := h7.pp; have h10 := h7.ne; simp only [Int.toNat_natCast] at *; omega
                    · replace E := E_; clear E_
                      have h38 : ¬ (p0 ≤ ((List.getD nodes (Int.toNat (k : Int)) default).P)) := of_decide_eq_false hb_
                      clear hb_
                      refine vrun (w := w33) (lp := [(1, .pointer (some ⟨g1, 0, none⟩)), (4, .map (some g18)), (5, .int .i64 (k : Int)), (6, .pointer (some ⟨g28, 0, none⟩)), (43, .slice (some ⟨b26, o27, none⟩) nodes.length c3), (44, .int .i64 ((nodes.length : Nat) : Int)), (45, .int .i64 (k : Int)), (54, .pointer (some ⟨g28, 0, none⟩)), (55, .int .i64 ((List.getD nodes (Int.toNat (k : Int)) default).P)), (56, .pointer (some ⟨g1, 0, none⟩)), (57, .int .i64 p0), (58, .bool (decide (p0 ≤ ((List.getD nodes (Int.toNat (k : Int)) default).P)))), (61, .pointer (some ⟨g28, 1, none⟩)), (62, .int .i64 ((List.getD nodes (Int.toNat (k : Int)) default).Lo)), (63, .pointer (some ⟨g28, 2, none⟩)), (64, .int .i64 ((List.getD nodes (Int.toNat (k : Int)) default).Hi)), (65, .bool (((List.getD nodes (Int.toNat (k : Int)) default).Lo : Int) == ((List.getD nodes (Int.toNat (k : Int)) default).Hi))), (67, .bool (((List.getD nodes (Int.toNat (k : Int)) default).Lo : Int) == ((List.getD nodes (Int.toNat (k : Int)) default).Hi)))]) (φ := [World.cell? w33 ⟨g28, 1, none⟩ = some (.int .i64 ((List.getD nodes (Int.toNat (k : Int)) default).Lo)), World.cell? w33 ⟨g28, 2, none⟩ = some (.int .i64 ((List.getD nodes (Int.toNat (k : Int)) default).Hi))]) tbok 7 [.int .i64 ((List.getD nodes (Int.toNat (k : Int)) default).Lo), .int .i64 ((List.getD nodes (Int.toNat (k : Int)) default).Hi)] [1, 4, 5, 6, 43, 44, 45, 54, 55, 56, 57, 58, 61, 62, 63, 64, 65, 67] E (by kernel_rfl) ⟨B32.cell (j := 1) rfl, B32.cell (j := 2) rfl⟩ ?_
                      clear E; intro a E
                      refine E.cases (t := 67) rfl (fun hb_ E_ => ?_) (fun hb_ E_ => ?_)
                      · replace E := E_; clear E_
                        have h39 : ((List.getD nodes (Int.toNat (k : Int)) default).Lo : Int) = (List.getD nodes (Int.toNat (k : Int)) default).Hi := eq_of_beq hb_
                        clear hb_
                        refine vrun (w := w33) (lp := [(1, .pointer (some ⟨g1, 0, none⟩)), (4, .map (some g18)), (6, .pointer (some ⟨g28, 0, none⟩)), (43, .slice (some ⟨b26, o27, none⟩) nodes.length c3), (44, .int .i64 ((nodes.length : Nat) : Int)), (45, .int .i64 (k : Int)), (54, .pointer (some ⟨g28, 0, none⟩)), (55, .int .i64 ((List.getD nodes (Int.toNat (k : Int)) default).P)), (56, .pointer (some ⟨g1, 0, none⟩)), (57, .int .i64 p0), (58, .bool (decide (p0 ≤ ((List.getD nodes (Int.toNat (k : Int)) default).P)))), (61, .pointer (some ⟨g28, 1, none⟩)), (62, .int .i64 ((List.getD nodes (Int.toNat (k : Int)) default).Lo)), (63, .pointer (some ⟨g28, 2, none⟩)), (64, .int .i64 ((List.getD nodes (Int.toNat (k : Int)) default).Hi)), (65, .bool (((List.getD nodes (Int.toNat (k : Int)) default).Lo : Int) == ((List.getD nodes (Int.toNat (k : Int)) default).Hi))), (68, .tuple #[]), (69, .tuple #[]), (70, .tuple #[]), (73, .tuple #[]), (74, .tuple #[]), (75, .tuple #[]), (76, .tuple #[]), (77, .tuple #[]), (78, .tuple #[]), (79, .tuple #[]), (80, .tuple #[]), (83, .tuple #[]), (84, .tuple #[]), (85, .tuple #[]), (86, .tuple #[]), (87, .tuple #[]), (88, .tuple #[]), (89, .tuple #[]), (90, .tuple #[]), (91, .bool true)]) (φ := []) tbok 24 [] [1, 4, 6, 43, 44, 45, 54, 55, 56, 57, 58, 61, 62, 63, 64, 65, 68, 69, 70, 73, 74, 75, 76, 77, 78, 79, 80, 83, 84, 85, 86, 87, 88, 89, 90, 91] E (by kernel_rfl) trivial ?_
                        clear E; intro a E
                        refine wpList_nil ?_
                        refine th_n ?_
                        refine c_true E rfl ?_
                        refine wp_seq ?_
                        refine wp_region_lit ?_
                        refine vrun (w := w33) (lp := [(2, .int .i64 12)]) (φ := []) tbok 1 [] [2] E (by kernel_rfl) trivial ?_
                        clear E; intro a E
                        refine wpList_nil ?_
                        refine th_n ?_
                        refine wp_ret ?_
                        refine th_ret ?_
                        refine bl_ret ?_
                        refine th_ret ?_
                        refine th_ret ?_
                        refine bl_ret ?_
                        refine th_ret ?_
                        refine ret1 E rfl rfl ?_
                        refine ⟨_, rfl, ?_, HW.own⟩
                        rw [checkV_bad (fun h => ?_)]
                        have h7 := h.nd k (by omega)
                        have h8 := h7.p0; have h9 := h7.pp; have h10 := h7.ne; simp only [Int.toNat_natCast] at *; omega
                      · replace E := E_; clear E_
                        have h40 : ¬ (((List.getD nodes (Int.toNat (k : Int)) default).Lo : Int) = (List.getD nodes (Int.toNat (k : Int)) default).Hi) := ne_of_beq_false hb_
                        clear hb_
                        refine vrun (w := w33) (lp := [(1, .pointer (some ⟨g1, 0, none⟩)), (4, .map (some g18)), (5, .int .i64 (k : Int)), (6, .pointer (some ⟨g28, 0, none⟩)), (43, .slice (some ⟨b26, o27, none⟩) nodes.length c3), (44, .int .i64 ((nodes.length : Nat) : Int)), (45, .int .i64 (k : Int)), (54, .pointer (some ⟨g28, 0, none⟩)), (55, .int .i64 ((List.getD nodes (Int.toNat (k : Int)) default).P)), (56, .pointer (some ⟨g1, 0, none⟩)), (57, .int .i64 p0), (58, .bool (decide (p0 ≤ ((List.getD nodes (Int.toNat (k : Int)) default).P)))), (61, .pointer (some ⟨g28, 1, none⟩)), (62, .int .i64 ((List.getD nodes (Int.toNat (k : Int)) default).Lo)), (63, .pointer (some ⟨g28, 2, none⟩)), (64, .int .i64 ((List.getD nodes (Int.toNat (k : Int)) default).Hi)), (65, .bool (((List.getD nodes (Int.toNat (k : Int)) default).Lo : Int) == ((List.getD nodes (Int.toNat (k : Int)) default).Hi))), (67, .bool false), (68, .map (some g18)), (69, .agg #[.int .i64 ((List.getD nodes (Int.toNat (k : Int)) default).P), .int .i64 ((List.getD nodes (Int.toNat (k : Int)) default).Lo), .int .i64 ((List.getD nodes (Int.toNat (k : Int)) default).Hi)])]) (φ := [cellsAt w33 g28 (0) [.int .i64 ((List.getD nodes (Int.toNat (k : Int)) default).P), .int .i64 ((List.getD nodes (Int.toNat (k : Int)) default).Lo), .int .i64 ((List.getD nodes (Int.toNat (k : Int)) default).Hi)]]) tbok 2 [.agg #[.int .i64 ((List.getD nodes (Int.toNat (k : Int)) default).P), .int .i64 ((List.getD nodes (Int.toNat (k : Int)) default).Lo), .int .i64 ((List.getD nodes (Int.toNat (k : Int)) default).Hi)]] [1, 4, 5, 6, 43, 44, 45, 54, 55, 56, 57, 58, 61, 62, 63, 64, 65, 67, 68, 69] E (by kernel_rfl) (B32.sub 0 _ rfl) ?_
                        clear E; intro a E
                        refine e_lookup (key := .agg #[.int .i64 ((List.getD nodes (Int.toNat (k : Int)) default).P), .int .i64 ((List.getD nodes (Int.toNat (k : Int)) default).Lo), .int .i64 ((List.getD nodes (Int.toNat (k : Int)) default).Hi)]) E rfl rfl tbok rfl rfl keyNd rfl rfl M22 (keyNdOf _ (hkn (by omega))) ?_ ?_ (fun _ => ⟨_, rfl⟩)
                        · clear E
                          intro hm41 a l_ e_ E; cases e_
                          refine vrun (w := w33) (lp := [(1, .pointer (some ⟨g1, 0, none⟩)), (4, .map (some g18)), (5, .int .i64 (k : Int)), (6, .pointer (some ⟨g28, 0, none⟩)), (43, .slice (some ⟨b26, o27, none⟩) nodes.length c3), (44, .int .i64 ((nodes.length : Nat) : Int)), (45, .int .i64 (k : Int)), (54, .pointer (some ⟨g28, 0, none⟩)), (55, .int .i64 ((List.getD nodes (Int.toNat (k : Int)) default).P)), (56, .pointer (some ⟨g1, 0, none⟩)), (57, .int .i64 p0), (58, .bool (decide (p0 ≤ ((List.getD nodes (Int.toNat (k : Int)) default).P)))), (61, .pointer (some ⟨g28, 1, none⟩)), (62, .int .i64 ((List.getD nodes (Int.toNat (k : Int)) default).Lo)), (63, .pointer (some ⟨g28, 2, none⟩)), (64, .int .i64 ((List.getD nodes (Int.toNat (k : Int)) default).Hi)), (65, .bool (((List.getD nodes (Int.toNat (k : Int)) default).Lo : Int) == ((List.getD nodes (Int.toNat (k : Int)) default).Hi))), (68, .map (some g18)), (69, .agg #[.int .i64 ((List.getD nodes (Int.toNat (k : Int)) default).P), .int .i64 ((List.getD nodes (Int.toNat (k : Int)) default).Lo), .int .i64 ((List.getD nodes (Int.toNat (k : Int)) default).Hi)]), (70, .bool false), (72, .bool false), (73, .agg #[.int .i64 p0, .slice A1 acc.length c1, .slice A2 gd.length c2, .slice (some ⟨b26, o27, none⟩) nodes.length c3]), (74, .pointer (some ⟨g28, 1, none⟩)), (75, .int .i64 ((List.getD nodes (Int.toNat (k : Int)) default).Lo)), (76, .int .i64 (k : Int)), (77, .pointer (some ⟨g28, 0, none⟩)), (78, .int .i64 ((List.getD nodes (Int.toNat (k : Int)) default).P))]) (φ := [cellsAt w33 g1 (0) [.int .i64 p0, .slice A1 acc.length c1, .slice A2 gd.length c2, .slice (some ⟨b26, o27, none⟩) nodes.length c3], World.cell? w33 ⟨g28, 1, none⟩ = some (.int .i64 ((List.getD nodes (Int.toNat (k : Int)) default).Lo)), World.cell? w33 ⟨g28, 0, none⟩ = some (.int .i64 ((List.getD nodes (Int.toNat (k : Int)) default).P))]) tbok 8 [.agg #[.int .i64 p0, .slice A1 acc.length c1, .slice A2 gd.length c2, .slice (some ⟨b26, o27, none⟩) nodes.length c3], .int .i64 ((List.getD nodes (Int.toNat (k : Int)) default).Lo), .int .i64 ((List.getD nodes (Int.toNat (k : Int)) default).P)] [1, 4, 5, 6, 43, 44, 45, 54, 55, 56, 57, 58, 61, 62, 63, 64, 65, 68, 69, 70, 72, 73, 74, 75, 76, 77, 78] E (by kernel_rfl) ⟨B5.sub 0 _ rfl, B32.cell (j := 1) rfl, B32.cell (j := 0) rfl⟩ ?_
                          clear E; intro a E
                          refine e_call E rfl rfl Try.func32 rfl rfl rfl (good_calls p0 A1 A2 (some ⟨b26, o27, none⟩) c1 c2 c3 acc gd nodes ((List.getD nodes (Int.toNat (k : Int)) default).Lo) (k : Int) ((List.getD nodes (Int.toNat (k : Int)) default).P) _ (by omega) (by omega) (H3.now HW)) ?_
                          intro v42 w43 a hR44 E_
                          obtain ⟨rfl, hc45⟩ := hR44
                          replace E := E_ _ rfl; clear E_
                          replace B5 := B5.chg hc45 (fun h_ => h_)
                          replace M22 := M22.chg hc45 (fun h_ => h_)
                          replace B32 := B32.chg hc45 (fun h_ => h_)
                          replace HW := HW.trans hc45 (fun _ _ h_ => h_.elim)
                          refine vrun (w := w43) (lp := [(1, .pointer (some ⟨g1, 0, none⟩)), (4, .map (some g18)), (5, .int .i64 (k : Int)), (6, .pointer (some ⟨g28, 0, none⟩)), (43, .slice (some ⟨b26, o27, none⟩) nodes.length c3), (44, .int .i64 ((nodes.length : Nat) : Int)), (45, .int .i64 (k : Int)), (54, .pointer (some ⟨g28, 0, none⟩)), (55, .int .i64 ((List.getD nodes (Int.toNat (k : Int)) default).P)), (56, .pointer (some ⟨g1, 0, none⟩)), (57, .int .i64 p0), (58, .bool (decide (p0 ≤ ((List.getD nodes (Int.toNat (k : Int)) default).P)))), (61, .pointer (some ⟨g28, 1, none⟩)), (62, .int .i64 ((List.getD nodes (Int.toNat (k : Int)) default).Lo)), (63, .pointer (some ⟨g28, 2, none⟩)), (64, .int .i64 ((List.getD nodes (Int.toNat (k : Int)) default).Hi)), (65, .bool (((List.getD nodes (Int.toNat (k : Int)) default).Lo : Int) == ((List.getD nodes (Int.toNat (k : Int)) default).Hi))), (68, .map (some g18)), (69, .agg #[.int .i64 ((List.getD nodes (Int.toNat (k : Int)) default).P), .int .i64 ((List.getD nodes (Int.toNat (k : Int)) default).Lo), .int .i64 ((List.getD nodes (Int.toNat (k : Int)) default).Hi)]), (70, .bool false), (73, .agg #[.int .i64 p0, .slice A1 acc.length c1, .slice A2 gd.length c2, .slice (some ⟨b26, o27, none⟩) nodes.length c3]), (74, .pointer (some ⟨g28, 1, none⟩)), (75, .int .i64 ((List.getD nodes (Int.toNat (k : Int)) default).Lo)), (76, .int .i64 (k : Int)), (77, .pointer (some ⟨g28, 0, none⟩)), (78, .int .i64 ((List.getD nodes (Int.toNat (k : Int)) default).P)), (79, .bool (goodB acc.length nodes ((List.getD nodes (Int.toNat (k : Int)) default).Lo) (k : Int) ((List.getD nodes (Int.toNat (k : Int)) default).P))), (80, .bool (!(goodB acc.length nodes ((List.getD nodes (Int.toNat (k : Int)) default).Lo) (k : Int) ((List.getD nodes (Int.toNat (k : Int)) default).P)))), (82, .bool (!(goodB acc.length nodes ((List.getD nodes (Int.toNat (k : Int)) default).Lo) (k : Int) ((List.getD nodes (Int.toNat (k : Int)) default).P))))]) (φ := []) tbok 3 [] [1, 4, 5, 6, 43, 44, 45, 54, 55, 56, 57, 58, 61, 62, 63, 64, 65, 68, 69, 70, 73, 74, 75, 76, 77, 78, 79, 80, 82] E (by kernel_rfl) trivial ?_
                          clear E; intro a E
                          refine E.cases (t := 82) rfl (fun hb_ E_ => ?_) (fun hb_ E_ => ?_)
                          · replace E := E_; clear E_
                            have h46 : goodB acc.length nodes ((List.getD nodes (Int.toNat (k : Int)) default).Lo) (k : Int) ((List.getD nodes (Int.toNat (k : Int)) default).P) = false := not_t hb_
                            clear hb_
                            refine vrun (w := w43) (lp := [(1, .pointer (some ⟨g1, 0, none⟩)), (4, .map (some g18)), (6, .pointer (some ⟨g28, 0, none⟩)), (43, .slice (some ⟨b26, o27, none⟩) nodes.length c3), (44, .int .i64 ((nodes.length : Nat) : Int)), (45, .int .i64 (k : Int)), (54, .pointer (some ⟨g28, 0, none⟩)), (55, .int .i64 ((List.getD nodes (Int.toNat (k : Int)) default).P)), (56, .pointer (some ⟨g1, 0, none⟩)), (57, .int .i64 p0), (58, .bool (decide (p0 ≤ ((List.getD nodes (Int.toNat (k : Int)) default).P)))), (61, .pointer (some ⟨g28, 1, none⟩)), (62, .int .i64 ((List.getD nodes (Int.toNat (k : Int)) default).Lo)), (63, .pointer (some ⟨g28, 2, none⟩)), (64, .int .i64 ((List.getD nodes (Int.toNat (k : Int)) default).Hi)), (65, .bool (((List.getD nodes (Int.toNat (k : Int)) default).Lo : Int) == ((List.getD nodes (Int.toNat (k : Int)) default).Hi))), (68, .map (some g18)), (69, .agg #[.int .i64 ((List.getD nodes (Int.toNat (k : Int)) default).P), .int .i64 ((List.getD nodes (Int.toNat (k : Int)) default).Lo), .int .i64 ((List.getD nodes (Int.toNat (k : Int)) default).Hi)]), (70, .bool false), (73, .agg #[.int .i64 p0, .slice A1 acc.length c1, .slice A2 gd.length c2, .slice (some ⟨b26, o27, none⟩) nodes.length c3]), (74, .pointer (some ⟨g28, 1, none⟩)), (75, .int .i64 ((List.getD nodes (Int.toNat (k : Int)) default).Lo)), (76, .int .i64 (k : Int)), (77, .pointer (some ⟨g28, 0, none⟩)), (78, .int .i64 ((List.getD nodes (Int.toNat (k : Int)) default).P)), (79, .bool (goodB acc.length nodes ((List.getD nodes (Int.toNat (k : Int)) default).Lo) (k : Int) ((List.getD nodes (Int.toNat (k : Int)) default).P))), (80, .bool (!(goodB acc.length nodes ((List.getD nodes (Int.toNat (k : Int)) default).Lo) (k : Int) ((List.getD nodes (Int.toNat (k : Int)) default).P)))), (83, .tuple #[]), (84, .tuple #[]), (85, .tuple #[]), (86, .tuple #[]), (87, .tuple #[]), (88, .tuple #[]), (89, .tuple #[]), (90, .tuple #[]), (91, .bool true)]) (φ := []) tbok 9 [] [1, 4, 6, 43, 44, 45, 54, 55, 56, 57, 58, 61, 62, 63, 64, 65, 68, 69, 70, 73, 74, 75, 76, 77, 78, 79, 80, 83, 84, 85, 86, 87, 88, 89, 90, 91] E (by kernel_rfl) trivial ?_
                            clear E; intro a E
                            refine wpList_nil ?_
                            refine th_n ?_
                            refine c_true E rfl ?_
                            refine wp_seq ?_
                            refine wp_region_lit ?_
                            refine vrun (w := w43) (lp := [(2, .int .i64 12)]) (φ := []) tbok 1 [] [2] E (by kernel_rfl) trivial ?_
                            clear E; intro a E
                            refine wpList_nil ?_
                            refine th_n ?_
                            refine wp_ret ?_
                            refine th_ret ?_
                            refine bl_ret ?_
                            refine th_ret ?_
                            refine th_ret ?_
                            refine bl_ret ?_
                            refine th_ret ?_
                            refine ret1 E rfl rfl ?_
                            refine ⟨_, rfl, ?_, HW.own⟩
                            rw [checkV_bad (fun h => ?_)]
                            have h7 := h.nd k (by omega)
                            have h8 := h7.lo; have h9 := h7.hi; simp only [Int.toNat_natCast] at *; simp_all
                          · replace E := E_; clear E_
                            have h47 : goodB acc.length nodes ((List.getD nodes (Int.toNat (k : Int)) default).Lo) (k : Int) ((List.getD nodes (Int.toNat (k : Int)) default).P) = true := not_f hb_
                            clear hb_
                            refine vrun (w := w43) (lp := [(1, .pointer (some ⟨g1, 0, none⟩)), (4, .map (some g18)), (6, .pointer (some ⟨g28, 0, none⟩)), (43, .slice (some ⟨b26, o27, none⟩) nodes.length c3), (44, .int .i64 ((nodes.length : Nat) : Int)), (45, .int .i64 (k : Int)), (54, .pointer (some ⟨g28, 0, none⟩)), (55, .int .i64 ((List.getD nodes (Int.toNat (k : Int)) default).P)), (56, .pointer (some ⟨g1, 0, none⟩)), (57, .int .i64 p0), (58, .bool (decide (p0 ≤ ((List.getD nodes (Int.toNat (k : Int)) default).P)))), (61, .pointer (some ⟨g28, 1, none⟩)), (62, .int .i64 ((List.getD nodes (Int.toNat (k : Int)) default).Lo)), (63, .pointer (some ⟨g28, 2, none⟩)), (64, .int .i64 ((List.getD nodes (Int.toNat (k : Int)) default).Hi)), (65, .bool (((List.getD nodes (Int.toNat (k : Int)) default).Lo : Int) == ((List.getD nodes (Int.toNat (k : Int)) default).Hi))), (68, .map (some g18)), (69, .agg #[.int .i64 ((List.getD nodes (Int.toNat (k : Int)) default).P), .int .i64 ((List.getD nodes (Int.toNat (k : Int)) default).Lo), .int .i64 ((List.getD nodes (Int.toNat (k : Int)) default).Hi)]), (70, .bool false), (73, .agg #[.int .i64 p0, .slice A1 acc.length c1, .slice A2 gd.length c2, .slice (some ⟨b26, o27, none⟩) nodes.length c3]), (74, .pointer (some ⟨g28, 1, none⟩)), (75, .int .i64 ((List.getD nodes (Int.toNat (k : Int)) default).Lo)), (76, .int .i64 (k : Int)), (77, .pointer (some ⟨g28, 0, none⟩)), (78, .int .i64 ((List.getD nodes (Int.toNat (k : Int)) default).P)), (79, .bool (goodB acc.length nodes ((List.getD nodes (Int.toNat (k : Int)) default).Lo) (k : Int) ((List.getD nodes (Int.toNat (k : Int)) default).P))), (80, .bool (!(goodB acc.length nodes ((List.getD nodes (Int.toNat (k : Int)) default).Lo) (k : Int) ((List.getD nodes (Int.toNat (k : Int)) default).P)))), (82, .bool false), (83, .agg #[.int .i64 p0, .slice A1 acc.length c1, .slice A2 gd.length c2, .slice (some ⟨b26, o27, none⟩) nodes.length c3]), (84, .pointer (some ⟨g28, 2, none⟩)), (85, .int .i64 ((List.getD nodes (Int.toNat (k : Int)) default).Hi)), (86, .int .i64 (k : Int)), (87, .pointer (some ⟨g28, 0, none⟩)), (88, .int .i64 ((List.getD nodes (Int.toNat (k : Int)) default).P))]) (φ := [cellsAt w43 g1 (0) [.int .i64 p0, .slice A1 acc.length c1, .slice A2 gd.length c2, .slice (some ⟨b26, o27, none⟩) nodes.length c3], World.cell? w43 ⟨g28, 2, none⟩ = some (.int .i64 ((List.getD nodes (Int.toNat (k : Int)) default).Hi)), World.cell? w43 ⟨g28, 0, none⟩ = some (.int .i64 ((List.getD nodes (Int.toNat (k : Int)) default).P))]) tbok 6 [.agg #[.int .i64 p0, .slice A1 acc.length c1, .slice A2 gd.length c2, .slice (some ⟨b26, o27, none⟩) nodes.length c3], .int .i64 ((List.getD nodes (Int.toNat (k : Int)) default).Hi), .int .i64 ((List.getD nodes (Int.toNat (k : Int)) default).P)] [1, 4, 6, 43, 44, 45, 54, 55, 56, 57, 58, 61, 62, 63, 64, 65, 68, 69, 70, 73, 74, 75, 76, 77, 78, 79, 80, 82, 83, 84, 85, 86, 87, 88] E (by kernel_rfl) ⟨B5.sub 0 _ rfl, B32.cell (j := 2) rfl, B32.cell (j := 0) rfl⟩ ?_
                            clear E; intro a E
                            refine e_call E rfl rfl Try.func32 rfl rfl rfl (good_calls p0 A1 A2 (some ⟨b26, o27, none⟩) c1 c2 c3 acc gd nodes ((List.getD nodes (Int.toNat (k : Int)) default).Hi) (k : Int) ((List.getD nodes (Int.toNat (k : Int)) default).P) _ (by omega) (by omega) (H3.now HW)) ?_
                            intro v48 w49 a hR50 E_
                            obtain ⟨rfl, hc51⟩ := hR50
                            replace E := E_ _ rfl; clear E_
                            replace B5 := B5.chg hc51 (fun h_ => h_)
                            replace M22 := M22.chg hc51 (fun h_ => h_)
                            replace B32 := B32.chg hc51 (fun h_ => h_)
                            replace HW := HW.trans hc51 (fun _ _ h_ => h_.elim)
                            refine vrun (w := w49) (lp := [(1, .pointer (some ⟨g1, 0, none⟩)), (4, .map (some g18)), (6, .pointer (some ⟨g28, 0, none⟩)), (43, .slice (some ⟨b26, o27, none⟩) nodes.length c3), (44, .int .i64 ((nodes.length : Nat) : Int)), (45, .int .i64 (k : Int)), (54, .pointer (some ⟨g28, 0, none⟩)), (55, .int .i64 ((List.getD nodes (Int.toNat (k : Int)) default).P)), (56, .pointer (some ⟨g1, 0, none⟩)), (57, .int .i64 p0), (58, .bool (decide (p0 ≤ ((List.getD nodes (Int.toNat (k : Int)) default).P)))), (61, .pointer (some ⟨g28, 1, none⟩)), (62, .int .i64 ((List.getD nodes (Int.toNat (k : Int)) default).Lo)), (63, .pointer (some ⟨g28, 2, none⟩)), (64, .int .i64 ((List.getD nodes (Int.toNat (k : Int)) default).Hi)), (65, .bool (((List.getD nodes (Int.toNat (k : Int)) default).Lo : Int) == ((List.getD nodes (Int.toNat (k : Int)) default).Hi))), (68, .map (some g18)), (69, .agg #[.int .i64 ((List.getD nodes (Int.toNat (k : Int)) default).P), .int .i64 ((List.getD nodes (Int.toNat (k : Int)) default).Lo), .int .i64 ((List.getD nodes (Int.toNat (k : Int)) default).Hi)]), (70, .bool false), (73, .agg #[.int .i64 p0, .slice A1 acc.length c1, .slice A2 gd.length c2, .slice (some ⟨b26, o27, none⟩) nodes.length c3]), (74, .pointer (some ⟨g28, 1, none⟩)), (75, .int .i64 ((List.getD nodes (Int.toNat (k : Int)) default).Lo)), (76, .int .i64 (k : Int)), (77, .pointer (some ⟨g28, 0, none⟩)), (78, .int .i64 ((List.getD nodes (Int.toNat (k : Int)) default).P)), (79, .bool (goodB acc.length nodes ((List.getD nodes (Int.toNat (k : Int)) default).Lo) (k : Int) ((List.getD nodes (Int.toNat (k : Int)) default).P))), (80, .bool (!(goodB acc.length nodes ((List.getD nodes (Int.toNat (k : Int)) default).Lo) (k : Int) ((List.getD nodes (Int.toNat (k : Int)) default).P)))), (83, .agg #[.int .i64 p0, .slice A1 acc.length c1, .slice A2 gd.length c2, .slice (some ⟨b26, o27, none⟩) nodes.length c3]), (84, .pointer (some ⟨g28, 2, none⟩)), (85, .int .i64 ((List.getD nodes (Int.toNat (k : Int)) default).Hi)), (86, .int .i64 (k : Int)), (87, .pointer (some ⟨g28, 0, none⟩)), (88, .int .i64 ((List.getD nodes (Int.toNat (k : Int)) default).P)), (89, .bool (goodB acc.length nodes ((List.getD nodes (Int.toNat (k : Int)) default).Hi) (k : Int) ((List.getD nodes (Int.toNat (k : Int)) default).P))), (90, .bool (!(goodB acc.length nodes ((List.getD nodes (Int.toNat (k : Int)) default).Hi) (k : Int) ((List.getD nodes (Int.toNat (k : Int)) default).P)))), (91, .bool (!(goodB acc.length nodes ((List.getD nodes (Int.toNat (k : Int)) default).Hi) (k : Int) ((List.getD nodes (Int.toNat (k : Int)) default).P))))]) (φ := []) tbok 2 [] [1, 4, 6, 43, 44, 45, 54, 55, 56, 57, 58, 61, 62, 63, 64, 65, 68, 69, 70, 73, 74, 75, 76, 77, 78, 79, 80, 83, 84, 85, 86, 87, 88, 89, 90, 91] E (by kernel_rfl) trivial ?_
                            clear E; intro a E
                            refine wpList_nil ?_
                            refine th_n ?_
                            refine E.cases (t := 91) rfl (fun hb_ E_ => ?_) (fun hb_ E_ => ?_)
                            · replace E := E_; clear E_
                              have h52 : goodB acc.length nodes ((List.getD nodes (Int.toNat (k : Int)) default).Hi) (k : Int) ((List.getD nodes (Int.toNat (k : Int)) default).P) = false := not_t hb_
                              clear hb_
                              refine c_true E rfl ?_
                              refine wp_seq ?_
                              refine wp_region_lit ?_
                              refine vrun (w := w49) (lp := [(2, .int .i64 12)]) (φ := []) tbok 1 [] [2] E (by kernel_rfl) trivial ?_
                              clear E; intro a E
                              refine wpList_nil ?_
                              refine th_n ?_
                              refine wp_ret ?_
                              refine th_ret ?_
                              refine bl_ret ?_
                              refine th_ret ?_
                              refine th_ret ?_
                              refine bl_ret ?_
                              refine th_ret ?_
                              refine ret1 E rfl rfl ?_
                              refine ⟨_, rfl, ?_, HW.own⟩
                              rw [checkV_bad (fun h => ?_)]
                              have h7 := h.nd k (by omega)
                              have h8 := h7.lo; have h9 := h7.hi; simp only [Int.toNat_natCast] at *; simp_all
                            · replace E := E_; clear E_
                              have h53 : goodB acc.length nodes ((List.getD nodes (Int.toNat (k : Int)) default).Hi) (k : Int) ((List.getD nodes (Int.toNat (k : Int)) default).P) = true := not_f hb_
                              clear hb_
                              refine c_false E rfl ?_
                              refine wp_skip ?_
                              refine th_n ?_
                              refine wp_region_lit ?_
                              refine vrun (w := w49) (lp := [(1, .pointer (some ⟨g1, 0, none⟩)), (4, .map (some g18)), (43, .slice (some ⟨b26, o27, none⟩) nodes.length c3), (44, .int .i64 ((nodes.length : Nat) : Int)), (45, .int .i64 (k : Int)), (54, .pointer (some ⟨g28, 0, none⟩)), (55, .int .i64 ((List.getD nodes (Int.toNat (k : Int)) default).P)), (56, .pointer (some ⟨g1, 0, none⟩)), (57, .int .i64 p0), (58, .bool (decide (p0 ≤ ((List.getD nodes (Int.toNat (k : Int)) default).P)))), (61, .pointer (some ⟨g28, 1, none⟩)), (62, .int .i64 ((List.getD nodes (Int.toNat (k : Int)) default).Lo)), (63, .pointer (some ⟨g28, 2, none⟩)), (64, .int .i64 ((List.getD nodes (Int.toNat (k : Int)) default).Hi)), (65, .bool (((List.getD nodes (Int.toNat (k : Int)) default).Lo : Int) == ((List.getD nodes (Int.toNat (k : Int)) default).Hi))), (68, .map (some g18)), (69, .agg #[.int .i64 ((List.getD nodes (Int.toNat (k : Int)) default).P), .int .i64 ((List.getD nodes (Int.toNat (k : Int)) default).Lo), .int .i64 ((List.getD nodes (Int.toNat (k : Int)) default).Hi)]), (70, .bool false), (73, .agg #[.int .i64 p0, .slice A1 acc.length c1, .slice A2 gd.length c2, .slice (some ⟨b26, o27, none⟩) nodes.length c3]), (74, .pointer (some ⟨g28, 1, none⟩)), (75, .int .i64 ((List.getD nodes (Int.toNat (k : Int)) default).Lo)), (76, .int .i64 (k : Int)), (77, .pointer (some ⟨g28, 0, none⟩)), (78, .int .i64 ((List.getD nodes (Int.toNat (k : Int)) default).P)), (79, .bool (goodB acc.length nodes ((List.getD nodes (Int.toNat (k : Int)) default).Lo) (k : Int) ((List.getD nodes (Int.toNat (k : Int)) default).P))), (80, .bool (!(goodB acc.length nodes ((List.getD nodes (Int.toNat (k : Int)) default).Lo) (k : Int) ((List.getD nodes (Int.toNat (k : Int)) default).P)))), (83, .agg #[.int .i64 p0, .slice A1 acc.length c1, .slice A2 gd.length c2, .slice (some ⟨b26, o27, none⟩) nodes.length c3]), (84, .pointer (some ⟨g28, 2, none⟩)), (85, .int .i64 ((List.getD nodes (Int.toNat (k : Int)) default).Hi)), (86, .int .i64 (k : Int)), (87, .pointer (some ⟨g28, 0, none⟩)), (88, .int .i64 ((List.getD nodes (Int.toNat (k : Int)) default).P)), (89, .bool (goodB acc.length nodes ((List.getD nodes (Int.toNat (k : Int)) default).Hi) (k : Int) ((List.getD nodes (Int.toNat (k : Int)) default).P))), (90, .bool (!(goodB acc.length nodes ((List.getD nodes (Int.toNat (k : Int)) default).Hi) (k : Int) ((List.getD nodes (Int.toNat (k : Int)) default).P)))), (92, .map (some g18)), (93, .agg #[.int .i64 ((List.getD nodes (Int.toNat (k : Int)) default).P), .int .i64 ((List.getD nodes (Int.toNat (k : Int)) default).Lo), .int .i64 ((List.getD nodes (Int.toNat (k : Int)) default).Hi)])]) (φ := [cellsAt w49 g28 (0) [.int .i64 ((List.getD nodes (Int.toNat (k : Int)) default).P), .int .i64 ((List.getD nodes (Int.toNat (k : Int)) default).Lo), .int .i64 ((List.getD nodes (Int.toNat (k : Int)) default).Hi)]]) tbok 2 [.agg #[.int .i64 ((List.getD nodes (Int.toNat (k : Int)) default).P), .int .i64 ((List.getD nodes (Int.toNat (k : Int)) default).Lo), .int .i64 ((List.getD nodes (Int.toNat (k : Int)) default).Hi)]] [1, 4, 43, 44, 45, 54, 55, 56, 57, 58, 61, 62, 63, 64, 65, 68, 69, 70, 73, 74, 75, 76, 77, 78, 79, 80, 83, 84, 85, 86, 87, 88, 89, 90, 92, 93] E (by kernel_rfl) (B32.sub 0 _ rfl) ?_
                              clear E; intro a E
                              refine e_mapUpdate (key := .agg #[.int .i64 ((List.getD nodes (Int.toNat (k : Int)) default).P), .int .i64 ((List.getD nodes (Int.toNat (k : Int)) default).Lo), .int .i64 ((List.getD nodes (Int.toNat (k : Int)) default).Hi)]) E rfl rfl tbok rfl keyNd rfl rfl rfl M22 (keyNdOf _ (hkn (by omega))) hm41 rfl ?_
                              clear E; intro w54 a hc55 M22 E
                              replace B5 := B5.chg hc55 (fun h_ => ne_g1_g18 h_)
                              replace B32 := B32.chg hc55 (fun h_ => ne_g18_g28 h_.symm)
                              replace HW := HW.trans hc55 (fun _ _ h_ => by subst h_; exact hi_g18)
                              refine wpList_nil ?_
                              refine bl_n ?_
                              refine th_n ?_
                              refine wp_region_lit ?_
                              refine vrun (w := w54) (lp := [(1, .pointer (some ⟨g1, 0, none⟩)), (4, .map (some g18)), (43, .slice (some ⟨b26, o27, none⟩) nodes.length c3), (44, .int .i64 ((nodes.length : Nat) : Int)), (45, .int .i64 ((k : Int) + 1)), (54, .pointer (some ⟨g28, 0, none⟩)), (55, .int .i64 ((List.getD nodes (Int.toNat (k : Int)) default).P)), (56, .pointer (some ⟨g1, 0, none⟩)), (57, .int .i64 p0), (58, .bool (decide (p0 ≤ ((List.getD nodes (Int.toNat (k : Int)) default).P)))), (61, .pointer (some ⟨g28, 1, none⟩)), (62, .int .i64 ((List.getD nodes (Int.toNat (k : Int)) default).Lo)), (63, .pointer (some ⟨g28, 2, none⟩)), (64, .int .i64 ((List.getD nodes (Int.toNat (k : Int)) default).Hi)), (65, .bool (((List.getD nodes (Int.toNat (k : Int)) default).Lo : Int) == ((List.getD nodes (Int.toNat (k : Int)) default).Hi))), (68, .map (some g18)), (69, .agg #[.int .i64 ((List.getD nodes (Int.toNat (k : Int)) default).P), .int .i64 ((List.getD nodes (Int.toNat (k : Int)) default).Lo), .int .i64 ((List.getD nodes (Int.toNat (k : Int)) default).Hi)]), (70, .bool false), (73, .agg #[.int .i64 p0, .slice A1 acc.length c1, .slice A2 gd.length c2, .slice (some ⟨b26, o27, none⟩) nodes.length c3]), (74, .pointer (some ⟨g28, 1, none⟩)), (75, .int .i64 ((List.getD nodes (Int.toNat (k : Int)) default).Lo)), (76, .int .i64 (k : Int)), (77, .pointer (some ⟨g28, 0, none⟩)), (78, .int .i64 ((List.getD nodes (Int.toNat (k : Int)) default).P)), (79, .bool (goodB acc.length nodes ((List.getD nodes (Int.toNat (k : Int)) default).Lo) (k : Int) ((List.getD nodes (Int.toNat (k : Int)) default).P))), (80, .bool (!(goodB acc.length nodes ((List.getD nodes (Int.toNat (k : Int)) default).Lo) (k : Int) ((List.getD nodes (Int.toNat (k : Int)) default).P)))), (83, .agg #[.int .i64 p0, .slice A1 acc.length c1, .slice A2 gd.length c2, .slice (some ⟨b26, o27, none⟩) nodes.length c3]), (84, .pointer (some ⟨g28, 2, none⟩)), (85, .int .i64 ((List.getD nodes (Int.toNat (k : Int)) default).Hi)), (86, .int .i64 (k : Int)), (87, .pointer (some ⟨g28, 0, none⟩)), (88, .int .i64 ((List.getD nodes (Int.toNat (k : Int)) default).P)), (89, .bool (goodB acc.length nodes ((List.getD nodes (Int.toNat (k : Int)) default).Hi) (k : Int) ((List.getD nodes (Int.toNat (k : Int)) default).P))), (90, .bool (!(goodB acc.length nodes ((List.getD nodes (Int.toNat (k : Int)) default).Hi) (k : Int) ((List.getD nodes (Int.toNat (k : Int)) default).P))))]) (φ := [IntKind.i64.wrap ((k : Int) + 1) = (k : Int) + 1]) tbok 2 [.int .i64 ((k : Int) + 1)] [1, 4, 43, 44, 45, 54, 55, 56, 57, 58, 61, 62, 63, 64, 65, 68, 69, 70, 73, 74, 75, 76, 77, 78, 79, 80, 83, 84, 85, 86, 87, 88, 89, 90] E (by kernel_rfl) (wrap_i64 (by omega) (by omega)) ?_
                              clear E; intro a E
                              refine wpList_nil ?_
                              refine th_n ⟨nodes.length - (k + 1), by omega, ?_⟩
                              exact ⟨k + 1, E.pick _ ⟨rfl, rfl, rfl, rfl, rfl, trivial⟩, HW, B5, (by rw [check_take (by omega)]; exact M22), (by omega), (fun i hi => check_step hI (by omega) (by assumption) (by assumption) (by assumption) hm41 (by assumption) (by assumption) i hi), rfl⟩
                        · clear E
                          intro v57 hm56 a l_ e_ E; cases e_
                          obtain ⟨x_, hx_, hxe_⟩ := List.mem_map.1 hm56
                          obtain ⟨hk_, hv_⟩ := Prod.mk.inj hxe_
                          subst hv_
                          refine vrun (w := w33) (lp := [(1, .pointer (some ⟨g1, 0, none⟩)), (4, .map (some g18)), (6, .pointer (some ⟨g28, 0, none⟩)), (43, .slice (some ⟨b26, o27, none⟩) nodes.length c3), (44, .int .i64 ((nodes.length : Nat) : Int)), (45, .int .i64 (k : Int)), (54, .pointer (some ⟨g28, 0, none⟩)), (55, .int .i64 ((List.getD nodes (Int.toNat (k : Int)) default).P)), (56, .pointer (some ⟨g1, 0, none⟩)), (57, .int .i64 p0), (58, .bool (decide (p0 ≤ ((List.getD nodes (Int.toNat (k : Int)) default).P)))), (61, .pointer (some ⟨g28, 1, none⟩)), (62, .int .i64 ((List.getD nodes (Int.toNat (k : Int)) default).Lo)), (63, .pointer (some ⟨g28, 2, none⟩)), (64, .int .i64 ((List.getD nodes (Int.toNat (k : Int)) default).Hi)), (65, .bool (((List.getD nodes (Int.toNat (k : Int)) default).Lo : Int) == ((List.getD nodes (Int.toNat (k : Int)) default).Hi))), (68, .map (some g18)), (69, .agg #[.int .i64 ((List.getD nodes (Int.toNat (k : Int)) default).P), .int .i64 ((List.getD nodes (Int.toNat (k : Int)) default).Lo), .int .i64 ((List.getD nodes (Int.toNat (k : Int)) default).Hi)]), (70, .bool true), (73, .tuple #[]), (74, .tuple #[]), (75, .tuple #[]), (76, .tuple #[]), (77, .tuple #[]), (78, .tuple #[]), (79, .tuple #[]), (80, .tuple #[]), (83, .tuple #[]), (84, .tuple #[]), (85, .tuple #[]), (86, .tuple #[]), (87, .tuple #[]), (88, .tuple #[]), (89, .tuple #[]), (90, .tuple #[]), (91, .bool true)]) (φ := []) tbok 21 [] [1, 4, 6, 43, 44, 45, 54, 55, 56, 57, 58, 61, 62, 63, 64, 65, 68, 69, 70, 73, 74, 75, 76, 77, 78, 79, 80, 83, 84, 85, 86, 87, 88, 89, 90, 91] E (by kernel_rfl) trivial ?_
                          clear E; intro a E
                          refine wpList_nil ?_
                          refine th_n ?_
                          refine c_true E rfl ?_
                          refine wp_seq ?_
                          refine wp_region_lit ?_
                          refine vrun (w := w33) (lp := [(2, .int .i64 12)]) (φ := []) tbok 1 [] [2] E (by kernel_rfl) trivial ?_
                          clear E; intro a E
                          refine wpList_nil ?_
                          refine th_n ?_
                          refine wp_ret ?_
                          refine th_ret ?_
                          refine bl_ret ?_
                          refine th_ret ?_
                          refine th_ret ?_
                          refine bl_ret ?_
                          refine th_ret ?_
                          refine ret1 E rfl rfl ?_
                          refine ⟨_, rfl, ?_, HW.own⟩
                          rw [checkV_bad (fun h => ?_)]
                          exact check_once (by omega) hx_ hk_ (h.nd k (by omega))
                · replace E := E_; clear E_
                  have h58 : ¬ ((k : Int) < ((nodes.length : Nat) : Int)) := of_decide_eq_false hb_
                  clear hb_
                  refine c_false E rfl ?_
                  refine wp_exit ?_
                  refine th_exit ?_
                  refine th_exit ?_
                  refine bl_hit ?_
                  refine th_n ?_
                  refine wp_seq ?_
                  refine wp_seq ?_
                  refine wp_region_lit ?_
                  refine vrun (w := w23) (lp := [(1, .pointer (some ⟨g1, 0, none⟩)), (96, .slice A2 gd.length c2), (97, .int .i64 ((gd.length : Nat) : Int)), (98, .int .i64 0)]) (φ := [World.cell? w23 ⟨g1, 2, none⟩ = some (.slice A2 gd.length c2)]) tbok 4 [.slice A2 gd.length c2] [1, 96, 97, 98] E (by kernel_rfl) (B5.cell (j := 2) rfl) ?_
                  clear E; intro a E
                  refine wpList_nil ?_
                  refine th_n ?_
                  refine wp_block ?_
                  refine loopV (fun m60 a w59 => ∃ (k : Nat), Fr a 110 [(1, .pointer (some ⟨g1, 0, none⟩)), (96, .slice A2 gd.length c2), (97, .int .i64 ((gd.length : Nat) : Int)), (98, .int .i64 (k : Int))] ∧ Chg (Hi w0.heap.size) w0 w59 ∧ Bx w59 g1 26 [.int .i64 p0, .slice A1 acc.length c1, .slice A2 gd.length c2, .slice A3 nodes.length c3] ∧ (k ≤ gd.length) ∧ (∀ i, i < k → goodB acc.length nodes (gd.getD i 0) nodes.length (-1) = true) ∧ m60 = gd.length - k) (gd.length - (0)) ?_ ?_
                  · skip
                    exact ⟨0, E.pick _ ⟨rfl, rfl, rfl, rfl, trivial⟩, HW, B5, (by omega), (fun i hi => absurd hi (by omega)), rfl⟩
                  · clear E HW; intro m60 a w59 hI_
                    obtain ⟨k, hI_⟩ := hI_
                    clear B5
                    obtain ⟨E, HW, B5, hk, hG, hm_m60⟩ := hI_
                    refine wp_seq ?_
                    refine wp_region_lit ?_
                    refine vrun (w := w59) (lp := [(1, .pointer (some ⟨g1, 0, none⟩)), (96, .slice A2 gd.length c2), (97, .int .i64 ((gd.length : Nat) : Int)), (98, .int .i64 (k : Int)), (99, .bool (decide ((k : Int) < ((gd.length : Nat) : Int))))]) (φ := []) tbok 1 [] [1, 96, 97, 98, 99] E (by kernel_rfl) trivial ?_
                    clear E; intro a E
                    refine wpList_nil ?_
                    refine th_n ?_
                    refine wp_seq ?_
                    refine E.cases (t := 99) rfl (fun hb_ E_ => ?_) (fun hb_ E_ => ?_)
                    · replace E := E_; clear E_
                      have h61 : (k : Int) < ((gd.length : Nat) : Int) := of_decide_eq_true hb_
                      clear hb_
                      refine c_true E rfl ?_
                      refine wp_skip ?_
                      refine th_n ?_
                      refine wp_seq ?_
                      refine wp_block ?_
                      refine wp_seq ?_
                      refine wp_region_lit ?_
                      have hx_100 : 0 ≤ (k : Int) ∧ (k : Int) < ((gd.length : Nat) : Int) := ⟨by omega, by omega⟩
                      obtain ⟨b62, o63, e_b62⟩ := H2.addr (by omega)
                      subst e_b62
                      refine vrun (w := w59) (lp := [(1, .pointer (some ⟨g1, 0, none⟩)), (8, .int .i64 (List.getD gd (Int.toNat (k : Int)) 0)), (96, .slice (some ⟨b62, o63, none⟩) gd.length c2), (97, .int .i64 ((gd.length : Nat) : Int)), (98, .int .i64 (k : Int))]) (φ := [0 ≤ (k : Int) ∧ (k : Int) < ((gd.length : Nat) : Int), World.cell? w59 ⟨b62, o63 + (Int.toNat (k : Int)) * 1, none⟩ = some (.int .i64 (List.getD gd (Int.toNat (k : Int)) 0))]) tbok 3 [.int .i64 (List.getD gd (Int.toNat (k : Int)) 0)] [1, 8, 96, 97, 98] E (by kernel_rfl) ⟨hx_100, C.at1 (H2.keep HW lo_hi) 0 hx_100.1 hx_100.2⟩ ?_
                      clear E; intro a E
                      refine wpList_nil ?_
                      refine th_n ?_
                      refine wp_seq ?_
                      refine wp_region_lit ?_
                      refine vrun (w := w59) (lp := [(1, .pointer (some ⟨g1, 0, none⟩)), (96, .slice (some ⟨b62, o63, none⟩) gd.length c2), (97, .int .i64 ((gd.length : Nat) : Int)), (98, .int .i64 (k : Int)), (102, .agg #[.int .i64 p0, .slice A1 acc.length c1, .slice (some ⟨b62, o63, none⟩) gd.length c2, .slice A3 nodes.length c3]), (103, .int .i64 (List.getD gd (Int.toNat (k : Int)) 0)), (106, .int .i64 ((nodes.length : Nat) : Int))]) (φ := [cellsAt w59 g1 (0) [.int .i64 p0, .slice A1 acc.length c1, .slice (some ⟨b62, o63, none⟩) gd.length c2, .slice A3 nodes.length c3], World.cell? w59 ⟨g1, 3, none⟩ = some (.slice A3 nodes.length c3)]) tbok 5 [.agg #[.int .i64 p0, .slice A1 acc.length c1, .slice (some ⟨b62, o63, none⟩) gd.length c2, .slice A3 nodes.length c3], .slice A3 nodes.length c3] [1, 96, 97, 98, 102, 103, 106] E (by kernel_rfl) ⟨B5.sub 0 _ rfl, B5.cell (j := 3) rfl⟩ ?_
                      clear E; intro a E
                      refine e_call E rfl rfl Try.func32 rfl rfl rfl (good_calls p0 A1 (some ⟨b62, o63, none⟩) A3 c1 c2 c3 acc gd nodes (List.getD gd (Int.toNat (k : Int)) 0) ((nodes.length : Nat) : Int) (-1) _ (by omega) (by omega) (H3.now HW)) ?_
                      intro v64 w65 a hR66 E_
                      obtain ⟨rfl, hc67⟩ := hR66
                      replace E := E_ _ rfl; clear E_
                      replace B5 := B5.chg hc67 (fun h_ => h_)
                      replace HW := HW.trans hc67 (fun _ _ h_ => h_.elim)
                      refine vrun (w := w65) (lp := [(1, .pointer (some ⟨g1, 0, none⟩)), (96, .slice (some ⟨b62, o63, none⟩) gd.length c2), (97, .int .i64 ((gd.length : Nat) : Int)), (98, .int .i64 (k : Int)), (108, .bool (!(goodB acc.length nodes (List.getD gd (Int.toNat (k : Int)) 0) ((nodes.length : Nat) : Int) (-1))))]) (φ := []) tbok 1 [] [1, 96, 97, 98, 108] E (by kernel_rfl) trivial ?_
                      clear E; intro a E
                      refine wpList_nil ?_
                      refine th_n ?_
                      refine E.cases (t := 108) rfl (fun hb_ E_ => ?_) (fun hb_ E_ => ?_)
                      · replace E := E_; clear E_
                        have h68 : goodB acc.length nodes (List.getD gd (Int.toNat (k : Int)) 0) ((nodes.length : Nat) : Int) (-1) = false := not_t hb_
                        clear hb_
                        refine c_true E rfl ?_
                        refine wp_seq ?_
                        refine wp_region_lit ?_
                        refine vrun (w := w65) (lp := [(2, .int .i64 12)]) (φ := []) tbok 1 [] [2] E (by kernel_rfl) trivial ?_
                        clear E; intro a E
                        refine wpList_nil ?_
                        refine th_n ?_
                        refine wp_ret ?_
                        refine bl_ret ?_
                        refine th_ret ?_
                        refine th_ret ?_
                        refine bl_ret ?_
                        refine th_ret ?_
                        refine ret1 E rfl rfl ?_
                        refine ⟨_, rfl, ?_, HW.own⟩
                        rw [checkV_bad (fun h => ?_)]
                        have h7 := h.gr k (by omega)
                        simp_all
                      · replace E := E_; clear E_
                        have h69 : goodB acc.length nodes (List.getD gd (Int.toNat (k : Int)) 0) ((nodes.length : Nat) : Int) (-1) = true := not_f hb_
                        clear hb_
                        refine c_false E rfl ?_
                        refine wp_skip ?_
                        refine bl_n ?_
                        refine th_n ?_
                        refine wp_region_lit ?_
                        refine vrun (w := w65) (lp := [(1, .pointer (some ⟨g1, 0, none⟩)), (96, .slice (some ⟨b62, o63, none⟩) gd.length c2), (97, .int .i64 ((gd.length : Nat) : Int)), (98, .int .i64 ((k : Int) + 1))]) (φ := [IntKind.i64.wrap ((k : Int) + 1) = (k : Int) + 1]) tbok 2 [.int .i64 ((k : Int) + 1)] [1, 96, 97, 98] E (by kernel_rfl) (wrap_i64 (by omega) (by omega)) ?_
                        clear E; intro a E
                        refine wpList_nil ?_
                        refine th_n ⟨gd.length - (k + 1), by omega, ?_⟩
                        exact ⟨k + 1, E.pick _ ⟨rfl, rfl, rfl, rfl, trivial⟩, HW, B5, (by omega), (fun i hi => by exact good_step hG (by assumption) i hi), rfl⟩
                    · replace E := E_; clear E_
                      have h70 : ¬ ((k : Int) < ((gd.length : Nat) : Int)) := of_decide_eq_false hb_
                      clear hb_
                      refine c_false E rfl ?_
                      refine wp_exit ?_
                      refine th_exit ?_
                      refine th_exit ?_
                      refine bl_hit ?_
                      refine th_n ?_
                      refine wp_seq ?_
                      refine wp_region_lit ?_
                      refine vrun (w := w59) (lp := [(2, .int .i64 0)]) (φ := []) tbok 1 [] [2] E (by kernel_rfl) trivial ?_
                      clear E; intro a E
                      refine wpList_nil ?_
                      refine th_n ?_
                      refine wp_ret ?_
                      refine ret1 E rfl rfl ?_
                      refine ⟨_, rfl, ?_, HW.own⟩
                      rw [checkV_ok ⟨by omega, by omega, by omega, by omega, by omega, by omega, fun i hi => hI i (by omega), fun i hi => hG i (by omega)⟩]

end Go.V
