/- Contracts of functions of the program: walks. -/
import Derived.Test.YtldjjbgnicknkaaKeys
set_option linter.all false
set_option linter.unusedVariables false
set_option linter.unnecessarySimpa false
set_option linter.unusedSimpArgs false
namespace Go.V
open Go Go.Proofs

/-! rejoinder/rejoinderref14.fits -/
set_option maxRecDepth 100000 in
theorem fits_calls (p0 : Int) (A1 A2 A3 : Option Addr) (c1 c2 c3 : Nat) (acc : List Bool) (gd : List Int) (nodes : List Nd) (ref below above : Int) (w0 : World) (hn : acc.length ≤ 1000) (hb : below ≤ nodes.length) (H3 : C cNode w0 (Lo w0.heap.size) A3 nodes) :
    Calls Try.prog 57 #[.agg #[.int .i64 p0, .slice A1 acc.length c1, .slice A2 gd.length c2, .slice A3 nodes.length c3], .int .i64 ref, .int .i64 below, .int .i64 above] w0 fun e w' => ∃ v, e = .returned v ∧ (v = .bool (goodB acc.length nodes ref below above) ∧ Ext w0 w') := by
  have HW : Chg (Hi w0.heap.size) w0 w0 := Chg.refl _ _
  refine enterV (n := 30) Try.func57 rfl rfl rfl ?_
  intro a E
  replace E := E.pick [(0, .agg #[.int .i64 p0, .slice A1 acc.length c1, .slice A2 gd.length c2, .slice A3 nodes.length c3]), (1, .int .i64 ref), (2, .int .i64 below), (3, .int .i64 above)] ⟨rfl, rfl, rfl, rfl, trivial⟩
  refine wp_seq ?_
  refine wp_region_lit ?_
  refine e_box E rfl rfl rfl ?_
  intro w2 g1 a hc3 hg4 B5 E_
  replace E := E_ _ rfl; clear E_
  replace B5 : Bx w2 g1 26 [.int .i64 p0, .slice A1 acc.length c1, .slice A2 gd.length c2, .slice A3 nodes.length c3] := B5
  have hi_g1 : w0.heap.size ≤ g1 := Nat.le_trans HW.size hg4
  replace HW := HW.trans hc3 (fun _ _ h_ => h_.elim)
  refine vrun (w := w2) (lp := [(1, .int .i64 ref), (2, .int .i64 below), (3, .int .i64 above), (4, .pointer (some ⟨g1, 0, none⟩))]) (φ := []) tbok 1 [] [1, 2, 3, 4] E (by kernel_rfl) trivial ?_
  clear E; intro a E
  refine wpList_nil ?_
  refine th_n ?_
  refine wp_seq ?_
  refine wp_seq ?_
  refine wp_region_lit ?_
  refine vrun (w := w2) (lp := [(1, .int .i64 ref), (2, .int .i64 below), (3, .int .i64 above), (4, .pointer (some ⟨g1, 0, none⟩)), (10, .bool (decide (ref < 0)))]) (φ := []) tbok 2 [] [1, 2, 3, 4, 10] E (by kernel_rfl) trivial ?_
  clear E; intro a E
  refine wpList_nil ?_
  refine th_n ?_
  refine E.cases (t := 10) rfl (fun hb_ E_ => ?_) (fun hb_ E_ => ?_)
  · replace E := E_; clear E_
    have h6 : ref < 0 := of_decide_eq_true hb_
    clear hb_
    refine c_true E rfl ?_
    refine wp_seq ?_
    refine wp_region_lit ?_
    refine vrun (w := w2) (lp := [(8, .bool (decide ((-((acc.length : Nat) : Int)) ≤ ref)))]) (φ := [World.cell? w2 ⟨g1, 1, none⟩ = some (.slice A1 acc.length c1), IntKind.i64.wrap (0 - ((acc.length : Nat) : Int)) = -((acc.length : Nat) : Int)]) tbok 7 [.slice A1 acc.length c1, .int .i64 (-((acc.length : Nat) : Int))] [8] E (by kernel_rfl) ⟨B5.cell (j := 1) rfl, wrap_neg (by omega) (by omega)⟩ ?_
    clear E; intro a E
    refine wpList_nil ?_
    refine th_n ?_
    refine wp_ret ?_
    refine th_ret ?_
    refine ret1 E rfl rfl ?_
    exact ⟨_, rfl, by simp [goodB, *], HW.own⟩
  · replace E := E_; clear E_
    have h7 : ¬ (ref < 0) := of_decide_eq_false hb_
    clear hb_
    refine c_false E rfl ?_
    refine wp_skip ?_
    refine th_n ?_
    refine wp_seq ?_
    refine wp_region_lit ?_
    refine vrun (w := w2) (lp := [(1, .int .i64 ref), (3, .int .i64 above), (4, .pointer (some ⟨g1, 0, none⟩)), (20, .bool (decide (ref < below)))]) (φ := []) tbok 4 [] [1, 3, 4, 20] E (by kernel_rfl) trivial ?_
    clear E; intro a E
    refine E.cases (t := 20) rfl (fun hb_ E_ => ?_) (fun hb_ E_ => ?_)
    · replace E := E_; clear E_
      have h8 : ref < below := of_decide_eq_true hb_
      clear hb_
      have hx_24 : 0 ≤ ref ∧ ref < ((nodes.length : Nat) : Int) := ⟨by omega, by omega⟩
      obtain ⟨b9, o10, e_b9⟩ := H3.addr (by omega)
      subst e_b9
      refine vrun (w := w2) (lp := [(8, .bool (decide (above < ((List.getD nodes (Int.toNat ref) default).P))))]) (φ := [World.cell? w2 ⟨g1, 3, none⟩ = some (.slice (some ⟨b9, o10, none⟩) nodes.length c3), 0 ≤ ref ∧ ref < ((nodes.length : Nat) : Int), World.cell? w2 ⟨b9, o10 + (Int.toNat ref) * 3, none⟩ = some (.int .i64 ((List.getD nodes (Int.toNat ref) default).P))]) tbok 10 [.slice (some ⟨b9, o10, none⟩) nodes.length c3, .int .i64 ((List.getD nodes (Int.toNat ref) default).P)] [8] E (by kernel_rfl) ⟨B5.cell (j := 3) rfl, hx_24, (C.atP (H3.keep HW lo_hi) default hx_24.1 hx_24.2).1⟩ ?_
      clear E; intro a E
      refine wpList_nil ?_
      refine th_n ?_
      refine wp_ret ?_
      refine ret1 E rfl rfl ?_
      exact ⟨_, rfl, by simp [goodB, *], HW.own⟩
    · replace E := E_; clear E_
      have h11 : ¬ (ref < below) := of_decide_eq_false hb_
      clear hb_
      refine vrun (w := w2) (lp := [(8, .bool false)]) (φ := []) tbok 10 [] [8] E (by kernel_rfl) trivial ?_
      clear E; intro a E
      refine wpList_nil ?_
      refine th_n ?_
      refine wp_ret ?_
      refine ret1 E rfl rfl ?_
      exact ⟨_, rfl, by simp [goodB, *], HW.own⟩

/-! rejoinder/rejoinderref14.Check -/
set_option maxRecDepth 100000 in
theorem rCheck_calls (p0 : Int) (A1 A2 A3 : Option Addr) (c1 c2 c3 : Nat) (acc : List Bool) (gd : List Int) (nodes : List Nd) (w0 : World) (hl1 : acc.length ≤ 140737488351232) (hl2 : gd.length ≤ 140737488351232) (hl3 : nodes.length ≤ 140737488351232) (H1 : C cBool w0 (Lo w0.heap.size) A1 acc) (H2 : C (cInt .i64) w0 (Lo w0.heap.size) A2 gd) (H3 : C cNode w0 (Lo w0.heap.size) A3 nodes) :
    Calls Try.prog 31 #[.agg #[.int .i64 p0, .slice A1 acc.length c1, .slice A2 gd.length c2, .slice A3 nodes.length c3]] w0 fun e w' => ∃ v, e = .returned v ∧ (v = .int .i64 (checkV p0 acc.length gd nodes) ∧ Ext w0 w') := by
  have HW : Chg (Hi w0.heap.size) w0 w0 := Chg.refl _ _
  refine enterV (n := 121) Try.func31 rfl rfl rfl ?_
  intro a E
  replace E := E.pick [(0, .agg #[.int .i64 p0, .slice A1 acc.length c1, .slice A2 gd.length c2, .slice A3 nodes.length c3])] ⟨rfl, trivial⟩
  refine wp_seq ?_
  refine wp_region_lit ?_
  refine e_box E rfl rfl rfl ?_
  intro w2 g1 a hc3 hg4 B5 E_
  replace E := E_ _ rfl; clear E_
  replace B5 : Bx w2 g1 26 [.int .i64 p0, .slice A1 acc.length c1, .slice A2 gd.length c2, .slice A3 nodes.length c3] := B5
  have hi_g1 : w0.heap.size ≤ g1 := Nat.le_trans HW.size hg4
  replace HW := HW.trans hc3 (fun _ _ h_ => h_.elim)
  refine vrun (w := w2) (lp := [(1, .pointer (some ⟨g1, 0, none⟩))]) (φ := []) tbok 1 [] [1] E (by kernel_rfl) trivial ?_
  clear E; intro a E
  refine wpList_nil ?_
  refine th_n ?_
  refine wp_seq ?_
  refine wp_seq ?_
  refine wp_region_lit ?_
  refine vrun (w := w2) (lp := [(1, .pointer (some ⟨g1, 0, none⟩)), (10, .bool (decide (p0 < 0)))]) (φ := [World.cell? w2 ⟨g1, 0, none⟩ = some (.int .i64 p0)]) tbok 4 [.int .i64 p0] [1, 10] E (by kernel_rfl) (B5.cell (j := 0) rfl) ?_
  clear E; intro a E
  refine E.cases (t := 10) rfl (fun hb_ E_ => ?_) (fun hb_ E_ => ?_)
  · replace E := E_; clear E_
    have h6 : p0 < 0 := of_decide_eq_true hb_
    clear hb_
    refine vrun (w := w2) (lp := [(1, .pointer (some ⟨g1, 0, none⟩)), (41, .bool true)]) (φ := []) tbok 31 [] [1, 41] E (by kernel_rfl) trivial ?_
    clear E; intro a E
    refine wpList_nil ?_
    refine th_n ?_
    refine c_true E rfl ?_
    refine wp_seq ?_
    refine wp_region_lit ?_
    refine vrun (w := w2) (lp := [(2, .int .i64 12)]) (φ := []) tbok 1 [] [2] E (by kernel_rfl) trivial ?_
    clear E; intro a E
    refine wpList_nil ?_
    refine th_n ?_
    refine wp_ret ?_
    refine th_ret ?_
    refine ret1 E rfl rfl ?_
    refine ⟨_, rfl, ?_, HW.own⟩
    rw [checkV_bad (fun h => ?_)]
    have h1 := h.p0; have h2 := h.p8; have h3 := h.n1; have h4 := h.n256; have h5 := h.gl; have h6 := h.nl; omega
  · replace E := E_; clear E_
    have h7 : ¬ (p0 < 0) := of_decide_eq_false hb_
    clear hb_
    refine vrun (w := w2) (lp := [(1, .pointer (some ⟨g1, 0, none⟩)), (15, .bool (decide (8 < p0)))]) (φ := [World.cell? w2 ⟨g1, 0, none⟩ = some (.int .i64 p0)]) tbok 5 [.int .i64 p0] [1, 15] E (by kernel_rfl) (B5.cell (j := 0) rfl) ?_
    clear E; intro a E
    refine E.cases (t := 15) rfl (fun hb_ E_ => ?_) (fun hb_ E_ => ?_)
    · replace E := E_; clear E_
      have h8 : 8 < p0 := of_decide_eq_true hb_
      clear hb_
      refine vrun (w := w2) (lp := [(1, .pointer (some ⟨g1, 0, none⟩)), (41, .bool true)]) (φ := []) tbok 26 [] [1, 41] E (by kernel_rfl) trivial ?_
      clear E; intro a E
      refine wpList_nil ?_
      refine th_n ?_
      refine c_true E rfl ?_
      refine wp_seq ?_
      refine wp_region_lit ?_
      refine vrun (w := w2) (lp := [(2, .int .i64 12)]) (φ := []) tbok 1 [] [2] E (by kernel_rfl) trivial ?_
      clear E; intro a E
      refine wpList_nil ?_
      refine th_n ?_
      refine wp_ret ?_
      refine th_ret ?_
      refine ret1 E rfl rfl ?_
      refine ⟨_, rfl, ?_, HW.own⟩
      rw [checkV_bad (fun h => ?_)]
      have h1 := h.p0; have h2 := h.p8; have h3 := h.n1; have h4 := h.n256; have h5 := h.gl; have h6 := h.nl; omega
    · replace E := E_; clear E_
      have h9 : ¬ (8 < p0) := of_decide_eq_false hb_
      clear hb_
      refine vrun (w := w2) (lp := [(1, .pointer (some ⟨g1, 0, none⟩)), (21, .bool (decide (((acc.length : Nat) : Int) < 1)))]) (φ := [World.cell? w2 ⟨g1, 1, none⟩ = some (.slice A1 acc.length c1)]) tbok 6 [.slice A1 acc.length c1] [1, 21] E (by kernel_rfl) (B5.cell (j := 1) rfl) ?_
      clear E; intro a E
      refine E.cases (t := 21) rfl (fun hb_ E_ => ?_) (fun hb_ E_ => ?_)
      · replace E := E_; clear E_
        have h10 : ((acc.length : Nat) : Int) < 1 := of_decide_eq_true hb_
        clear hb_
        refine vrun (w := w2) (lp := [(1, .pointer (some ⟨g1, 0, none⟩)), (41, .bool true)]) (φ := []) tbok 20 [] [1, 41] E (by kernel_rfl) trivial ?_
        clear E; intro a E
        refine wpList_nil ?_
        refine th_n ?_
        refine c_true E rfl ?_
        refine wp_seq ?_
        refine wp_region_lit ?_
        refine vrun (w := w2) (lp := [(2, .int .i64 12)]) (φ := []) tbok 1 [] [2] E (by kernel_rfl) trivial ?_
        clear E; intro a E
        refine wpList_nil ?_
        refine th_n ?_
        refine wp_ret ?_
        refine th_ret ?_
        refine ret1 E rfl rfl ?_
        refine ⟨_, rfl, ?_, HW.own⟩
        rw [checkV_bad (fun h => ?_)]
        have h1 := h.p0; have h2 := h.p8; have h3 := h.n1; have h4 := h.n256; have h5 := h.gl; have h6 := h.nl; omega
      · replace E := E_; clear E_
        have h11 : ¬ (((acc.length : Nat) : Int) < 1) := of_decide_eq_false hb_
        clear hb_
        refine vrun (w := w2) (lp := [(1, .pointer (some ⟨g1, 0, none⟩)), (27, .bool (decide (256 < ((acc.length : Nat) : Int))))]) (φ := [World.cell? w2 ⟨g1, 1, none⟩ = some (.slice A1 acc.length c1)]) tbok 6 [.slice A1 acc.length c1] [1, 27] E (by kernel_rfl) (B5.cell (j := 1) rfl) ?_
        clear E; intro a E
        refine E.cases (t := 27) rfl (fun hb_ E_ => ?_) (fun hb_ E_ => ?_)
        · replace E := E_; clear E_
          have h12 : 256 < ((acc.length : Nat) : Int) := of_decide_eq_true hb_
          clear hb_
          refine vrun (w := w2) (lp := [(1, .pointer (some ⟨g1, 0, none⟩)), (41, .bool true)]) (φ := []) tbok 14 [] [1, 41] E (by kernel_rfl) trivial ?_
          clear E; intro a E
          refine wpList_nil ?_
          refine th_n ?_
          refine c_true E rfl ?_
          refine wp_seq ?_
          refine wp_region_lit ?_
          refine vrun (w := w2) (lp := [(2, .int .i64 12)]) (φ := []) tbok 1 [] [2] E (by kernel_rfl) trivial ?_
          clear E; intro a E
          refine wpList_nil ?_
          refine th_n ?_
          refine wp_ret ?_
          refine th_ret ?_
          refine ret1 E rfl rfl ?_
          refine ⟨_, rfl, ?_, HW.own⟩
          rw [checkV_bad (fun h => ?_)]
          have h1 := h.p0; have h2 := h.p8; have h3 := h.n1; have h4 := h.n256; have h5 := h.gl; have h6 := h.nl; omega
        · replace E := E_; clear E_
          have h13 : ¬ (256 < ((acc.length : Nat) : Int)) := of_decide_eq_false hb_
          clear hb_
          refine vrun (w := w2) (lp := [(1, .pointer (some ⟨g1, 0, none⟩)), (36, .bool ((((gd.length : Nat) : Int) : Int) != ((acc.length : Nat) : Int)))]) (φ := [World.cell? w2 ⟨g1, 2, none⟩ = some (.slice A2 gd.length c2), World.cell? w2 ⟨g1, 1, none⟩ = some (.slice A1 acc.length c1)]) tbok 9 [.slice A2 gd.length c2, .slice A1 acc.length c1] [1, 36] E (by kernel_rfl) ⟨B5.cell (j := 2) rfl, B5.cell (j := 1) rfl⟩ ?_
          clear E; intro a E
          refine E.cases (t := 36) rfl (fun hb_ E_ => ?_) (fun hb_ E_ => ?_)
          · replace E := E_; clear E_
            have h14 : ¬ ((((gd.length : Nat) : Int) : Int) = ((acc.length : Nat) : Int)) := bne_iff_ne.1 hb_
            clear hb_
            refine vrun (w := w2) (lp := [(1, .pointer (some ⟨g1, 0, none⟩)), (41, .bool true)]) (φ := []) tbok 5 [] [1, 41] E (by kernel_rfl) trivial ?_
            clear E; intro a E
            refine wpList_nil ?_
            refine th_n ?_
            refine c_true E rfl ?_
            refine wp_seq ?_
            refine wp_region_lit ?_
            refine vrun (w := w2) (lp := [(2, .int .i64 12)]) (φ := []) tbok 1 [] [2] E (by kernel_rfl) trivial ?_
            clear E; intro a E
            refine wpList_nil ?_
            refine th_n ?_
            refine wp_ret ?_
            refine th_ret ?_
            refine ret1 E rfl rfl ?_
            refine ⟨_, rfl, ?_, HW.own⟩
            rw [checkV_bad (fun h => ?_)]
            have h1 := h.p0; have h2 := h.p8; have h3 := h.n1; have h4 := h.n256; have h5 := h.gl; have h6 := h.nl; omega
          · replace E := E_; clear E_
            have h15 : (((gd.length : Nat) : Int) : Int) = ((acc.length : Nat) : Int) := bne_eq_false_iff_eq.1 hb_
            clear hb_
            refine vrun (w := w2) (lp := [(1, .pointer (some ⟨g1, 0, none⟩)), (41, .bool (decide (4096 < ((nodes.length : Nat) : Int))))]) (φ := [World.cell? w2 ⟨g1, 3, none⟩ = some (.slice A3 nodes.length c3)]) tbok 5 [.slice A3 nodes.length c3] [1, 41] E (by kernel_rfl) (B5.cell (j := 3) rfl) ?_
            clear E; intro a E
            refine wpList_nil ?_
            refine th_n ?_
            refine E.cases (t := 41) rfl (fun hb_ E_ => ?_) (fun hb_ E_ => ?_)
            · replace E := E_; clear E_
              have h16 : 4096 < ((nodes.length : Nat) : Int) := of_decide_eq_true hb_
              clear hb_
              refine c_true E rfl ?_
              refine wp_seq ?_
              refine wp_region_lit ?_
              refine vrun (w := w2) (lp := [(2, .int .i64 12)]) (φ := []) tbok 1 [] [2] E (by kernel_rfl) trivial ?_
              clear E; intro a E
              refine wpList_nil ?_
              refine th_n ?_
              refine wp_ret ?_
              refine th_ret ?_
              refine ret1 E rfl rfl ?_
              refine ⟨_, rfl, ?_, HW.own⟩
              rw [checkV_bad (fun h => ?_)]
              have h1 := h.p0; have h2 := h.p8; have h3 := h.n1; have h4 := h.n256; have h5 := h.gl; have h6 := h.nl; omega
            · replace E := E_; clear E_
              have h17 : ¬ (4096 < ((nodes.length : Nat) : Int)) := of_decide_eq_false hb_
              clear hb_
              refine c_false E rfl ?_
              refine wp_skip ?_
              refine th_n ?_
              refine wp_seq ?_
              refine wp_seq ?_
              refine wp_region_lit ?_
              refine vrun (w := w2) (lp := [(1, .pointer (some ⟨g1, 0, none⟩)), (3, .int .i64 0)]) (φ := []) tbok 1 [] [1, 3] E (by kernel_rfl) trivial ?_
              clear E; intro a E
              refine wpList_nil ?_
              refine th_n ?_
              refine wp_block ?_
              refine loopV (fun m19 a w18 => ∃ (k : Nat), Fr a 121 [(1, .pointer (some ⟨g1, 0, none⟩)), (3, .int .i64 (k : Int))] ∧ Chg (Hi w0.heap.size) w0 w18 ∧ Bx w18 g1 26 [.int .i64 p0, .slice A1 acc.length c1, .slice A2 gd.length c2, .slice A3 nodes.length c3] ∧ (k ≤ nodes.length) ∧ (∀ i, i < k → NodeOk p0 acc.length nodes i) ∧ m19 = nodes.length - k) (nodes.length - (0)) ?_ ?_
              · skip
                exact ⟨0, E.pick _ ⟨rfl, rfl, trivial⟩, HW, B5, (by omega), (fun i hi => absurd hi (by omega)), rfl⟩
              · clear E HW; intro m19 a w18 hI_
                obtain ⟨k, hI_⟩ := hI_
                clear B5
                obtain ⟨E, HW, B5, hk, hI, hm_m19⟩ := hI_
                refine wp_seq ?_
                refine wp_seq ?_
                refine wp_region_lit ?_
                refine vrun (w := w18) (lp := [(1, .pointer (some ⟨g1, 0, none⟩)), (3, .int .i64 (k : Int)), (46, .bool (decide ((k : Int) < ((nodes.length : Nat) : Int))))]) (φ := [World.cell? w18 ⟨g1, 3, none⟩ = some (.slice A3 nodes.length c3)]) tbok 5 [.slice A3 nodes.length c3] [1, 3, 46] E (by kernel_rfl) (B5.cell (j := 3) rfl) ?_
                clear E; intro a E
                refine wpList_nil ?_
                refine th_n ?_
                refine E.cases (t := 46) rfl (fun hb_ E_ => ?_) (fun hb_ E_ => ?_)
                · replace E := E_; clear E_
                  have h20 : (k : Int) < ((nodes.length : Nat) : Int) := of_decide_eq_true hb_
                  clear hb_
                  refine c_true E rfl ?_
                  refine wp_skip ?_
                  refine th_n ?_
                  refine wp_seq ?_
                  refine wp_block ?_
                  refine wp_seq ?_
                  refine wp_region_lit ?_
                  have hx_52 : 0 ≤ (k : Int) ∧ (k : Int) < ((nodes.length : Nat) : Int) := ⟨by omega, by omega⟩
                  obtain ⟨b21, o22, e_b21⟩ := H3.addr (by omega)
                  subst e_b21
                  refine vrun (w := w18) (lp := [(1, .pointer (some ⟨g1, 0, none⟩)), (3, .int .i64 (k : Int)), (53, .agg #[.int .i64 ((List.getD nodes (Int.toNat (k : Int)) default).P), .int .i64 ((List.getD nodes (Int.toNat (k : Int)) default).Lo), .int .i64 ((List.getD nodes (Int.toNat (k : Int)) default).Hi)])]) (φ := [World.cell? w18 ⟨g1, 3, none⟩ = some (.slice (some ⟨b21, o22, none⟩) nodes.length c3), 0 ≤ (k : Int) ∧ (k : Int) < ((nodes.length : Nat) : Int), cellsAt w18 b21 (o22 + (Int.toNat (k : Int)) * 3) [.int .i64 ((List.getD nodes (Int.toNat (k : Int)) default).P), .int .i64 ((List.getD nodes (Int.toNat (k : Int)) default).Lo), .int .i64 ((List.getD nodes (Int.toNat (k : Int)) default).Hi)]]) tbok 5 [.slice (some ⟨b21, o22, none⟩) nodes.length c3, .agg #[.int .i64 ((List.getD nodes (Int.toNat (k : Int)) default).P), .int .i64 ((List.getD nodes (Int.toNat (k : Int)) default).Lo), .int .i64 ((List.getD nodes (Int.toNat (k : Int)) default).Hi)]] [1, 3, 53] E (by kernel_rfl) ⟨B5.cell (j := 3) rfl, hx_52, C.atP (H3.keep HW lo_hi) default hx_52.1 hx_52.2⟩ ?_
                  clear E; intro a E
                  refine e_alloc E rfl rfl tbok rfl ?_
                  intro w24 g23 a hc25 hg26 B27 E_
                  replace E := E_ _ rfl; clear E_
                  replace B27 : Bx w24 g23 57 [.int .i64 0, .int .i64 0, .int .i64 0] := B27
                  have hi_g23 : w0.heap.size ≤ g23 := Nat.le_trans HW.size hg26
                  have ne_g1_g23 : g1 ≠ g23 := by have h_ := B5.lt; omega
                  replace B5 := B5.chg hc25 (fun h_ => h_)
                  replace HW := HW.trans hc25 (fun _ _ h_ => h_.elim)
                  refine e_store (g := g23) (off := 0) E rfl rfl rfl rfl tbok rfl B27 rfl rfl rfl rfl ?_
                  clear E; intro w28 a hc29 B27 E
                  replace B27 : Bx w28 g23 57 [.int .i64 ((List.getD nodes (Int.toNat (k : Int)) default).P), .int .i64 ((List.getD nodes (Int.toNat (k : Int)) default).Lo), .int .i64 ((List.getD nodes (Int.toNat (k : Int)) default).Hi)] := B27
                  replace B5 := B5.chg hc29 (fun h_ => ne_g1_g23 h_)
                  replace HW := HW.trans hc29 (fun _ _ h_ => by subst h_; exact hi_g23)
                  refine wpList_nil ?_
                  refine th_n ?_
                  refine wp_seq ?_
                  refine wp_seq ?_
                  refine wp_region_lit ?_
                  refine vrun (w := w28) (lp := [(1, .pointer (some ⟨g1, 0, none⟩)), (3, .int .i64 (k : Int)), (4, .pointer (some ⟨g23, 0, none⟩)), (57, .bool (decide (((List.getD nodes (Int.toNat (k : Int)) default).P) < 0)))]) (φ := [World.cell? w28 ⟨g23, 0, none⟩ = some (.int .i64 ((List.getD nodes (Int.toNat (k : Int)) default).P))]) tbok 4 [.int .i64 ((List.getD nodes (Int.toNat (k : Int)) default).P)] [1, 3, 4, 57] E (by kernel_rfl) (B27.cell (j := 0) rfl) ?_
                  clear E; intro a E
                  refine E.cases (t := 57) rfl (fun hb_ E_ => ?_) (fun hb_ E_ => ?_)
                  · replace E := E_; clear E_
                    have h30 : ((List.getD nodes (Int.toNat (k : Int)) default).P) < 0 := of_decide_eq_true hb_
                    clear hb_
                    refine vrun (w := w28) (lp := [(1, .pointer (some ⟨g1, 0, none⟩)), (3, .int .i64 (k : Int)), (4, .pointer (some ⟨g23, 0, none⟩)), (58, .tuple #[]), (59, .tuple #[]), (60, .tuple #[]), (61, .tuple #[]), (62, .tuple #[]), (65, .tuple #[]), (66, .tuple #[]), (67, .tuple #[]), (68, .tuple #[]), (69, .tuple #[]), (72, .tuple #[]), (73, .tuple #[]), (74, .tuple #[]), (75, .tuple #[]), (76, .tuple #[]), (77, .tuple #[]), (78, .tuple #[]), (79, .tuple #[]), (82, .tuple #[]), (83, .tuple #[]), (84, .tuple #[]), (85, .tuple #[]), (86, .tuple #[]), (87, .tuple #[]), (88, .tuple #[]), (89, .tuple #[]), (90, .bool true)]) (φ := []) tbok 33 [] [1, 3, 4, 58, 59, 60, 61, 62, 65, 66, 67, 68, 69, 72, 73, 74, 75, 76, 77, 78, 79, 82, 83, 84, 85, 86, 87, 88, 89, 90] E (by kernel_rfl) trivial ?_
                    clear E; intro a E
                    refine wpList_nil ?_
                    refine th_n ?_
                    refine c_true E rfl ?_
                    refine wp_seq ?_
                    refine wp_region_lit ?_
                    refine vrun (w := w28) (lp := [(2, .int .i64 12)]) (φ := []) tbok 1 [] [2] E (by kernel_rfl) trivial ?_
                    clear E; intro a E
                    refine wpList_nil ?_
                    refine th_n ?_
                    refine wp_ret ?_
                    refine th_ret ?_
                    refine bl_ret ?_
                    refine th_ret ?_
                    refine th_ret ?_
                    refine bl_ret ?_
                    refine th_ret ?_
                    refine ret1 E rfl rfl ?_
                    refine ⟨_, rfl, ?_, HW.own⟩
                    rw [checkV_bad (fun h => ?_)]
                    have h7 := h.nd k (by omega)
                    have h8 := h7.p0; have h9 := h7.pp; have h10 := h7.ne; simp only [Int.toNat_natCast] at *; omega
                  · replace E := E_; clear E_
                    have h31 : ¬ (((List.getD nodes (Int.toNat (k : Int)) default).P) < 0) := of_decide_eq_false hb_
                    clear hb_
                    refine vrun (w := w28) (lp := [(1, .pointer (some ⟨g1, 0, none⟩)), (3, .int .i64 (k : Int)), (4, .pointer (some ⟨g23, 0, none⟩)), (58, .pointer (some ⟨g23, 0, none⟩)), (59, .int .i64 ((List.getD nodes (Int.toNat (k : Int)) default).P)), (60, .pointer (some ⟨g1, 0, none⟩)), (61, .int .i64 p0), (62, .bool (decide (p0 ≤ ((List.getD nodes (Int.toNat (k : Int)) default).P)))), (64, .bool (decide (p0 ≤ ((List.getD nodes (Int.toNat (k : Int)) default).P))))]) (φ := [World.cell? w28 ⟨g23, 0, none⟩ = some (.int .i64 ((List.getD nodes (Int.toNat (k : Int)) default).P)), World.cell? w28 ⟨g1, 0, none⟩ = some (.int .i64 p0)]) tbok 7 [.int .i64 ((List.getD nodes (Int.toNat (k : Int)) default).P), .int .i64 p0] [1, 3, 4, 58, 59, 60, 61, 62, 64] E (by kernel_rfl) ⟨B27.cell (j := 0) rfl, B5.cell (j := 0) rfl⟩ ?_
                    clear E; intro a E
                    refine E.cases (t := 64) rfl (fun hb_ E_ => ?_) (fun hb_ E_ => ?_)
                    · replace E := E_; clear E_
                      have h32 : p0 ≤ ((List.getD nodes (Int.toNat (k : Int)) default).P) := of_decide_eq_true hb_
                      clear hb_
                      refine vrun (w := w28) (lp := [(1, .pointer (some ⟨g1, 0, none⟩)), (3, .int .i64 (k : Int)), (4, .pointer (some ⟨g23, 0, none⟩)), (58, .pointer (some ⟨g23, 0, none⟩)), (59, .int .i64 ((List.getD nodes (Int.toNat (k : Int)) default).P)), (60, .pointer (some ⟨g1, 0, none⟩)), (61, .int .i64 p0), (62, .bool (decide (p0 ≤ ((List.getD nodes (Int.toNat (k : Int)) default).P)))), (65, .tuple #[]), (66, .tuple #[]), (67, .tuple #[]), (68, .tuple #[]), (69, .tuple #[]), (72, .tuple #[]), (73, .tuple #[]), (74, .tuple #[]), (75, .tuple #[]), (76, .tuple #[]), (77, .tuple #[]), (78, .tuple #[]), (79, .tuple #[]), (82, .tuple #[]), (83, .tuple #[]), (84, .tuple #[]), (85, .tuple #[]), (86, .tuple #[]), (87, .tuple #[]), (88, .tuple #[]), (89, .tuple #[]), (90, .bool true)]) (φ := []) tbok 26 [] [1, 3, 4, 58, 59, 60, 61, 62, 65, 66, 67, 68, 69, 72, 73, 74, 75, 76, 77, 78, 79, 82, 83, 84, 85, 86, 87, 88, 89, 90] E (by kernel_rfl) trivial ?_
                      clear E; intro a E
                      refine wpList_nil ?_
                      refine th_n ?_
                      refine c_true E rfl ?_
                      refine wp_seq ?_
                      refine wp_region_lit ?_
                      refine vrun (w := w28) (lp := [(2, .int .i64 12)]) (φ := []) tbok 1 [] [2] E (by kernel_rfl) trivial ?_
                      clear E; intro a E
                      refine wpList_nil ?_
                      refine th_n ?_
                      refine wp_ret ?_
                      refine th_ret ?_
                      refine bl_ret ?_
                      refine th_ret ?_
                      refine th_ret ?_
                      refine bl_ret ?_
                      refine th_ret ?_
                      refine ret1 E rfl rfl ?_
                      refine ⟨_, rfl, ?_, HW.own⟩
                      rw [checkV_bad (fun h => ?_)]
                      have h7 := h.nd k (by omega)
                      have h8 := h7.p0; have h9 := h7.pp; have h10 := h7.ne; simp only [Int.toNat_natCast] at *; omega
                    · replace E := E_; clear E_
                      have h33 : ¬ (p0 ≤ ((List.getD nodes (Int.toNat (k : Int)) default).P)) := of_decide_eq_false hb_
                      clear hb_
                      refine vrun (w := w28) (lp := [(1, .pointer (some ⟨g1, 0, none⟩)), (3, .int .i64 (k : Int)), (4, .pointer (some ⟨g23, 0, none⟩)), (58, .pointer (some ⟨g23, 0, none⟩)), (59, .int .i64 ((List.getD nodes (Int.toNat (k : Int)) default).P)), (60, .pointer (some ⟨g1, 0, none⟩)), (61, .int .i64 p0), (62, .bool (decide (p0 ≤ ((List.getD nodes (Int.toNat (k : Int)) default).P)))), (65, .pointer (some ⟨g23, 1, none⟩)), (66, .int .i64 ((List.getD nodes (Int.toNat (k : Int)) default).Lo)), (67, .pointer (some ⟨g23, 2, none⟩)), (68, .int .i64 ((List.getD nodes (Int.toNat (k : Int)) default).Hi)), (69, .bool (((List.getD nodes (Int.toNat (k : Int)) default).Lo : Int) == ((List.getD nodes (Int.toNat (k : Int)) default).Hi))), (71, .bool (((List.getD nodes (Int.toNat (k : Int)) default).Lo : Int) == ((List.getD nodes (Int.toNat (k : Int)) default).Hi)))]) (φ := [World.cell? w28 ⟨g23, 1, none⟩ = some (.int .i64 ((List.getD nodes (Int.toNat (k : Int)) default).Lo)), World.cell? w28 ⟨g23, 2, none⟩ = some (.int .i64 ((List.getD nodes (Int.toNat (k : Int)) default).Hi))]) tbok 7 [.int .i64 ((List.getD nodes (Int.toNat (k : Int)) default).Lo), .int .i64 ((List.getD nodes (Int.toNat (k : Int)) default).Hi)] [1, 3, 4, 58, 59, 60, 61, 62, 65, 66, 67, 68, 69, 71] E (by kernel_rfl) ⟨B27.cell (j := 1) rfl, B27.cell (j := 2) rfl⟩ ?_
                      clear E; intro a E
                      refine E.cases (t := 71) rfl (fun hb_ E_ => ?_) (fun hb_ E_ => ?_)
                      · replace E := E_; clear E_
                        have h34 : ((List.getD nodes (Int.toNat (k : Int)) default).Lo : Int) = (List.getD nodes (Int.toNat (k : Int)) default).Hi := eq_of_beq hb_
                        clear hb_
                        refine vrun (w := w28) (lp := [(1, .pointer (some ⟨g1, 0, none⟩)), (3, .int .i64 (k : Int)), (4, .pointer (some ⟨g23, 0, none⟩)), (58, .pointer (some ⟨g23, 0, none⟩)), (59, .int .i64 ((List.getD nodes (Int.toNat (k : Int)) default).P)), (60, .pointer (some ⟨g1, 0, none⟩)), (61, .int .i64 p0), (62, .bool (decide (p0 ≤ ((List.getD nodes (Int.toNat (k : Int)) default).P)))), (65, .pointer (some ⟨g23, 1, none⟩)), (66, .int .i64 ((List.getD nodes (Int.toNat (k : Int)) default).Lo)), (67, .pointer (some ⟨g23, 2, none⟩)), (68, .int .i64 ((List.getD nodes (Int.toNat (k : Int)) default).Hi)), (69, .bool (((List.getD nodes (Int.toNat (k : Int)) default).Lo : Int) == ((List.getD nodes (Int.toNat (k : Int)) default).Hi))), (72, .tuple #[]), (73, .tuple #[]), (74, .tuple #[]), (75, .tuple #[]), (76, .tuple #[]), (77, .tuple #[]), (78, .tuple #[]), (79, .tuple #[]), (82, .tuple #[]), (83, .tuple #[]), (84, .tuple #[]), (85, .tuple #[]), (86, .tuple #[]), (87, .tuple #[]), (88, .tuple #[]), (89, .tuple #[]), (90, .bool true)]) (φ := []) tbok 19 [] [1, 3, 4, 58, 59, 60, 61, 62, 65, 66, 67, 68, 69, 72, 73, 74, 75, 76, 77, 78, 79, 82, 83, 84, 85, 86, 87, 88, 89, 90] E (by kernel_rfl) trivial ?_
                        clear E; intro a E
                        refine wpList_nil ?_
                        refine th_n ?_
                        refine c_true E rfl ?_
                        refine wp_seq ?_
                        refine wp_region_lit ?_
                        refine vrun (w := w28) (lp := [(2, .int .i64 12)]) (φ := []) tbok 1 [] [2] E (by kernel_rfl) trivial ?_
                        clear E; intro a E
                        refine wpList_nil ?_
                        refine th_n ?_
                        refine wp_ret ?_
                        refine th_ret ?_
                        refine bl_ret ?_
                        refine th_ret ?_
                        refine th_ret ?_
                        refine bl_ret ?_
                        refine th_ret ?_
                        refine ret1 E rfl rfl ?_
                        refine ⟨_, rfl, ?_, HW.own⟩
                        rw [checkV_bad (fun h => ?_)]
                        have h7 := h.nd k (by omega)
                        have h8 := h7.p0; have h9 := h7.pp; have h10 := h7.ne; simp only [Int.toNat_natCast] at *; omega
                      · replace E := E_; clear E_
                        have h35 : ¬ (((List.getD nodes (Int.toNat (k : Int)) default).Lo : Int) = (List.getD nodes (Int.toNat (k : Int)) default).Hi) := ne_of_beq_false hb_
                        clear hb_
                        refine vrun (w := w28) (lp := [(1, .pointer (some ⟨g1, 0, none⟩)), (3, .int .i64 (k : Int)), (4, .pointer (some ⟨g23, 0, none⟩)), (58, .pointer (some ⟨g23, 0, none⟩)), (59, .int .i64 ((List.getD nodes (Int.toNat (k : Int)) default).P)), (60, .pointer (some ⟨g1, 0, none⟩)), (61, .int .i64 p0), (62, .bool (decide (p0 ≤ ((List.getD nodes (Int.toNat (k : Int)) default).P)))), (65, .pointer (some ⟨g23, 1, none⟩)), (66, .int .i64 ((List.getD nodes (Int.toNat (k : Int)) default).Lo)), (67, .pointer (some ⟨g23, 2, none⟩)), (68, .int .i64 ((List.getD nodes (Int.toNat (k : Int)) default).Hi)), (69, .bool (((List.getD nodes (Int.toNat (k : Int)) default).Lo : Int) == ((List.getD nodes (Int.toNat (k : Int)) default).Hi))), (71, .bool false), (72, .agg #[.int .i64 p0, .slice A1 acc.length c1, .slice A2 gd.length c2, .slice (some ⟨b21, o22, none⟩) nodes.length c3]), (73, .pointer (some ⟨g23, 1, none⟩)), (74, .int .i64 ((List.getD nodes (Int.toNat (k : Int)) default).Lo)), (75, .int .i64 (k : Int)), (76, .pointer (some ⟨g23, 0, none⟩)), (77, .int .i64 ((List.getD nodes (Int.toNat (k : Int)) default).P))]) (φ := [cellsAt w28 g1 (0) [.int .i64 p0, .slice A1 acc.length c1, .slice A2 gd.length c2, .slice (some ⟨b21, o22, none⟩) nodes.length c3], World.cell? w28 ⟨g23, 1, none⟩ = some (.int .i64 ((List.getD nodes (Int.toNat (k : Int)) default).Lo)), World.cell? w28 ⟨g23, 0, none⟩ = some (.int .i64 ((List.getD nodes (Int.toNat (k : Int)) default).P))]) tbok 6 [.agg #[.int .i64 p0, .slice A1 acc.length c1, .slice A2 gd.length c2, .slice (some ⟨b21, o22, none⟩) nodes.length c3], .int .i64 ((List.getD nodes (Int.toNat (k : Int)) default).Lo), .int .i64 ((List.getD nodes (Int.toNat (k : Int)) default).P)] [1, 3, 4, 58, 59, 60, 61, 62, 65, 66, 67, 68, 69, 71, 72, 73, 74, 75, 76, 77] E (by kernel_rfl) ⟨B5.sub 0 _ rfl, B27.cell (j := 1) rfl, B27.cell (j := 0) rfl⟩ ?_
                        clear E; intro a E
                        refine e_call E rfl rfl Try.func57 rfl rfl rfl (fits_calls p0 A1 A2 (some ⟨b21, o22, none⟩) c1 c2 c3 acc gd nodes ((List.getD nodes (Int.toNat (k : Int)) default).Lo) (k : Int) ((List.getD nodes (Int.toNat (k : Int)) default).P) _ (by omega) (by omega) (H3.now HW)) ?_
                        intro v36 w37 a hR38 E_
                        obtain ⟨rfl, hc39⟩ := hR38
                        replace E := E_ _ rfl; clear E_
                        replace B5 := B5.chg hc39 (fun h_ => h_)
                        replace B27 := B27.chg hc39 (fun h_ => h_)
                        replace HW := HW.trans hc39 (fun _ _ h_ => h_.elim)
                        refine vrun (w := w37) (lp := [(1, .pointer (some ⟨g1, 0, none⟩)), (3, .int .i64 (k : Int)), (4, .pointer (some ⟨g23, 0, none⟩)), (58, .pointer (some ⟨g23, 0, none⟩)), (59, .int .i64 ((List.getD nodes (Int.toNat (k : Int)) default).P)), (60, .pointer (some ⟨g1, 0, none⟩)), (61, .int .i64 p0), (62, .bool (decide (p0 ≤ ((List.getD nodes (Int.toNat (k : Int)) default).P)))), (65, .pointer (some ⟨g23, 1, none⟩)), (66, .int .i64 ((List.getD nodes (Int.toNat (k : Int)) default).Lo)), (67, .pointer (some ⟨g23, 2, none⟩)), (68, .int .i64 ((List.getD nodes (Int.toNat (k : Int)) default).Hi)), (69, .bool (((List.getD nodes (Int.toNat (k : Int)) default).Lo : Int) == ((List.getD nodes (Int.toNat (k : Int)) default).Hi))), (72, .agg #[.int .i64 p0, .slice A1 acc.length c1, .slice A2 gd.length c2, .slice (some ⟨b21, o22, none⟩) nodes.length c3]), (73, .pointer (some ⟨g23, 1, none⟩)), (74, .int .i64 ((List.getD nodes (Int.toNat (k : Int)) default).Lo)), (75, .int .i64 (k : Int)), (76, .pointer (some ⟨g23, 0, none⟩)), (77, .int .i64 ((List.getD nodes (Int.toNat (k : Int)) default).P)), (78, .bool (goodB acc.length nodes ((List.getD nodes (Int.toNat (k : Int)) default).Lo) (k : Int) ((List.getD nodes (Int.toNat (k : Int)) default).P))), (79, .bool (!(goodB acc.length nodes ((List.getD nodes (Int.toNat (k : Int)) default).Lo) (k : Int) ((List.getD nodes (Int.toNat (k : Int)) default).P)))), (81, .bool (!(goodB acc.length nodes ((List.getD nodes (Int.toNat (k : Int)) default).Lo) (k : Int) ((List.getD nodes (Int.toNat (k : Int)) default).P))))]) (φ := []) tbok 3 [] [1, 3, 4, 58, 59, 60, 61, 62, 65, 66, 67, 68, 69, 72, 73, 74, 75, 76, 77, 78, 79, 81] E (by kernel_rfl) trivial ?_
                        clear E; intro a E
                        refine E.cases (t := 81) rfl (fun hb_ E_ => ?_) (fun hb_ E_ => ?_)
                        · replace E := E_; clear E_
                          have h40 : goodB acc.length nodes ((List.getD nodes (Int.toNat (k : Int)) default).Lo) (k : Int) ((List.getD nodes (Int.toNat (k : Int)) default).P) = false := not_t hb_
                          clear hb_
                          refine vrun (w := w37) (lp := [(1, .pointer (some ⟨g1, 0, none⟩)), (3, .int .i64 (k : Int)), (4, .pointer (some ⟨g23, 0, none⟩)), (58, .pointer (some ⟨g23, 0, none⟩)), (59, .int .i64 ((List.getD nodes (Int.toNat (k : Int)) default).P)), (60, .pointer (some ⟨g1, 0, none⟩)), (61, .int .i64 p0), (62, .bool (decide (p0 ≤ ((List.getD nodes (Int.toNat (k : Int)) default).P)))), (65, .pointer (some ⟨g23, 1, none⟩)), (66, .int .i64 ((List.getD nodes (Int.toNat (k : Int)) default).Lo)), (67, .pointer (some ⟨g23, 2, none⟩)), (68, .int .i64 ((List.getD nodes (Int.toNat (k : Int)) default).Hi)), (69, .bool (((List.getD nodes (Int.toNat (k : Int)) default).Lo : Int) == ((List.getD nodes (Int.toNat (k : Int)) default).Hi))), (72, .agg #[.int .i64 p0, .slice A1 acc.length c1, .slice A2 gd.length c2, .slice (some ⟨b21, o22, none⟩) nodes.length c3]), (73, .pointer (some ⟨g23, 1, none⟩)), (74, .int .i64 ((List.getD nodes (Int.toNat (k : Int)) default).Lo)), (75, .int .i64 (k : Int)), (76, .pointer (some ⟨g23, 0, none⟩)), (77, .int .i64 ((List.getD nodes (Int.toNat (k : Int)) default).P)), (78, .bool (goodB acc.length nodes ((List.getD nodes (Int.toNat (k : Int)) default).Lo) (k : Int) ((List.getD nodes (Int.toNat (k : Int)) default).P))), (79, .bool (!(goodB acc.length nodes ((List.getD nodes (Int.toNat (k : Int)) default).Lo) (k : Int) ((List.getD nodes (Int.toNat (k : Int)) default).P)))), (82, .tuple #[]), (83, .tuple #[]), (84, .tuple #[]), (85, .tuple #[]), (86, .tuple #[]), (87, .tuple #[]), (88, .tuple #[]), (89, .tuple #[]), (90, .bool true)]) (φ := []) tbok 9 [] [1, 3, 4, 58, 59, 60, 61, 62, 65, 66, 67, 68, 69, 72, 73, 74, 75, 76, 77, 78, 79, 82, 83, 84, 85, 86, 87, 88, 89, 90] E (by kernel_rfl) trivial ?_
                          clear E; intro a E
                          refine wpList_nil ?_
                          refine th_n ?_
                          refine c_true E rfl ?_
                          refine wp_seq ?_
                          refine wp_region_lit ?_
                          refine vrun (w := w37) (lp := [(2, .int .i64 12)]) (φ := []) tbok 1 [] [2] E (by kernel_rfl) trivial ?_
                          clear E; intro a E
                          refine wpList_nil ?_
                          refine th_n ?_
                          refine wp_ret ?_
                          refine th_ret ?_
                          refine bl_ret ?_
                          refine th_ret ?_
                          refine th_ret ?_
                          refine bl_ret ?_
                          refine th_ret ?_
                          refine ret1 E rfl rfl ?_
                          refine ⟨_, rfl, ?_, HW.own⟩
                          rw [checkV_bad (fun h => ?_)]
                          have h7 := h.nd k (by omega)
                          have h8 := h7.lo; have h9 := h7.hi; simp only [Int.toNat_natCast] at *; simp_all
                        · replace E := E_; clear E_
                          have h41 : goodB acc.length nodes ((List.getD nodes (Int.toNat (k : Int)) default).Lo) (k : Int) ((List.getD nodes (Int.toNat (k : Int)) default).P) = true := not_f hb_
                          clear hb_
                          refine vrun (w := w37) (lp := [(1, .pointer (some ⟨g1, 0, none⟩)), (3, .int .i64 (k : Int)), (4, .pointer (some ⟨g23, 0, none⟩)), (58, .pointer (some ⟨g23, 0, none⟩)), (59, .int .i64 ((List.getD nodes (Int.toNat (k : Int)) default).P)), (60, .pointer (some ⟨g1, 0, none⟩)), (61, .int .i64 p0), (62, .bool (decide (p0 ≤ ((List.getD nodes (Int.toNat (k : Int)) default).P)))), (65, .pointer (some ⟨g23, 1, none⟩)), (66, .int .i64 ((List.getD nodes (Int.toNat (k : Int)) default).Lo)), (67, .pointer (some ⟨g23, 2, none⟩)), (68, .int .i64 ((List.getD nodes (Int.toNat (k : Int)) default).Hi)), (69, .bool (((List.getD nodes (Int.toNat (k : Int)) default).Lo : Int) == ((List.getD nodes (Int.toNat (k : Int)) default).Hi))), (72, .agg #[.int .i64 p0, .slice A1 acc.length c1, .slice A2 gd.length c2, .slice (some ⟨b21, o22, none⟩) nodes.length c3]), (73, .pointer (some ⟨g23, 1, none⟩)), (74, .int .i64 ((List.getD nodes (Int.toNat (k : Int)) default).Lo)), (75, .int .i64 (k : Int)), (76, .pointer (some ⟨g23, 0, none⟩)), (77, .int .i64 ((List.getD nodes (Int.toNat (k : Int)) default).P)), (78, .bool (goodB acc.length nodes ((List.getD nodes (Int.toNat (k : Int)) default).Lo) (k : Int) ((List.getD nodes (Int.toNat (k : Int)) default).P))), (79, .bool (!(goodB acc.length nodes ((List.getD nodes (Int.toNat (k : Int)) default).Lo) (k : Int) ((List.getD nodes (Int.toNat (k : Int)) default).P)))), (81, .bool false), (82, .agg #[.int .i64 p0, .slice A1 acc.length c1, .slice A2 gd.length c2, .slice (some ⟨b21, o22, none⟩) nodes.length c3]), (83, .pointer (some ⟨g23, 2, none⟩)), (84, .int .i64 ((List.getD nodes (Int.toNat (k : Int)) default).Hi)), (85, .int .i64 (k : Int)), (86, .pointer (some ⟨g23, 0, none⟩)), (87, .int .i64 ((List.getD nodes (Int.toNat (k : Int)) default).P))]) (φ := [cellsAt w37 g1 (0) [.int .i64 p0, .slice A1 acc.length c1, .slice A2 gd.length c2, .slice (some ⟨b21, o22, none⟩) nodes.length c3], World.cell? w37 ⟨g23, 2, none⟩ = some (.int .i64 ((List.getD nodes (Int.toNat (k : Int)) default).Hi)), World.cell? w37 ⟨g23, 0, none⟩ = some (.int .i64 ((List.getD nodes (Int.toNat (k : Int)) default).P))]) tbok 6 [.agg #[.int .i64 p0, .slice A1 acc.length c1, .slice A2 gd.length c2, .slice (some ⟨b21, o22, none⟩) nodes.length c3], .int .i64 ((List.getD nodes (Int.toNat (k : Int)) default).Hi), .int .i64 ((List.getD nodes (Int.toNat (k : Int)) default).P)] [1, 3, 4, 58, 59, 60, 61, 62, 65, 66, 67, 68, 69, 72, 73, 74, 75, 76, 77, 78, 79, 81, 82, 83, 84, 85, 86, 87] E (by kernel_rfl) ⟨B5.sub 0 _ rfl, B27.cell (j := 2) rfl, B27.cell (j := 0) rfl⟩ ?_
                          clear E; intro a E
                          refine e_call E rfl rfl Try.func57 rfl rfl rfl (fits_calls p0 A1 A2 (some ⟨b21, o22, none⟩) c1 c2 c3 acc gd nodes ((List.getD nodes (Int.toNat (k : Int)) default).Hi) (k : Int) ((List.getD nodes (Int.toNat (k : Int)) default).P) _ (by omega) (by omega) (H3.now HW)) ?_
                          intro v42 w43 a hR44 E_
                          obtain ⟨rfl, hc45⟩ := hR44
                          replace E := E_ _ rfl; clear E_
                          replace B5 := B5.chg hc45 (fun h_ => h_)
                          replace B27 := B27.chg hc45 (fun h_ => h_)
                          replace HW := HW.trans hc45 (fun _ _ h_ => h_.elim)
                          refine vrun (w := w43) (lp := [(1, .pointer (some ⟨g1, 0, none⟩)), (3, .int .i64 (k : Int)), (4, .pointer (some ⟨g23, 0, none⟩)), (58, .pointer (some ⟨g23, 0, none⟩)), (59, .int .i64 ((List.getD nodes (Int.toNat (k : Int)) default).P)), (60, .pointer (some ⟨g1, 0, none⟩)), (61, .int .i64 p0), (62, .bool (decide (p0 ≤ ((List.getD nodes (Int.toNat (k : Int)) default).P)))), (65, .pointer (some ⟨g23, 1, none⟩)), (66, .int .i64 ((List.getD nodes (Int.toNat (k : Int)) default).Lo)), (67, .pointer (some ⟨g23, 2, none⟩)), (68, .int .i64 ((List.getD nodes (Int.toNat (k : Int)) default).Hi)), (69, .bool (((List.getD nodes (Int.toNat (k : Int)) default).Lo : Int) == ((List.getD nodes (Int.toNat (k : Int)) default).Hi))), (72, .agg #[.int .i64 p0, .slice A1 acc.length c1, .slice A2 gd.length c2, .slice (some ⟨b21, o22, none⟩) nodes.length c3]), (73, .pointer (some ⟨g23, 1, none⟩)), (74, .int .i64 ((List.getD nodes (Int.toNat (k : Int)) default).Lo)), (75, .int .i64 (k : Int)), (76, .pointer (some ⟨g23, 0, none⟩)), (77, .int .i64 ((List.getD nodes (Int.toNat (k : Int)) default).P)), (78, .bool (goodB acc.length nodes ((List.getD nodes (Int.toNat (k : Int)) default).Lo) (k : Int) ((List.getD nodes (Int.toNat (k : Int)) default).P))), (79, .bool (!(goodB acc.length nodes ((List.getD nodes (Int.toNat (k : Int)) default).Lo) (k : Int) ((List.getD nodes (Int.toNat (k : Int)) default).P)))), (82, .agg #[.int .i64 p0, .slice A1 acc.length c1, .slice A2 gd.length c2, .slice (some ⟨b21, o22, none⟩) nodes.length c3]), (83, .pointer (some ⟨g23, 2, none⟩)), (84, .int .i64 ((List.getD nodes (Int.toNat (k : Int)) default).Hi)), (85, .int .i64 (k : Int)), (86, .pointer (some ⟨g23, 0, none⟩)), (87, .int .i64 ((List.getD nodes (Int.toNat (k : Int)) default).P)), (88, .bool (goodB acc.length nodes ((List.getD nodes (Int.toNat (k : Int)) default).Hi) (k : Int) ((List.getD nodes (Int.toNat (k : Int)) default).P))), (89, .bool (!(goodB acc.length nodes ((List.getD nodes (Int.toNat (k : Int)) default).Hi) (k : Int) ((List.getD nodes (Int.toNat (k : Int)) default).P)))), (90, .bool (!(goodB acc.length nodes ((List.getD nodes (Int.toNat (k : Int)) default).Hi) (k : Int) ((List.getD nodes (Int.toNat (k : Int)) default).P))))]) (φ := []) tbok 2 [] [1, 3, 4, 58, 59, 60, 61, 62, 65, 66, 67, 68, 69, 72, 73, 74, 75, 76, 77, 78, 79, 82, 83, 84, 85, 86, 87, 88, 89, 90] E (by kernel_rfl) trivial ?_
                          clear E; intro a E
                          refine wpList_nil ?_
                          refine th_n ?_
                          refine E.cases (t := 90) rfl (fun hb_ E_ => ?_) (fun hb_ E_ => ?_)
                          · replace E := E_; clear E_
                            have h46 : goodB acc.length nodes ((List.getD nodes (Int.toNat (k : Int)) default).Hi) (k : Int) ((List.getD nodes (Int.toNat (k : Int)) default).P) = false := not_t hb_
                            clear hb_
                            refine c_true E rfl ?_
                            refine wp_seq ?_
                            refine wp_region_lit ?_
                            refine vrun (w := w43) (lp := [(2, .int .i64 12)]) (φ := []) tbok 1 [] [2] E (by kernel_rfl) trivial ?_
                            clear E; intro a E
                            refine wpList_nil ?_
                            refine th_n ?_
                            refine wp_ret ?_
                            refine th_ret ?_
                            refine bl_ret ?_
                            refine th_ret ?_
                            refine th_ret ?_
                            refine bl_ret ?_
                            refine th_ret ?_
                            refine ret1 E rfl rfl ?_
                            refine ⟨_, rfl, ?_, HW.own⟩
                            rw [checkV_bad (fun h => ?_)]
                            have h7 := h.nd k (by omega)
                            have h8 := h7.lo; have h9 := h7.hi; simp only [Int.toNat_natCast] at *; simp_all
                          · replace E := E_; clear E_
                            have h47 : goodB acc.length nodes ((List.getD nodes (Int.toNat (k : Int)) default).Hi) (k : Int) ((List.getD nodes (Int.toNat (k : Int)) default).P) = true := not_f hb_
                            clear hb_
                            refine c_false E rfl ?_
                            refine wp_skip ?_
                            refine th_n ?_
                            refine wp_seq ?_
                            refine wp_region_lit ?_
                            refine vrun (w := w43) (lp := [(1, .pointer (some ⟨g1, 0, none⟩)), (3, .int .i64 (k : Int)), (4, .pointer (some ⟨g23, 0, none⟩)), (5, .int .i64 0), (58, .pointer (some ⟨g23, 0, none⟩)), (59, .int .i64 ((List.getD nodes (Int.toNat (k : Int)) default).P)), (60, .pointer (some ⟨g1, 0, none⟩)), (61, .int .i64 p0), (62, .bool (decide (p0 ≤ ((List.getD nodes (Int.toNat (k : Int)) default).P)))), (65, .pointer (some ⟨g23, 1, none⟩)), (66, .int .i64 ((List.getD nodes (Int.toNat (k : Int)) default).Lo)), (67, .pointer (some ⟨g23, 2, none⟩)), (68, .int .i64 ((List.getD nodes (Int.toNat (k : Int)) default).Hi)), (69, .bool (((List.getD nodes (Int.toNat (k : Int)) default).Lo : Int) == ((List.getD nodes (Int.toNat (k : Int)) default).Hi))), (72, .agg #[.int .i64 p0, .slice A1 acc.length c1, .slice A2 gd.length c2, .slice (some ⟨b21, o22, none⟩) nodes.length c3]), (73, .pointer (some ⟨g23, 1, none⟩)), (74, .int .i64 ((List.getD nodes (Int.toNat (k : Int)) default).Lo)), (75, .int .i64 (k : Int)), (76, .pointer (some ⟨g23, 0, none⟩)), (77, .int .i64 ((List.getD nodes (Int.toNat (k : Int)) default).P)), (78, .bool (goodB acc.length nodes ((List.getD nodes (Int.toNat (k : Int)) default).Lo) (k : Int) ((List.getD nodes (Int.toNat (k : Int)) default).P))), (79, .bool (!(goodB acc.length nodes ((List.getD nodes (Int.toNat (k : Int)) default).Lo) (k : Int) ((List.getD nodes (Int.toNat (k : Int)) default).P)))), (82, .agg #[.int .i64 p0, .slice A1 acc.length c1, .slice A2 gd.length c2, .slice (some ⟨b21, o22, none⟩) nodes.length c3]), (83, .pointer (some ⟨g23, 2, none⟩)), (84, .int .i64 ((List.getD nodes (Int.toNat (k : Int)) default).Hi)), (85, .int .i64 (k : Int)), (86, .pointer (some ⟨g23, 0, none⟩)), (87, .int .i64 ((List.getD nodes (Int.toNat (k : Int)) default).P)), (88, .bool (goodB acc.length nodes ((List.getD nodes (Int.toNat (k : Int)) default).Hi) (k : Int) ((List.getD nodes (Int.toNat (k : Int)) default).P))), (89, .bool (!(goodB acc.length nodes ((List.getD nodes (Int.toNat (k : Int)) default).Hi) (k : Int) ((List.getD nodes (Int.toNat (k : Int)) default).P))))]) (φ := []) tbok 1 [] [1, 3, 4, 5, 58, 59, 60, 61, 62, 65, 66, 67, 68, 69, 72, 73, 74, 75, 76, 77, 78, 79, 82, 83, 84, 85, 86, 87, 88, 89] E (by kernel_rfl) trivial ?_
                            clear E; intro a E
                            refine wpList_nil ?_
                            refine th_n ?_
                            refine wp_block ?_
                            refine loopV (fun m49 a w48 => ∃ (j : Nat), Fr a 121 [(1, .pointer (some ⟨g1, 0, none⟩)), (3, .int .i64 (k : Int)), (4, .pointer (some ⟨g23, 0, none⟩)), (5, .int .i64 (j : Int)), (58, .pointer (some ⟨g23, 0, none⟩)), (59, .int .i64 ((List.getD nodes (Int.toNat (k : Int)) default).P)), (60, .pointer (some ⟨g1, 0, none⟩)), (61, .int .i64 p0), (62, .bool (decide (p0 ≤ ((List.getD nodes (Int.toNat (k : Int)) default).P)))), (65, .pointer (some ⟨g23, 1, none⟩)), (66, .int .i64 ((List.getD nodes (Int.toNat (k : Int)) default).Lo)), (67, .pointer (some ⟨g23, 2, none⟩)), (68, .int .i64 ((List.getD nodes (Int.toNat (k : Int)) default).Hi)), (69, .bool (((List.getD nodes (Int.toNat (k : Int)) default).Lo : Int) == ((List.getD nodes (Int.toNat (k : Int)) default).Hi))), (72, .agg #[.int .i64 p0, .slice A1 acc.length c1, .slice A2 gd.length c2, .slice (some ⟨b21, o22, none⟩) nodes.length c3]), (73, .pointer (some ⟨g23, 1, none⟩)), (74, .int .i64 ((List.getD nodes (Int.toNat (k : Int)) default).Lo)), (75, .int .i64 (k : Int)), (76, .pointer (some ⟨g23, 0, none⟩)), (77, .int .i64 ((List.getD nodes (Int.toNat (k : Int)) default).P)), (78, .bool (goodB acc.length nodes ((List.getD nodes (Int.toNat (k : Int)) default).Lo) (k : Int) ((List.getD nodes (Int.toNat (k : Int)) default).P))), (79, .bool (!(goodB acc.length nodes ((List.getD nodes (Int.toNat (k : Int)) default).Lo) (k : Int) ((List.getD nodes (Int.toNat (k : Int)) default).P)))), (82, .agg #[.int .i64 p0, .slice A1 acc.length c1, .slice A2 gd.length c2, .slice (some ⟨b21, o22, none⟩) nodes.length c3]), (83, .pointer (some ⟨g23, 2, none⟩)), (84, .int .i64 ((List.getD nodes (Int.toNat (k : Int)) default).Hi)), (85, .int .i64 (k : Int)), (86, .pointer (some ⟨g23, 0, none⟩)), (87, .int .i64 ((List.getD nodes (Int.toNat (k : Int)) default).P)), (88, .bool (goodB acc.length nodes ((List.getD nodes (Int.toNat (k : Int)) default).Hi) (k : Int) ((List.getD nodes (Int.toNat (k : Int)) default).P))), (89, .bool (!(goodB acc.length nodes ((List.getD nodes (Int.toNat (k : Int)) default).Hi) (k : Int) ((List.getD nodes (Int.toNat (k : Int)) default).P))))] ∧ Chg (Hi w0.heap.size) w0 w48 ∧ Bx w48 g1 26 [.int .i64 p0, .slice A1 acc.length c1, .slice A2 gd.length c2, .slice (some ⟨b21, o22, none⟩) nodes.length c3] ∧ Bx w48 g23 57 [.int .i64 ((List.getD nodes (Int.toNat (k : Int)) default).P), .int .i64 ((List.getD nodes (Int.toNat (k : Int)) default).Lo), .int .i64 ((List.getD nodes (Int.toNat (k : Int)) default).Hi)] ∧ (j ≤ k) ∧ (∀ i, i < j → nodes.getD i default ≠ nodes.getD k default) ∧ m49 = k - j) (k - (0)) ?_ ?_
                            · skip
                              exact ⟨0, E.pick _ ⟨rfl, rfl, rfl, rfl, rfl, rfl, rfl, rfl, rfl, rfl, rfl, rfl, rfl, rfl, rfl, rfl, rfl, rfl, rfl, rfl, rfl, rfl, rfl, rfl, rfl, rfl, rfl, rfl, rfl, rfl, trivial⟩, HW, B5, B27, (by omega), (fun i hi => absurd hi (by omega)), rfl⟩
                            · clear E HW; intro m49 a w48 hI_
                              obtain ⟨j, hI_⟩ := hI_
                              clear B5
                              clear B27
                              obtain ⟨E, HW, B5, B27, hj, hJ, hm_m49⟩ := hI_
                              refine wp_seq ?_
                              refine wp_seq ?_
                              refine wp_region_lit ?_
                              refine vrun (w := w48) (lp := [(1, .pointer (some ⟨g1, 0, none⟩)), (3, .int .i64 (k : Int)), (4, .pointer (some ⟨g23, 0, none⟩)), (5, .int .i64 (j : Int)), (58, .pointer (some ⟨g23, 0, none⟩)), (59, .int .i64 ((List.getD nodes (Int.toNat (k : Int)) default).P)), (60, .pointer (some ⟨g1, 0, none⟩)), (61, .int .i64 p0), (62, .bool (decide (p0 ≤ ((List.getD nodes (Int.toNat (k : Int)) default).P)))), (65, .pointer (some ⟨g23, 1, none⟩)), (66, .int .i64 ((List.getD nodes (Int.toNat (k : Int)) default).Lo)), (67, .pointer (some ⟨g23, 2, none⟩)), (68, .int .i64 ((List.getD nodes (Int.toNat (k : Int)) default).Hi)), (69, .bool (((List.getD nodes (Int.toNat (k : Int)) default).Lo : Int) == ((List.getD nodes (Int.toNat (k : Int)) default).Hi))), (72, .agg #[.int .i64 p0, .slice A1 acc.length c1, .slice A2 gd.length c2, .slice (some ⟨b21, o22, none⟩) nodes.length c3]), (73, .pointer (some ⟨g23, 1, none⟩)), (74, .int .i64 ((List.getD nodes (Int.toNat (k : Int)) default).Lo)), (75, .int .i64 (k : Int)), (76, .pointer (some ⟨g23, 0, none⟩)), (77, .int .i64 ((List.getD nodes (Int.toNat (k : Int)) default).P)), (78, .bool (goodB acc.length nodes ((List.getD nodes (Int.toNat (k : Int)) default).Lo) (k : Int) ((List.getD nodes (Int.toNat (k : Int)) default).P))), (79, .bool (!(goodB acc.length nodes ((List.getD nodes (Int.toNat (k : Int)) default).Lo) (k : Int) ((List.getD nodes (Int.toNat (k : Int)) default).P)))), (82, .agg #[.int .i64 p0, .slice A1 acc.length c1, .slice A2 gd.length c2, .slice (some ⟨b21, o22, none⟩) nodes.length c3]), (83, .pointer (some ⟨g23, 2, none⟩)), (84, .int .i64 ((List.getD nodes (Int.toNat (k : Int)) default).Hi)), (85, .int .i64 (k : Int)), (86, .pointer (some ⟨g23, 0, none⟩)), (87, .int .i64 ((List.getD nodes (Int.toNat (k : Int)) default).P)), (88, .bool (goodB acc.length nodes ((List.getD nodes (Int.toNat (k : Int)) default).Hi) (k : Int) ((List.getD nodes (Int.toNat (k : Int)) default).P))), (89, .bool (!(goodB acc.length nodes ((List.getD nodes (Int.toNat (k : Int)) default).Hi) (k : Int) ((List.getD nodes (Int.toNat (k : Int)) default).P)))), (93, .bool (decide ((j : Int) < (k : Int))))]) (φ := []) tbok 3 [] [1, 3, 4, 5, 58, 59, 60, 61, 62, 65, 66, 67, 68, 69, 72, 73, 74, 75, 76, 77, 78, 79, 82, 83, 84, 85, 86, 87, 88, 89, 93] E (by kernel_rfl) trivial ?_
                              clear E; intro a E
                              refine wpList_nil ?_
                              refine th_n ?_
                              refine E.cases (t := 93) rfl (fun hb_ E_ => ?_) (fun hb_ E_ => ?_)
                              · replace E := E_; clear E_
                                have h50 : (j : Int) < (k : Int) := of_decide_eq_true hb_
                                clear hb_
                                refine c_true E rfl ?_
                                refine wp_skip ?_
                                refine th_n ?_
                                refine wp_seq ?_
                                refine wp_block ?_
                                refine wp_seq ?_
                                refine dr_start (S := fun w_ => Chg No w48 w_) (by kernel_rfl) ?_
                                intro w51 hc52
                                have HWs := HW
                                have B5s := B5
                                have B27s := B27
                                have HS : Chg No w48 w51 := hc52.mono (fun _ _ h_ => h_.elim)
                                replace B5 := B5.chg hc52 (fun h_ => h_)
                                replace B27 := B27.chg hc52 (fun h_ => h_)
                                replace HW := HW.trans hc52 (fun _ _ h_ => h_.elim)
                                have hx_99 : 0 ≤ (j : Int) ∧ (j : Int) < ((nodes.length : Nat) : Int) := ⟨by omega, by omega⟩
                                refine drun (lp := [(1, .pointer (some ⟨g1, 0, none⟩)), (3, .int .i64 (k : Int)), (4, .pointer (some ⟨g23, 0, none⟩)), (5, .int .i64 (j : Int)), (58, .pointer (some ⟨g23, 0, none⟩)), (59, .int .i64 ((List.getD nodes (Int.toNat (k : Int)) default).P)), (60, .pointer (some ⟨g1, 0, none⟩)), (61, .int .i64 p0), (62, .bool (decide (p0 ≤ ((List.getD nodes (Int.toNat (k : Int)) default).P)))), (65, .pointer (some ⟨g23, 1, none⟩)), (66, .int .i64 ((List.getD nodes (Int.toNat (k : Int)) default).Lo)), (67, .pointer (some ⟨g23, 2, none⟩)), (68, .int .i64 ((List.getD nodes (Int.toNat (k : Int)) default).Hi)), (69, .bool (((List.getD nodes (Int.toNat (k : Int)) default).Lo : Int) == ((List.getD nodes (Int.toNat (k : Int)) default).Hi))), (72, .agg #[.int .i64 p0, .slice A1 acc.length c1, .slice A2 gd.length c2, .slice (some ⟨b21, o22, none⟩) nodes.length c3]), (73, .pointer (some ⟨g23, 1, none⟩)), (74, .int .i64 ((List.getD nodes (Int.toNat (k : Int)) default).Lo)), (75, .int .i64 (k : Int)), (76, .pointer (some ⟨g23, 0, none⟩)), (77, .int .i64 ((List.getD nodes (Int.toNat (k : Int)) default).P)), (78, .bool (goodB acc.length nodes ((List.getD nodes (Int.toNat (k : Int)) default).Lo) (k : Int) ((List.getD nodes (Int.toNat (k : Int)) default).P))), (79, .bool (!(goodB acc.length nodes ((List.getD nodes (Int.toNat (k : Int)) default).Lo) (k : Int) ((List.getD nodes (Int.toNat (k : Int)) default).P)))), (82, .agg #[.int .i64 p0, .slice A1 acc.length c1, .slice A2 gd.length c2, .slice (some ⟨b21, o22, none⟩) nodes.length c3]), (83, .pointer (some ⟨g23, 2, none⟩)), (84, .int .i64 ((List.getD nodes (Int.toNat (k : Int)) default).Hi)), (85, .int .i64 (k : Int)), (86, .pointer (some ⟨g23, 0, none⟩)), (87, .int .i64 ((List.getD nodes (Int.toNat (k : Int)) default).P)), (88, .bool (goodB acc.length nodes ((List.getD nodes (Int.toNat (k : Int)) default).Hi) (k : Int) ((List.getD nodes (Int.toNat (k : Int)) default).P))), (89, .bool (!(goodB acc.length nodes ((List.getD nodes (Int.toNat (k : Int)) default).Hi) (k : Int) ((List.getD nodes (Int.toNat (k : Int)) default).P)))), (100, .agg #[.int .i64 ((List.getD nodes (Int.toNat (j : Int)) default).P), .int .i64 ((List.getD nodes (Int.toNat (j : Int)) default).Lo), .int .i64 ((List.getD nodes (Int.toNat (j : Int)) default).Hi)]), (101, .agg #[.int .i64 ((List.getD nodes (Int.toNat (k : Int)) default).P), .int .i64 ((List.getD nodes (Int.toNat (k : Int)) default).Lo), .int .i64 ((List.getD nodes (Int.toNat (k : Int)) default).Hi)])]) tbok (by kernel_rfl) [0, 1, 2, 3, 4, 5] [.slice (some ⟨b21, o22, none⟩) nodes.length c3, .agg #[.int .i64 ((List.getD nodes (Int.toNat (j : Int)) default).P), .int .i64 ((List.getD nodes (Int.toNat (j : Int)) default).Lo), .int .i64 ((List.getD nodes (Int.toNat (j : Int)) default).Hi)], .agg #[.int .i64 ((List.getD nodes (Int.toNat (k : Int)) default).P), .int .i64 ((List.getD nodes (Int.toNat (k : Int)) default).Lo), .int .i64 ((List.getD nodes (Int.toNat (k : Int)) default).Hi)]] [1, 3, 4, 5, 58, 59, 60, 61, 62, 65, 66, 67, 68, 69, 72, 73, 74, 75, 76, 77, 78, 79, 82, 83, 84, 85, 86, 87, 88, 89, 100, 101] (fun w_ => [World.cell? w_ ⟨g1, 3, none⟩ = some (.slice (some ⟨b21, o22, none⟩) nodes.length c3), 0 ≤ (j : Int) ∧ (j : Int) < ((nodes.length : Nat) : Int), cellsAt w_ b21 (o22 + (Int.toNat (j : Int)) * 3) [.int .i64 ((List.getD nodes (Int.toNat (j : Int)) default).P), .int .i64 ((List.getD nodes (Int.toNat (j : Int)) default).Lo), .int .i64 ((List.getD nodes (Int.toNat (j : Int)) default).Hi)], cellsAt w_ g23 (0) [.int .i64 ((List.getD nodes (Int.toNat (k : Int)) default).P), .int .i64 ((List.getD nodes (Int.toNat (k : Int)) default).Lo), .int .i64 ((List.getD nodes (Int.toNat (k : Int)) default).Hi)]]) (fuel := 1) E (fun _ _ => by kernel_rfl) (fun w_ hS_ => ⟨hS_.cell (B5s.cell (j := 3) rfl) (fun h_ => h_), hx_99, hS_.cellsAt (fun h_ => h_) (C.atP (H3.keep HWs lo_hi) default hx_99.1 hx_99.2), hS_.cellsAt (fun h_ => h_) (B27s.sub 0 _ rfl)⟩) (by kernel_rfl) HS ?_
                                clear E; intro a E
                                refine wpAnyH_all (rs := [6]) (by kernel_rfl) (by simp) ?_
                                refine all1 ?_
                                · refine wpOp_of_list rfl ?_
                                  refine e_eqS E rfl rfl rfl rfl grdNd (eqNd (List.getD nodes (Int.toNat (j : Int)) default) (⟨(List.getD nodes (Int.toNat (k : Int)) default).P, (List.getD nodes (Int.toNat (k : Int)) default).Lo, (List.getD nodes (Int.toNat (k : Int)) default).Hi⟩ : Nd) _) (decide ((List.getD nodes (Int.toNat (j : Int)) default) = (⟨(List.getD nodes (Int.toNat (k : Int)) default).P, (List.getD nodes (Int.toNat (k : Int)) default).Lo, (List.getD nodes (Int.toNat (k : Int)) default).Hi⟩ : Nd))) (.inl ⟨rfl, rfl⟩) rfl ?_
                                  clear E; intro a E
                                  refine wpList_nil ?_
                                  refine th_n ⟨HS, ?_⟩
                                  refine dr_done (by kernel_rfl) ?_
                                  clear HS HWs
                                  refine th_n ?_
                                  refine E.cases (t := 102) rfl (fun hb_ E_ => ?_) (fun hb_ E_ => ?_)
                                  · replace E := E_; clear E_
                                    have h53 : (List.getD nodes (Int.toNat (j : Int)) default) = (⟨(List.getD nodes (Int.toNat (k : Int)) default).P, (List.getD nodes (Int.toNat (k : Int)) default).Lo, (List.getD nodes (Int.toNat (k : Int)) default).Hi⟩ : Nd) := of_decide_eq_true hb_
                                    clear hb_
                                    refine c_true E rfl ?_
                                    refine wp_seq ?_
                                    refine wp_region_lit ?_
                                    refine vrun (w := w51) (lp := [(2, .int .i64 12)]) (φ := []) tbok 1 [] [2] E (by kernel_rfl) trivial ?_
                                    clear E; intro a E
                                    refine wpList_nil ?_
                                    refine th_n ?_
                                    refine wp_ret ?_
                                    refine bl_ret ?_
                                    refine th_ret ?_
                                    refine th_ret ?_
                                    refine bl_ret ?_
                                    refine bl_ret ?_
                                    refine th_ret ?_
                                    refine th_ret ?_
                                    refine bl_ret ?_
                                    refine th_ret ?_
                                    refine ret1 E rfl rfl ?_
                                    refine ⟨_, rfl, ?_, HW.own⟩
                                    rw [checkV_bad (fun h => ?_)]
                                    exact (h.nd k (by omega)).once j (by omega) h53
                                  · replace E := E_; clear E_
                                    have h54 : ¬ ((List.getD nodes (Int.toNat (j : Int)) default) = (⟨(List.getD nodes (Int.toNat (k : Int)) default).P, (List.getD nodes (Int.toNat (k : Int)) default).Lo, (List.getD nodes (Int.toNat (k : Int)) default).Hi⟩ : Nd)) := of_decide_eq_false hb_
                                    clear hb_
                                    refine c_false E rfl ?_
                                    refine wp_skip ?_
                                    refine bl_n ?_
                                    refine th_n ?_
                                    refine wp_region_lit ?_
                                    refine vrun (w := w51) (lp := [(1, .pointer (some ⟨g1, 0, none⟩)), (3, .int .i64 (k : Int)), (4, .pointer (some ⟨g23, 0, none⟩)), (5, .int .i64 ((j : Int) + 1)), (58, .pointer (some ⟨g23, 0, none⟩)), (59, .int .i64 ((List.getD nodes (Int.toNat (k : Int)) default).P)), (60, .pointer (some ⟨g1, 0, none⟩)), (61, .int .i64 p0), (62, .bool (decide (p0 ≤ ((List.getD nodes (Int.toNat (k : Int)) default).P)))), (65, .pointer (some ⟨g23, 1, none⟩)), (66, .int .i64 ((List.getD nodes (Int.toNat (k : Int)) default).Lo)), (67, .pointer (some ⟨g23, 2, none⟩)), (68, .int .i64 ((List.getD nodes (Int.toNat (k : Int)) default).Hi)), (69, .bool (((List.getD nodes (Int.toNat (k : Int)) default).Lo : Int) == ((List.getD nodes (Int.toNat (k : Int)) default).Hi))), (72, .agg #[.int .i64 p0, .slice A1 acc.length c1, .slice A2 gd.length c2, .slice (some ⟨b21, o22, none⟩) nodes.length c3]), (73, .pointer (some ⟨g23, 1, none⟩)), (74, .int .i64 ((List.getD nodes (Int.toNat (k : Int)) default).Lo)), (75, .int .i64 (k : Int)), (76, .pointer (some ⟨g23, 0, none⟩)), (77, .int .i64 ((List.getD nodes (Int.toNat (k : Int)) default).P)), (78, .bool (goodB acc.length nodes ((List.getD nodes (Int.toNat (k : Int)) default).Lo) (k : Int) ((List.getD nodes (Int.toNat (k : Int)) default).P))), (79, .bool (!(goodB acc.length nodes ((List.getD nodes (Int.toNat (k : Int)) default).Lo) (k : Int) ((List.getD nodes (Int.toNat (k : Int)) default).P)))), (82, .agg #[.int .i64 p0, .slice A1 acc.length c1, .slice A2 gd.length c2, .slice (some ⟨b21, o22, none⟩) nodes.length c3]), (83, .pointer (some ⟨g23, 2, none⟩)), (84, .int .i64 ((List.getD nodes (Int.toNat (k : Int)) default).Hi)), (85, .int .i64 (k : Int)), (86, .pointer (some ⟨g23, 0, none⟩)), (87, .int .i64 ((List.getD nodes (Int.toNat (k : Int)) default).P)), (88, .bool (goodB acc.length nodes ((List.getD nodes (Int.toNat (k : Int)) default).Hi) (k : Int) ((List.getD nodes (Int.toNat (k : Int)) default).P))), (89, .bool (!(goodB acc.length nodes ((List.getD nodes (Int.toNat (k : Int)) default).Hi) (k : Int) ((List.getD nodes (Int.toNat (k : Int)) default).P))))]) (φ := [IntKind.i64.wrap ((j : Int) + 1) = (j : Int) + 1]) tbok 3 [.int .i64 ((j : Int) + 1)] [1, 3, 4, 5, 58, 59, 60, 61, 62, 65, 66, 67, 68, 69, 72, 73, 74, 75, 76, 77, 78, 79, 82, 83, 84, 85, 86, 87, 88, 89] E (by kernel_rfl) (wrap_i64 (by omega) (by omega)) ?_
                                    clear E; intro a E
                                    refine wpList_nil ?_
                                    refine th_n ⟨k - (j + 1), by omega, ?_⟩
                                    exact ⟨j + 1, E.pick _ ⟨rfl, rfl, rfl, rfl, rfl, rfl, rfl, rfl, rfl, rfl, rfl, rfl, rfl, rfl, rfl, rfl, rfl, rfl, rfl, rfl, rfl, rfl, rfl, rfl, rfl, rfl, rfl, rfl, rfl, rfl, trivial⟩, HW, B5, B27, (by omega), (once_step hJ h54), rfl⟩
                              · replace E := E_; clear E_
                                have h55 : ¬ ((j : Int) < (k : Int)) := of_decide_eq_false hb_
                                clear hb_
                                refine c_false E rfl ?_
                                refine wp_exit ?_
                                refine th_exit ?_
                                refine th_exit ?_
                                refine bl_hit ?_
                                refine bl_n ?_
                                refine th_n ?_
                                refine wp_region_lit ?_
                                refine vrun (w := w48) (lp := [(1, .pointer (some ⟨g1, 0, none⟩)), (3, .int .i64 ((k : Int) + 1)), (58, .pointer (some ⟨g23, 0, none⟩)), (59, .int .i64 ((List.getD nodes (Int.toNat (k : Int)) default).P)), (60, .pointer (some ⟨g1, 0, none⟩)), (61, .int .i64 p0), (62, .bool (decide (p0 ≤ ((List.getD nodes (Int.toNat (k : Int)) default).P)))), (65, .pointer (some ⟨g23, 1, none⟩)), (66, .int .i64 ((List.getD nodes (Int.toNat (k : Int)) default).Lo)), (67, .pointer (some ⟨g23, 2, none⟩)), (68, .int .i64 ((List.getD nodes (Int.toNat (k : Int)) default).Hi)), (69, .bool (((List.getD nodes (Int.toNat (k : Int)) default).Lo : Int) == ((List.getD nodes (Int.toNat (k : Int)) default).Hi))), (72, .agg #[.int .i64 p0, .slice A1 acc.length c1, .slice A2 gd.length c2, .slice (some ⟨b21, o22, none⟩) nodes.length c3]), (73, .pointer (some ⟨g23, 1, none⟩)), (74, .int .i64 ((List.getD nodes (Int.toNat (k : Int)) default).Lo)), (75, .int .i64 (k : Int)), (76, .pointer (some ⟨g23, 0, none⟩)), (77, .int .i64 ((List.getD nodes (Int.toNat (k : Int)) default).P)), (78, .bool (goodB acc.length nodes ((List.getD nodes (Int.toNat (k : Int)) default).Lo) (k : Int) ((List.getD nodes (Int.toNat (k : Int)) default).P))), (79, .bool (!(goodB acc.length nodes ((List.getD nodes (Int.toNat (k : Int)) default).Lo) (k : Int) ((List.getD nodes (Int.toNat (k : Int)) default).P)))), (82, .agg #[.int .i64 p0, .slice A1 acc.length c1, .slice A2 gd.length c2, .slice (some ⟨b21, o22, none⟩) nodes.length c3]), (83, .pointer (some ⟨g23, 2, none⟩)), (84, .int .i64 ((List.getD nodes (Int.toNat (k : Int)) default).Hi)), (85, .int .i64 (k : Int)), (86, .pointer (some ⟨g23, 0, none⟩)), (87, .int .i64 ((List.getD nodes (Int.toNat (k : Int)) default).P)), (88, .bool (goodB acc.length nodes ((List.getD nodes (Int.toNat (k : Int)) default).Hi) (k : Int) ((List.getD nodes (Int.toNat (k : Int)) default).P))), (89, .bool (!(goodB acc.length nodes ((List.getD nodes (Int.toNat (k : Int)) default).Hi) (k : Int) ((List.getD nodes (Int.toNat (k : Int)) default).P))))]) (φ := [IntKind.i64.wrap ((k : Int) + 1) = (k : Int) + 1]) tbok 3 [.int .i64 ((k : Int) + 1)] [1, 3, 58, 59, 60, 61, 62, 65, 66, 67, 68, 69, 72, 73, 74, 75, 76, 77, 78, 79, 82, 83, 84, 85, 86, 87, 88, 89] E (by kernel_rfl) (wrap_i64 (by omega) (by omega)) ?_
                                clear E; intro a E
                                refine wpList_nil ?_
                                refine th_n ⟨nodes.length - (k + 1), by omega, ?_⟩
                                exact ⟨k + 1, E.pick _ ⟨rfl, rfl, trivial⟩, HW, B5, (by omega), (check_step2 hI (by omega) (by assumption) (by assumption) (by assumption) (fun j_ hj_ => hJ j_ (by omega)) (by assumption) (by assumption)), rfl⟩
                · replace E := E_; clear E_
                  have h56 : ¬ ((k : Int) < ((nodes.length : Nat) : Int)) := of_decide_eq_false hb_
                  clear hb_
                  refine c_false E rfl ?_
                  refine wp_exit ?_
                  refine th_exit ?_
                  refine th_exit ?_
                  refine bl_hit ?_
                  refine th_n ?_
                  refine wp_seq ?_
                  refine wp_seq ?_
                  refine wp_region_lit ?_
                  refine vrun (w := w18) (lp := [(1, .pointer (some ⟨g1, 0, none⟩)), (6, .int .i64 0)]) (φ := []) tbok 1 [] [1, 6] E (by kernel_rfl) trivial ?_
                  clear E; intro a E
                  refine wpList_nil ?_
                  refine th_n ?_
                  refine wp_block ?_
                  refine loopV (fun m58 a w57 => ∃ (k : Nat), Fr a 121 [(1, .pointer (some ⟨g1, 0, none⟩)), (6, .int .i64 (k : Int))] ∧ Chg (Hi w0.heap.size) w0 w57 ∧ Bx w57 g1 26 [.int .i64 p0, .slice A1 acc.length c1, .slice A2 gd.length c2, .slice A3 nodes.length c3] ∧ (k ≤ gd.length) ∧ (∀ i, i < k → goodB acc.length nodes (gd.getD i 0) nodes.length (-1) = true) ∧ m58 = gd.length - k) (gd.length - (0)) ?_ ?_
                  · skip
                    exact ⟨0, E.pick _ ⟨rfl, rfl, trivial⟩, HW, B5, (by omega), (fun i hi => absurd hi (by omega)), rfl⟩
                  · clear E HW; intro m58 a w57 hI_
                    obtain ⟨k, hI_⟩ := hI_
                    clear B5
                    obtain ⟨E, HW, B5, hk, hG, hm_m58⟩ := hI_
                    refine wp_seq ?_
                    refine wp_seq ?_
                    refine wp_region_lit ?_
                    refine vrun (w := w57) (lp := [(1, .pointer (some ⟨g1, 0, none⟩)), (6, .int .i64 (k : Int)), (107, .bool (decide ((k : Int) < ((gd.length : Nat) : Int))))]) (φ := [World.cell? w57 ⟨g1, 2, none⟩ = some (.slice A2 gd.length c2)]) tbok 5 [.slice A2 gd.length c2] [1, 6, 107] E (by kernel_rfl) (B5.cell (j := 2) rfl) ?_
                    clear E; intro a E
                    refine wpList_nil ?_
                    refine th_n ?_
                    refine E.cases (t := 107) rfl (fun hb_ E_ => ?_) (fun hb_ E_ => ?_)
                    · replace E := E_; clear E_
                      have h59 : (k : Int) < ((gd.length : Nat) : Int) := of_decide_eq_true hb_
                      clear hb_
                      refine c_true E rfl ?_
                      refine wp_skip ?_
                      refine th_n ?_
                      refine wp_seq ?_
                      refine wp_block ?_
                      refine wp_seq ?_
                      refine dr_start (S := fun w_ => Chg No w57 w_) (by kernel_rfl) ?_
                      intro w60 hc61
                      have HWs := HW
                      have B5s := B5
                      have HS : Chg No w57 w60 := hc61.mono (fun _ _ h_ => h_.elim)
                      replace B5 := B5.chg hc61 (fun h_ => h_)
                      replace HW := HW.trans hc61 (fun _ _ h_ => h_.elim)
                      have hx_114 : 0 ≤ (k : Int) ∧ (k : Int) < ((gd.length : Nat) : Int) := ⟨by omega, by omega⟩
                      obtain ⟨b62, o63, e_b62⟩ := H2.addr (by omega)
                      subst e_b62
                      refine drun (lp := [(1, .pointer (some ⟨g1, 0, none⟩)), (6, .int .i64 (k : Int)), (110, .agg #[.int .i64 p0, .slice A1 acc.length c1, .slice (some ⟨b62, o63, none⟩) gd.length c2, .slice A3 nodes.length c3]), (115, .int .i64 (List.getD gd (Int.toNat (k : Int)) 0)), (118, .int .i64 ((nodes.length : Nat) : Int))]) tbok (by kernel_rfl) [0, 1, 2, 3, 4, 5, 6, 7, 8] [.agg #[.int .i64 p0, .slice A1 acc.length c1, .slice (some ⟨b62, o63, none⟩) gd.length c2, .slice A3 nodes.length c3], .slice (some ⟨b62, o63, none⟩) gd.length c2, .int .i64 (List.getD gd (Int.toNat (k : Int)) 0), .slice A3 nodes.length c3] [1, 6, 110, 115, 118] (fun w_ => [cellsAt w_ g1 (0) [.int .i64 p0, .slice A1 acc.length c1, .slice (some ⟨b62, o63, none⟩) gd.length c2, .slice A3 nodes.length c3], World.cell? w_ ⟨g1, 2, none⟩ = some (.slice (some ⟨b62, o63, none⟩) gd.length c2), 0 ≤ (k : Int) ∧ (k : Int) < ((gd.length : Nat) : Int), World.cell? w_ ⟨b62, o63 + (Int.toNat (k : Int)) * 1, none⟩ = some (.int .i64 (List.getD gd (Int.toNat (k : Int)) 0)), World.cell? w_ ⟨g1, 3, none⟩ = some (.slice A3 nodes.length c3)]) (fuel := 2) E (fun _ _ => by kernel_rfl) (fun w_ hS_ => ⟨hS_.cellsAt (fun h_ => h_) (B5s.sub 0 _ rfl), hS_.cell (B5s.cell (j := 2) rfl) (fun h_ => h_), hx_114, hS_.cell (C.at1 (H2.keep HWs lo_hi) 0 hx_114.1 hx_114.2) (fun h_ => h_), hS_.cell (B5s.cell (j := 3) rfl) (fun h_ => h_)⟩) (by kernel_rfl) HS ?_
                      clear E; intro a E
                      refine wpAnyH_all (rs := [9]) (by kernel_rfl) (by simp) ?_
                      refine all1 ?_
                      · refine wpOp_of_list rfl ?_
                        refine e_call E rfl rfl Try.func57 rfl rfl rfl (fits_calls p0 A1 (some ⟨b62, o63, none⟩) A3 c1 c2 c3 acc gd nodes (List.getD gd (Int.toNat (k : Int)) 0) ((nodes.length : Nat) : Int) (-1) _ (by omega) (by omega) (H3.now HW)) ?_
                        intro v64 w65 a hR66 E_
                        obtain ⟨rfl, hc67⟩ := hR66
                        replace E := E_ _ rfl; clear E_
                        replace B5 := B5.chg hc67 (fun h_ => h_)
                        replace HS := HS.trans hc67 (fun _ _ h_ => h_.elim)
                        replace HW := HW.trans hc67 (fun _ _ h_ => h_.elim)
                        refine wpList_nil ?_
                        refine th_n ⟨HS, ?_⟩
                        refine drun (lp := [(1, .pointer (some ⟨g1, 0, none⟩)), (6, .int .i64 (k : Int)), (120, .bool (!(goodB acc.length nodes (List.getD gd (Int.toNat (k : Int)) 0) ((nodes.length : Nat) : Int) (-1))))]) tbok (by kernel_rfl) [10] [] [1, 6, 120] (fun w_ => []) (fuel := 0) E (fun _ _ => by kernel_rfl) (fun w_ hS_ => trivial) (by kernel_rfl) HS ?_
                        clear E; intro a E
                        refine dr_done (by kernel_rfl) ?_
                        clear HS HWs
                        refine th_n ?_
                        refine E.cases (t := 120) rfl (fun hb_ E_ => ?_) (fun hb_ E_ => ?_)
                        · replace E := E_; clear E_
                          have h68 : goodB acc.length nodes (List.getD gd (Int.toNat (k : Int)) 0) ((nodes.length : Nat) : Int) (-1) = false := not_t hb_
                          clear hb_
                          refine c_true E rfl ?_
                          refine wp_seq ?_
                          refine wp_region_lit ?_
                          refine vrun (w := w65) (lp := [(2, .int .i64 12)]) (φ := []) tbok 1 [] [2] E (by kernel_rfl) trivial ?_
                          clear E; intro a E
                          refine wpList_nil ?_
                          refine th_n ?_
                          refine wp_ret ?_
                          refine bl_ret ?_
                          refine th_ret ?_
                          refine th_ret ?_
                          refine bl_ret ?_
                          refine th_ret ?_
                          refine ret1 E rfl rfl ?_
                          refine ⟨_, rfl, ?_, HW.own⟩
                          rw [checkV_bad (fun h => ?_)]
                          have h7 := h.gr k (by omega)
                          simp_all
                        · replace E := E_; clear E_
                          have h69 : goodB acc.length nodes (List.getD gd (Int.toNat (k : Int)) 0) ((nodes.length : Nat) : Int) (-1) = true := not_f hb_
                          clear hb_
                          refine c_false E rfl ?_
                          refine wp_skip ?_
                          refine bl_n ?_
                          refine th_n ?_
                          refine wp_region_lit ?_
                          refine vrun (w := w65) (lp := [(1, .pointer (some ⟨g1, 0, none⟩)), (6, .int .i64 ((k : Int) + 1))]) (φ := [IntKind.i64.wrap ((k : Int) + 1) = (k : Int) + 1]) tbok 3 [.int .i64 ((k : Int) + 1)] [1, 6] E (by kernel_rfl) (wrap_i64 (by omega) (by omega)) ?_
                          clear E; intro a E
                          refine wpList_nil ?_
                          refine th_n ⟨gd.length - (k + 1), by omega, ?_⟩
                          exact ⟨k + 1, E.pick _ ⟨rfl, rfl, trivial⟩, HW, B5, (by omega), (fun i hi => by exact good_step hG (by assumption) i hi), rfl⟩
                    · replace E := E_; clear E_
                      have h70 : ¬ ((k : Int) < ((gd.length : Nat) : Int)) := of_decide_eq_false hb_
                      clear hb_
                      refine c_false E rfl ?_
                      refine wp_exit ?_
                      refine th_exit ?_
                      refine th_exit ?_
                      refine bl_hit ?_
                      refine th_n ?_
                      refine wp_seq ?_
                      refine wp_region_lit ?_
                      refine vrun (w := w57) (lp := [(2, .int .i64 0)]) (φ := []) tbok 1 [] [2] E (by kernel_rfl) trivial ?_
                      clear E; intro a E
                      refine wpList_nil ?_
                      refine th_n ?_
                      refine wp_ret ?_
                      refine ret1 E rfl rfl ?_
                      refine ⟨_, rfl, ?_, HW.own⟩
                      rw [checkV_ok ⟨by omega, by omega, by omega, by omega, by omega, by omega, fun i hi => hI i (by omega), fun i hi => hG i (by omega)⟩]

end Go.V
