/- Contracts of functions of the program: walks. -/
import Derived.Test.YtldjjbgnicknkaaK1
set_option linter.all false
set_option linter.unusedVariables false
set_option linter.unnecessarySimpa false
set_option linter.unusedSimpArgs false
namespace Go.V
open Go Go.Proofs

/-! rejoinder/rejoinderkit.LentAuto -/
set_option maxRecDepth 100000 in
theorem LentAuto_calls (p0 : Int) (A1 A2 A3 : Option Addr) (c1 c2 c3 : Nat) (acc : List Bool) (gd : List Int) (nodes : List Nd) (w0 : World) (hl : acc.length ≤ 1000000 ∧ gd.length ≤ 1000000 ∧ nodes.length ≤ 1000000) (H1 : C cBool w0 (Lo w0.heap.size) A1 acc) (H2 : C (cInt .i64) w0 (Lo w0.heap.size) A2 gd) (H3 : C cNode w0 (Lo w0.heap.size) A3 nodes) :
    Calls Try.prog 8 #[.agg #[.int .i64 p0, .slice A1 acc.length c1, .slice A2 gd.length c2, .slice A3 nodes.length c3]] w0 fun e w' => ∃ v, e = .returned v ∧ ∃ g1 g2 g3, v = .agg #[.int .i64 p0, .slice (some ⟨g1, 0, none⟩) acc.length (acc.length + 3), .slice (some ⟨g2, 0, none⟩) gd.length (gd.length + 3), .slice (some ⟨g3, 0, none⟩) nodes.length (nodes.length + 3)] ∧ w0.heap.size ≤ g1 ∧ w0.heap.size ≤ g2 ∧ w0.heap.size ≤ g3 ∧ Ext w0 w' ∧ BL cBool w' No g1 4 (acc.length + 3) (bB acc) ∧ BL (cInt .i64) w' No g2 3 (gd.length + 3) (lentL gd) ∧ BL cNode w' No g3 57 (nodes.length + 3) (bN nodes) := by
  have HW : Chg (Hi w0.heap.size) w0 w0 := Chg.refl _ _
  refine enterV (n := 39) Try.func8 rfl rfl rfl ?_
  intro a E
  replace E := E.pick [(0, .agg #[.int .i64 p0, .slice A1 acc.length c1, .slice A2 gd.length c2, .slice A3 nodes.length c3])] ⟨rfl, trivial⟩
  refine wp_seq ?_
  refine wp_region_lit ?_
  refine e_box E rfl rfl rfl ?_
  intro w2 g1 a hc3 hg4 B5 E_
  replace E := E_ _ rfl; clear E_
  replace B5 : Bx w2 g1 26 [.int .i64 p0, .slice A1 acc.length c1, .slice A2 gd.length c2, .slice A3 nodes.length c3] := B5
  have hi_g1 : w0.heap.size ≤ g1 := Nat.le_trans HW.size hg4
  replace HW := HW.trans hc3 (fun _ _ h_ => h_.elim)
  refine e_alloc E rfl rfl tbok rfl ?_
  intro w7 g6 a hc8 hg9 B10 E_
  replace E := E_ _ rfl; clear E_
  replace B10 : Bx w7 g6 26 [.int .i64 0, .slice none 0 0, .slice none 0 0, .slice none 0 0] := B10
  have hi_g6 : w0.heap.size ≤ g6 := Nat.le_trans HW.size hg9
  have ne_g1_g6 : g1 ≠ g6 := by have h_ := B5.lt; omega
  replace B5 := B5.chg hc8 (fun h_ => h_)
  replace HW := HW.trans hc8 (fun _ _ h_ => h_.elim)
  refine wpList_nil ?_
  refine th_n ?_
  refine wp_seq ?_
  refine dr_start (S := fun w_ => Chg No w7 w_) (by kernel_rfl) ?_
  intro w11 hc12
  have HWs := HW
  have B5s := B5
  have B10s := B10
  have HS : Chg No w7 w11 := hc12.mono (fun _ _ h_ => h_.elim)
  replace B5 := B5.chg hc12 (fun h_ => h_)
  replace B10 := B10.chg hc12 (fun h_ => h_)
  replace HW := HW.trans hc12 (fun _ _ h_ => h_.elim)
  refine drun (lp := [(1, .pointer (some ⟨g1, 0, none⟩)), (2, .pointer (some ⟨g6, 0, none⟩)), (5, .int .i64 p0), (7, .slice A2 gd.length c2)]) tbok (by kernel_rfl) [0, 1, 2, 3] [.int .i64 p0, .slice A2 gd.length c2] [1, 2, 5, 7] (fun w_ => [World.cell? w_ ⟨g1, 0, none⟩ = some (.int .i64 p0), World.cell? w_ ⟨g1, 2, none⟩ = some (.slice A2 gd.length c2)]) (fuel := 4) E (fun _ _ => by kernel_rfl) (fun w_ hS_ => ⟨hS_.cell (B5s.cell (j := 0) rfl) (fun h_ => h_), hS_.cell (B5s.cell (j := 2) rfl) (fun h_ => h_)⟩) (by kernel_rfl) HS ?_
  clear E; intro a E
  refine wpAnyH_all (rs := [4, 6]) (by kernel_rfl) (by simp) ?_
  refine all2 ?_ ?_
  · refine wpOp_of_list rfl ?_
    refine e_call E rfl rfl Try.func27 rfl rfl rfl (LentInts_calls A2 c2 gd _ (by omega) (H2.now HW)) ?_
    intro v16 w17 a hR18 E_
    obtain ⟨g13, rfl, hg14, hc19, L15⟩ := hR18
    replace E := E_ _ rfl; clear E_
    have hi_g13 : w0.heap.size ≤ g13 := Nat.le_trans HW.size hg14
    have hw_g13 : w7.heap.size ≤ g13 := Nat.le_trans HS.size hg14
    have ne_g1_g13 : g1 ≠ g13 := by have h_ := B5.lt; omega
    have ne_g6_g13 : g6 ≠ g13 := by have h_ := B10.lt; omega
    replace B5 := B5.chg hc19 (fun h_ => h_)
    replace B10 := B10.chg hc19 (fun h_ => h_)
    replace HS := HS.trans hc19 (fun _ _ h_ => h_.elim)
    replace HW := HW.trans hc19 (fun _ _ h_ => h_.elim)
    refine wpList_nil ?_
    refine th_n ⟨HS, ?_⟩
    refine wpAnyH_all (rs := [5, 6]) (by kernel_rfl) (by simp) ?_
    refine all2 ?_ ?_
    · refine wpOp_of_list rfl ?_
      refine e_build (ps := [(0, .int .i64 p0), (2, .slice (some ⟨g13, 0, none⟩) gd.length (gd.length + 3))]) (v := .agg #[.int .i64 p0, .slice none 0 0, .slice (some ⟨g13, 0, none⟩) gd.length (gd.length + 3), .slice none 0 0]) E rfl rfl tbok rfl (by kernel_rfl) rfl ?_
      clear E; intro a E
      refine wpList_nil ?_
      refine th_n ⟨HS, ?_⟩
      refine wpAnyH_all (rs := [6]) (by kernel_rfl) (by simp) ?_
      refine all1 ?_
      · refine wpOp_of_list rfl ?_
        refine e_alloc E rfl rfl tbok rfl ?_
        intro w21 g20 a hc22 hg23 B24 E_
        replace E := E_ _ rfl; clear E_
        replace B24 : Bx w21 g20 26 [.int .i64 0, .slice none 0 0, .slice none 0 0, .slice none 0 0] := B24
        have hi_g20 : w0.heap.size ≤ g20 := Nat.le_trans HW.size hg23
        have hw_g20 : w7.heap.size ≤ g20 := Nat.le_trans HS.size hg23
        have ne_g1_g20 : g1 ≠ g20 := by have h_ := B5.lt; omega
        have ne_g6_g20 : g6 ≠ g20 := by have h_ := B10.lt; omega
        have ne_g13_g20 : g13 ≠ g20 := by have h_ := L15.lt; omega
        replace B5 := B5.chg hc22 (fun h_ => h_)
        replace B10 := B10.chg hc22 (fun h_ => h_)
        replace L15 := L15.chg hc22 (fun h_ => h_) (fun _ _ h_ => h_)
        replace HS := HS.trans hc22 (fun _ _ h_ => h_.elim)
        replace HW := HW.trans hc22 (fun _ _ h_ => h_.elim)
        refine wpList_nil ?_
        refine th_n ⟨HS, ?_⟩
        refine wpAnyH_all (rs := [7]) (by kernel_rfl) (by simp) ?_
        refine all1 ?_
        · refine wpOp_of_list rfl ?_
          refine e_store (g := g20) (off := 0) E rfl rfl rfl rfl tbok rfl B24 rfl rfl rfl rfl ?_
          clear E; intro w25 a hc26 B24 E
          replace B24 : Bx w25 g20 26 [.int .i64 p0, .slice none 0 0, .slice (some ⟨g13, 0, none⟩) gd.length (gd.length + 3), .slice none 0 0] := B24
          replace B5 := B5.chg hc26 (fun h_ => ne_g1_g20 h_)
          replace B10 := B10.chg hc26 (fun h_ => ne_g6_g20 h_)
          replace L15 := L15.chg hc26 (fun h_ => ne_g13_g20 h_) (fun _ h_ => h_.elim)
          replace HS := HS.trans hc26 (fun k_ hk_ h_ => by subst h_; first | (exfalso; omega) | (first | exact rfl | simp))
          replace HW := HW.trans hc26 (fun _ _ h_ => by subst h_; exact hi_g20)
          refine wpList_nil ?_
          refine th_n ⟨HS, ?_⟩
          refine dr_done (by kernel_rfl) ?_
          clear HS HWs
          refine th_n ?_
          refine wp_seq ?_
          refine wp_region_lit ?_
          refine vrun (w := w25) (lp := [(1, .pointer (some ⟨g1, 0, none⟩)), (2, .pointer (some ⟨g6, 0, none⟩)), (3, .pointer (some ⟨g20, 0, none⟩)), (12, .int .i64 ((acc.length : Nat) : Int)), (16, .int .i64 (((acc.length : Nat) : Int) + 3))]) (φ := [World.cell? w25 ⟨g1, 1, none⟩ = some (.slice A1 acc.length c1), World.cell? w25 ⟨g1, 1, none⟩ = some (.slice A1 acc.length c1), IntKind.i64.wrap (((acc.length : Nat) : Int) + 3) = ((acc.length : Nat) : Int) + 3]) tbok 7 [.slice A1 acc.length c1, .slice A1 acc.length c1, .int .i64 (((acc.length : Nat) : Int) + 3)] [1, 2, 3, 12, 16] E (by kernel_rfl) ⟨B5.cell (j := 1) rfl, B5.cell (j := 1) rfl, wrap_i64 (by omega) (by omega)⟩ ?_
          clear E; intro a E
          refine e_makeL cBool (z := false) acc.length (acc.length + 3) No E rfl rfl tbok rfl rfl rfl rfl (by omega) (by omega) (by omega) (by show 1 * (acc.length + 3) ≤ 281474976710656; omega) (by omega) rfl rfl (fun _ _ => rfl) (fun _ h_ => h_.elim) ?_
          intro w28 g27 a hc29 hg30 L31 E_
          replace E := E_ _ rfl; clear E_
          have hi_g27 : w0.heap.size ≤ g27 := Nat.le_trans HW.size hg30
          have ne_g1_g27 : g1 ≠ g27 := by have h_ := B5.lt; omega
          have ne_g6_g27 : g6 ≠ g27 := by have h_ := B10.lt; omega
          have ne_g13_g27 : g13 ≠ g27 := by have h_ := L15.lt; omega
          have ne_g20_g27 : g20 ≠ g27 := by have h_ := B24.lt; omega
          replace B5 := B5.chg hc29 (fun h_ => h_)
          replace B10 := B10.chg hc29 (fun h_ => h_)
          replace L15 := L15.chg hc29 (fun h_ => h_) (fun _ _ h_ => h_)
          replace B24 := B24.chg hc29 (fun h_ => h_)
          replace HW := HW.trans hc29 (fun _ _ h_ => h_.elim)
          refine vrun (w := w28) (lp := [(1, .pointer (some ⟨g1, 0, none⟩)), (2, .pointer (some ⟨g6, 0, none⟩)), (3, .pointer (some ⟨g20, 0, none⟩)), (17, .slice (some ⟨g27, 0, none⟩) acc.length (acc.length + 3)), (18, .pointer (some ⟨g20, 1, none⟩))]) (φ := []) tbok 1 [] [1, 2, 3, 17, 18] E (by kernel_rfl) trivial ?_
          clear E; intro a E
          refine e_store (g := g20) (off := 1) E rfl rfl rfl rfl tbok rfl B24 rfl rfl rfl rfl ?_
          clear E; intro w32 a hc33 B24 E
          replace B24 : Bx w32 g20 26 [.int .i64 p0, .slice (some ⟨g27, 0, none⟩) acc.length (acc.length + 3), .slice (some ⟨g13, 0, none⟩) gd.length (gd.length + 3), .slice none 0 0] := B24
          replace B5 := B5.chg hc33 (fun h_ => ne_g1_g20 h_)
          replace B10 := B10.chg hc33 (fun h_ => ne_g6_g20 h_)
          replace L15 := L15.chg hc33 (fun h_ => ne_g13_g20 h_) (fun _ h_ => h_.elim)
          replace L31 := L31.chg hc33 (fun h_ => ne_g20_g27 h_.symm) (fun _ h_ => h_.elim)
          replace HW := HW.trans hc33 (fun _ _ h_ => by subst h_; exact hi_g20)
          refine wpList_nil ?_
          refine th_n ?_
          refine wp_seq ?_
          refine wp_region_lit ?_
          refine vrun (w := w32) (lp := [(1, .pointer (some ⟨g1, 0, none⟩)), (2, .pointer (some ⟨g6, 0, none⟩)), (3, .pointer (some ⟨g20, 0, none⟩)), (20, .slice (some ⟨g27, 0, none⟩) acc.length (acc.length + 3)), (22, .slice A1 acc.length c1)]) (φ := [World.cell? w32 ⟨g20, 1, none⟩ = some (.slice (some ⟨g27, 0, none⟩) acc.length (acc.length + 3)), World.cell? w32 ⟨g1, 1, none⟩ = some (.slice A1 acc.length c1)]) tbok 4 [.slice (some ⟨g27, 0, none⟩) acc.length (acc.length + 3), .slice A1 acc.length c1] [1, 2, 3, 20, 22] E (by kernel_rfl) ⟨B24.cell (j := 1) rfl, B5.cell (j := 1) rfl⟩ ?_
          clear E; intro a E
          refine e_copyL (d := cBool) (g := g27) E rfl rfl tbok rfl rfl rfl rfl rfl L31 (H1.keep HW lo_hi) Enc.anyF (by omega) (by omega) ?_
          intro w34 a hc35 L31 E_
          replace E := E_ _ rfl; clear E_
          replace B5 := B5.chg hc35 (fun h_ => ne_g1_g27 h_)
          replace B10 := B10.chg hc35 (fun h_ => ne_g6_g27 h_)
          replace L15 := L15.chg hc35 (fun h_ => ne_g13_g27 h_) (fun _ h_ => h_.elim)
          replace B24 := B24.chg hc35 (fun h_ => ne_g20_g27 h_)
          replace HW := HW.trans hc35 (fun _ _ h_ => by subst h_; exact hi_g27)
          refine wpList_nil ?_
          refine th_n ?_
          refine wp_seq ?_
          refine wp_region_lit ?_
          refine vrun (w := w34) (lp := [(1, .pointer (some ⟨g1, 0, none⟩)), (2, .pointer (some ⟨g6, 0, none⟩)), (3, .pointer (some ⟨g20, 0, none⟩)), (26, .int .i64 ((nodes.length : Nat) : Int)), (30, .int .i64 (((nodes.length : Nat) : Int) + 3))]) (φ := [World.cell? w34 ⟨g1, 3, none⟩ = some (.slice A3 nodes.length c3), World.cell? w34 ⟨g1, 3, none⟩ = some (.slice A3 nodes.length c3), IntKind.i64.wrap (((nodes.length : Nat) : Int) + 3) = ((nodes.length : Nat) : Int) + 3]) tbok 7 [.slice A3 nodes.length c3, .slice A3 nodes.length c3, .int .i64 (((nodes.length : Nat) : Int) + 3)] [1, 2, 3, 26, 30] E (by kernel_rfl) ⟨B5.cell (j := 3) rfl, B5.cell (j := 3) rfl, wrap_i64 (by omega) (by omega)⟩ ?_
          clear E; intro a E
          refine e_makeL cNode (z := (⟨0, 0, 0⟩ : Nd)) nodes.length (nodes.length + 3) No E rfl rfl tbok rfl rfl rfl rfl (by omega) (by omega) (by omega) (by show 24 * (nodes.length + 3) ≤ 281474976710656; omega) (by omega) rfl rfl (fun _ _ => rfl) (fun _ h_ => h_.elim) ?_
          intro w37 g36 a hc38 hg39 L40 E_
          replace E := E_ _ rfl; clear E_
          have hi_g36 : w0.heap.size ≤ g36 := Nat.le_trans HW.size hg39
          have ne_g1_g36 : g1 ≠ g36 := by have h_ := B5.lt; omega
          have ne_g6_g36 : g6 ≠ g36 := by have h_ := B10.lt; omega
          have ne_g13_g36 : g13 ≠ g36 := by have h_ := L15.lt; omega
          have ne_g20_g36 : g20 ≠ g36 := by have h_ := B24.lt; omega
          have ne_g27_g36 : g27 ≠ g36 := by have h_ := L31.lt; omega
          replace B5 := B5.chg hc38 (fun h_ => h_)
          replace B10 := B10.chg hc38 (fun h_ => h_)
          replace L15 := L15.chg hc38 (fun h_ => h_) (fun _ _ h_ => h_)
          replace B24 := B24.chg hc38 (fun h_ => h_)
          replace L31 := L31.chg hc38 (fun h_ => h_) (fun _ _ h_ => h_)
          replace HW := HW.trans hc38 (fun _ _ h_ => h_.elim)
          refine vrun (w := w37) (lp := [(1, .pointer (some ⟨g1, 0, none⟩)), (2, .pointer (some ⟨g6, 0, none⟩)), (3, .pointer (some ⟨g20, 0, none⟩)), (31, .slice (some ⟨g36, 0, none⟩) nodes.length (nodes.length + 3)), (32, .pointer (some ⟨g20, 3, none⟩))]) (φ := []) tbok 1 [] [1, 2, 3, 31, 32] E (by kernel_rfl) trivial ?_
          clear E; intro a E
          refine e_store (g := g20) (off := 3) E rfl rfl rfl rfl tbok rfl B24 rfl rfl rfl rfl ?_
          clear E; intro w41 a hc42 B24 E
          replace B24 : Bx w41 g20 26 [.int .i64 p0, .slice (some ⟨g27, 0, none⟩) acc.length (acc.length + 3), .slice (some ⟨g13, 0, none⟩) gd.length (gd.length + 3), .slice (some ⟨g36, 0, none⟩) nodes.length (nodes.length + 3)] := B24
          replace B5 := B5.chg hc42 (fun h_ => ne_g1_g20 h_)
          replace B10 := B10.chg hc42 (fun h_ => ne_g6_g20 h_)
          replace L15 := L15.chg hc42 (fun h_ => ne_g13_g20 h_) (fun _ h_ => h_.elim)
          replace L31 := L31.chg hc42 (fun h_ => ne_g20_g27 h_.symm) (fun _ h_ => h_.elim)
          replace L40 := L40.chg hc42 (fun h_ => ne_g20_g36 h_.symm) (fun _ h_ => h_.elim)
          replace HW := HW.trans hc42 (fun _ _ h_ => by subst h_; exact hi_g20)
          refine wpList_nil ?_
          refine th_n ?_
          refine wp_seq ?_
          refine wp_region_lit ?_
          refine vrun (w := w41) (lp := [(2, .pointer (some ⟨g6, 0, none⟩)), (3, .pointer (some ⟨g20, 0, none⟩)), (34, .slice (some ⟨g36, 0, none⟩) nodes.length (nodes.length + 3)), (36, .slice A3 nodes.length c3)]) (φ := [World.cell? w41 ⟨g20, 3, none⟩ = some (.slice (some ⟨g36, 0, none⟩) nodes.length (nodes.length + 3)), World.cell? w41 ⟨g1, 3, none⟩ = some (.slice A3 nodes.length c3)]) tbok 4 [.slice (some ⟨g36, 0, none⟩) nodes.length (nodes.length + 3), .slice A3 nodes.length c3] [2, 3, 34, 36] E (by kernel_rfl) ⟨B24.cell (j := 3) rfl, B5.cell (j := 3) rfl⟩ ?_
          clear E; intro a E
          refine e_copyL (d := cNode) (g := g36) E rfl rfl tbok rfl rfl rfl rfl rfl L40 (H3.keep HW lo_hi) Enc.anyF (by omega) (by omega) ?_
          intro w43 a hc44 L40 E_
          replace E := E_ _ rfl; clear E_
          replace B5 := B5.chg hc44 (fun h_ => ne_g1_g36 h_)
          replace B10 := B10.chg hc44 (fun h_ => ne_g6_g36 h_)
          replace L15 := L15.chg hc44 (fun h_ => ne_g13_g36 h_) (fun _ h_ => h_.elim)
          replace B24 := B24.chg hc44 (fun h_ => ne_g20_g36 h_)
          replace L31 := L31.chg hc44 (fun h_ => ne_g27_g36 h_) (fun _ h_ => h_.elim)
          replace HW := HW.trans hc44 (fun _ _ h_ => by subst h_; exact hi_g36)
          refine wpList_nil ?_
          refine th_n ?_
          refine wp_seq ?_
          refine wp_region_lit ?_
          refine vrun (w := w43) (lp := [(2, .pointer (some ⟨g6, 0, none⟩)), (38, .agg #[.int .i64 p0, .slice (some ⟨g27, 0, none⟩) acc.length (acc.length + 3), .slice (some ⟨g13, 0, none⟩) gd.length (gd.length + 3), .slice (some ⟨g36, 0, none⟩) nodes.length (nodes.length + 3)])]) (φ := [cellsAt w43 g20 (0) [.int .i64 p0, .slice (some ⟨g27, 0, none⟩) acc.length (acc.length + 3), .slice (some ⟨g13, 0, none⟩) gd.length (gd.length + 3), .slice (some ⟨g36, 0, none⟩) nodes.length (nodes.length + 3)]]) tbok 1 [.agg #[.int .i64 p0, .slice (some ⟨g27, 0, none⟩) acc.length (acc.length + 3), .slice (some ⟨g13, 0, none⟩) gd.length (gd.length + 3), .slice (some ⟨g36, 0, none⟩) nodes.length (nodes.length + 3)]] [2, 38] E (by kernel_rfl) (B24.sub 0 _ rfl) ?_
          clear E; intro a E
          refine e_store (g := g6) (off := 0) E rfl rfl rfl rfl tbok rfl B10 rfl rfl rfl rfl ?_
          clear E; intro w45 a hc46 B10 E
          replace B10 : Bx w45 g6 26 [.int .i64 p0, .slice (some ⟨g27, 0, none⟩) acc.length (acc.length + 3), .slice (some ⟨g13, 0, none⟩) gd.length (gd.length + 3), .slice (some ⟨g36, 0, none⟩) nodes.length (nodes.length + 3)] := B10
          replace B5 := B5.chg hc46 (fun h_ => ne_g1_g6 h_)
          replace L15 := L15.chg hc46 (fun h_ => ne_g6_g13 h_.symm) (fun _ h_ => h_.elim)
          replace B24 := B24.chg hc46 (fun h_ => ne_g6_g20 h_.symm)
          replace L31 := L31.chg hc46 (fun h_ => ne_g6_g27 h_.symm) (fun _ h_ => h_.elim)
          replace L40 := L40.chg hc46 (fun h_ => ne_g6_g36 h_.symm) (fun _ h_ => h_.elim)
          replace HW := HW.trans hc46 (fun _ _ h_ => by subst h_; exact hi_g6)
          refine wpList_nil ?_
          refine th_n ?_
          refine wp_ret ?_
          refine retV E [.cell 2 26] [.agg #[.int .i64 p0, .slice (some ⟨g27, 0, none⟩) acc.length (acc.length + 3), .slice (some ⟨g13, 0, none⟩) gd.length (gd.length + 3), .slice (some ⟨g36, 0, none⟩) nodes.length (nodes.length + 3)]] rfl ⟨⟨_, rfl, run_loadBx tbok B10 rfl rfl rfl 0 rfl rfl⟩, trivial⟩ (.inl rfl) ?_
          exact ⟨_, rfl, g27, g13, g36, rfl, hi_g27, hi_g13, hi_g36, HW.own, L31.eq (by simp [bB]), L15, L40.eq (by simp [bN])⟩
    · refine wpOp_of_list rfl ?_
      refine e_alloc E rfl rfl tbok rfl ?_
      intro w48 g47 a hc49 hg50 B51 E_
      replace E := E_ _ rfl; clear E_
      replace B51 : Bx w48 g47 26 [.int .i64 0, .slice none 0 0, .slice none 0 0, .slice none 0 0] := B51
      have hi_g47 : w0.heap.size ≤ g47 := Nat.le_trans HW.size hg50
      have hw_g47 : w7.heap.size ≤ g47 := Nat.le_trans HS.size hg50
      have ne_g1_g47 : g1 ≠ g47 := by have h_ := B5.lt; omega
      have ne_g6_g47 : g6 ≠ g47 := by have h_ := B10.lt; omega
      have ne_g13_g47 : g13 ≠ g47 := by have h_ := L15.lt; omega
      replace B5 := B5.chg hc49 (fun h_ => h_)
      replace B10 := B10.chg hc49 (fun h_ => h_)
      replace L15 := L15.chg hc49 (fun h_ => h_) (fun _ _ h_ => h_)
      replace HS := HS.trans hc49 (fun _ _ h_ => h_.elim)
      replace HW := HW.trans hc49 (fun _ _ h_ => h_.elim)
      refine wpList_nil ?_
      refine th_n ⟨HS, ?_⟩
      refine wpAnyH_all (rs := [5]) (by kernel_rfl) (by simp) ?_
      refine all1 ?_
      · refine wpOp_of_list rfl ?_
        refine e_build (ps := [(0, .int .i64 p0), (2, .slice (some ⟨g13, 0, none⟩) gd.length (gd.length + 3))]) (v := .agg #[.int .i64 p0, .slice none 0 0, .slice (some ⟨g13, 0, none⟩) gd.length (gd.length + 3), .slice none 0 0]) E rfl rfl tbok rfl (by kernel_rfl) rfl ?_
        clear E; intro a E
        refine wpList_nil ?_
        refine th_n ⟨HS, ?_⟩
        refine wpAnyH_all (rs := [7]) (by kernel_rfl) (by simp) ?_
        refine all1 ?_
        · refine wpOp_of_list rfl ?_
          refine e_store (g := g47) (off := 0) E rfl rfl rfl rfl tbok rfl B51 rfl rfl rfl rfl ?_
          clear E; intro w52 a hc53 B51 E
          replace B51 : Bx w52 g47 26 [.int .i64 p0, .slice none 0 0, .slice (some ⟨g13, 0, none⟩) gd.length (gd.length + 3), .slice none 0 0] := B51
          replace B5 := B5.chg hc53 (fun h_ => ne_g1_g47 h_)
          replace B10 := B10.chg hc53 (fun h_ => ne_g6_g47 h_)
          replace L15 := L15.chg hc53 (fun h_ => ne_g13_g47 h_) (fun _ h_ => h_.elim)
          replace HS := HS.trans hc53 (fun k_ hk_ h_ => by subst h_; first | (exfalso; omega) | (first | exact rfl | simp))
          replace HW := HW.trans hc53 (fun _ _ h_ => by subst h_; exact hi_g47)
          refine wpList_nil ?_
          refine th_n ⟨HS, ?_⟩
          refine dr_done (by kernel_rfl) ?_
          clear HS HWs
          refine th_n ?_
          refine wp_seq ?_
          refine wp_region_lit ?_
          refine vrun (w := w52) (lp := [(1, .pointer (some ⟨g1, 0, none⟩)), (2, .pointer (some ⟨g6, 0, none⟩)), (3, .pointer (some ⟨g47, 0, none⟩)), (12, .int .i64 ((acc.length : Nat) : Int)), (16, .int .i64 (((acc.length : Nat) : Int) + 3))]) (φ := [World.cell? w52 ⟨g1, 1, none⟩ = some (.slice A1 acc.length c1), World.cell? w52 ⟨g1, 1, none⟩ = some (.slice A1 acc.length c1), IntKind.i64.wrap (((acc.length : Nat) : Int) + 3) = ((acc.length : Nat) : Int) + 3]) tbok 7 [.slice A1 acc.length c1, .slice A1 acc.length c1, .int .i64 (((acc.length : Nat) : Int) + 3)] [1, 2, 3, 12, 16] E (by kernel_rfl) ⟨B5.cell (j := 1) rfl, B5.cell (j := 1) rfl, wrap_i64 (by omega) (by omega)⟩ ?_
          clear E; intro a E
          refine e_makeL cBool (z := false) acc.length (acc.length + 3) No E rfl rfl tbok rfl rfl rfl rfl (by omega) (by omega) (by omega) (by show 1 * (acc.length + 3) ≤ 281474976710656; omega) (by omega) rfl rfl (fun _ _ => rfl) (fun _ h_ => h_.elim) ?_
          intro w55 g54 a hc56 hg57 L58 E_
          replace E := E_ _ rfl; clear E_
          have hi_g54 : w0.heap.size ≤ g54 := Nat.le_trans HW.size hg57
          have ne_g1_g54 : g1 ≠ g54 := by have h_ := B5.lt; omega
          have ne_g6_g54 : g6 ≠ g54 := by have h_ := B10.lt; omega
          have ne_g13_g54 : g13 ≠ g54 := by have h_ := L15.lt; omega
          have ne_g47_g54 : g47 ≠ g54 := by have h_ := B51.lt; omega
          replace B5 := B5.chg hc56 (fun h_ => h_)
          replace B10 := B10.chg hc56 (fun h_ => h_)
          replace L15 := L15.chg hc56 (fun h_ => h_) (fun _ _ h_ => h_)
          replace B51 := B51.chg hc56 (fun h_ => h_)
          replace HW := HW.trans hc56 (fun _ _ h_ => h_.elim)
          refine vrun (w := w55) (lp := [(1, .pointer (some ⟨g1, 0, none⟩)), (2, .pointer (some ⟨g6, 0, none⟩)), (3, .pointer (some ⟨g47, 0, none⟩)), (17, .slice (some ⟨g54, 0, none⟩) acc.length (acc.length + 3)), (18, .pointer (some ⟨g47, 1, none⟩))]) (φ := []) tbok 1 [] [1, 2, 3, 17, 18] E (by kernel_rfl) trivial ?_
          clear E; intro a E
          refine e_store (g := g47) (off := 1) E rfl rfl rfl rfl tbok rfl B51 rfl rfl rfl rfl ?_
          clear E; intro w59 a hc60 B51 E
          replace B51 : Bx w59 g47 26 [.int .i64 p0, .slice (some ⟨g54, 0, none⟩) acc.length (acc.length + 3), .slice (some ⟨g13, 0, none⟩) gd.length (gd.length + 3), .slice none 0 0] := B51
          replace B5 := B5.chg hc60 (fun h_ => ne_g1_g47 h_)
          replace B10 := B10.chg hc60 (fun h_ => ne_g6_g47 h_)
          replace L15 := L15.chg hc60 (fun h_ => ne_g13_g47 h_) (fun _ h_ => h_.elim)
          replace L58 := L58.chg hc60 (fun h_ => ne_g47_g54 h_.symm) (fun _ h_ => h_.elim)
          replace HW := HW.trans hc60 (fun _ _ h_ => by subst h_; exact hi_g47)
          refine wpList_nil ?_
          refine th_n ?_
          refine wp_seq ?_
          refine wp_region_lit ?_
          refine vrun (w := w59) (lp := [(1, .pointer (some ⟨g1, 0, none⟩)), (2, .pointer (some ⟨g6, 0, none⟩)), (3, .pointer (some ⟨g47, 0, none⟩)), (20, .slice (some ⟨g54, 0, none⟩) acc.length (acc.length + 3)), (22, .slice A1 acc.length c1)]) (φ := [World.cell? w59 ⟨g47, 1, none⟩ = some (.slice (some ⟨g54, 0, none⟩) acc.length (acc.length + 3)), World.cell? w59 ⟨g1, 1, none⟩ = some (.slice A1 acc.length c1)]) tbok 4 [.slice (some ⟨g54, 0, none⟩) acc.length (acc.length + 3), .slice A1 acc.length c1] [1, 2, 3, 20, 22] E (by kernel_rfl) ⟨B51.cell (j := 1) rfl, B5.cell (j := 1) rfl⟩ ?_
          clear E; intro a E
          refine e_copyL (d := cBool) (g := g54) E rfl rfl tbok rfl rfl rfl rfl rfl L58 (H1.keep HW lo_hi) Enc.anyF (by omega) (by omega) ?_
          intro w61 a hc62 L58 E_
          replace E := E_ _ rfl; clear E_
          replace B5 := B5.chg hc62 (fun h_ => ne_g1_g54 h_)
          replace B10 := B10.chg hc62 (fun h_ => ne_g6_g54 h_)
          replace L15 := L15.chg hc62 (fun h_ => ne_g13_g54 h_) (fun _ h_ => h_.elim)
          replace B51 := B51.chg hc62 (fun h_ => ne_g47_g54 h_)
          replace HW := HW.trans hc62 (fun _ _ h_ => by subst h_; exact hi_g54)
          refine wpList_nil ?_
          refine th_n ?_
          refine wp_seq ?_
          refine wp_region_lit ?_
          refine vrun (w := w61) (lp := [(1, .pointer (some ⟨g1, 0, none⟩)), (2, .pointer (some ⟨g6, 0, none⟩)), (3, .pointer (some ⟨g47, 0, none⟩)), (26, .int .i64 ((nodes.length : Nat) : Int)), (30, .int .i64 (((nodes.length : Nat) : Int) + 3))]) (φ := [World.cell? w61 ⟨g1, 3, none⟩ = some (.slice A3 nodes.length c3), World.cell? w61 ⟨g1, 3, none⟩ = some (.slice A3 nodes.length c3), IntKind.i64.wrap (((nodes.length : Nat) : Int) + 3) = ((nodes.length : Nat) : Int) + 3]) tbok 7 [.slice A3 nodes.length c3, .slice A3 nodes.length c3, .int .i64 (((nodes.length : Nat) : Int) + 3)] [1, 2, 3, 26, 30] E (by kernel_rfl) ⟨B5.cell (j := 3) rfl, B5.cell (j := 3) rfl, wrap_i64 (by omega) (by omega)⟩ ?_
          clear E; intro a E
          refine e_makeL cNode (z := (⟨0, 0, 0⟩ : Nd)) nodes.length (nodes.length + 3) No E rfl rfl tbok rfl rfl rfl rfl (by omega) (by omega) (by omega) (by show 24 * (nodes.length + 3) ≤ 281474976710656; omega) (by omega) rfl rfl (fun _ _ => rfl) (fun _ h_ => h_.elim) ?_
          intro w64 g63 a hc65 hg66 L67 E_
          replace E := E_ _ rfl; clear E_
          have hi_g63 : w0.heap.size ≤ g63 := Nat.le_trans HW.size hg66
          have ne_g1_g63 : g1 ≠ g63 := by have h_ := B5.lt; omega
          have ne_g6_g63 : g6 ≠ g63 := by have h_ := B10.lt; omega
          have ne_g13_g63 : g13 ≠ g63 := by have h_ := L15.lt; omega
          have ne_g47_g63 : g47 ≠ g63 := by have h_ := B51.lt; omega
          have ne_g54_g63 : g54 ≠ g63 := by have h_ := L58.lt; omega
          replace B5 := B5.chg hc65 (fun h_ => h_)
          replace B10 := B10.chg hc65 (fun h_ => h_)
          replace L15 := L15.chg hc65 (fun h_ => h_) (fun _ _ h_ => h_)
          replace B51 := B51.chg hc65 (fun h_ => h_)
          replace L58 := L58.chg hc65 (fun h_ => h_) (fun _ _ h_ => h_)
          replace HW := HW.trans hc65 (fun _ _ h_ => h_.elim)
          refine vrun (w := w64) (lp := [(1, .pointer (some ⟨g1, 0, none⟩)), (2, .pointer (some ⟨g6, 0, none⟩)), (3, .pointer (some ⟨g47, 0, none⟩)), (31, .slice (some ⟨g63, 0, none⟩) nodes.length (nodes.length + 3)), (32, .pointer (some ⟨g47, 3, none⟩))]) (φ := []) tbok 1 [] [1, 2, 3, 31, 32] E (by kernel_rfl) trivial ?_
          clear E; intro a E
          refine e_store (g := g47) (off := 3) E rfl rfl rfl rfl tbok rfl B51 rfl rfl rfl rfl ?_
          clear E; intro w68 a hc69 B51 E
          replace B51 : Bx w68 g47 26 [.int .i64 p0, .slice (some ⟨g54, 0, none⟩) acc.length (acc.length + 3), .slice (some ⟨g13, 0, none⟩) gd.length (gd.length + 3), .slice (some ⟨g63, 0, none⟩) nodes.length (nodes.length + 3)] := B51
          replace B5 := B5.chg hc69 (fun h_ => ne_g1_g47 h_)
          replace B10 := B10.chg hc69 (fun h_ => ne_g6_g47 h_)
          replace L15 := L15.chg hc69 (fun h_ => ne_g13_g47 h_) (fun _ h_ => h_.elim)
          replace L58 := L58.chg hc69 (fun h_ => ne_g47_g54 h_.symm) (fun _ h_ => h_.elim)
          replace L67 := L67.chg hc69 (fun h_ => ne_g47_g63 h_.symm) (fun _ h_ => h_.elim)
          replace HW := HW.trans hc69 (fun _ _ h_ => by subst h_; exact hi_g47)
          refine wpList_nil ?_
          refine th_n ?_
          refine wp_seq ?_
          refine wp_region_lit ?_
          refine vrun (w := w68) (lp := [(2, .pointer (some ⟨g6, 0, none⟩)), (3, .pointer (some ⟨g47, 0, none⟩)), (34, .slice (some ⟨g63, 0, none⟩) nodes.length (nodes.length + 3)), (36, .slice A3 nodes.length c3)]) (φ := [World.cell? w68 ⟨g47, 3, none⟩ = some (.slice (some ⟨g63, 0, none⟩) nodes.length (nodes.length + 3)), World.cell? w68 ⟨g1, 3, none⟩ = some (.slice A3 nodes.length c3)]) tbok 4 [.slice (some ⟨g63, 0, none⟩) nodes.length (nodes.length + 3), .slice A3 nodes.length c3] [2, 3, 34, 36] E (by kernel_rfl) ⟨B51.cell (j := 3) rfl, B5.cell (j := 3) rfl⟩ ?_
          clear E; intro a E
          refine e_copyL (d := cNode) (g := g63) E rfl rfl tbok rfl rfl rfl rfl rfl L67 (H3.keep HW lo_hi) Enc.anyF (by omega) (by omega) ?_
          intro w70 a hc71 L67 E_
          replace E := E_ _ rfl; clear E_
          replace B5 := B5.chg hc71 (fun h_ => ne_g1_g63 h_)
          replace B10 := B10.chg hc71 (fun h_ => ne_g6_g63 h_)
          replace L15 := L15.chg hc71 (fun h_ => ne_g13_g63 h_) (fun _ h_ => h_.elim)
          replace B51 := B51.chg hc71 (fun h_ => ne_g47_g63 h_)
          replace L58 := L58.chg hc71 (fun h_ => ne_g54_g63 h_) (fun _ h_ => h_.elim)
          replace HW := HW.trans hc71 (fun _ _ h_ => by subst h_; exact hi_g63)
          refine wpList_nil ?_
          refine th_n ?_
          refine wp_seq ?_
          refine wp_region_lit ?_
          refine vrun (w := w70) (lp := [(2, .pointer (some ⟨g6, 0, none⟩)), (38, .agg #[.int .i64 p0, .slice (some ⟨g54, 0, none⟩) acc.length (acc.length + 3), .slice (some ⟨g13, 0, none⟩) gd.length (gd.length + 3), .slice (some ⟨g63, 0, none⟩) nodes.length (nodes.length + 3)])]) (φ := [cellsAt w70 g47 (0) [.int .i64 p0, .slice (some ⟨g54, 0, none⟩) acc.length (acc.length + 3), .slice (some ⟨g13, 0, none⟩) gd.length (gd.length + 3), .slice (some ⟨g63, 0, none⟩) nodes.length (nodes.length + 3)]]) tbok 1 [.agg #[.int .i64 p0, .slice (some ⟨g54, 0, none⟩) acc.length (acc.length + 3), .slice (some ⟨g13, 0, none⟩) gd.length (gd.length + 3), .slice (some ⟨g63, 0, none⟩) nodes.length (nodes.length + 3)]] [2, 38] E (by kernel_rfl) (B51.sub 0 _ rfl) ?_
          clear E; intro a E
          refine e_store (g := g6) (off := 0) E rfl rfl rfl rfl tbok rfl B10 rfl rfl rfl rfl ?_
          clear E; intro w72 a hc73 B10 E
          replace B10 : Bx w72 g6 26 [.int .i64 p0, .slice (some ⟨g54, 0, none⟩) acc.length (acc.length + 3), .slice (some ⟨g13, 0, none⟩) gd.length (gd.length + 3), .slice (some ⟨g63, 0, none⟩) nodes.length (nodes.length + 3)] := B10
          replace B5 := B5.chg hc73 (fun h_ => ne_g1_g6 h_)
          replace L15 := L15.chg hc73 (fun h_ => ne_g6_g13 h_.symm) (fun _ h_ => h_.elim)
          replace B51 := B51.chg hc73 (fun h_ => ne_g6_g47 h_.symm)
          replace L58 := L58.chg hc73 (fun h_ => ne_g6_g54 h_.symm) (fun _ h_ => h_.elim)
          replace L67 := L67.chg hc73 (fun h_ => ne_g6_g63 h_.symm) (fun _ h_ => h_.elim)
          replace HW := HW.trans hc73 (fun _ _ h_ => by subst h_; exact hi_g6)
          refine wpList_nil ?_
          refine th_n ?_
          refine wp_ret ?_
          refine retV E [.cell 2 26] [.agg #[.int .i64 p0, .slice (some ⟨g54, 0, none⟩) acc.length (acc.length + 3), .slice (some ⟨g13, 0, none⟩) gd.length (gd.length + 3), .slice (some ⟨g63, 0, none⟩) nodes.length (nodes.length + 3)]] rfl ⟨⟨_, rfl, run_loadBx tbok B10 rfl rfl rfl 0 rfl rfl⟩, trivial⟩ (.inl rfl) ?_
          exact ⟨_, rfl, g54, g13, g63, rfl, hi_g54, hi_g13, hi_g63, HW.own, L58.eq (by simp [bB]), L15, L67.eq (by simp [bN])⟩
  · refine wpOp_of_list rfl ?_
    refine e_alloc E rfl rfl tbok rfl ?_
    intro w75 g74 a hc76 hg77 B78 E_
    replace E := E_ _ rfl; clear E_
    replace B78 : Bx w75 g74 26 [.int .i64 0, .slice none 0 0, .slice none 0 0, .slice none 0 0] := B78
    have hi_g74 : w0.heap.size ≤ g74 := Nat.le_trans HW.size hg77
    have hw_g74 : w7.heap.size ≤ g74 := Nat.le_trans HS.size hg77
    have ne_g1_g74 : g1 ≠ g74 := by have h_ := B5.lt; omega
    have ne_g6_g74 : g6 ≠ g74 := by have h_ := B10.lt; omega
    replace B5 := B5.chg hc76 (fun h_ => h_)
    replace B10 := B10.chg hc76 (fun h_ => h_)
    replace HS := HS.trans hc76 (fun _ _ h_ => h_.elim)
    replace HW := HW.trans hc76 (fun _ _ h_ => h_.elim)
    refine wpList_nil ?_
    refine th_n ⟨HS, ?_⟩
    refine wpAnyH_all (rs := [4]) (by kernel_rfl) (by simp) ?_
    refine all1 ?_
    · refine wpOp_of_list rfl ?_
      refine e_call E rfl rfl Try.func27 rfl rfl rfl (LentInts_calls A2 c2 gd _ (by omega) (H2.now HW)) ?_
      intro v82 w83 a hR84 E_
      obtain ⟨g79, rfl, hg80, hc85, L81⟩ := hR84
      replace E := E_ _ rfl; clear E_
      have hi_g79 : w0.heap.size ≤ g79 := Nat.le_trans HW.size hg80
      have hw_g79 : w7.heap.size ≤ g79 := Nat.le_trans HS.size hg80
      have ne_g1_g79 : g1 ≠ g79 := by have h_ := B5.lt; omega
      have ne_g6_g79 : g6 ≠ g79 := by have h_ := B10.lt; omega
      have ne_g74_g79 : g74 ≠ g79 := by have h_ := B78.lt; omega
      replace B5 := B5.chg hc85 (fun h_ => h_)
      replace B10 := B10.chg hc85 (fun h_ => h_)
      replace B78 := B78.chg hc85 (fun h_ => h_)
      replace HS := HS.trans hc85 (fun _ _ h_ => h_.elim)
      replace HW := HW.trans hc85 (fun _ _ h_ => h_.elim)
      refine wpList_nil ?_
      refine th_n ⟨HS, ?_⟩
      refine wpAnyH_all (rs := [5]) (by kernel_rfl) (by simp) ?_
      refine all1 ?_
      · refine wpOp_of_list rfl ?_
        refine e_build (ps := [(0, .int .i64 p0), (2, .slice (some ⟨g79, 0, none⟩) gd.length (gd.length + 3))]) (v := .agg #[.int .i64 p0, .slice none 0 0, .slice (some ⟨g79, 0, none⟩) gd.length (gd.length + 3), .slice none 0 0]) E rfl rfl tbok rfl (by kernel_rfl) rfl ?_
        clear E; intro a E
        refine wpList_nil ?_
        refine th_n ⟨HS, ?_⟩
        refine wpAnyH_all (rs := [7]) (by kernel_rfl) (by simp) ?_
        refine all1 ?_
        · refine wpOp_of_list rfl ?_
          refine e_store (g := g74) (off := 0) E rfl rfl rfl rfl tbok rfl B78 rfl rfl rfl rfl ?_
          clear E; intro w86 a hc87 B78 E
          replace B78 : Bx w86 g74 26 [.int .i64 p0, .slice none 0 0, .slice (some ⟨g79, 0, none⟩) gd.length (gd.length + 3), .slice none 0 0] := B78
          replace B5 := B5.chg hc87 (fun h_ => ne_g1_g74 h_)
          replace B10 := B10.chg hc87 (fun h_ => ne_g6_g74 h_)
          replace L81 := L81.chg hc87 (fun h_ => ne_g74_g79 h_.symm) (fun _ h_ => h_.elim)
          replace HS := HS.trans hc87 (fun k_ hk_ h_ => by subst h_; first | (exfalso; omega) | (first | exact rfl | simp))
          replace HW := HW.trans hc87 (fun _ _ h_ => by subst h_; exact hi_g74)
          refine wpList_nil ?_
          refine th_n ⟨HS, ?_⟩
          refine dr_done (by kernel_rfl) ?_
          clear HS HWs
          refine th_n ?_
          refine wp_seq ?_
          refine wp_region_lit ?_
          refine vrun (w := w86) (lp := [(1, .pointer (some ⟨g1, 0, none⟩)), (2, .pointer (some ⟨g6, 0, none⟩)), (3, .pointer (some ⟨g74, 0, none⟩)), (12, .int .i64 ((acc.length : Nat) : Int)), (16, .int .i64 (((acc.length : Nat) : Int) + 3))]) (φ := [World.cell? w86 ⟨g1, 1, none⟩ = some (.slice A1 acc.length c1), World.cell? w86 ⟨g1, 1, none⟩ = some (.slice A1 acc.length c1), IntKind.i64.wrap (((acc.length : Nat) : Int) + 3) = ((acc.length : Nat) : Int) + 3]) tbok 7 [.slice A1 acc.length c1, .slice A1 acc.length c1, .int .i64 (((acc.length : Nat) : Int) + 3)] [1, 2, 3, 12, 16] E (by kernel_rfl) ⟨B5.cell (j := 1) rfl, B5.cell (j := 1) rfl, wrap_i64 (by omega) (by omega)⟩ ?_
          clear E; intro a E
          refine e_makeL cBool (z := false) acc.length (acc.length + 3) No E rfl rfl tbok rfl rfl rfl rfl (by omega) (by omega) (by omega) (by show 1 * (acc.length + 3) ≤ 281474976710656; omega) (by omega) rfl rfl (fun _ _ => rfl) (fun _ h_ => h_.elim) ?_
          intro w89 g88 a hc90 hg91 L92 E_
          replace E := E_ _ rfl; clear E_
          have hi_g88 : w0.heap.size ≤ g88 := Nat.le_trans HW.size hg91
          have ne_g1_g88 : g1 ≠ g88 := by have h_ := B5.lt; omega
          have ne_g6_g88 : g6 ≠ g88 := by have h_ := B10.lt; omega
          have ne_g74_g88 : g74 ≠ g88 := by have h_ := B78.lt; omega
          have ne_g79_g88 : g79 ≠ g88 := by have h_ := L81.lt; omega
          replace B5 := B5.chg hc90 (fun h_ => h_)
          replace B10 := B10.chg hc90 (fun h_ => h_)
          replace B78 := B78.chg hc90 (fun h_ => h_)
          replace L81 := L81.chg hc90 (fun h_ => h_) (fun _ _ h_ => h_)
          replace HW := HW.trans hc90 (fun _ _ h_ => h_.elim)
          refine vrun (w := w89) (lp := [(1, .pointer (some ⟨g1, 0, none⟩)), (2, .pointer (some ⟨g6, 0, none⟩)), (3, .pointer (some ⟨g74, 0, none⟩)), (17, .slice (some ⟨g88, 0, none⟩) acc.length (acc.length + 3)), (18, .pointer (some ⟨g74, 1, none⟩))]) (φ := []) tbok 1 [] [1, 2, 3, 17, 18] E (by kernel_rfl) trivial ?_
          clear E; intro a E
          refine e_store (g := g74) (off := 1) E rfl rfl rfl rfl tbok rfl B78 rfl rfl rfl rfl ?_
          clear E; intro w93 a hc94 B78 E
          replace B78 : Bx w93 g74 26 [.int .i64 p0, .slice (some ⟨g88, 0, none⟩) acc.length (acc.length + 3), .slice (some ⟨g79, 0, none⟩) gd.length (gd.length + 3), .slice none 0 0] := B78
          replace B5 := B5.chg hc94 (fun h_ => ne_g1_g74 h_)
          replace B10 := B10.chg hc94 (fun h_ => ne_g6_g74 h_)
          replace L81 := L81.chg hc94 (fun h_ => ne_g74_g79 h_.symm) (fun _ h_ => h_.elim)
          replace L92 := L92.chg hc94 (fun h_ => ne_g74_g88 h_.symm) (fun _ h_ => h_.elim)
          replace HW := HW.trans hc94 (fun _ _ h_ => by subst h_; exact hi_g74)
          refine wpList_nil ?_
          refine th_n ?_
          refine wp_seq ?_
          refine wp_region_lit ?_
          refine vrun (w := w93) (lp := [(1, .pointer (some ⟨g1, 0, none⟩)), (2, .pointer (some ⟨g6, 0, none⟩)), (3, .pointer (some ⟨g74, 0, none⟩)), (20, .slice (some ⟨g88, 0, none⟩) acc.length (acc.length + 3)), (22, .slice A1 acc.length c1)]) (φ := [World.cell? w93 ⟨g74, 1, none⟩ = some (.slice (some ⟨g88, 0, none⟩) acc.length (acc.length + 3)), World.cell? w93 ⟨g1, 1, none⟩ = some (.slice A1 acc.length c1)]) tbok 4 [.slice (some ⟨g88, 0, none⟩) acc.length (acc.length + 3), .slice A1 acc.length c1] [1, 2, 3, 20, 22] E (by kernel_rfl) ⟨B78.cell (j := 1) rfl, B5.cell (j := 1) rfl⟩ ?_
          clear E; intro a E
          refine e_copyL (d := cBool) (g := g88) E rfl rfl tbok rfl rfl rfl rfl rfl L92 (H1.keep HW lo_hi) Enc.anyF (by omega) (by omega) ?_
          intro w95 a hc96 L92 E_
          replace E := E_ _ rfl; clear E_
          replace B5 := B5.chg hc96 (fun h_ => ne_g1_g88 h_)
          replace B10 := B10.chg hc96 (fun h_ => ne_g6_g88 h_)
          replace B78 := B78.chg hc96 (fun h_ => ne_g74_g88 h_)
          replace L81 := L81.chg hc96 (fun h_ => ne_g79_g88 h_) (fun _ h_ => h_.elim)
          replace HW := HW.trans hc96 (fun _ _ h_ => by subst h_; exact hi_g88)
          refine wpList_nil ?_
          refine th_n ?_
          refine wp_seq ?_
          refine wp_region_lit ?_
          refine vrun (w := w95) (lp := [(1, .pointer (some ⟨g1, 0, none⟩)), (2, .pointer (some ⟨g6, 0, none⟩)), (3, .pointer (some ⟨g74, 0, none⟩)), (26, .int .i64 ((nodes.length : Nat) : Int)), (30, .int .i64 (((nodes.length : Nat) : Int) + 3))]) (φ := [World.cell? w95 ⟨g1, 3, none⟩ = some (.slice A3 nodes.length c3), World.cell? w95 ⟨g1, 3, none⟩ = some (.slice A3 nodes.length c3), IntKind.i64.wrap (((nodes.length : Nat) : Int) + 3) = ((nodes.length : Nat) : Int) + 3]) tbok 7 [.slice A3 nodes.length c3, .slice A3 nodes.length c3, .int .i64 (((nodes.length : Nat) : Int) + 3)] [1, 2, 3, 26, 30] E (by kernel_rfl) ⟨B5.cell (j := 3) rfl, B5.cell (j := 3) rfl, wrap_i64 (by omega) (by omega)⟩ ?_
          clear E; intro a E
          refine e_makeL cNode (z := (⟨0, 0, 0⟩ : Nd)) nodes.length (nodes.length + 3) No E rfl rfl tbok rfl rfl rfl rfl (by omega) (by omega) (by omega) (by show 24 * (nodes.length + 3) ≤ 281474976710656; omega) (by omega) rfl rfl (fun _ _ => rfl) (fun _ h_ => h_.elim) ?_
          intro w98 g97 a hc99 hg100 L101 E_
          replace E := E_ _ rfl; clear E_
          have hi_g97 : w0.heap.size ≤ g97 := Nat.le_trans HW.size hg100
          have ne_g1_g97 : g1 ≠ g97 := by have h_ := B5.lt; omega
          have ne_g6_g97 : g6 ≠ g97 := by have h_ := B10.lt; omega
          have ne_g74_g97 : g74 ≠ g97 := by have h_ := B78.lt; omega
          have ne_g79_g97 : g79 ≠ g97 := by have h_ := L81.lt; omega
          have ne_g88_g97 : g88 ≠ g97 := by have h_ := L92.lt; omega
          replace B5 := B5.chg hc99 (fun h_ => h_)
          replace B10 := B10.chg hc99 (fun h_ => h_)
          replace B78 := B78.chg hc99 (fun h_ => h_)
          replace L81 := L81.chg hc99 (fun h_ => h_) (fun _ _ h_ => h_)
          replace L92 := L92.chg hc99 (fun h_ => h_) (fun _ _ h_ => h_)
          replace HW := HW.trans hc99 (fun _ _ h_ => h_.elim)
          refine vrun (w := w98) (lp := [(1, .pointer (some ⟨g1, 0, none⟩)), (2, .pointer (some ⟨g6, 0, none⟩)), (3, .pointer (some ⟨g74, 0, none⟩)), (31, .slice (some ⟨g97, 0, none⟩) nodes.length (nodes.length + 3)), (32, .pointer (some ⟨g74, 3, none⟩))]) (φ := []) tbok 1 [] [1, 2, 3, 31, 32] E (by kernel_rfl) trivial ?_
          clear E; intro a E
          refine e_store (g := g74) (off := 3) E rfl rfl rfl rfl tbok rfl B78 rfl rfl rfl rfl ?_
          clear E; intro w102 a hc103 B78 E
          replace B78 : Bx w102 g74 26 [.int .i64 p0, .slice (some ⟨g88, 0, none⟩) acc.length (acc.length + 3), .slice (some ⟨g79, 0, none⟩) gd.length (gd.length + 3), .slice (some ⟨g97, 0, none⟩) nodes.length (nodes.length + 3)] := B78
          replace B5 := B5.chg hc103 (fun h_ => ne_g1_g74 h_)
          replace B10 := B10.chg hc103 (fun h_ => ne_g6_g74 h_)
          replace L81 := L81.chg hc103 (fun h_ => ne_g74_g79 h_.symm) (fun _ h_ => h_.elim)
          replace L92 := L92.chg hc103 (fun h_ => ne_g74_g88 h_.symm) (fun _ h_ => h_.elim)
          replace L101 := L101.chg hc103 (fun h_ => ne_g74_g97 h_.symm) (fun _ h_ => h_.elim)
          replace HW := HW.trans hc103 (fun _ _ h_ => by subst h_; exact hi_g74)
          refine wpList_nil ?_
          refine th_n ?_
          refine wp_seq ?_
          refine wp_region_lit ?_
          refine vrun (w := w102) (lp := [(2, .pointer (some ⟨g6, 0, none⟩)), (3, .pointer (some ⟨g74, 0, none⟩)), (34, .slice (some ⟨g97, 0, none⟩) nodes.length (nodes.length + 3)), (36, .slice A3 nodes.length c3)]) (φ := [World.cell? w102 ⟨g74, 3, none⟩ = some (.slice (some ⟨g97, 0, none⟩) nodes.length (nodes.length + 3)), World.cell? w102 ⟨g1, 3, none⟩ = some (.slice A3 nodes.length c3)]) tbok 4 [.slice (some ⟨g97, 0, none⟩) nodes.length (nodes.length + 3), .slice A3 nodes.length c3] [2, 3, 34, 36] E (by kernel_rfl) ⟨B78.cell (j := 3) rfl, B5.cell (j := 3) rfl⟩ ?_
          clear E; intro a E
          refine e_copyL (d := cNode) (g := g97) E rfl rfl tbok rfl rfl rfl rfl rfl L101 (H3.keep HW lo_hi) Enc.anyF (by omega) (by omega) ?_
          intro w104 a hc105 L101 E_
          replace E := E_ _ rfl; clear E_
          replace B5 := B5.chg hc105 (fun h_ => ne_g1_g97 h_)
          replace B10 := B10.chg hc105 (fun h_ => ne_g6_g97 h_)
          replace B78 := B78.chg hc105 (fun h_ => ne_g74_g97 h_)
          replace L81 := L81.chg hc105 (fun h_ => ne_g79_g97 h_) (fun _ h_ => h_.elim)
          replace L92 := L92.chg hc105 (fun h_ => ne_g88_g97 h_) (fun _ h_ => h_.elim)
          replace HW := HW.trans hc105 (fun _ _ h_ => by subst h_; exact hi_g97)
          refine wpList_nil ?_
          refine th_n ?_
          refine wp_seq ?_
          refine wp_region_lit ?_
          refine vrun (w := w104) (lp := [(2, .pointer (some ⟨g6, 0, none⟩)), (38, .agg #[.int .i64 p0, .slice (some ⟨g88, 0, none⟩) acc.length (acc.length + 3), .slice (some ⟨g79, 0, none⟩) gd.length (gd.length + 3), .slice (some ⟨g97, 0, none⟩) nodes.length (nodes.length + 3)])]) (φ := [cellsAt w104 g74 (0) [.int .i64 p0, .slice (some ⟨g88, 0, none⟩) acc.length (acc.length + 3), .slice (some ⟨g79, 0, none⟩) gd.length (gd.length + 3), .slice (some ⟨g97, 0, none⟩) nodes.length (nodes.length + 3)]]) tbok 1 [.agg #[.int .i64 p0, .slice (some ⟨g88, 0, none⟩) acc.length (acc.length + 3), .slice (some ⟨g79, 0, none⟩) gd.length (gd.length + 3), .slice (some ⟨g97, 0, none⟩) nodes.length (nodes.length + 3)]] [2, 38] E (by kernel_rfl) (B78.sub 0 _ rfl) ?_
          clear E; intro a E
          refine e_store (g := g6) (off := 0) E rfl rfl rfl rfl tbok rfl B10 rfl rfl rfl rfl ?_
          clear E; intro w106 a hc107 B10 E
          replace B10 : Bx w106 g6 26 [.int .i64 p0, .slice (some ⟨g88, 0, none⟩) acc.length (acc.length + 3), .slice (some ⟨g79, 0, none⟩) gd.length (gd.length + 3), .slice (some ⟨g97, 0, none⟩) nodes.length (nodes.length + 3)] := B10
          replace B5 := B5.chg hc107 (fun h_ => ne_g1_g6 h_)
          replace B78 := B78.chg hc107 (fun h_ => ne_g6_g74 h_.symm)
          replace L81 := L81.chg hc107 (fun h_ => ne_g6_g79 h_.symm) (fun _ h_ => h_.elim)
          replace L92 := L92.chg hc107 (fun h_ => ne_g6_g88 h_.symm) (fun _ h_ => h_.elim)
          replace L101 := L101.chg hc107 (fun h_ => ne_g6_g97 h_.symm) (fun _ h_ => h_.elim)
          replace HW := HW.trans hc107 (fun _ _ h_ => by subst h_; exact hi_g6)
          refine wpList_nil ?_
          refine th_n ?_
          refine wp_ret ?_
          refine retV E [.cell 2 26] [.agg #[.int .i64 p0, .slice (some ⟨g88, 0, none⟩) acc.length (acc.length + 3), .slice (some ⟨g79, 0, none⟩) gd.length (gd.length + 3), .slice (some ⟨g97, 0, none⟩) nodes.length (nodes.length + 3)]] rfl ⟨⟨_, rfl, run_loadBx tbok B10 rfl rfl rfl 0 rfl rfl⟩, trivial⟩ (.inl rfl) ?_
          exact ⟨_, rfl, g88, g79, g97, rfl, hi_g88, hi_g79, hi_g97, HW.own, L92.eq (by simp [bB]), L81, L101.eq (by simp [bN])⟩

/-! rejoinder/rejoinderkit.KeptAuto -/
set_option maxRecDepth 100000 in
theorem KeptAuto_calls (p0 : Int) (A1 A2 A3 : Option Addr) (c1 c2 c3 : Nat) (acc : List Bool) (gd : List Int) (nodes : List Nd) (B1 B2 B3 : Option Addr) (w0 : World) (hl : acc.length ≤ 1000000 ∧ gd.length ≤ 1000000 ∧ nodes.length ≤ 1000000) (H1 : C cBool w0 (Lo w0.heap.size) A1 acc) (H2 : C (cInt .i64) w0 (Lo w0.heap.size) A2 gd) (H3 : C cNode w0 (Lo w0.heap.size) A3 nodes) (L1 : C cBool w0 (Lo w0.heap.size) B1 (bB acc)) (L2 : C (cInt .i64) w0 (Lo w0.heap.size) B2 (lentL gd)) (L3 : C cNode w0 (Lo w0.heap.size) B3 (bN nodes)) :
    Calls Try.prog 14 #[.agg #[.int .i64 p0, .slice B1 acc.length (acc.length + 3), .slice B2 gd.length (gd.length + 3), .slice B3 nodes.length (nodes.length + 3)], .agg #[.int .i64 p0, .slice A1 acc.length c1, .slice A2 gd.length c2, .slice A3 nodes.length c3]] w0 fun e w' => ∃ v, e = .returned v ∧ (v = .bool true ∧ Ext w0 w') := by
  have HW : Chg (Hi w0.heap.size) w0 w0 := Chg.refl _ _
  have q1_ := bB_len acc; have q2_ := lentL_len gd; have q3_ := bN_len nodes
  have G1 : C cBool w0 (Lo w0.heap.size) B1 acc := by have h := L1.take acc.length; simpa [bB] using h
  have G2 : C (cInt .i64) w0 (Lo w0.heap.size) B2 gd := by have h := L2.take gd.length; simpa [lentL] using h
  have G3 : C cNode w0 (Lo w0.heap.size) B3 nodes := by have h := L3.take nodes.length; simpa [bN] using h
  refine enterV (n := 61) Try.func14 rfl rfl rfl ?_
  intro a E
  replace E := E.pick [(0, .agg #[.int .i64 p0, .slice B1 acc.length (acc.length + 3), .slice B2 gd.length (gd.length + 3), .slice B3 nodes.length (nodes.length + 3)]), (1, .agg #[.int .i64 p0, .slice A1 acc.length c1, .slice A2 gd.length c2, .slice A3 nodes.length c3])] ⟨rfl, rfl, trivial⟩
  refine wp_seq ?_
  refine wp_region_lit ?_
  refine e_box E rfl rfl rfl ?_
  intro w2 g1 a hc3 hg4 B5 E_
  replace E := E_ _ rfl; clear E_
  replace B5 : Bx w2 g1 26 [.int .i64 p0, .slice B1 acc.length (acc.length + 3), .slice B2 gd.length (gd.length + 3), .slice B3 nodes.length (nodes.length + 3)] := B5
  have hi_g1 : w0.heap.size ≤ g1 := Nat.le_trans HW.size hg4
  replace HW := HW.trans hc3 (fun _ _ h_ => h_.elim)
  refine e_box E rfl rfl rfl ?_
  intro w7 g6 a hc8 hg9 B10 E_
  replace E := E_ _ rfl; clear E_
  replace B10 : Bx w7 g6 26 [.int .i64 p0, .slice A1 acc.length c1, .slice A2 gd.length c2, .slice A3 nodes.length c3] := B10
  have hi_g6 : w0.heap.size ≤ g6 := Nat.le_trans HW.size hg9
  have ne_g1_g6 : g1 ≠ g6 := by have h_ := B5.lt; omega
  replace B5 := B5.chg hc8 (fun h_ => h_)
  replace HW := HW.trans hc8 (fun _ _ h_ => h_.elim)
  refine vrun (w := w7) (lp := [(2, .pointer (some ⟨g1, 0, none⟩)), (3, .pointer (some ⟨g6, 0, none⟩))]) (φ := []) tbok 1 [] [2, 3] E (by kernel_rfl) trivial ?_
  clear E; intro a E
  refine wpList_nil ?_
  refine th_n ?_
  refine wp_seq ?_
  refine wp_seq ?_
  refine wp_region_lit ?_
  refine vrun (w := w7) (lp := [(2, .pointer (some ⟨g1, 0, none⟩)), (3, .pointer (some ⟨g6, 0, none⟩)), (9, .agg #[.int .i64 p0, .slice B1 acc.length (acc.length + 3), .slice B2 gd.length (gd.length + 3), .slice B3 nodes.length (nodes.length + 3)]), (10, .agg #[.int .i64 p0, .slice A1 acc.length c1, .slice A2 gd.length c2, .slice A3 nodes.length c3])]) (φ := [cellsAt w7 g1 (0) [.int .i64 p0, .slice B1 acc.length (acc.length + 3), .slice B2 gd.length (gd.length + 3), .slice B3 nodes.length (nodes.length + 3)], cellsAt w7 g6 (0) [.int .i64 p0, .slice A1 acc.length c1, .slice A2 gd.length c2, .slice A3 nodes.length c3]]) tbok 2 [.agg #[.int .i64 p0, .slice B1 acc.length (acc.length + 3), .slice B2 gd.length (gd.length + 3), .slice B3 nodes.length (nodes.length + 3)], .agg #[.int .i64 p0, .slice A1 acc.length c1, .slice A2 gd.length c2, .slice A3 nodes.length c3]] [2, 3, 9, 10] E (by kernel_rfl) ⟨B5.sub 0 _ rfl, B10.sub 0 _ rfl⟩ ?_
  clear E; intro a E
  refine e_call E rfl rfl Try.func20 rfl rfl rfl (SameAuto_calls p0 B1 B2 B3 (acc.length + 3) (gd.length + 3) (nodes.length + 3) acc gd nodes p0 A1 A2 A3 c1 c2 c3 acc gd nodes _ (by omega) (G1.now HW) (G2.now HW) (G3.now HW) (H1.now HW) (H2.now HW) (H3.now HW)) ?_
  intro v11 w12 a hR13 E_
  obtain ⟨rfl, hc14⟩ := hR13
  replace E := E_ _ rfl; clear E_
  replace B5 := B5.chg hc14 (fun h_ => h_)
  replace B10 := B10.chg hc14 (fun h_ => h_)
  replace HW := HW.trans hc14 (fun _ _ h_ => h_.elim)
  refine vrun (w := w12) (lp := [(2, .pointer (some ⟨g1, 0, none⟩)), (3, .pointer (some ⟨g6, 0, none⟩)), (13, .bool (!decide (p0 = p0 ∧ acc = acc ∧ gd = gd ∧ nodes = nodes)))]) (φ := []) tbok 2 [] [2, 3, 13] E (by kernel_rfl) trivial ?_
  clear E; intro a E
  refine E.cases (t := 13) rfl (fun hb_ E_ => ?_) (fun hb_ E_ => ?_)
  · replace E := E_; clear E_
    have h15 : ¬ (p0 = p0 ∧ acc = acc ∧ gd = gd ∧ nodes = nodes) := by simpa using hb_
    clear hb_
    exact absurd ⟨rfl, rfl, rfl, rfl⟩ h15
  · replace E := E_; clear E_
    have h16 : p0 = p0 ∧ acc = acc ∧ gd = gd ∧ nodes = nodes := by simpa using hb_
    clear hb_
    refine vrun (w := w12) (lp := [(2, .pointer (some ⟨g1, 0, none⟩)), (3, .pointer (some ⟨g6, 0, none⟩)), (13, .bool false), (15, .slice B2 gd.length (gd.length + 3)), (17, .slice A2 gd.length c2)]) (φ := [World.cell? w12 ⟨g1, 2, none⟩ = some (.slice B2 gd.length (gd.length + 3)), World.cell? w12 ⟨g6, 2, none⟩ = some (.slice A2 gd.length c2)]) tbok 4 [.slice B2 gd.length (gd.length + 3), .slice A2 gd.length c2] [2, 3, 13, 15, 17] E (by kernel_rfl) ⟨B5.cell (j := 2) rfl, B10.cell (j := 2) rfl⟩ ?_
    clear E; intro a E
    refine e_call E rfl rfl Try.func36 rfl rfl rfl (KeptInts_calls B2 A2 c2 gd _ (by omega) (L2.now HW) (H2.now HW)) ?_
    intro v17 w18 a hR19 E_
    obtain ⟨rfl, hc20⟩ := hR19
    replace E := E_ _ rfl; clear E_
    replace B5 := B5.chg hc20 (fun h_ => h_)
    replace B10 := B10.chg hc20 (fun h_ => h_)
    replace HW := HW.trans hc20 (fun _ _ h_ => h_.elim)
    refine vrun (w := w18) (lp := [(2, .pointer (some ⟨g1, 0, none⟩)), (3, .pointer (some ⟨g6, 0, none⟩)), (20, .bool false)]) (φ := []) tbok 2 [] [2, 3, 20] E (by kernel_rfl) trivial ?_
    clear E; intro a E
    refine wpList_nil ?_
    refine th_n ?_
    refine c_false E rfl ?_
    refine wp_skip ?_
    refine th_n ?_
    refine wp_seq ?_
    refine dr_start (S := fun w_ => Chg No w18 w_) (by kernel_rfl) ?_
    intro w21 hc22
    have HWs := HW
    have B5s := B5
    have B10s := B10
    have HS : Chg No w18 w21 := hc22.mono (fun _ _ h_ => h_.elim)
    replace B5 := B5.chg hc22 (fun h_ => h_)
    replace B10 := B10.chg hc22 (fun h_ => h_)
    replace HW := HW.trans hc22 (fun _ _ h_ => h_.elim)
    refine drun (lp := [(3, .pointer (some ⟨g6, 0, none⟩)), (5, .slice B1 (acc.length + 3) (acc.length + 3)), (6, .slice B3 (nodes.length + 3) (nodes.length + 3))]) tbok (by kernel_rfl) [0, 1, 2, 3, 4, 5, 6, 7, 8, 9, 10, 11, 12, 13] [.slice B1 acc.length (acc.length + 3), .slice B1 acc.length (acc.length + 3), .slice B3 nodes.length (nodes.length + 3), .slice B3 nodes.length (nodes.length + 3)] [3, 5, 6] (fun w_ => [World.cell? w_ ⟨g1, 1, none⟩ = some (.slice B1 acc.length (acc.length + 3)), World.cell? w_ ⟨g1, 1, none⟩ = some (.slice B1 acc.length (acc.length + 3)), 0 ≤ (((acc.length + 3) : Nat) : Int) ∧ (((acc.length + 3) : Nat) : Int) ≤ (((acc.length + 3) : Nat) : Int), World.cell? w_ ⟨g1, 3, none⟩ = some (.slice B3 nodes.length (nodes.length + 3)), World.cell? w_ ⟨g1, 3, none⟩ = some (.slice B3 nodes.length (nodes.length + 3)), 0 ≤ (((nodes.length + 3) : Nat) : Int) ∧ (((nodes.length + 3) : Nat) : Int) ≤ (((nodes.length + 3) : Nat) : Int)]) (fuel := 0) E (fun _ _ => by kernel_rfl) (fun w_ hS_ => ⟨hS_.cell (B5s.cell (j := 1) rfl) (fun h_ => h_), hS_.cell (B5s.cell (j := 1) rfl) (fun h_ => h_), ⟨by omega, by omega⟩, hS_.cell (B5s.cell (j := 3) rfl) (fun h_ => h_), hS_.cell (B5s.cell (j := 3) rfl) (fun h_ => h_), ⟨by omega, by omega⟩⟩) (by kernel_rfl) HS ?_
    clear E; intro a E
    refine dr_done (by kernel_rfl) ?_
    clear HS HWs
    refine th_n ?_
    refine wp_seq ?_
    refine wp_seq ?_
    refine wp_region_lit ?_
    refine vrun (w := w21) (lp := [(3, .pointer (some ⟨g6, 0, none⟩)), (5, .slice B1 (acc.length + 3) (acc.length + 3)), (6, .slice B3 (nodes.length + 3) (nodes.length + 3)), (7, .int .i64 ((acc.length : Nat) : Int))]) (φ := [World.cell? w21 ⟨g6, 1, none⟩ = some (.slice A1 acc.length c1)]) tbok 4 [.slice A1 acc.length c1] [3, 5, 6, 7] E (by kernel_rfl) (B10.cell (j := 1) rfl) ?_
    clear E; intro a E
    refine wpList_nil ?_
    refine th_n ?_
    refine wp_block ?_
    refine loopV (fun m24 a w23 => ∃ (k : Nat), Fr a 61 [(3, .pointer (some ⟨g6, 0, none⟩)), (5, .slice B1 (acc.length + 3) (acc.length + 3)), (6, .slice B3 (nodes.length + 3) (nodes.length + 3)), (7, .int .i64 (k : Int))] ∧ Chg (Hi w0.heap.size) w0 w23 ∧ Bx w23 g1 26 [.int .i64 p0, .slice B1 acc.length (acc.length + 3), .slice B2 gd.length (gd.length + 3), .slice B3 nodes.length (nodes.length + 3)] ∧ Bx w23 g6 26 [.int .i64 p0, .slice A1 acc.length c1, .slice A2 gd.length c2, .slice A3 nodes.length c3] ∧ (acc.length ≤ k ∧ k ≤ acc.length + 3) ∧ m24 = acc.length + 3 - k) (acc.length + 3 - (acc.length)) ?_ ?_
    · skip
      exact ⟨acc.length, E.pick _ ⟨rfl, rfl, rfl, rfl, trivial⟩, HW, B5, B10, ⟨by omega, by omega⟩, rfl⟩
    · clear E HW; intro m24 a w23 hI_
      obtain ⟨k, hI_⟩ := hI_
      clear B5
      clear B10
      obtain ⟨E, HW, B5, B10, hk, hm_m24⟩ := hI_
      refine wp_seq ?_
      refine wp_seq ?_
      refine wp_region_lit ?_
      refine vrun (w := w23) (lp := [(3, .pointer (some ⟨g6, 0, none⟩)), (5, .slice B1 (acc.length + 3) (acc.length + 3)), (6, .slice B3 (nodes.length + 3) (nodes.length + 3)), (7, .int .i64 (k : Int)), (39, .bool (decide ((k : Int) < (((acc.length + 3) : Nat) : Int))))]) (φ := []) tbok 4 [] [3, 5, 6, 7, 39] E (by kernel_rfl) trivial ?_
      clear E; intro a E
      refine wpList_nil ?_
      refine th_n ?_
      refine E.cases (t := 39) rfl (fun hb_ E_ => ?_) (fun hb_ E_ => ?_)
      · replace E := E_; clear E_
        have h25 : (k : Int) < (((acc.length + 3) : Nat) : Int) := of_decide_eq_true hb_
        clear hb_
        refine c_true E rfl ?_
        refine wp_skip ?_
        refine th_n ?_
        refine wp_seq ?_
        refine wp_block ?_
        refine wp_seq ?_
        refine wp_region_lit ?_
        have hx_44 : 0 ≤ (k : Int) ∧ (k : Int) < (((acc.length + 3) : Nat) : Int) := ⟨by omega, by omega⟩
        obtain ⟨b26, o27, e_b26⟩ := L1.addr (by omega)
        subst e_b26
        refine vrun (w := w23) (lp := [(3, .pointer (some ⟨g6, 0, none⟩)), (5, .slice (some ⟨b26, o27, none⟩) (acc.length + 3) (acc.length + 3)), (6, .slice B3 (nodes.length + 3) (nodes.length + 3)), (7, .int .i64 (k : Int)), (45, .bool (List.getD (bB acc) (Int.toNat (k : Int)) false))]) (φ := [0 ≤ (k : Int) ∧ (k : Int) < (((acc.length + 3) : Nat) : Int), World.cell? w23 ⟨b26, o27 + (Int.toNat (k : Int)) * 1, none⟩ = some (.bool (List.getD (bB acc) (Int.toNat (k : Int)) false))]) tbok 4 [.bool (List.getD (bB acc) (Int.toNat (k : Int)) false)] [3, 5, 6, 7, 45] E (by kernel_rfl) ⟨hx_44, C.at1 (L1.keep HW lo_hi) false hx_44.1 (by have h1_ := hx_44.2; omega)⟩ ?_
        clear E; intro a E
        refine wpList_nil ?_
        refine th_n ?_
        refine E.cases (t := 45) rfl (fun hb_ E_ => ?_) (fun hb_ E_ => ?_)
        · replace E := E_; clear E_
          have h28 : ((List.getD (bB acc) (Int.toNat (k : Int)) false)) = true := hb_
          clear hb_
          exact absurd h28 (by rw [getD_app3 (xs := acc) (k := k) (by omega)]; exact Bool.false_ne_true)
        · replace E := E_; clear E_
          have h29 : ((List.getD (bB acc) (Int.toNat (k : Int)) false)) = false := hb_
          clear hb_
          refine c_false E rfl ?_
          refine wp_skip ?_
          refine bl_n ?_
          refine th_n ?_
          refine wp_region_lit ?_
          refine vrun (w := w23) (lp := [(3, .pointer (some ⟨g6, 0, none⟩)), (5, .slice (some ⟨b26, o27, none⟩) (acc.length + 3) (acc.length + 3)), (6, .slice B3 (nodes.length + 3) (nodes.length + 3)), (7, .int .i64 ((k : Int) + 1))]) (φ := [IntKind.i64.wrap ((k : Int) + 1) = (k : Int) + 1]) tbok 3 [.int .i64 ((k : Int) + 1)] [3, 5, 6, 7] E (by kernel_rfl) (wrap_i64 (by omega) (by omega)) ?_
          clear E; intro a E
          refine wpList_nil ?_
          refine th_n ⟨acc.length + 3 - (k + 1), by omega, ?_⟩
          exact ⟨k + 1, E.pick _ ⟨rfl, rfl, rfl, rfl, trivial⟩, HW, B5, B10, ⟨by omega, by omega⟩, rfl⟩
      · replace E := E_; clear E_
        have h30 : ¬ ((k : Int) < (((acc.length + 3) : Nat) : Int)) := of_decide_eq_false hb_
        clear hb_
        refine c_false E rfl ?_
        refine wp_exit ?_
        refine th_exit ?_
        refine th_exit ?_
        refine bl_hit ?_
        refine th_n ?_
        refine wp_seq ?_
        refine wp_seq ?_
        refine wp_region_lit ?_
        refine vrun (w := w23) (lp := [(6, .slice B3 (nodes.length + 3) (nodes.length + 3)), (8, .int .i64 ((nodes.length : Nat) : Int))]) (φ := [World.cell? w23 ⟨g6, 3, none⟩ = some (.slice A3 nodes.length c3)]) tbok 4 [.slice A3 nodes.length c3] [6, 8] E (by kernel_rfl) (B10.cell (j := 3) rfl) ?_
        clear E; intro a E
        refine wpList_nil ?_
        refine th_n ?_
        refine wp_block ?_
        refine loopV (fun m32 a w31 => ∃ (k : Nat), Fr a 61 [(6, .slice B3 (nodes.length + 3) (nodes.length + 3)), (8, .int .i64 (k : Int))] ∧ Chg (Hi w0.heap.size) w0 w31 ∧ Bx w31 g1 26 [.int .i64 p0, .slice B1 acc.length (acc.length + 3), .slice B2 gd.length (gd.length + 3), .slice B3 nodes.length (nodes.length + 3)] ∧ Bx w31 g6 26 [.int .i64 p0, .slice A1 acc.length c1, .slice A2 gd.length c2, .slice A3 nodes.length c3] ∧ (nodes.length ≤ k ∧ k ≤ nodes.length + 3) ∧ m32 = nodes.length + 3 - k) (nodes.length + 3 - (nodes.length)) ?_ ?_
        · skip
          exact ⟨nodes.length, E.pick _ ⟨rfl, rfl, trivial⟩, HW, B5, B10, ⟨by omega, by omega⟩, rfl⟩
        · clear E HW; intro m32 a w31 hI_
          obtain ⟨k, hI_⟩ := hI_
          clear B5
          clear B10
          obtain ⟨E, HW, B5, B10, hk, hm_m32⟩ := hI_
          refine wp_seq ?_
          refine wp_seq ?_
          refine wp_region_lit ?_
          refine vrun (w := w31) (lp := [(6, .slice B3 (nodes.length + 3) (nodes.length + 3)), (8, .int .i64 (k : Int)), (52, .bool (decide ((k : Int) < (((nodes.length + 3) : Nat) : Int))))]) (φ := []) tbok 4 [] [6, 8, 52] E (by kernel_rfl) trivial ?_
          clear E; intro a E
          refine wpList_nil ?_
          refine th_n ?_
          refine E.cases (t := 52) rfl (fun hb_ E_ => ?_) (fun hb_ E_ => ?_)
          · replace E := E_; clear E_
            have h33 : (k : Int) < (((nodes.length + 3) : Nat) : Int) := of_decide_eq_true hb_
            clear hb_
            refine c_true E rfl ?_
            refine wp_skip ?_
            refine th_n ?_
            refine wp_seq ?_
            refine wp_block ?_
            refine wp_seq ?_
            refine wp_region_lit ?_
            have hx_57 : 0 ≤ (k : Int) ∧ (k : Int) < (((nodes.length + 3) : Nat) : Int) := ⟨by omega, by omega⟩
            obtain ⟨b34, o35, e_b34⟩ := L3.addr (by omega)
            subst e_b34
            refine vrun (w := w31) (lp := [(6, .slice (some ⟨b34, o35, none⟩) (nodes.length + 3) (nodes.length + 3)), (8, .int .i64 (k : Int)), (58, .agg #[.int .i64 ((List.getD (bN nodes) (Int.toNat (k : Int)) default).P), .int .i64 ((List.getD (bN nodes) (Int.toNat (k : Int)) default).Lo), .int .i64 ((List.getD (bN nodes) (Int.toNat (k : Int)) default).Hi)])]) (φ := [0 ≤ (k : Int) ∧ (k : Int) < (((nodes.length + 3) : Nat) : Int), cellsAt w31 b34 (o35 + (Int.toNat (k : Int)) * 3) [.int .i64 ((List.getD (bN nodes) (Int.toNat (k : Int)) default).P), .int .i64 ((List.getD (bN nodes) (Int.toNat (k : Int)) default).Lo), .int .i64 ((List.getD (bN nodes) (Int.toNat (k : Int)) default).Hi)]]) tbok 4 [.agg #[.int .i64 ((List.getD (bN nodes) (Int.toNat (k : Int)) default).P), .int .i64 ((List.getD (bN nodes) (Int.toNat (k : Int)) default).Lo), .int .i64 ((List.getD (bN nodes) (Int.toNat (k : Int)) default).Hi)]] [6, 8, 58] E (by kernel_rfl) ⟨hx_57, C.atP (L3.keep HW lo_hi) default hx_57.1 (by have h1_ := hx_57.2; omega)⟩ ?_
            clear E; intro a E
            refine e_build (ps := []) (v := .agg #[.int .i64 0, .int .i64 0, .int .i64 0]) E rfl rfl tbok rfl (by kernel_rfl) rfl ?_
            clear E; intro a E
            refine e_eqS E rfl rfl rfl rfl grdNd (eqNd (List.getD (bN nodes) (Int.toNat (k : Int)) default) (⟨0, 0, 0⟩ : Nd) _) (!decide ((List.getD (bN nodes) (Int.toNat (k : Int)) default) = (⟨0, 0, 0⟩ : Nd))) (.inr ⟨rfl, rfl⟩) rfl ?_
            clear E; intro a E
            refine wpList_nil ?_
            refine th_n ?_
            refine E.cases (t := 60) rfl (fun hb_ E_ => ?_) (fun hb_ E_ => ?_)
            · replace E := E_; clear E_
              have h36 : ¬ ((List.getD (bN nodes) (Int.toNat (k : Int)) default) = (⟨0, 0, 0⟩ : Nd)) := by simpa using hb_
              clear hb_
              exact absurd (getD_app3n (xs := nodes) (k := k) (by omega) (by omega)) h36
            · replace E := E_; clear E_
              have h37 : (List.getD (bN nodes) (Int.toNat (k : Int)) default) = (⟨0, 0, 0⟩ : Nd) := by simpa using hb_
              clear hb_
              refine c_false E rfl ?_
              refine wp_skip ?_
              refine bl_n ?_
              refine th_n ?_
              refine wp_region_lit ?_
              refine vrun (w := w31) (lp := [(6, .slice (some ⟨b34, o35, none⟩) (nodes.length + 3) (nodes.length + 3)), (8, .int .i64 ((k : Int) + 1))]) (φ := [IntKind.i64.wrap ((k : Int) + 1) = (k : Int) + 1]) tbok 3 [.int .i64 ((k : Int) + 1)] [6, 8] E (by kernel_rfl) (wrap_i64 (by omega) (by omega)) ?_
              clear E; intro a E
              refine wpList_nil ?_
              refine th_n ⟨nodes.length + 3 - (k + 1), by omega, ?_⟩
              exact ⟨k + 1, E.pick _ ⟨rfl, rfl, trivial⟩, HW, B5, B10, ⟨by omega, by omega⟩, rfl⟩
          · replace E := E_; clear E_
            have h38 : ¬ ((k : Int) < (((nodes.length + 3) : Nat) : Int)) := of_decide_eq_false hb_
            clear hb_
            refine c_false E rfl ?_
            refine wp_exit ?_
            refine th_exit ?_
            refine th_exit ?_
            refine bl_hit ?_
            refine th_n ?_
            refine wp_seq ?_
            refine wp_region_lit ?_
            refine vrun (w := w31) (lp := [(4, .bool true)]) (φ := []) tbok 1 [] [4] E (by kernel_rfl) trivial ?_
            clear E; intro a E
            refine wpList_nil ?_
            refine th_n ?_
            refine wp_ret ?_
            refine ret1 E rfl rfl ?_
            exact ⟨_, rfl, rfl, HW.own⟩

end Go.V
