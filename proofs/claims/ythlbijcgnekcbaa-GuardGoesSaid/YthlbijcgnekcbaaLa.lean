/- Contracts of functions of the program: walks. -/
import Derived.Test.YthlbijcgnekcbaaKeys
import Derived.Test.YthlbijcgnekcbaaK2
import Derived.Test.YthlbijcgnekcbaaG2
import Derived.Test.YthlbijcgnekcbaaRc
import Derived.Test.YthlbijcgnekcbaaTl
set_option linter.all false
set_option linter.unusedVariables false
set_option linter.unnecessarySimpa false
set_option linter.unusedSimpArgs false
namespace Go.V
open Go Go.Proofs

/-! rejoinder/rejoinderlaw14.GuardGoes -/
set_option maxRecDepth 100000 in
theorem law_calls (p0 : Int) (A1 A2 A3 : Option Addr) (c1 c2 c3 : Nat) (acc : List Bool) (gd : List Int) (nodes : List Nd) (n ref l : Int) (w0 : World) (hl1 : acc.length ≤ 9223372036854775807) (hl2 : gd.length ≤ 9223372036854775807) (hl3 : nodes.length ≤ 9223372036854775807) (H1 : C cBool w0 (Lo w0.heap.size) A1 acc) (H2 : C (cInt .i64) w0 (Lo w0.heap.size) A2 gd) (H3 : C cNode w0 (Lo w0.heap.size) A3 nodes) (hr : -9223372036854775808 ≤ ref ∧ ref ≤ 9223372036854775807) (hlt : 0 ≤ l ∧ l ≤ 255) (hW : ∀ x ∈ nodes, x.wf) :
    Calls Try.prog 3 #[.int .i64 n, .agg #[.int .i64 p0, .slice A1 acc.length c1, .slice A2 gd.length c2, .slice A3 nodes.length c3], .int .i64 ref, .int .u8 l] w0 fun e w' => ∃ v, e = .returned v ∧ (v = .bool true ∧ Ext w0 w') := by
  have HW : Chg (Hi w0.heap.size) w0 w0 := Chg.refl _ _
  refine enterV (n := 110) Try.func3 rfl rfl rfl ?_
  intro a E
  replace E := E.pick [(0, .int .i64 n), (1, .agg #[.int .i64 p0, .slice A1 acc.length c1, .slice A2 gd.length c2, .slice A3 nodes.length c3]), (2, .int .i64 ref), (3, .int .u8 l)] ⟨rfl, rfl, rfl, rfl, trivial⟩
  refine wp_seq ?_
  refine wp_region_lit ?_
  refine e_box E rfl rfl rfl ?_
  intro w2 g1 a hc3 hg4 B5 E_
  replace E := E_ _ rfl; clear E_
  replace B5 : Bx w2 g1 26 [.int .i64 p0, .slice A1 acc.length c1, .slice A2 gd.length c2, .slice A3 nodes.length c3] := B5
  have hi_g1 : w0.heap.size ≤ g1 := Nat.le_trans HW.size hg4
  replace HW := HW.trans hc3 (fun _ _ h_ => h_.elim)
  refine vrun (w := w2) (lp := [(0, .int .i64 n), (2, .int .i64 ref), (3, .int .u8 l), (5, .pointer (some ⟨g1, 0, none⟩))]) (φ := []) tbok 1 [] [0, 2, 3, 5] E (by kernel_rfl) trivial ?_
  clear E; intro a E
  refine wpList_nil ?_
  refine th_n ?_
  refine wp_seq ?_
  refine wp_seq ?_
  refine wp_region_lit ?_
  refine vrun (w := w2) (lp := [(0, .int .i64 n), (2, .int .i64 ref), (3, .int .u8 l), (5, .pointer (some ⟨g1, 0, none⟩)), (22, .bool (decide (600 < ((nodes.length : Nat) : Int))))]) (φ := [World.cell? w2 ⟨g1, 3, none⟩ = some (.slice A3 nodes.length c3)]) tbok 5 [.slice A3 nodes.length c3] [0, 2, 3, 5, 22] E (by kernel_rfl) (B5.cell (j := 3) rfl) ?_
  clear E; intro a E
  refine E.cases (t := 22) rfl (fun hb_ E_ => ?_) (fun hb_ E_ => ?_)
  · replace E := E_; clear E_
    have h6 : 600 < ((nodes.length : Nat) : Int) := of_decide_eq_true hb_
    clear hb_
    refine vrun (w := w2) (lp := [(0, .int .i64 n), (2, .int .i64 ref), (3, .int .u8 l), (5, .pointer (some ⟨g1, 0, none⟩)), (28, .bool (decide (((nodes.length : Nat) : Int) ≤ 4096)))]) (φ := [World.cell? w2 ⟨g1, 3, none⟩ = some (.slice A3 nodes.length c3)]) tbok 6 [.slice A3 nodes.length c3] [0, 2, 3, 5, 28] E (by kernel_rfl) (B5.cell (j := 3) rfl) ?_
    clear E; intro a E
    refine E.cases (t := 28) rfl (fun hb_ E_ => ?_) (fun hb_ E_ => ?_)
    · replace E := E_; clear E_
      have h7 : ((nodes.length : Nat) : Int) ≤ 4096 := of_decide_eq_true hb_
      clear hb_
      refine vrun (w := w2) (lp := [(0, .int .i64 n), (2, .int .i64 ref), (3, .int .u8 l), (5, .pointer (some ⟨g1, 0, none⟩)), (45, .bool true)]) (φ := []) tbok 17 [] [0, 2, 3, 5, 45] E (by kernel_rfl) trivial ?_
      clear E; intro a E
      refine wpList_nil ?_
      refine th_n ?_
      refine c_true E rfl ?_
      refine wp_seq ?_
      refine wp_region_lit ?_
      refine vrun (w := w2) (lp := [(8, .bool true)]) (φ := []) tbok 1 [] [8] E (by kernel_rfl) trivial ?_
      clear E; intro a E
      refine wpList_nil ?_
      refine th_n ?_
      refine wp_ret ?_
      refine th_ret ?_
      refine ret1 E rfl rfl ?_
      exact ⟨_, rfl, rfl, HW.own⟩
    · replace E := E_; clear E_
      have h8 : ¬ (((nodes.length : Nat) : Int) ≤ 4096) := of_decide_eq_false hb_
      clear hb_
      refine vrun (w := w2) (lp := [(0, .int .i64 n), (2, .int .i64 ref), (3, .int .u8 l), (5, .pointer (some ⟨g1, 0, none⟩)), (34, .bool (decide (4105 < ((nodes.length : Nat) : Int))))]) (φ := [World.cell? w2 ⟨g1, 3, none⟩ = some (.slice A3 nodes.length c3)]) tbok 6 [.slice A3 nodes.length c3] [0, 2, 3, 5, 34] E (by kernel_rfl) (B5.cell (j := 3) rfl) ?_
      clear E; intro a E
      refine E.cases (t := 34) rfl (fun hb_ E_ => ?_) (fun hb_ E_ => ?_)
      · replace E := E_; clear E_
        have h9 : 4105 < ((nodes.length : Nat) : Int) := of_decide_eq_true hb_
        clear hb_
        refine vrun (w := w2) (lp := [(0, .int .i64 n), (2, .int .i64 ref), (3, .int .u8 l), (5, .pointer (some ⟨g1, 0, none⟩)), (45, .bool true)]) (φ := []) tbok 11 [] [0, 2, 3, 5, 45] E (by kernel_rfl) trivial ?_
        clear E; intro a E
        refine wpList_nil ?_
        refine th_n ?_
        refine c_true E rfl ?_
        refine wp_seq ?_
        refine wp_region_lit ?_
        refine vrun (w := w2) (lp := [(8, .bool true)]) (φ := []) tbok 1 [] [8] E (by kernel_rfl) trivial ?_
        clear E; intro a E
        refine wpList_nil ?_
        refine th_n ?_
        refine wp_ret ?_
        refine th_ret ?_
        refine ret1 E rfl rfl ?_
        exact ⟨_, rfl, rfl, HW.own⟩
      · replace E := E_; clear E_
        have h10 : ¬ (4105 < ((nodes.length : Nat) : Int)) := of_decide_eq_false hb_
        clear hb_
        refine vrun (w := w2) (lp := [(0, .int .i64 n), (2, .int .i64 ref), (3, .int .u8 l), (5, .pointer (some ⟨g1, 0, none⟩)), (40, .bool (decide (300 < ((acc.length : Nat) : Int))))]) (φ := [World.cell? w2 ⟨g1, 1, none⟩ = some (.slice A1 acc.length c1)]) tbok 6 [.slice A1 acc.length c1] [0, 2, 3, 5, 40] E (by kernel_rfl) (B5.cell (j := 1) rfl) ?_
        clear E; intro a E
        refine E.cases (t := 40) rfl (fun hb_ E_ => ?_) (fun hb_ E_ => ?_)
        · replace E := E_; clear E_
          have h11 : 300 < ((acc.length : Nat) : Int) := of_decide_eq_true hb_
          clear hb_
          refine vrun (w := w2) (lp := [(0, .int .i64 n), (2, .int .i64 ref), (3, .int .u8 l), (5, .pointer (some ⟨g1, 0, none⟩)), (45, .bool true)]) (φ := []) tbok 5 [] [0, 2, 3, 5, 45] E (by kernel_rfl) trivial ?_
          clear E; intro a E
          refine wpList_nil ?_
          refine th_n ?_
          refine c_true E rfl ?_
          refine wp_seq ?_
          refine wp_region_lit ?_
          refine vrun (w := w2) (lp := [(8, .bool true)]) (φ := []) tbok 1 [] [8] E (by kernel_rfl) trivial ?_
          clear E; intro a E
          refine wpList_nil ?_
          refine th_n ?_
          refine wp_ret ?_
          refine th_ret ?_
          refine ret1 E rfl rfl ?_
          exact ⟨_, rfl, rfl, HW.own⟩
        · replace E := E_; clear E_
          have h12 : ¬ (300 < ((acc.length : Nat) : Int)) := of_decide_eq_false hb_
          clear hb_
          refine vrun (w := w2) (lp := [(0, .int .i64 n), (2, .int .i64 ref), (3, .int .u8 l), (5, .pointer (some ⟨g1, 0, none⟩)), (45, .bool (decide (300 < ((gd.length : Nat) : Int))))]) (φ := [World.cell? w2 ⟨g1, 2, none⟩ = some (.slice A2 gd.length c2)]) tbok 5 [.slice A2 gd.length c2] [0, 2, 3, 5, 45] E (by kernel_rfl) (B5.cell (j := 2) rfl) ?_
          clear E; intro a E
          refine wpList_nil ?_
          refine th_n ?_
          refine E.cases (t := 45) rfl (fun hb_ E_ => ?_) (fun hb_ E_ => ?_)
          · replace E := E_; clear E_
            have h13 : 300 < ((gd.length : Nat) : Int) := of_decide_eq_true hb_
            clear hb_
            refine c_true E rfl ?_
            refine wp_seq ?_
            refine wp_region_lit ?_
            refine vrun (w := w2) (lp := [(8, .bool true)]) (φ := []) tbok 1 [] [8] E (by kernel_rfl) trivial ?_
            clear E; intro a E
            refine wpList_nil ?_
            refine th_n ?_
            refine wp_ret ?_
            refine th_ret ?_
            refine ret1 E rfl rfl ?_
            exact ⟨_, rfl, rfl, HW.own⟩
          · replace E := E_; clear E_
            have h14 : ¬ (300 < ((gd.length : Nat) : Int)) := of_decide_eq_false hb_
            clear hb_
            refine c_false E rfl ?_
            refine wp_skip ?_
            refine th_n ?_
            refine wp_seq ?_
            refine wp_region_lit ?_
            refine vrun (w := w2) (lp := [(0, .int .i64 n), (2, .int .i64 ref), (3, .int .u8 l), (5, .pointer (some ⟨g1, 0, none⟩)), (46, .agg #[.int .i64 p0, .slice A1 acc.length c1, .slice A2 gd.length c2, .slice A3 nodes.length c3])]) (φ := [cellsAt w2 g1 (0) [.int .i64 p0, .slice A1 acc.length c1, .slice A2 gd.length c2, .slice A3 nodes.length c3]]) tbok 1 [.agg #[.int .i64 p0, .slice A1 acc.length c1, .slice A2 gd.length c2, .slice A3 nodes.length c3]] [0, 2, 3, 5, 46] E (by kernel_rfl) (B5.sub 0 _ rfl) ?_
            clear E; intro a E
            refine e_call E rfl rfl Try.func8 rfl rfl rfl (LentAuto_calls p0 A1 A2 A3 c1 c2 c3 acc gd nodes  _ (by omega) (H1.now HW) (H2.now HW) (H3.now HW)) ?_
            intro v24 w25 a hR26 E_
            obtain ⟨g15, g16, g17, rfl, hg18, hg19, hg20, hc27, L21, L22, L23⟩ := hR26
            replace E := E_ _ rfl; clear E_
            have hi_g15 : w0.heap.size ≤ g15 := Nat.le_trans HW.size hg18
            have ne_g1_g15 : g1 ≠ g15 := by have h_ := B5.lt; omega
            have hi_g16 : w0.heap.size ≤ g16 := Nat.le_trans HW.size hg19
            have ne_g1_g16 : g1 ≠ g16 := by have h_ := B5.lt; omega
            have hi_g17 : w0.heap.size ≤ g17 := Nat.le_trans HW.size hg20
            have ne_g1_g17 : g1 ≠ g17 := by have h_ := B5.lt; omega
            replace B5 := B5.chg hc27 (fun h_ => h_)
            replace HW := HW.trans hc27 (fun _ _ h_ => h_.elim)
            refine e_alloc E rfl rfl tbok rfl ?_
            intro w29 g28 a hc30 hg31 B32 E_
            replace E := E_ _ rfl; clear E_
            replace B32 : Bx w29 g28 26 [.int .i64 0, .slice none 0 0, .slice none 0 0, .slice none 0 0] := B32
            have hi_g28 : w0.heap.size ≤ g28 := Nat.le_trans HW.size hg31
            have ne_g1_g28 : g1 ≠ g28 := by have h_ := B5.lt; omega
            have ne_g15_g28 : g15 ≠ g28 := by have h_ := L21.lt; omega
            have ne_g16_g28 : g16 ≠ g28 := by have h_ := L22.lt; omega
            have ne_g17_g28 : g17 ≠ g28 := by have h_ := L23.lt; omega
            replace B5 := B5.chg hc30 (fun h_ => h_)
            replace L21 := L21.chg hc30 (fun h_ => h_) (fun _ _ h_ => h_)
            replace L22 := L22.chg hc30 (fun h_ => h_) (fun _ _ h_ => h_)
            replace L23 := L23.chg hc30 (fun h_ => h_) (fun _ _ h_ => h_)
            replace HW := HW.trans hc30 (fun _ _ h_ => h_.elim)
            refine e_store (g := g28) (off := 0) E rfl rfl rfl rfl tbok rfl B32 rfl rfl rfl rfl ?_
            clear E; intro w33 a hc34 B32 E
            replace B32 : Bx w33 g28 26 [.int .i64 p0, .slice (some ⟨g15, 0, none⟩) (List.length acc) (List.length acc + 3), .slice (some ⟨g16, 0, none⟩) (List.length gd) (List.length gd + 3), .slice (some ⟨g17, 0, none⟩) (List.length nodes) (List.length nodes + 3)] := B32
            replace B5 := B5.chg hc34 (fun h_ => ne_g1_g28 h_)
            replace L21 := L21.chg hc34 (fun h_ => ne_g15_g28 h_) (fun _ h_ => h_.elim)
            replace L22 := L22.chg hc34 (fun h_ => ne_g16_g28 h_) (fun _ h_ => h_.elim)
            replace L23 := L23.chg hc34 (fun h_ => ne_g17_g28 h_) (fun _ h_ => h_.elim)
            replace HW := HW.trans hc34 (fun _ _ h_ => by subst h_; exact hi_g28)
            refine wpList_nil ?_
            refine th_n ?_
            refine wp_seq ?_
            refine wp_region_lit ?_
            refine vrun (w := w33) (lp := [(0, .int .i64 n), (2, .int .i64 ref), (3, .int .u8 l), (5, .pointer (some ⟨g1, 0, none⟩)), (9, .pointer (some ⟨g28, 0, none⟩)), (50, .slice (some ⟨g17, 0, none⟩) (List.length nodes) (List.length nodes + 3)), (51, .int .i64 ref), (52, .int .u8 l)]) (φ := [World.cell? w33 ⟨g28, 3, none⟩ = some (.slice (some ⟨g17, 0, none⟩) (List.length nodes) (List.length nodes + 3))]) tbok 4 [.slice (some ⟨g17, 0, none⟩) (List.length nodes) (List.length nodes + 3)] [0, 2, 3, 5, 9, 50, 51, 52] E (by kernel_rfl) (B32.cell (j := 3) rfl) ?_
            clear E; intro a E
            refine e_call E rfl rfl Try.func9 rfl rfl rfl (Go_calls (some ⟨g17, 0, none⟩) (List.length nodes + 3) nodes ref l _ hr hlt (by omega) (bN_view L23.now) hW) ?_
            intro v35 w36 a hR37 E_
            obtain ⟨rfl, hc38⟩ := hR37
            replace E := E_ _ rfl; clear E_
            replace B5 := B5.chg hc38 (fun h_ => h_)
            replace L21 := L21.chg hc38 (fun h_ => h_) (fun _ _ h_ => h_)
            replace L22 := L22.chg hc38 (fun h_ => h_) (fun _ _ h_ => h_)
            replace L23 := L23.chg hc38 (fun h_ => h_) (fun _ _ h_ => h_)
            replace B32 := B32.chg hc38 (fun h_ => h_)
            replace HW := HW.trans hc38 (fun _ _ h_ => h_.elim)
            refine vrun (w := w36) (lp := [(0, .int .i64 n), (2, .int .i64 ref), (3, .int .u8 l), (5, .pointer (some ⟨g1, 0, none⟩)), (9, .pointer (some ⟨g28, 0, none⟩)), (10, .int .i64 ((goF nodes l 9 ref).1)), (11, .bool ((goF nodes l 9 ref).2))]) (φ := []) tbok 5 [] [0, 2, 3, 5, 9, 10, 11] E (by kernel_rfl) trivial ?_
            clear E; intro a E
            refine wpList_nil ?_
            refine th_n ?_
            refine wp_seq ?_
            refine wp_region_lit ?_
            refine vrun (w := w36) (lp := [(0, .int .i64 n), (2, .int .i64 ref), (5, .pointer (some ⟨g1, 0, none⟩)), (9, .pointer (some ⟨g28, 0, none⟩)), (10, .int .i64 ((goF nodes l 9 ref).1)), (11, .bool ((goF nodes l 9 ref).2)), (58, .slice A3 nodes.length c3), (59, .int .i64 ref), (60, .int .u8 l)]) (φ := [World.cell? w36 ⟨g1, 3, none⟩ = some (.slice A3 nodes.length c3)]) tbok 4 [.slice A3 nodes.length c3] [0, 2, 5, 9, 10, 11, 58, 59, 60] E (by kernel_rfl) (B5.cell (j := 3) rfl) ?_
            clear E; intro a E
            refine e_call E rfl rfl Try.func10 rfl rfl rfl (rGo_calls A3 c3 nodes ref l _ hr hlt (by omega) (H3.now HW) hW) ?_
            intro v39 w40 a hR41 E_
            obtain ⟨rfl, hc42⟩ := hR41
            replace E := E_ _ rfl; clear E_
            replace B5 := B5.chg hc42 (fun h_ => h_)
            replace L21 := L21.chg hc42 (fun h_ => h_) (fun _ _ h_ => h_)
            replace L22 := L22.chg hc42 (fun h_ => h_) (fun _ _ h_ => h_)
            replace L23 := L23.chg hc42 (fun h_ => h_) (fun _ _ h_ => h_)
            replace B32 := B32.chg hc42 (fun h_ => h_)
            replace HW := HW.trans hc42 (fun _ _ h_ => h_.elim)
            refine vrun (w := w40) (lp := [(0, .int .i64 n), (2, .int .i64 ref), (5, .pointer (some ⟨g1, 0, none⟩)), (9, .pointer (some ⟨g28, 0, none⟩)), (10, .int .i64 ((goF nodes l 9 ref).1)), (11, .bool ((goF nodes l 9 ref).2)), (12, .int .i64 ((goF nodes l 9 ref).1)), (13, .bool ((goF nodes l 9 ref).2))]) (φ := []) tbok 5 [] [0, 2, 5, 9, 10, 11, 12, 13] E (by kernel_rfl) trivial ?_
            clear E; intro a E
            refine wpList_nil ?_
            refine th_n ?_
            refine wp_seq ?_
            refine wp_region_lit ?_
            refine vrun (w := w40) (lp := [(0, .int .i64 n), (2, .int .i64 ref), (5, .pointer (some ⟨g1, 0, none⟩)), (9, .pointer (some ⟨g28, 0, none⟩)), (10, .int .i64 ((goF nodes l 9 ref).1)), (11, .bool ((goF nodes l 9 ref).2)), (12, .int .i64 ((goF nodes l 9 ref).1)), (13, .bool ((goF nodes l 9 ref).2)), (65, .int .i64 n), (67, .slice (some ⟨g17, 0, none⟩) (List.length nodes) (List.length nodes + 3)), (68, .int .i64 ref)]) (φ := [World.cell? w40 ⟨g28, 3, none⟩ = some (.slice (some ⟨g17, 0, none⟩) (List.length nodes) (List.length nodes + 3))]) tbok 4 [.slice (some ⟨g17, 0, none⟩) (List.length nodes) (List.length nodes + 3)] [0, 2, 5, 9, 10, 11, 12, 13, 65, 67, 68] E (by kernel_rfl) (B32.cell (j := 3) rfl) ?_
            clear E; intro a E
            refine e_call E rfl rfl Try.func11 rfl rfl rfl (Table_calls (some ⟨g17, 0, none⟩) (List.length nodes + 3) nodes n ref _ hr (by omega) (bN_view L23.now) hW) ?_
            intro v46 w47 a hR48 E_
            obtain ⟨A43, c44, rfl, hc49, R45⟩ := hR48
            replace E := E_ _ rfl; clear E_
            have sp_R45_g1 : ¬ At A43 g1 := fun h_ => by have i_ := R45.hi _ h_; have j_ := B5.lt; unfold Hi at i_; omega
            have sp_R45_g15 : ¬ At A43 g15 := fun h_ => by have i_ := R45.hi _ h_; have j_ := L21.lt; unfold Hi at i_; omega
            have sp_R45_g16 : ¬ At A43 g16 := fun h_ => by have i_ := R45.hi _ h_; have j_ := L22.lt; unfold Hi at i_; omega
            have sp_R45_g17 : ¬ At A43 g17 := fun h_ => by have i_ := R45.hi _ h_; have j_ := L23.lt; unfold Hi at i_; omega
            have sp_R45_g28 : ¬ At A43 g28 := fun h_ => by have i_ := R45.hi _ h_; have j_ := B32.lt; unfold Hi at i_; omega
            replace R45 := R45.from_ HW.size
            have hl_R45 := tableV_len n nodes ref
            replace B5 := B5.chg hc49 (fun h_ => h_)
            replace L21 := L21.chg hc49 (fun h_ => h_) (fun _ _ h_ => h_)
            replace L22 := L22.chg hc49 (fun h_ => h_) (fun _ _ h_ => h_)
            replace L23 := L23.chg hc49 (fun h_ => h_) (fun _ _ h_ => h_)
            replace B32 := B32.chg hc49 (fun h_ => h_)
            replace HW := HW.trans hc49 (fun _ _ h_ => h_.elim)
            refine vrun (w := w47) (lp := [(0, .int .i64 n), (2, .int .i64 ref), (5, .pointer (some ⟨g1, 0, none⟩)), (9, .pointer (some ⟨g28, 0, none⟩)), (10, .int .i64 ((goF nodes l 9 ref).1)), (11, .bool ((goF nodes l 9 ref).2)), (12, .int .i64 ((goF nodes l 9 ref).1)), (13, .bool ((goF nodes l 9 ref).2)), (14, .slice A43 (List.length (tableV n nodes ref).1) c44), (15, .int .i64 ((tableV n nodes ref).2))]) (φ := []) tbok 5 [] [0, 2, 5, 9, 10, 11, 12, 13, 14, 15] E (by kernel_rfl) trivial ?_
            clear E; intro a E
            refine wpList_nil ?_
            refine th_n ?_
            refine wp_seq ?_
            refine wp_region_lit ?_
            refine vrun (w := w47) (lp := [(5, .pointer (some ⟨g1, 0, none⟩)), (9, .pointer (some ⟨g28, 0, none⟩)), (10, .int .i64 ((goF nodes l 9 ref).1)), (11, .bool ((goF nodes l 9 ref).2)), (12, .int .i64 ((goF nodes l 9 ref).1)), (13, .bool ((goF nodes l 9 ref).2)), (14, .slice A43 (List.length (tableV n nodes ref).1) c44), (15, .int .i64 ((tableV n nodes ref).2)), (73, .int .i64 n), (75, .slice A3 nodes.length c3), (76, .int .i64 ref)]) (φ := [World.cell? w47 ⟨g1, 3, none⟩ = some (.slice A3 nodes.length c3)]) tbok 4 [.slice A3 nodes.length c3] [5, 9, 10, 11, 12, 13, 14, 15, 73, 75, 76] E (by kernel_rfl) (B5.cell (j := 3) rfl) ?_
            clear E; intro a E
            refine e_call E rfl rfl Try.func12 rfl rfl rfl (rTable_calls A3 c3 nodes n ref _ hr (by omega) (H3.now HW) hW) ?_
            intro v53 w54 a hR55 E_
            obtain ⟨A50, c51, rfl, hc56, R52⟩ := hR55
            replace E := E_ _ rfl; clear E_
            have sp_R52_g1 : ¬ At A50 g1 := fun h_ => by have i_ := R52.hi _ h_; have j_ := B5.lt; unfold Hi at i_; omega
            have sp_R52_g15 : ¬ At A50 g15 := fun h_ => by have i_ := R52.hi _ h_; have j_ := L21.lt; unfold Hi at i_; omega
            have sp_R52_g16 : ¬ At A50 g16 := fun h_ => by have i_ := R52.hi _ h_; have j_ := L22.lt; unfold Hi at i_; omega
            have sp_R52_g17 : ¬ At A50 g17 := fun h_ => by have i_ := R52.hi _ h_; have j_ := L23.lt; unfold Hi at i_; omega
            have sp_R52_g28 : ¬ At A50 g28 := fun h_ => by have i_ := R52.hi _ h_; have j_ := B32.lt; unfold Hi at i_; omega
            have sp_R45_R52 := R45.fresh2 R52.hi
            have sp_R52_R45 := At.comm sp_R45_R52
            replace R52 := R52.from_ HW.size
            have hl_R52 := tableV_len n nodes ref
            replace B5 := B5.chg hc56 (fun h_ => h_)
            replace L21 := L21.chg hc56 (fun h_ => h_) (fun _ _ h_ => h_)
            replace L22 := L22.chg hc56 (fun h_ => h_) (fun _ _ h_ => h_)
            replace L23 := L23.chg hc56 (fun h_ => h_) (fun _ _ h_ => h_)
            replace B32 := B32.chg hc56 (fun h_ => h_)
            replace R45 := R45.keep hc56 (fun _ _ h_ => h_) (fun _ _ h_ => h_)
            replace HW := HW.trans hc56 (fun _ _ h_ => h_.elim)
            refine vrun (w := w54) (lp := [(5, .pointer (some ⟨g1, 0, none⟩)), (9, .pointer (some ⟨g28, 0, none⟩)), (10, .int .i64 ((goF nodes l 9 ref).1)), (11, .bool ((goF nodes l 9 ref).2)), (12, .int .i64 ((goF nodes l 9 ref).1)), (13, .bool ((goF nodes l 9 ref).2)), (14, .slice A43 (List.length (tableV n nodes ref).1) c44), (15, .int .i64 ((tableV n nodes ref).2)), (16, .slice A50 (List.length (tableV n nodes ref).1) c51), (17, .int .i64 ((tableV n nodes ref).2))]) (φ := []) tbok 5 [] [5, 9, 10, 11, 12, 13, 14, 15, 16, 17] E (by kernel_rfl) trivial ?_
            clear E; intro a E
            refine wpList_nil ?_
            refine th_n ?_
            refine wp_seq ?_
            refine dr_start (S := fun w_ => Chg No w54 w_) (by kernel_rfl) ?_
            intro w57 hc58
            have HWs := HW
            have B5s := B5
            have L21s := L21
            have L22s := L22
            have L23s := L23
            have B32s := B32
            have R45s := R45
            have R52s := R52
            have HS : Chg No w54 w57 := hc58.mono (fun _ _ h_ => h_.elim)
            replace B5 := B5.chg hc58 (fun h_ => h_)
            replace L21 := L21.chg hc58 (fun h_ => h_) (fun _ _ h_ => h_)
            replace L22 := L22.chg hc58 (fun h_ => h_) (fun _ _ h_ => h_)
            replace L23 := L23.chg hc58 (fun h_ => h_) (fun _ _ h_ => h_)
            replace B32 := B32.chg hc58 (fun h_ => h_)
            replace R45 := R45.keep hc58 (fun _ _ h_ => h_) (fun _ _ h_ => h_)
            replace R52 := R52.keep hc58 (fun _ _ h_ => h_) (fun _ _ h_ => h_)
            replace HW := HW.trans hc58 (fun _ _ h_ => h_.elim)
            refine drun (lp := [(5, .pointer (some ⟨g1, 0, none⟩)), (9, .pointer (some ⟨g28, 0, none⟩)), (11, .bool ((goF nodes l 9 ref).2)), (13, .bool ((goF nodes l 9 ref).2)), (14, .slice A43 (List.length (tableV n nodes ref).1) c44), (15, .int .i64 ((tableV n nodes ref).2)), (16, .slice A50 (List.length (tableV n nodes ref).1) c51), (17, .int .i64 ((tableV n nodes ref).2)), (83, .bool (((goF nodes l 9 ref).1 : Int) == ((goF nodes l 9 ref).1)))]) tbok (by kernel_rfl) [0, 1, 2, 3] [] [5, 9, 11, 13, 14, 15, 16, 17, 83] (fun w_ => []) (fuel := 27) E (fun _ _ => by kernel_rfl) (fun w_ hS_ => trivial) (by kernel_rfl) HS ?_
            clear E; intro a E
            refine E.cases (t := 83) rfl (fun hb_ E_ => ?_) (fun hb_ E_ => ?_)
            · replace E := E_; clear E_
              have h59 : ((goF nodes l 9 ref).1 : Int) = (goF nodes l 9 ref).1 := eq_of_beq hb_
              clear hb_
              refine drun (lp := [(5, .pointer (some ⟨g1, 0, none⟩)), (9, .pointer (some ⟨g28, 0, none⟩)), (14, .slice A43 (List.length (tableV n nodes ref).1) c44), (15, .int .i64 ((tableV n nodes ref).2)), (16, .slice A50 (List.length (tableV n nodes ref).1) c51), (17, .int .i64 ((tableV n nodes ref).2)), (88, .bool (((goF nodes l 9 ref).2) == ((goF nodes l 9 ref).2)))]) tbok (by kernel_rfl) [4, 5, 6, 7, 8] [] [5, 9, 14, 15, 16, 17, 88] (fun w_ => []) (fuel := 22) E (fun _ _ => by kernel_rfl) (fun w_ hS_ => trivial) (by kernel_rfl) HS ?_
              clear E; intro a E
              refine E.cases (t := 88) rfl (fun hb_ E_ => ?_) (fun hb_ E_ => ?_)
              · replace E := E_; clear E_
                have h60 : ((goF nodes l 9 ref).2) = ((goF nodes l 9 ref).2) := by simpa using hb_
                clear hb_
                refine drun (lp := [(5, .pointer (some ⟨g1, 0, none⟩)), (9, .pointer (some ⟨g28, 0, none⟩)), (15, .int .i64 ((tableV n nodes ref).2)), (17, .int .i64 ((tableV n nodes ref).2)), (88, .bool true), (89, .slice A43 (List.length (tableV n nodes ref).1) c44), (90, .slice A50 (List.length (tableV n nodes ref).1) c51)]) tbok (by kernel_rfl) [9, 10] [] [5, 9, 15, 17, 88, 89, 90] (fun w_ => []) (fuel := 20) E (fun _ _ => by kernel_rfl) (fun w_ hS_ => trivial) (by kernel_rfl) HS ?_
                clear E; intro a E
                refine wpAnyH_all (rs := [11]) (by kernel_rfl) (by simp) ?_
                refine all1 ?_
                · refine wpOp_of_list rfl ?_
                  refine e_call E rfl rfl Try.func13 rfl rfl rfl (SameInts_calls A43 A50 c44 c51 (List.length (tableV n nodes ref).1) (List.length (tableV n nodes ref).1) ((tableV n nodes ref).1) ((tableV n nodes ref).1) _ (by first | rfl | omega) (by first | rfl | omega) (by omega) R45.now R52.now) ?_
                  intro v61 w62 a hR63 E_
                  obtain ⟨rfl, hc64⟩ := hR63
                  replace E := E_ _ rfl; clear E_
                  replace B5 := B5.chg hc64 (fun h_ => h_)
                  replace L21 := L21.chg hc64 (fun h_ => h_) (fun _ _ h_ => h_)
                  replace L22 := L22.chg hc64 (fun h_ => h_) (fun _ _ h_ => h_)
                  replace L23 := L23.chg hc64 (fun h_ => h_) (fun _ _ h_ => h_)
                  replace B32 := B32.chg hc64 (fun h_ => h_)
                  replace R45 := R45.keep hc64 (fun _ _ h_ => h_) (fun _ _ h_ => h_)
                  replace R52 := R52.keep hc64 (fun _ _ h_ => h_) (fun _ _ h_ => h_)
                  replace HS := HS.trans hc64 (fun _ _ h_ => h_.elim)
                  replace HW := HW.trans hc64 (fun _ _ h_ => h_.elim)
                  refine wpList_nil ?_
                  refine th_n ⟨HS, ?_⟩
                  refine drun (lp := [(5, .pointer (some ⟨g1, 0, none⟩)), (9, .pointer (some ⟨g28, 0, none⟩)), (15, .int .i64 ((tableV n nodes ref).2)), (17, .int .i64 ((tableV n nodes ref).2)), (93, .bool (decide ((tableV n nodes ref).1 = (tableV n nodes ref).1)))]) tbok (by kernel_rfl) [12, 13] [] [5, 9, 15, 17, 93] (fun w_ => []) (fuel := 17) E (fun _ _ => by kernel_rfl) (fun w_ hS_ => trivial) (by kernel_rfl) HS ?_
                  clear E; intro a E
                  refine E.cases (t := 93) rfl (fun hb_ E_ => ?_) (fun hb_ E_ => ?_)
                  · replace E := E_; clear E_
                    have h65 : (tableV n nodes ref).1 = (tableV n nodes ref).1 := of_decide_eq_true hb_
                    clear hb_
                    refine drun (lp := [(5, .pointer (some ⟨g1, 0, none⟩)), (9, .pointer (some ⟨g28, 0, none⟩)), (98, .bool (((tableV n nodes ref).2 : Int) == ((tableV n nodes ref).2)))]) tbok (by kernel_rfl) [14, 15, 16, 17, 18] [] [5, 9, 98] (fun w_ => []) (fuel := 12) E (fun _ _ => by kernel_rfl) (fun w_ hS_ => trivial) (by kernel_rfl) HS ?_
                    clear E; intro a E
                    refine E.cases (t := 98) rfl (fun hb_ E_ => ?_) (fun hb_ E_ => ?_)
                    · replace E := E_; clear E_
                      have h66 : ((tableV n nodes ref).2 : Int) = (tableV n nodes ref).2 := eq_of_beq hb_
                      clear hb_
                      refine drun (lp := [(5, .pointer (some ⟨g1, 0, none⟩)), (9, .pointer (some ⟨g28, 0, none⟩)), (98, .bool true), (99, .agg #[.int .i64 p0, .slice (some ⟨g15, 0, none⟩) (List.length acc) (List.length acc + 3), .slice (some ⟨g16, 0, none⟩) (List.length gd) (List.length gd + 3), .slice (some ⟨g17, 0, none⟩) (List.length nodes) (List.length nodes + 3)]), (101, .agg #[.int .i64 p0, .slice A1 acc.length c1, .slice A2 gd.length c2, .slice A3 nodes.length c3])]) tbok (by kernel_rfl) [19, 21] [.agg #[.int .i64 p0, .slice (some ⟨g15, 0, none⟩) (List.length acc) (List.length acc + 3), .slice (some ⟨g16, 0, none⟩) (List.length gd) (List.length gd + 3), .slice (some ⟨g17, 0, none⟩) (List.length nodes) (List.length nodes + 3)], .agg #[.int .i64 p0, .slice A1 acc.length c1, .slice A2 gd.length c2, .slice A3 nodes.length c3]] [5, 9, 98, 99, 101] (fun w_ => [cellsAt w_ g28 (0) [.int .i64 p0, .slice (some ⟨g15, 0, none⟩) (List.length acc) (List.length acc + 3), .slice (some ⟨g16, 0, none⟩) (List.length gd) (List.length gd + 3), .slice (some ⟨g17, 0, none⟩) (List.length nodes) (List.length nodes + 3)], cellsAt w_ g1 (0) [.int .i64 p0, .slice A1 acc.length c1, .slice A2 gd.length c2, .slice A3 nodes.length c3]]) (fuel := 10) E (fun _ _ => by kernel_rfl) (fun w_ hS_ => ⟨hS_.cellsAt (fun h_ => h_) (B32s.sub 0 _ rfl), hS_.cellsAt (fun h_ => h_) (B5s.sub 0 _ rfl)⟩) (by kernel_rfl) HS ?_
                      clear E; intro a E
                      refine wpAnyH_all (rs := [20]) (by kernel_rfl) (by simp) ?_
                      refine all1 ?_
                      · refine wpOp_of_list rfl ?_
                        refine e_call E rfl rfl Try.func14 rfl rfl rfl (Check_calls p0 (some ⟨g15, 0, none⟩) (some ⟨g16, 0, none⟩) (some ⟨g17, 0, none⟩) (List.length acc + 3) (List.length gd + 3) (List.length nodes + 3) acc gd nodes  _ (by omega) (by omega) (by omega) (bB_view L21.now) (lentL_view L22.now) (bN_view L23.now) hW) ?_
                        intro v67 w68 a hR69 E_
                        obtain ⟨rfl, hc70⟩ := hR69
                        replace E := E_ _ rfl; clear E_
                        replace B5 := B5.chg hc70 (fun h_ => h_)
                        replace L21 := L21.chg hc70 (fun h_ => h_) (fun _ _ h_ => h_)
                        replace L22 := L22.chg hc70 (fun h_ => h_) (fun _ _ h_ => h_)
                        replace L23 := L23.chg hc70 (fun h_ => h_) (fun _ _ h_ => h_)
                        replace B32 := B32.chg hc70 (fun h_ => h_)
                        replace R45 := R45.keep hc70 (fun _ _ h_ => h_) (fun _ _ h_ => h_)
                        replace R52 := R52.keep hc70 (fun _ _ h_ => h_) (fun _ _ h_ => h_)
                        replace HS := HS.trans hc70 (fun _ _ h_ => h_.elim)
                        replace HW := HW.trans hc70 (fun _ _ h_ => h_.elim)
                        refine wpList_nil ?_
                        refine th_n ⟨HS, ?_⟩
                        refine wpAnyH_all (rs := [22]) (by kernel_rfl) (by simp) ?_
                        refine all1 ?_
                        · refine wpOp_of_list rfl ?_
                          refine e_call E rfl rfl Try.func15 rfl rfl rfl (rCheck_calls p0 A1 A2 A3 c1 c2 c3 acc gd nodes  _ (by omega) (by omega) (by omega) (H1.now HW) (H2.now HW) (H3.now HW)) ?_
                          intro v71 w72 a hR73 E_
                          obtain ⟨rfl, hc74⟩ := hR73
                          replace E := E_ _ rfl; clear E_
                          replace B5 := B5.chg hc74 (fun h_ => h_)
                          replace L21 := L21.chg hc74 (fun h_ => h_) (fun _ _ h_ => h_)
                          replace L22 := L22.chg hc74 (fun h_ => h_) (fun _ _ h_ => h_)
                          replace L23 := L23.chg hc74 (fun h_ => h_) (fun _ _ h_ => h_)
                          replace B32 := B32.chg hc74 (fun h_ => h_)
                          replace R45 := R45.keep hc74 (fun _ _ h_ => h_) (fun _ _ h_ => h_)
                          replace R52 := R52.keep hc74 (fun _ _ h_ => h_) (fun _ _ h_ => h_)
                          replace HS := HS.trans hc74 (fun _ _ h_ => h_.elim)
                          replace HW := HW.trans hc74 (fun _ _ h_ => h_.elim)
                          refine wpList_nil ?_
                          refine th_n ⟨HS, ?_⟩
                          refine drun (lp := [(5, .pointer (some ⟨g1, 0, none⟩)), (9, .pointer (some ⟨g28, 0, none⟩)), (105, .bool ((checkV p0 (List.length acc) gd nodes : Int) == (checkV p0 (List.length acc) gd nodes)))]) tbok (by kernel_rfl) [23, 24, 25] [] [5, 9, 105] (fun w_ => []) (fuel := 5) E (fun _ _ => by kernel_rfl) (fun w_ hS_ => trivial) (by kernel_rfl) HS ?_
                          clear E; intro a E
                          refine E.cases (t := 105) rfl (fun hb_ E_ => ?_) (fun hb_ E_ => ?_)
                          · replace E := E_; clear E_
                            have h75 : (checkV p0 (List.length acc) gd nodes : Int) = checkV p0 (List.length acc) gd nodes := eq_of_beq hb_
                            clear hb_
                            refine drun (lp := [(105, .bool true), (106, .agg #[.int .i64 p0, .slice (some ⟨g15, 0, none⟩) (List.length acc) (List.length acc + 3), .slice (some ⟨g16, 0, none⟩) (List.length gd) (List.length gd + 3), .slice (some ⟨g17, 0, none⟩) (List.length nodes) (List.length nodes + 3)]), (107, .agg #[.int .i64 p0, .slice A1 acc.length c1, .slice A2 gd.length c2, .slice A3 nodes.length c3])]) tbok (by kernel_rfl) [26, 27] [.agg #[.int .i64 p0, .slice (some ⟨g15, 0, none⟩) (List.length acc) (List.length acc + 3), .slice (some ⟨g16, 0, none⟩) (List.length gd) (List.length gd + 3), .slice (some ⟨g17, 0, none⟩) (List.length nodes) (List.length nodes + 3)], .agg #[.int .i64 p0, .slice A1 acc.length c1, .slice A2 gd.length c2, .slice A3 nodes.length c3]] [105, 106, 107] (fun w_ => [cellsAt w_ g28 (0) [.int .i64 p0, .slice (some ⟨g15, 0, none⟩) (List.length acc) (List.length acc + 3), .slice (some ⟨g16, 0, none⟩) (List.length gd) (List.length gd + 3), .slice (some ⟨g17, 0, none⟩) (List.length nodes) (List.length nodes + 3)], cellsAt w_ g1 (0) [.int .i64 p0, .slice A1 acc.length c1, .slice A2 gd.length c2, .slice A3 nodes.length c3]]) (fuel := 3) E (fun _ _ => by kernel_rfl) (fun w_ hS_ => ⟨hS_.cellsAt (fun h_ => h_) (B32s.sub 0 _ rfl), hS_.cellsAt (fun h_ => h_) (B5s.sub 0 _ rfl)⟩) (by kernel_rfl) HS ?_
                            clear E; intro a E
                            refine wpAnyH_all (rs := [28]) (by kernel_rfl) (by simp) ?_
                            refine all1 ?_
                            · refine wpOp_of_list rfl ?_
                              refine e_call E rfl rfl Try.func16 rfl rfl rfl (KeptAuto_calls p0 A1 A2 A3 c1 c2 c3 acc gd nodes (some ⟨g15, 0, none⟩) (some ⟨g16, 0, none⟩) (some ⟨g17, 0, none⟩) _ (by omega) (H1.now HW) (H2.now HW) (H3.now HW) L21.now L22.now L23.now) ?_
                              intro v76 w77 a hR78 E_
                              obtain ⟨rfl, hc79⟩ := hR78
                              replace E := E_ _ rfl; clear E_
                              replace B5 := B5.chg hc79 (fun h_ => h_)
                              replace L21 := L21.chg hc79 (fun h_ => h_) (fun _ _ h_ => h_)
                              replace L22 := L22.chg hc79 (fun h_ => h_) (fun _ _ h_ => h_)
                              replace L23 := L23.chg hc79 (fun h_ => h_) (fun _ _ h_ => h_)
                              replace B32 := B32.chg hc79 (fun h_ => h_)
                              replace R45 := R45.keep hc79 (fun _ _ h_ => h_) (fun _ _ h_ => h_)
                              replace R52 := R52.keep hc79 (fun _ _ h_ => h_) (fun _ _ h_ => h_)
                              replace HS := HS.trans hc79 (fun _ _ h_ => h_.elim)
                              replace HW := HW.trans hc79 (fun _ _ h_ => h_.elim)
                              refine wpList_nil ?_
                              refine th_n ⟨HS, ?_⟩
                              refine drun (lp := [(8, .bool true)]) tbok (by kernel_rfl) [29, 30] [] [8] (fun w_ => []) (fuel := 0) E (fun _ _ => by kernel_rfl) (fun w_ hS_ => trivial) (by kernel_rfl) HS ?_
                              clear E; intro a E
                              refine dr_done (by kernel_rfl) ?_
                              clear HS HWs
                              refine th_n ?_
                              refine wp_ret ?_
                              refine ret1 E rfl rfl ?_
                              exact ⟨_, rfl, rfl, HW.own⟩
                          · replace E := E_; clear E_
                            have h80 : ¬ ((checkV p0 (List.length acc) gd nodes : Int) = checkV p0 (List.length acc) gd nodes) := ne_of_beq_false hb_
                            clear hb_
                            exact absurd rfl h80
                    · replace E := E_; clear E_
                      have h81 : ¬ (((tableV n nodes ref).2 : Int) = (tableV n nodes ref).2) := ne_of_beq_false hb_
                      clear hb_
                      exact absurd rfl h81
                  · replace E := E_; clear E_
                    have h82 : ¬ ((tableV n nodes ref).1 = (tableV n nodes ref).1) := of_decide_eq_false hb_
                    clear hb_
                    exact absurd rfl h82
              · replace E := E_; clear E_
                have h83 : ¬ (((goF nodes l 9 ref).2) = ((goF nodes l 9 ref).2)) := by simpa using hb_
                clear hb_
                exact absurd rfl h83
            · replace E := E_; clear E_
              have h84 : ¬ (((goF nodes l 9 ref).1 : Int) = (goF nodes l 9 ref).1) := ne_of_beq_false hb_
              clear hb_
              exact absurd rfl h84
  · replace E := E_; clear E_
    have h85 : ¬ (600 < ((nodes.length : Nat) : Int)) := of_decide_eq_false hb_
    clear hb_
    refine vrun (w := w2) (lp := [(0, .int .i64 n), (2, .int .i64 ref), (3, .int .u8 l), (5, .pointer (some ⟨g1, 0, none⟩)), (34, .bool (decide (4105 < ((nodes.length : Nat) : Int))))]) (φ := [World.cell? w2 ⟨g1, 3, none⟩ = some (.slice A3 nodes.length c3)]) tbok 12 [.slice A3 nodes.length c3] [0, 2, 3, 5, 34] E (by kernel_rfl) (B5.cell (j := 3) rfl) ?_
    clear E; intro a E
    refine E.cases (t := 34) rfl (fun hb_ E_ => ?_) (fun hb_ E_ => ?_)
    · replace E := E_; clear E_
      have h86 : 4105 < ((nodes.length : Nat) : Int) := of_decide_eq_true hb_
      clear hb_
      refine vrun (w := w2) (lp := [(0, .int .i64 n), (2, .int .i64 ref), (3, .int .u8 l), (5, .pointer (some ⟨g1, 0, none⟩)), (45, .bool true)]) (φ := []) tbok 11 [] [0, 2, 3, 5, 45] E (by kernel_rfl) trivial ?_
      clear E; intro a E
      refine wpList_nil ?_
      refine th_n ?_
      refine c_true E rfl ?_
      refine wp_seq ?_
      refine wp_region_lit ?_
      refine vrun (w := w2) (lp := [(8, .bool true)]) (φ := []) tbok 1 [] [8] E (by kernel_rfl) trivial ?_
      clear E; intro a E
      refine wpList_nil ?_
      refine th_n ?_
      refine wp_ret ?_
      refine th_ret ?_
      refine ret1 E rfl rfl ?_
      exact ⟨_, rfl, rfl, HW.own⟩
    · replace E := E_; clear E_
      have h87 : ¬ (4105 < ((nodes.length : Nat) : Int)) := of_decide_eq_false hb_
      clear hb_
      refine vrun (w := w2) (lp := [(0, .int .i64 n), (2, .int .i64 ref), (3, .int .u8 l), (5, .pointer (some ⟨g1, 0, none⟩)), (40, .bool (decide (300 < ((acc.length : Nat) : Int))))]) (φ := [World.cell? w2 ⟨g1, 1, none⟩ = some (.slice A1 acc.length c1)]) tbok 6 [.slice A1 acc.length c1] [0, 2, 3, 5, 40] E (by kernel_rfl) (B5.cell (j := 1) rfl) ?_
      clear E; intro a E
      refine E.cases (t := 40) rfl (fun hb_ E_ => ?_) (fun hb_ E_ => ?_)
      · replace E := E_; clear E_
        have h88 : 300 < ((acc.length : Nat) : Int) := of_decide_eq_true hb_
        clear hb_
        refine vrun (w := w2) (lp := [(0, .int .i64 n), (2, .int .i64 ref), (3, .int .u8 l), (5, .pointer (some ⟨g1, 0, none⟩)), (45, .bool true)]) (φ := []) tbok 5 [] [0, 2, 3, 5, 45] E (by kernel_rfl) trivial ?_
        clear E; intro a E
        refine wpList_nil ?_
        refine th_n ?_
        refine c_true E rfl ?_
        refine wp_seq ?_
        refine wp_region_lit ?_
        refine vrun (w := w2) (lp := [(8, .bool true)]) (φ := []) tbok 1 [] [8] E (by kernel_rfl) trivial ?_
        clear E; intro a E
        refine wpList_nil ?_
        refine th_n ?_
        refine wp_ret ?_
        refine th_ret ?_
        refine ret1 E rfl rfl ?_
        exact ⟨_, rfl, rfl, HW.own⟩
      · replace E := E_; clear E_
        have h89 : ¬ (300 < ((acc.length : Nat) : Int)) := of_decide_eq_false hb_
        clear hb_
        refine vrun (w := w2) (lp := [(0, .int .i64 n), (2, .int .i64 ref), (3, .int .u8 l), (5, .pointer (some ⟨g1, 0, none⟩)), (45, .bool (decide (300 < ((gd.length : Nat) : Int))))]) (φ := [World.cell? w2 ⟨g1, 2, none⟩ = some (.slice A2 gd.length c2)]) tbok 5 [.slice A2 gd.length c2] [0, 2, 3, 5, 45] E (by kernel_rfl) (B5.cell (j := 2) rfl) ?_
        clear E; intro a E
        refine wpList_nil ?_
        refine th_n ?_
        refine E.cases (t := 45) rfl (fun hb_ E_ => ?_) (fun hb_ E_ => ?_)
        · replace E := E_; clear E_
          have h90 : 300 < ((gd.length : Nat) : Int) := of_decide_eq_true hb_
          clear hb_
          refine c_true E rfl ?_
          refine wp_seq ?_
          refine wp_region_lit ?_
          refine vrun (w := w2) (lp := [(8, .bool true)]) (φ := []) tbok 1 [] [8] E (by kernel_rfl) trivial ?_
          clear E; intro a E
          refine wpList_nil ?_
          refine th_n ?_
          refine wp_ret ?_
          refine th_ret ?_
          refine ret1 E rfl rfl ?_
          exact ⟨_, rfl, rfl, HW.own⟩
        · replace E := E_; clear E_
          have h91 : ¬ (300 < ((gd.length : Nat) : Int)) := of_decide_eq_false hb_
          clear hb_
          refine c_false E rfl ?_
          refine wp_skip ?_
          refine th_n ?_
          refine wp_seq ?_
          refine wp_region_lit ?_
          refine vrun (w := w2) (lp := [(0, .int .i64 n), (2, .int .i64 ref), (3, .int .u8 l), (5, .pointer (some ⟨g1, 0, none⟩)), (46, .agg #[.int .i64 p0, .slice A1 acc.length c1, .slice A2 gd.length c2, .slice A3 nodes.length c3])]) (φ := [cellsAt w2 g1 (0) [.int .i64 p0, .slice A1 acc.length c1, .slice A2 gd.length c2, .slice A3 nodes.length c3]]) tbok 1 [.agg #[.int .i64 p0, .slice A1 acc.length c1, .slice A2 gd.length c2, .slice A3 nodes.length c3]] [0, 2, 3, 5, 46] E (by kernel_rfl) (B5.sub 0 _ rfl) ?_
          clear E; intro a E
          refine e_call E rfl rfl Try.func8 rfl rfl rfl (LentAuto_calls p0 A1 A2 A3 c1 c2 c3 acc gd nodes  _ (by omega) (H1.now HW) (H2.now HW) (H3.now HW)) ?_
          intro v101 w102 a hR103 E_
          obtain ⟨g92, g93, g94, rfl, hg95, hg96, hg97, hc104, L98, L99, L100⟩ := hR103
          replace E := E_ _ rfl; clear E_
          have hi_g92 : w0.heap.size ≤ g92 := Nat.le_trans HW.size hg95
          have ne_g1_g92 : g1 ≠ g92 := by have h_ := B5.lt; omega
          have hi_g93 : w0.heap.size ≤ g93 := Nat.le_trans HW.size hg96
          have ne_g1_g93 : g1 ≠ g93 := by have h_ := B5.lt; omega
          have hi_g94 : w0.heap.size ≤ g94 := Nat.le_trans HW.size hg97
          have ne_g1_g94 : g1 ≠ g94 := by have h_ := B5.lt; omega
          replace B5 := B5.chg hc104 (fun h_ => h_)
          replace HW := HW.trans hc104 (fun _ _ h_ => h_.elim)
          refine e_alloc E rfl rfl tbok rfl ?_
          intro w106 g105 a hc107 hg108 B109 E_
          replace E := E_ _ rfl; clear E_
          replace B109 : Bx w106 g105 26 [.int .i64 0, .slice none 0 0, .slice none 0 0, .slice none 0 0] := B109
          have hi_g105 : w0.heap.size ≤ g105 := Nat.le_trans HW.size hg108
          have ne_g1_g105 : g1 ≠ g105 := by have h_ := B5.lt; omega
          have ne_g92_g105 : g92 ≠ g105 := by have h_ := L98.lt; omega
          have ne_g93_g105 : g93 ≠ g105 := by have h_ := L99.lt; omega
          have ne_g94_g105 : g94 ≠ g105 := by have h_ := L100.lt; omega
          replace B5 := B5.chg hc107 (fun h_ => h_)
          replace L98 := L98.chg hc107 (fun h_ => h_) (fun _ _ h_ => h_)
          replace L99 := L99.chg hc107 (fun h_ => h_) (fun _ _ h_ => h_)
          replace L100 := L100.chg hc107 (fun h_ => h_) (fun _ _ h_ => h_)
          replace HW := HW.trans hc107 (fun _ _ h_ => h_.elim)
          refine e_store (g := g105) (off := 0) E rfl rfl rfl rfl tbok rfl B109 rfl rfl rfl rfl ?_
          clear E; intro w110 a hc111 B109 E
          replace B109 : Bx w110 g105 26 [.int .i64 p0, .slice (some ⟨g92, 0, none⟩) (List.length acc) (List.length acc + 3), .slice (some ⟨g93, 0, none⟩) (List.length gd) (List.length gd + 3), .slice (some ⟨g94, 0, none⟩) (List.length nodes) (List.length nodes + 3)] := B109
          replace B5 := B5.chg hc111 (fun h_ => ne_g1_g105 h_)
          replace L98 := L98.chg hc111 (fun h_ => ne_g92_g105 h_) (fun _ h_ => h_.elim)
          replace L99 := L99.chg hc111 (fun h_ => ne_g93_g105 h_) (fun _ h_ => h_.elim)
          replace L100 := L100.chg hc111 (fun h_ => ne_g94_g105 h_) (fun _ h_ => h_.elim)
          replace HW := HW.trans hc111 (fun _ _ h_ => by subst h_; exact hi_g105)
          refine wpList_nil ?_
          refine th_n ?_
          refine wp_seq ?_
          refine wp_region_lit ?_
          refine vrun (w := w110) (lp := [(0, .int .i64 n), (2, .int .i64 ref), (3, .int .u8 l), (5, .pointer (some ⟨g1, 0, none⟩)), (9, .pointer (some ⟨g105, 0, none⟩)), (50, .slice (some ⟨g94, 0, none⟩) (List.length nodes) (List.length nodes + 3)), (51, .int .i64 ref), (52, .int .u8 l)]) (φ := [World.cell? w110 ⟨g105, 3, none⟩ = some (.slice (some ⟨g94, 0, none⟩) (List.length nodes) (List.length nodes + 3))]) tbok 4 [.slice (some ⟨g94, 0, none⟩) (List.length nodes) (List.length nodes + 3)] [0, 2, 3, 5, 9, 50, 51, 52] E (by kernel_rfl) (B109.cell (j := 3) rfl) ?_
          clear E; intro a E
          refine e_call E rfl rfl Try.func9 rfl rfl rfl (Go_calls (some ⟨g94, 0, none⟩) (List.length nodes + 3) nodes ref l _ hr hlt (by omega) (bN_view L100.now) hW) ?_
          intro v112 w113 a hR114 E_
          obtain ⟨rfl, hc115⟩ := hR114
          replace E := E_ _ rfl; clear E_
          replace B5 := B5.chg hc115 (fun h_ => h_)
          replace L98 := L98.chg hc115 (fun h_ => h_) (fun _ _ h_ => h_)
          replace L99 := L99.chg hc115 (fun h_ => h_) (fun _ _ h_ => h_)
          replace L100 := L100.chg hc115 (fun h_ => h_) (fun _ _ h_ => h_)
          replace B109 := B109.chg hc115 (fun h_ => h_)
          replace HW := HW.trans hc115 (fun _ _ h_ => h_.elim)
          refine vrun (w := w113) (lp := [(0, .int .i64 n), (2, .int .i64 ref), (3, .int .u8 l), (5, .pointer (some ⟨g1, 0, none⟩)), (9, .pointer (some ⟨g105, 0, none⟩)), (10, .int .i64 ((goF nodes l 9 ref).1)), (11, .bool ((goF nodes l 9 ref).2))]) (φ := []) tbok 5 [] [0, 2, 3, 5, 9, 10, 11] E (by kernel_rfl) trivial ?_
          clear E; intro a E
          refine wpList_nil ?_
          refine th_n ?_
          refine wp_seq ?_
          refine wp_region_lit ?_
          refine vrun (w := w113) (lp := [(0, .int .i64 n), (2, .int .i64 ref), (5, .pointer (some ⟨g1, 0, none⟩)), (9, .pointer (some ⟨g105, 0, none⟩)), (10, .int .i64 ((goF nodes l 9 ref).1)), (11, .bool ((goF nodes l 9 ref).2)), (58, .slice A3 nodes.length c3), (59, .int .i64 ref), (60, .int .u8 l)]) (φ := [World.cell? w113 ⟨g1, 3, none⟩ = some (.slice A3 nodes.length c3)]) tbok 4 [.slice A3 nodes.length c3] [0, 2, 5, 9, 10, 11, 58, 59, 60] E (by kernel_rfl) (B5.cell (j := 3) rfl) ?_
          clear E; intro a E
          refine e_call E rfl rfl Try.func10 rfl rfl rfl (rGo_calls A3 c3 nodes ref l _ hr hlt (by omega) (H3.now HW) hW) ?_
          intro v116 w117 a hR118 E_
          obtain ⟨rfl, hc119⟩ := hR118
          replace E := E_ _ rfl; clear E_
          replace B5 := B5.chg hc119 (fun h_ => h_)
          replace L98 := L98.chg hc119 (fun h_ => h_) (fun _ _ h_ => h_)
          replace L99 := L99.chg hc119 (fun h_ => h_) (fun _ _ h_ => h_)
          replace L100 := L100.chg hc119 (fun h_ => h_) (fun _ _ h_ => h_)
          replace B109 := B109.chg hc119 (fun h_ => h_)
          replace HW := HW.trans hc119 (fun _ _ h_ => h_.elim)
          refine vrun (w := w117) (lp := [(0, .int .i64 n), (2, .int .i64 ref), (5, .pointer (some ⟨g1, 0, none⟩)), (9, .pointer (some ⟨g105, 0, none⟩)), (10, .int .i64 ((goF nodes l 9 ref).1)), (11, .bool ((goF nodes l 9 ref).2)), (12, .int .i64 ((goF nodes l 9 ref).1)), (13, .bool ((goF nodes l 9 ref).2))]) (φ := []) tbok 5 [] [0, 2, 5, 9, 10, 11, 12, 13] E (by kernel_rfl) trivial ?_
          clear E; intro a E
          refine wpList_nil ?_
          refine th_n ?_
          refine wp_seq ?_
          refine wp_region_lit ?_
          refine vrun (w := w117) (lp := [(0, .int .i64 n), (2, .int .i64 ref), (5, .pointer (some ⟨g1, 0, none⟩)), (9, .pointer (some ⟨g105, 0, none⟩)), (10, .int .i64 ((goF nodes l 9 ref).1)), (11, .bool ((goF nodes l 9 ref).2)), (12, .int .i64 ((goF nodes l 9 ref).1)), (13, .bool ((goF nodes l 9 ref).2)), (65, .int .i64 n), (67, .slice (some ⟨g94, 0, none⟩) (List.length nodes) (List.length nodes + 3)), (68, .int .i64 ref)]) (φ := [World.cell? w117 ⟨g105, 3, none⟩ = some (.slice (some ⟨g94, 0, none⟩) (List.length nodes) (List.length nodes + 3))]) tbok 4 [.slice (some ⟨g94, 0, none⟩) (List.length nodes) (List.length nodes + 3)] [0, 2, 5, 9, 10, 11, 12, 13, 65, 67, 68] E (by kernel_rfl) (B109.cell (j := 3) rfl) ?_
          clear E; intro a E
          refine e_call E rfl rfl Try.func11 rfl rfl rfl (Table_calls (some ⟨g94, 0, none⟩) (List.length nodes + 3) nodes n ref _ hr (by omega) (bN_view L100.now) hW) ?_
          intro v123 w124 a hR125 E_
          obtain ⟨A120, c121, rfl, hc126, R122⟩ := hR125
          replace E := E_ _ rfl; clear E_
          have sp_R122_g1 : ¬ At A120 g1 := fun h_ => by have i_ := R122.hi _ h_; have j_ := B5.lt; unfold Hi at i_; omega
          have sp_R122_g92 : ¬ At A120 g92 := fun h_ => by have i_ := R122.hi _ h_; have j_ := L98.lt; unfold Hi at i_; omega
          have sp_R122_g93 : ¬ At A120 g93 := fun h_ => by have i_ := R122.hi _ h_; have j_ := L99.lt; unfold Hi at i_; omega
          have sp_R122_g94 : ¬ At A120 g94 := fun h_ => by have i_ := R122.hi _ h_; have j_ := L100.lt; unfold Hi at i_; omega
          have sp_R122_g105 : ¬ At A120 g105 := fun h_ => by have i_ := R122.hi _ h_; have j_ := B109.lt; unfold Hi at i_; omega
          replace R122 := R122.from_ HW.size
          have hl_R122 := tableV_len n nodes ref
          replace B5 := B5.chg hc126 (fun h_ => h_)
          replace L98 := L98.chg hc126 (fun h_ => h_) (fun _ _ h_ => h_)
          replace L99 := L99.chg hc126 (fun h_ => h_) (fun _ _ h_ => h_)
          replace L100 := L100.chg hc126 (fun h_ => h_) (fun _ _ h_ => h_)
          replace B109 := B109.chg hc126 (fun h_ => h_)
          replace HW := HW.trans hc126 (fun _ _ h_ => h_.elim)
          refine vrun (w := w124) (lp := [(0, .int .i64 n), (2, .int .i64 ref), (5, .pointer (some ⟨g1, 0, none⟩)), (9, .pointer (some ⟨g105, 0, none⟩)), (10, .int .i64 ((goF nodes l 9 ref).1)), (11, .bool ((goF nodes l 9 ref).2)), (12, .int .i64 ((goF nodes l 9 ref).1)), (13, .bool ((goF nodes l 9 ref).2)), (14, .slice A120 (List.length (tableV n nodes ref).1) c121), (15, .int .i64 ((tableV n nodes ref).2))]) (φ := []) tbok 5 [] [0, 2, 5, 9, 10, 11, 12, 13, 14, 15] E (by kernel_rfl) trivial ?_
          clear E; intro a E
          refine wpList_nil ?_
          refine th_n ?_
          refine wp_seq ?_
          refine wp_region_lit ?_
          refine vrun (w := w124) (lp := [(5, .pointer (some ⟨g1, 0, none⟩)), (9, .pointer (some ⟨g105, 0, none⟩)), (10, .int .i64 ((goF nodes l 9 ref).1)), (11, .bool ((goF nodes l 9 ref).2)), (12, .int .i64 ((goF nodes l 9 ref).1)), (13, .bool ((goF nodes l 9 ref).2)), (14, .slice A120 (List.length (tableV n nodes ref).1) c121), (15, .int .i64 ((tableV n nodes ref).2)), (73, .int .i64 n), (75, .slice A3 nodes.length c3), (76, .int .i64 ref)]) (φ := [World.cell? w124 ⟨g1, 3, none⟩ = some (.slice A3 nodes.length c3)]) tbok 4 [.slice A3 nodes.length c3] [5, 9, 10, 11, 12, 13, 14, 15, 73, 75, 76] E (by kernel_rfl) (B5.cell (j := 3) rfl) ?_
          clear E; intro a E
          refine e_call E rfl rfl Try.func12 rfl rfl rfl (rTable_calls A3 c3 nodes n ref _ hr (by omega) (H3.now HW) hW) ?_
          intro v130 w131 a hR132 E_
          obtain ⟨A127, c128, rfl, hc133, R129⟩ := hR132
          replace E := E_ _ rfl; clear E_
          have sp_R129_g1 : ¬ At A127 g1 := fun h_ => by have i_ := R129.hi _ h_; have j_ := B5.lt; unfold Hi at i_; omega
          have sp_R129_g92 : ¬ At A127 g92 := fun h_ => by have i_ := R129.hi _ h_; have j_ := L98.lt; unfold Hi at i_; omega
          have sp_R129_g93 : ¬ At A127 g93 := fun h_ => by have i_ := R129.hi _ h_; have j_ := L99.lt; unfold Hi at i_; omega
          have sp_R129_g94 : ¬ At A127 g94 := fun h_ => by have i_ := R129.hi _ h_; have j_ := L100.lt; unfold Hi at i_; omega
          have sp_R129_g105 : ¬ At A127 g105 := fun h_ => by have i_ := R129.hi _ h_; have j_ := B109.lt; unfold Hi at i_; omega
          have sp_R122_R129 := R122.fresh2 R129.hi
          have sp_R129_R122 := At.comm sp_R122_R129
          replace R129 := R129.from_ HW.size
          have hl_R129 := tableV_len n nodes ref
          replace B5 := B5.chg hc133 (fun h_ => h_)
          replace L98 := L98.chg hc133 (fun h_ => h_) (fun _ _ h_ => h_)
          replace L99 := L99.chg hc133 (fun h_ => h_) (fun _ _ h_ => h_)
          replace L100 := L100.chg hc133 (fun h_ => h_) (fun _ _ h_ => h_)
          replace B109 := B109.chg hc133 (fun h_ => h_)
          replace R122 := R122.keep hc133 (fun _ _ h_ => h_) (fun _ _ h_ => h_)
          replace HW := HW.trans hc133 (fun _ _ h_ => h_.elim)
          refine vrun (w := w131) (lp := [(5, .pointer (some ⟨g1, 0, none⟩)), (9, .pointer (some ⟨g105, 0, none⟩)), (10, .int .i64 ((goF nodes l 9 ref).1)), (11, .bool ((goF nodes l 9 ref).2)), (12, .int .i64 ((goF nodes l 9 ref).1)), (13, .bool ((goF nodes l 9 ref).2)), (14, .slice A120 (List.length (tableV n nodes ref).1) c121), (15, .int .i64 ((tableV n nodes ref).2)), (16, .slice A127 (List.length (tableV n nodes ref).1) c128), (17, .int .i64 ((tableV n nodes ref).2))]) (φ := []) tbok 5 [] [5, 9, 10, 11, 12, 13, 14, 15, 16, 17] E (by kernel_rfl) trivial ?_
          clear E; intro a E
          refine wpList_nil ?_
          refine th_n ?_
          refine wp_seq ?_
          refine dr_start (S := fun w_ => Chg No w131 w_) (by kernel_rfl) ?_
          intro w134 hc135
          have HWs := HW
          have B5s := B5
          have L98s := L98
          have L99s := L99
          have L100s := L100
          have B109s := B109
          have R122s := R122
          have R129s := R129
          have HS : Chg No w131 w134 := hc135.mono (fun _ _ h_ => h_.elim)
          replace B5 := B5.chg hc135 (fun h_ => h_)
          replace L98 := L98.chg hc135 (fun h_ => h_) (fun _ _ h_ => h_)
          replace L99 := L99.chg hc135 (fun h_ => h_) (fun _ _ h_ => h_)
          replace L100 := L100.chg hc135 (fun h_ => h_) (fun _ _ h_ => h_)
          replace B109 := B109.chg hc135 (fun h_ => h_)
          replace R122 := R122.keep hc135 (fun _ _ h_ => h_) (fun _ _ h_ => h_)
          replace R129 := R129.keep hc135 (fun _ _ h_ => h_) (fun _ _ h_ => h_)
          replace HW := HW.trans hc135 (fun _ _ h_ => h_.elim)
          refine drun (lp := [(5, .pointer (some ⟨g1, 0, none⟩)), (9, .pointer (some ⟨g105, 0, none⟩)), (11, .bool ((goF nodes l 9 ref).2)), (13, .bool ((goF nodes l 9 ref).2)), (14, .slice A120 (List.length (tableV n nodes ref).1) c121), (15, .int .i64 ((tableV n nodes ref).2)), (16, .slice A127 (List.length (tableV n nodes ref).1) c128), (17, .int .i64 ((tableV n nodes ref).2)), (83, .bool (((goF nodes l 9 ref).1 : Int) == ((goF nodes l 9 ref).1)))]) tbok (by kernel_rfl) [0, 1, 2, 3] [] [5, 9, 11, 13, 14, 15, 16, 17, 83] (fun w_ => []) (fuel := 27) E (fun _ _ => by kernel_rfl) (fun w_ hS_ => trivial) (by kernel_rfl) HS ?_
          clear E; intro a E
          refine E.cases (t := 83) rfl (fun hb_ E_ => ?_) (fun hb_ E_ => ?_)
          · replace E := E_; clear E_
            have h136 : ((goF nodes l 9 ref).1 : Int) = (goF nodes l 9 ref).1 := eq_of_beq hb_
            clear hb_
            refine drun (lp := [(5, .pointer (some ⟨g1, 0, none⟩)), (9, .pointer (some ⟨g105, 0, none⟩)), (14, .slice A120 (List.length (tableV n nodes ref).1) c121), (15, .int .i64 ((tableV n nodes ref).2)), (16, .slice A127 (List.length (tableV n nodes ref).1) c128), (17, .int .i64 ((tableV n nodes ref).2)), (88, .bool (((goF nodes l 9 ref).2) == ((goF nodes l 9 ref).2)))]) tbok (by kernel_rfl) [4, 5, 6, 7, 8] [] [5, 9, 14, 15, 16, 17, 88] (fun w_ => []) (fuel := 22) E (fun _ _ => by kernel_rfl) (fun w_ hS_ => trivial) (by kernel_rfl) HS ?_
            clear E; intro a E
            refine E.cases (t := 88) rfl (fun hb_ E_ => ?_) (fun hb_ E_ => ?_)
            · replace E := E_; clear E_
              have h137 : ((goF nodes l 9 ref).2) = ((goF nodes l 9 ref).2) := by simpa using hb_
              clear hb_
              refine drun (lp := [(5, .pointer (some ⟨g1, 0, none⟩)), (9, .pointer (some ⟨g105, 0, none⟩)), (15, .int .i64 ((tableV n nodes ref).2)), (17, .int .i64 ((tableV n nodes ref).2)), (88, .bool true), (89, .slice A120 (List.length (tableV n nodes ref).1) c121), (90, .slice A127 (List.length (tableV n nodes ref).1) c128)]) tbok (by kernel_rfl) [9, 10] [] [5, 9, 15, 17, 88, 89, 90] (fun w_ => []) (fuel := 20) E (fun _ _ => by kernel_rfl) (fun w_ hS_ => trivial) (by kernel_rfl) HS ?_
              clear E; intro a E
              refine wpAnyH_all (rs := [11]) (by kernel_rfl) (by simp) ?_
              refine all1 ?_
              · refine wpOp_of_list rfl ?_
                refine e_call E rfl rfl Try.func13 rfl rfl rfl (SameInts_calls A120 A127 c121 c128 (List.length (tableV n nodes ref).1) (List.length (tableV n nodes ref).1) ((tableV n nodes ref).1) ((tableV n nodes ref).1) _ (by first | rfl | omega) (by first | rfl | omega) (by omega) R122.now R129.now) ?_
                intro v138 w139 a hR140 E_
                obtain ⟨rfl, hc141⟩ := hR140
                replace E := E_ _ rfl; clear E_
                replace B5 := B5.chg hc141 (fun h_ => h_)
                replace L98 := L98.chg hc141 (fun h_ => h_) (fun _ _ h_ => h_)
                replace L99 := L99.chg hc141 (fun h_ => h_) (fun _ _ h_ => h_)
                replace L100 := L100.chg hc141 (fun h_ => h_) (fun _ _ h_ => h_)
                replace B109 := B109.chg hc141 (fun h_ => h_)
                replace R122 := R122.keep hc141 (fun _ _ h_ => h_) (fun _ _ h_ => h_)
                replace R129 := R129.keep hc141 (fun _ _ h_ => h_) (fun _ _ h_ => h_)
                replace HS := HS.trans hc141 (fun _ _ h_ => h_.elim)
                replace HW := HW.trans hc141 (fun _ _ h_ => h_.elim)
                refine wpList_nil ?_
                refine th_n ⟨HS, ?_⟩
                refine drun (lp := [(5, .pointer (some ⟨g1, 0, none⟩)), (9, .pointer (some ⟨g105, 0, none⟩)), (15, .int .i64 ((tableV n nodes ref).2)), (17, .int .i64 ((tableV n nodes ref).2)), (93, .bool (decide ((tableV n nodes ref).1 = (tableV n nodes ref).1)))]) tbok (by kernel_rfl) [12, 13] [] [5, 9, 15, 17, 93] (fun w_ => []) (fuel := 17) E (fun _ _ => by kernel_rfl) (fun w_ hS_ => trivial) (by kernel_rfl) HS ?_
                clear E; intro a E
                refine E.cases (t := 93) rfl (fun hb_ E_ => ?_) (fun hb_ E_ => ?_)
                · replace E := E_; clear E_
                  have h142 : (tableV n nodes ref).1 = (tableV n nodes ref).1 := of_decide_eq_true hb_
                  clear hb_
                  refine drun (lp := [(5, .pointer (some ⟨g1, 0, none⟩)), (9, .pointer (some ⟨g105, 0, none⟩)), (98, .bool (((tableV n nodes ref).2 : Int) == ((tableV n nodes ref).2)))]) tbok (by kernel_rfl) [14, 15, 16, 17, 18] [] [5, 9, 98] (fun w_ => []) (fuel := 12) E (fun _ _ => by kernel_rfl) (fun w_ hS_ => trivial) (by kernel_rfl) HS ?_
                  clear E; intro a E
                  refine E.cases (t := 98) rfl (fun hb_ E_ => ?_) (fun hb_ E_ => ?_)
                  · replace E := E_; clear E_
                    have h143 : ((tableV n nodes ref).2 : Int) = (tableV n nodes ref).2 := eq_of_beq hb_
                    clear hb_
                    refine drun (lp := [(5, .pointer (some ⟨g1, 0, none⟩)), (9, .pointer (some ⟨g105, 0, none⟩)), (98, .bool true), (99, .agg #[.int .i64 p0, .slice (some ⟨g92, 0, none⟩) (List.length acc) (List.length acc + 3), .slice (some ⟨g93, 0, none⟩) (List.length gd) (List.length gd + 3), .slice (some ⟨g94, 0, none⟩) (List.length nodes) (List.length nodes + 3)]), (101, .agg #[.int .i64 p0, .slice A1 acc.length c1, .slice A2 gd.length c2, .slice A3 nodes.length c3])]) tbok (by kernel_rfl) [19, 21] [.agg #[.int .i64 p0, .slice (some ⟨g92, 0, none⟩) (List.length acc) (List.length acc + 3), .slice (some ⟨g93, 0, none⟩) (List.length gd) (List.length gd + 3), .slice (some ⟨g94, 0, none⟩) (List.length nodes) (List.length nodes + 3)], .agg #[.int .i64 p0, .slice A1 acc.length c1, .slice A2 gd.length c2, .slice A3 nodes.length c3]] [5, 9, 98, 99, 101] (fun w_ => [cellsAt w_ g105 (0) [.int .i64 p0, .slice (some ⟨g92, 0, none⟩) (List.length acc) (List.length acc + 3), .slice (some ⟨g93, 0, none⟩) (List.length gd) (List.length gd + 3), .slice (some ⟨g94, 0, none⟩) (List.length nodes) (List.length nodes + 3)], cellsAt w_ g1 (0) [.int .i64 p0, .slice A1 acc.length c1, .slice A2 gd.length c2, .slice A3 nodes.length c3]]) (fuel := 10) E (fun _ _ => by kernel_rfl) (fun w_ hS_ => ⟨hS_.cellsAt (fun h_ => h_) (B109s.sub 0 _ rfl), hS_.cellsAt (fun h_ => h_) (B5s.sub 0 _ rfl)⟩) (by kernel_rfl) HS ?_
                    clear E; intro a E
                    refine wpAnyH_all (rs := [20]) (by kernel_rfl) (by simp) ?_
                    refine all1 ?_
                    · refine wpOp_of_list rfl ?_
                      refine e_call E rfl rfl Try.func14 rfl rfl rfl (Check_calls p0 (some ⟨g92, 0, none⟩) (some ⟨g93, 0, none⟩) (some ⟨g94, 0, none⟩) (List.length acc + 3) (List.length gd + 3) (List.length nodes + 3) acc gd nodes  _ (by omega) (by omega) (by omega) (bB_view L98.now) (lentL_view L99.now) (bN_view L100.now) hW) ?_
                      intro v144 w145 a hR146 E_
                      obtain ⟨rfl, hc147⟩ := hR146
                      replace E := E_ _ rfl; clear E_
                      replace B5 := B5.chg hc147 (fun h_ => h_)
                      replace L98 := L98.chg hc147 (fun h_ => h_) (fun _ _ h_ => h_)
                      replace L99 := L99.chg hc147 (fun h_ => h_) (fun _ _ h_ => h_)
                      replace L100 := L100.chg hc147 (fun h_ => h_) (fun _ _ h_ => h_)
                      replace B109 := B109.chg hc147 (fun h_ => h_)
                      replace R122 := R122.keep hc147 (fun _ _ h_ => h_) (fun _ _ h_ => h_)
                      replace R129 := R129.keep hc147 (fun _ _ h_ => h_) (fun _ _ h_ => h_)
                      replace HS := HS.trans hc147 (fun _ _ h_ => h_.elim)
                      replace HW := HW.trans hc147 (fun _ _ h_ => h_.elim)
                      refine wpList_nil ?_
                      refine th_n ⟨HS, ?_⟩
                      refine wpAnyH_all (rs := [22]) (by kernel_rfl) (by simp) ?_
                      refine all1 ?_
                      · refine wpOp_of_list rfl ?_
                        refine e_call E rfl rfl Try.func15 rfl rfl rfl (rCheck_calls p0 A1 A2 A3 c1 c2 c3 acc gd nodes  _ (by omega) (by omega) (by omega) (H1.now HW) (H2.now HW) (H3.now HW)) ?_
                        intro v148 w149 a hR150 E_
                        obtain ⟨rfl, hc151⟩ := hR150
                        replace E := E_ _ rfl; clear E_
                        replace B5 := B5.chg hc151 (fun h_ => h_)
                        replace L98 := L98.chg hc151 (fun h_ => h_) (fun _ _ h_ => h_)
                        replace L99 := L99.chg hc151 (fun h_ => h_) (fun _ _ h_ => h_)
                        replace L100 := L100.chg hc151 (fun h_ => h_) (fun _ _ h_ => h_)
                        replace B109 := B109.chg hc151 (fun h_ => h_)
                        replace R122 := R122.keep hc151 (fun _ _ h_ => h_) (fun _ _ h_ => h_)
                        replace R129 := R129.keep hc151 (fun _ _ h_ => h_) (fun _ _ h_ => h_)
                        replace HS := HS.trans hc151 (fun _ _ h_ => h_.elim)
                        replace HW := HW.trans hc151 (fun _ _ h_ => h_.elim)
                        refine wpList_nil ?_
                        refine th_n ⟨HS, ?_⟩
                        refine drun (lp := [(5, .pointer (some ⟨g1, 0, none⟩)), (9, .pointer (some ⟨g105, 0, none⟩)), (105, .bool ((checkV p0 (List.length acc) gd nodes : Int) == (checkV p0 (List.length acc) gd nodes)))]) tbok (by kernel_rfl) [23, 24, 25] [] [5, 9, 105] (fun w_ => []) (fuel := 5) E (fun _ _ => by kernel_rfl) (fun w_ hS_ => trivial) (by kernel_rfl) HS ?_
                        clear E; intro a E
                        refine E.cases (t := 105) rfl (fun hb_ E_ => ?_) (fun hb_ E_ => ?_)
                        · replace E := E_; clear E_
                          have h152 : (checkV p0 (List.length acc) gd nodes : Int) = checkV p0 (List.length acc) gd nodes := eq_of_beq hb_
                          clear hb_
                          refine drun (lp := [(105, .bool true), (106, .agg #[.int .i64 p0, .slice (some ⟨g92, 0, none⟩) (List.length acc) (List.length acc + 3), .slice (some ⟨g93, 0, none⟩) (List.length gd) (List.length gd + 3), .slice (some ⟨g94, 0, none⟩) (List.length nodes) (List.length nodes + 3)]), (107, .agg #[.int .i64 p0, .slice A1 acc.length c1, .slice A2 gd.length c2, .slice A3 nodes.length c3])]) tbok (by kernel_rfl) [26, 27] [.agg #[.int .i64 p0, .slice (some ⟨g92, 0, none⟩) (List.length acc) (List.length acc + 3), .slice (some ⟨g93, 0, none⟩) (List.length gd) (List.length gd + 3), .slice (some ⟨g94, 0, none⟩) (List.length nodes) (List.length nodes + 3)], .agg #[.int .i64 p0, .slice A1 acc.length c1, .slice A2 gd.length c2, .slice A3 nodes.length c3]] [105, 106, 107] (fun w_ => [cellsAt w_ g105 (0) [.int .i64 p0, .slice (some ⟨g92, 0, none⟩) (List.length acc) (List.length acc + 3), .slice (some ⟨g93, 0, none⟩) (List.length gd) (List.length gd + 3), .slice (some ⟨g94, 0, none⟩) (List.length nodes) (List.length nodes + 3)], cellsAt w_ g1 (0) [.int .i64 p0, .slice A1 acc.length c1, .slice A2 gd.length c2, .slice A3 nodes.length c3]]) (fuel := 3) E (fun _ _ => by kernel_rfl) (fun w_ hS_ => ⟨hS_.cellsAt (fun h_ => h_) (B109s.sub 0 _ rfl), hS_.cellsAt (fun h_ => h_) (B5s.sub 0 _ rfl)⟩) (by kernel_rfl) HS ?_
                          clear E; intro a E
                          refine wpAnyH_all (rs := [28]) (by kernel_rfl) (by simp) ?_
                          refine all1 ?_
                          · refine wpOp_of_list rfl ?_
                            refine e_call E rfl rfl Try.func16 rfl rfl rfl (KeptAuto_calls p0 A1 A2 A3 c1 c2 c3 acc gd nodes (some ⟨g92, 0, none⟩) (some ⟨g93, 0, none⟩) (some ⟨g94, 0, none⟩) _ (by omega) (H1.now HW) (H2.now HW) (H3.now HW) L98.now L99.now L100.now) ?_
                            intro v153 w154 a hR155 E_
                            obtain ⟨rfl, hc156⟩ := hR155
                            replace E := E_ _ rfl; clear E_
                            replace B5 := B5.chg hc156 (fun h_ => h_)
                            replace L98 := L98.chg hc156 (fun h_ => h_) (fun _ _ h_ => h_)
                            replace L99 := L99.chg hc156 (fun h_ => h_) (fun _ _ h_ => h_)
                            replace L100 := L100.chg hc156 (fun h_ => h_) (fun _ _ h_ => h_)
                            replace B109 := B109.chg hc156 (fun h_ => h_)
                            replace R122 := R122.keep hc156 (fun _ _ h_ => h_) (fun _ _ h_ => h_)
                            replace R129 := R129.keep hc156 (fun _ _ h_ => h_) (fun _ _ h_ => h_)
                            replace HS := HS.trans hc156 (fun _ _ h_ => h_.elim)
                            replace HW := HW.trans hc156 (fun _ _ h_ => h_.elim)
                            refine wpList_nil ?_
                            refine th_n ⟨HS, ?_⟩
                            refine drun (lp := [(8, .bool true)]) tbok (by kernel_rfl) [29, 30] [] [8] (fun w_ => []) (fuel := 0) E (fun _ _ => by kernel_rfl) (fun w_ hS_ => trivial) (by kernel_rfl) HS ?_
                            clear E; intro a E
                            refine dr_done (by kernel_rfl) ?_
                            clear HS HWs
                            refine th_n ?_
                            refine wp_ret ?_
                            refine ret1 E rfl rfl ?_
                            exact ⟨_, rfl, rfl, HW.own⟩
                        · replace E := E_; clear E_
                          have h157 : ¬ ((checkV p0 (List.length acc) gd nodes : Int) = checkV p0 (List.length acc) gd nodes) := ne_of_beq_false hb_
                          clear hb_
                          exact absurd rfl h157
                  · replace E := E_; clear E_
                    have h158 : ¬ (((tableV n nodes ref).2 : Int) = (tableV n nodes ref).2) := ne_of_beq_false hb_
                    clear hb_
                    exact absurd rfl h158
                · replace E := E_; clear E_
                  have h159 : ¬ ((tableV n nodes ref).1 = (tableV n nodes ref).1) := of_decide_eq_false hb_
                  clear hb_
                  exact absurd rfl h159
            · replace E := E_; clear E_
              have h160 : ¬ (((goF nodes l 9 ref).2) = ((goF nodes l 9 ref).2)) := by simpa using hb_
              clear hb_
              exact absurd rfl h160
          · replace E := E_; clear E_
            have h161 : ¬ (((goF nodes l 9 ref).1 : Int) = (goF nodes l 9 ref).1) := ne_of_beq_false hb_
            clear hb_
            exact absurd rfl h161

end Go.V
