/- Contracts of functions of the program: walks. -/
import Derived.Test.YtldjjbgnicknkaaCa
import Derived.Test.YtldjjbgnicknkaaK2
import Derived.Test.YtldjjbgnicknkaaKl
set_option linter.all false
set_option linter.unusedVariables false
set_option linter.unnecessarySimpa false
set_option linter.unusedSimpArgs false
namespace Go.V
open Go Go.Proofs

/-! rejoinder/rejoinderlaw17.CanonGoes -/
set_option maxRecDepth 100000 in
theorem law_calls (p0 : Int) (A1 A2 A3 : Option Addr) (c1 c2 c3 : Nat) (acc : List Bool) (gd : List Int) (nodes : List Nd) (q l : Int) (A : Option Addr) (c : Nat) (t : List Int) (w0 : World) (hl1 : acc.length ≤ 9223372036854775807) (hl2 : gd.length ≤ 9223372036854775807) (hl3 : nodes.length ≤ 9223372036854775807) (H1 : C cBool w0 (Lo w0.heap.size) A1 acc) (H2 : C (cInt .i64) w0 (Lo w0.heap.size) A2 gd) (H3 : C cNode w0 (Lo w0.heap.size) A3 nodes) (hlt : 0 ≤ l ∧ l ≤ 255) (hl : t.length ≤ 9223372036854775807) (H : C (cInt .u8) w0 (Lo w0.heap.size) A t) (hW : ∀ x ∈ nodes, x.wf) (hG : ∀ x ∈ gd, -9223372036854775808 ≤ x ∧ x ≤ 9223372036854775807) (hT : ∀ x ∈ t, 0 ≤ x ∧ x ≤ 255) :
    Calls Try.prog 3 #[.agg #[.int .i64 p0, .slice A1 acc.length c1, .slice A2 gd.length c2, .slice A3 nodes.length c3], .int .i64 q, .int .u8 l, .slice A t.length c] w0 fun e w' => ∃ v, e = .returned v ∧ (v = .bool true ∧ Ext w0 w') := by
  have HW : Chg (Hi w0.heap.size) w0 w0 := Chg.refl _ _
  refine enterV (n := 98) Try.func3 rfl rfl rfl ?_
  intro a E
  replace E := E.pick [(0, .agg #[.int .i64 p0, .slice A1 acc.length c1, .slice A2 gd.length c2, .slice A3 nodes.length c3]), (1, .int .i64 q), (2, .int .u8 l), (3, .slice A t.length c)] ⟨rfl, rfl, rfl, rfl, trivial⟩
  refine wp_seq ?_
  refine wp_region_lit ?_
  refine e_box E rfl rfl rfl ?_
  intro w2 g1 a hc3 hg4 B5 E_
  replace E := E_ _ rfl; clear E_
  replace B5 : Bx w2 g1 26 [.int .i64 p0, .slice A1 acc.length c1, .slice A2 gd.length c2, .slice A3 nodes.length c3] := B5
  have hi_g1 : w0.heap.size ≤ g1 := Nat.le_trans HW.size hg4
  replace HW := HW.trans hc3 (fun _ _ h_ => h_.elim)
  refine vrun (w := w2) (lp := [(1, .int .i64 q), (2, .int .u8 l), (3, .slice A t.length c), (4, .pointer (some ⟨g1, 0, none⟩))]) (φ := []) tbok 1 [] [1, 2, 3, 4] E (by kernel_rfl) trivial ?_
  clear E; intro a E
  refine wpList_nil ?_
  refine th_n ?_
  refine wp_seq ?_
  refine wp_seq ?_
  refine wp_region_lit ?_
  refine vrun (w := w2) (lp := [(1, .int .i64 q), (2, .int .u8 l), (3, .slice A t.length c), (4, .pointer (some ⟨g1, 0, none⟩)), (23, .bool (decide (600 < ((nodes.length : Nat) : Int))))]) (φ := [World.cell? w2 ⟨g1, 3, none⟩ = some (.slice A3 nodes.length c3)]) tbok 5 [.slice A3 nodes.length c3] [1, 2, 3, 4, 23] E (by kernel_rfl) (B5.cell (j := 3) rfl) ?_
  clear E; intro a E
  refine E.cases (t := 23) rfl (fun hb_ E_ => ?_) (fun hb_ E_ => ?_)
  · replace E := E_; clear E_
    have h6 : 600 < ((nodes.length : Nat) : Int) := of_decide_eq_true hb_
    clear hb_
    refine vrun (w := w2) (lp := [(1, .int .i64 q), (2, .int .u8 l), (3, .slice A t.length c), (4, .pointer (some ⟨g1, 0, none⟩)), (39, .bool true)]) (φ := []) tbok 16 [] [1, 2, 3, 4, 39] E (by kernel_rfl) trivial ?_
    clear E; intro a E
    refine wpList_nil ?_
    refine th_n ?_
    refine c_true E rfl ?_
    refine wp_seq ?_
    refine wp_region_lit ?_
    refine vrun (w := w2) (lp := [(8, .bool true)]) (φ := []) tbok 1 [] [8] E (by kernel_rfl) trivial ?_
    clear E; intro a E
    refine wpList_nil ?_
    refine th_n ?_
    refine wp_ret ?_
    refine th_ret ?_
    refine ret1 E rfl rfl ?_
    exact ⟨_, rfl, rfl, HW.own⟩
  · replace E := E_; clear E_
    have h7 : ¬ (600 < ((nodes.length : Nat) : Int)) := of_decide_eq_false hb_
    clear hb_
    refine vrun (w := w2) (lp := [(1, .int .i64 q), (2, .int .u8 l), (3, .slice A t.length c), (4, .pointer (some ⟨g1, 0, none⟩)), (29, .bool (decide (300 < ((acc.length : Nat) : Int))))]) (φ := [World.cell? w2 ⟨g1, 1, none⟩ = some (.slice A1 acc.length c1)]) tbok 6 [.slice A1 acc.length c1] [1, 2, 3, 4, 29] E (by kernel_rfl) (B5.cell (j := 1) rfl) ?_
    clear E; intro a E
    refine E.cases (t := 29) rfl (fun hb_ E_ => ?_) (fun hb_ E_ => ?_)
    · replace E := E_; clear E_
      have h8 : 300 < ((acc.length : Nat) : Int) := of_decide_eq_true hb_
      clear hb_
      refine vrun (w := w2) (lp := [(1, .int .i64 q), (2, .int .u8 l), (3, .slice A t.length c), (4, .pointer (some ⟨g1, 0, none⟩)), (39, .bool true)]) (φ := []) tbok 10 [] [1, 2, 3, 4, 39] E (by kernel_rfl) trivial ?_
      clear E; intro a E
      refine wpList_nil ?_
      refine th_n ?_
      refine c_true E rfl ?_
      refine wp_seq ?_
      refine wp_region_lit ?_
      refine vrun (w := w2) (lp := [(8, .bool true)]) (φ := []) tbok 1 [] [8] E (by kernel_rfl) trivial ?_
      clear E; intro a E
      refine wpList_nil ?_
      refine th_n ?_
      refine wp_ret ?_
      refine th_ret ?_
      refine ret1 E rfl rfl ?_
      exact ⟨_, rfl, rfl, HW.own⟩
    · replace E := E_; clear E_
      have h9 : ¬ (300 < ((acc.length : Nat) : Int)) := of_decide_eq_false hb_
      clear hb_
      refine vrun (w := w2) (lp := [(1, .int .i64 q), (2, .int .u8 l), (3, .slice A t.length c), (4, .pointer (some ⟨g1, 0, none⟩)), (35, .bool (decide (300 < ((gd.length : Nat) : Int))))]) (φ := [World.cell? w2 ⟨g1, 2, none⟩ = some (.slice A2 gd.length c2)]) tbok 6 [.slice A2 gd.length c2] [1, 2, 3, 4, 35] E (by kernel_rfl) (B5.cell (j := 2) rfl) ?_
      clear E; intro a E
      refine E.cases (t := 35) rfl (fun hb_ E_ => ?_) (fun hb_ E_ => ?_)
      · replace E := E_; clear E_
        have h10 : 300 < ((gd.length : Nat) : Int) := of_decide_eq_true hb_
        clear hb_
        refine vrun (w := w2) (lp := [(1, .int .i64 q), (2, .int .u8 l), (3, .slice A t.length c), (4, .pointer (some ⟨g1, 0, none⟩)), (39, .bool true)]) (φ := []) tbok 4 [] [1, 2, 3, 4, 39] E (by kernel_rfl) trivial ?_
        clear E; intro a E
        refine wpList_nil ?_
        refine th_n ?_
        refine c_true E rfl ?_
        refine wp_seq ?_
        refine wp_region_lit ?_
        refine vrun (w := w2) (lp := [(8, .bool true)]) (φ := []) tbok 1 [] [8] E (by kernel_rfl) trivial ?_
        clear E; intro a E
        refine wpList_nil ?_
        refine th_n ?_
        refine wp_ret ?_
        refine th_ret ?_
        refine ret1 E rfl rfl ?_
        exact ⟨_, rfl, rfl, HW.own⟩
      · replace E := E_; clear E_
        have h11 : ¬ (300 < ((gd.length : Nat) : Int)) := of_decide_eq_false hb_
        clear hb_
        refine vrun (w := w2) (lp := [(1, .int .i64 q), (2, .int .u8 l), (3, .slice A t.length c), (4, .pointer (some ⟨g1, 0, none⟩)), (39, .bool (decide (1100 < ((t.length : Nat) : Int))))]) (φ := []) tbok 4 [] [1, 2, 3, 4, 39] E (by kernel_rfl) trivial ?_
        clear E; intro a E
        refine wpList_nil ?_
        refine th_n ?_
        refine E.cases (t := 39) rfl (fun hb_ E_ => ?_) (fun hb_ E_ => ?_)
        · replace E := E_; clear E_
          have h12 : 1100 < ((t.length : Nat) : Int) := of_decide_eq_true hb_
          clear hb_
          refine c_true E rfl ?_
          refine wp_seq ?_
          refine wp_region_lit ?_
          refine vrun (w := w2) (lp := [(8, .bool true)]) (φ := []) tbok 1 [] [8] E (by kernel_rfl) trivial ?_
          clear E; intro a E
          refine wpList_nil ?_
          refine th_n ?_
          refine wp_ret ?_
          refine th_ret ?_
          refine ret1 E rfl rfl ?_
          exact ⟨_, rfl, rfl, HW.own⟩
        · replace E := E_; clear E_
          have h13 : ¬ (1100 < ((t.length : Nat) : Int)) := of_decide_eq_false hb_
          clear hb_
          refine c_false E rfl ?_
          refine wp_skip ?_
          refine th_n ?_
          refine wp_seq ?_
          refine wp_region_lit ?_
          refine vrun (w := w2) (lp := [(1, .int .i64 q), (2, .int .u8 l), (3, .slice A t.length c), (4, .pointer (some ⟨g1, 0, none⟩)), (40, .agg #[.int .i64 p0, .slice A1 acc.length c1, .slice A2 gd.length c2, .slice A3 nodes.length c3])]) (φ := [cellsAt w2 g1 (0) [.int .i64 p0, .slice A1 acc.length c1, .slice A2 gd.length c2, .slice A3 nodes.length c3]]) tbok 1 [.agg #[.int .i64 p0, .slice A1 acc.length c1, .slice A2 gd.length c2, .slice A3 nodes.length c3]] [1, 2, 3, 4, 40] E (by kernel_rfl) (B5.sub 0 _ rfl) ?_
          clear E; intro a E
          refine e_call E rfl rfl Try.func8 rfl rfl rfl (LentAuto_calls p0 A1 A2 A3 c1 c2 c3 acc gd nodes  _ (by omega) (H1.now HW) (H2.now HW) (H3.now HW)) ?_
          intro v23 w24 a hR25 E_
          obtain ⟨g14, g15, g16, rfl, hg17, hg18, hg19, hc26, L20, L21, L22⟩ := hR25
          replace E := E_ _ rfl; clear E_
          have hi_g14 : w0.heap.size ≤ g14 := Nat.le_trans HW.size hg17
          have ne_g1_g14 : g1 ≠ g14 := by have h_ := B5.lt; omega
          have hi_g15 : w0.heap.size ≤ g15 := Nat.le_trans HW.size hg18
          have ne_g1_g15 : g1 ≠ g15 := by have h_ := B5.lt; omega
          have hi_g16 : w0.heap.size ≤ g16 := Nat.le_trans HW.size hg19
          have ne_g1_g16 : g1 ≠ g16 := by have h_ := B5.lt; omega
          replace B5 := B5.chg hc26 (fun h_ => h_)
          replace HW := HW.trans hc26 (fun _ _ h_ => h_.elim)
          refine vrun (w := w24) (lp := [(1, .int .i64 q), (2, .int .u8 l), (3, .slice A t.length c), (4, .pointer (some ⟨g1, 0, none⟩)), (41, .agg #[.int .i64 p0, .slice (some ⟨g14, 0, none⟩) (List.length acc) (List.length acc + 3), .slice (some ⟨g15, 0, none⟩) (List.length gd) (List.length gd + 3), .slice (some ⟨g16, 0, none⟩) (List.length nodes) (List.length nodes + 3)]), (42, .slice A t.length c)]) (φ := []) tbok 1 [] [1, 2, 3, 4, 41, 42] E (by kernel_rfl) trivial ?_
          clear E; intro a E
          refine e_call E rfl rfl Try.func9 rfl rfl rfl (LentLetters_calls A c t _ (by omega) (H.now HW)) ?_
          intro v30 w31 a hR32 E_
          obtain ⟨g27, rfl, hg28, hc33, L29⟩ := hR32
          replace E := E_ _ rfl; clear E_
          have hi_g27 : w0.heap.size ≤ g27 := Nat.le_trans HW.size hg28
          have ne_g1_g27 : g1 ≠ g27 := by have h_ := B5.lt; omega
          have ne_g14_g27 : g14 ≠ g27 := by have h_ := L20.lt; omega
          have ne_g15_g27 : g15 ≠ g27 := by have h_ := L21.lt; omega
          have ne_g16_g27 : g16 ≠ g27 := by have h_ := L22.lt; omega
          replace B5 := B5.chg hc33 (fun h_ => h_)
          replace L20 := L20.chg hc33 (fun h_ => h_) (fun _ _ h_ => h_)
          replace L21 := L21.chg hc33 (fun h_ => h_) (fun _ _ h_ => h_)
          replace L22 := L22.chg hc33 (fun h_ => h_) (fun _ _ h_ => h_)
          replace HW := HW.trans hc33 (fun _ _ h_ => h_.elim)
          refine e_alloc E rfl rfl tbok rfl ?_
          intro w35 g34 a hc36 hg37 B38 E_
          replace E := E_ _ rfl; clear E_
          replace B38 : Bx w35 g34 26 [.int .i64 0, .slice none 0 0, .slice none 0 0, .slice none 0 0] := B38
          have hi_g34 : w0.heap.size ≤ g34 := Nat.le_trans HW.size hg37
          have ne_g1_g34 : g1 ≠ g34 := by have h_ := B5.lt; omega
          have ne_g14_g34 : g14 ≠ g34 := by have h_ := L20.lt; omega
          have ne_g15_g34 : g15 ≠ g34 := by have h_ := L21.lt; omega
          have ne_g16_g34 : g16 ≠ g34 := by have h_ := L22.lt; omega
          have ne_g27_g34 : g27 ≠ g34 := by have h_ := L29.lt; omega
          replace B5 := B5.chg hc36 (fun h_ => h_)
          replace L20 := L20.chg hc36 (fun h_ => h_) (fun _ _ h_ => h_)
          replace L21 := L21.chg hc36 (fun h_ => h_) (fun _ _ h_ => h_)
          replace L22 := L22.chg hc36 (fun h_ => h_) (fun _ _ h_ => h_)
          replace L29 := L29.chg hc36 (fun h_ => h_) (fun _ _ h_ => h_)
          replace HW := HW.trans hc36 (fun _ _ h_ => h_.elim)
          refine e_store (g := g34) (off := 0) E rfl rfl rfl rfl tbok rfl B38 rfl rfl rfl rfl ?_
          clear E; intro w39 a hc40 B38 E
          replace B38 : Bx w39 g34 26 [.int .i64 p0, .slice (some ⟨g14, 0, none⟩) (List.length acc) (List.length acc + 3), .slice (some ⟨g15, 0, none⟩) (List.length gd) (List.length gd + 3), .slice (some ⟨g16, 0, none⟩) (List.length nodes) (List.length nodes + 3)] := B38
          replace B5 := B5.chg hc40 (fun h_ => ne_g1_g34 h_)
          replace L20 := L20.chg hc40 (fun h_ => ne_g14_g34 h_) (fun _ h_ => h_.elim)
          replace L21 := L21.chg hc40 (fun h_ => ne_g15_g34 h_) (fun _ h_ => h_.elim)
          replace L22 := L22.chg hc40 (fun h_ => ne_g16_g34 h_) (fun _ h_ => h_.elim)
          replace L29 := L29.chg hc40 (fun h_ => ne_g27_g34 h_) (fun _ h_ => h_.elim)
          replace HW := HW.trans hc40 (fun _ _ h_ => by subst h_; exact hi_g34)
          refine vrun (w := w39) (lp := [(1, .int .i64 q), (2, .int .u8 l), (3, .slice A t.length c), (4, .pointer (some ⟨g1, 0, none⟩)), (9, .pointer (some ⟨g34, 0, none⟩)), (10, .slice (some ⟨g27, 0, none⟩) t.length (t.length + 3))]) (φ := []) tbok 1 [] [1, 2, 3, 4, 9, 10] E (by kernel_rfl) trivial ?_
          clear E; intro a E
          refine wpList_nil ?_
          refine th_n ?_
          refine wp_seq ?_
          refine wp_region_lit ?_
          refine vrun (w := w39) (lp := [(1, .int .i64 q), (2, .int .u8 l), (3, .slice A t.length c), (4, .pointer (some ⟨g1, 0, none⟩)), (9, .pointer (some ⟨g34, 0, none⟩)), (10, .slice (some ⟨g27, 0, none⟩) t.length (t.length + 3)), (45, .agg #[.int .i64 p0, .slice (some ⟨g14, 0, none⟩) (List.length acc) (List.length acc + 3), .slice (some ⟨g15, 0, none⟩) (List.length gd) (List.length gd + 3), .slice (some ⟨g16, 0, none⟩) (List.length nodes) (List.length nodes + 3)]), (46, .int .i64 q), (47, .int .u8 l)]) (φ := [cellsAt w39 g34 (0) [.int .i64 p0, .slice (some ⟨g14, 0, none⟩) (List.length acc) (List.length acc + 3), .slice (some ⟨g15, 0, none⟩) (List.length gd) (List.length gd + 3), .slice (some ⟨g16, 0, none⟩) (List.length nodes) (List.length nodes + 3)]]) tbok 3 [.agg #[.int .i64 p0, .slice (some ⟨g14, 0, none⟩) (List.length acc) (List.length acc + 3), .slice (some ⟨g15, 0, none⟩) (List.length gd) (List.length gd + 3), .slice (some ⟨g16, 0, none⟩) (List.length nodes) (List.length nodes + 3)]] [1, 2, 3, 4, 9, 10, 45, 46, 47] E (by kernel_rfl) (B38.sub 0 _ rfl) ?_
          clear E; intro a E
          refine e_call E rfl rfl Try.func10 rfl rfl rfl (Next_calls p0 (some ⟨g14, 0, none⟩) (some ⟨g15, 0, none⟩) (some ⟨g16, 0, none⟩) (List.length acc + 3) (List.length gd + 3) (List.length nodes + 3) acc gd nodes q l _ (by omega) (by omega) (by omega) (bB_view L20.now) (lentL_view L21.now) (bN_view L22.now) hlt hW hG) ?_
          intro v41 w42 a hR43 E_
          obtain ⟨rfl, hc44⟩ := hR43
          replace E := E_ _ rfl; clear E_
          replace B5 := B5.chg hc44 (fun h_ => h_)
          replace L20 := L20.chg hc44 (fun h_ => h_) (fun _ _ h_ => h_)
          replace L21 := L21.chg hc44 (fun h_ => h_) (fun _ _ h_ => h_)
          replace L22 := L22.chg hc44 (fun h_ => h_) (fun _ _ h_ => h_)
          replace L29 := L29.chg hc44 (fun h_ => h_) (fun _ _ h_ => h_)
          replace B38 := B38.chg hc44 (fun h_ => h_)
          replace HW := HW.trans hc44 (fun _ _ h_ => h_.elim)
          refine vrun (w := w42) (lp := [(1, .int .i64 q), (2, .int .u8 l), (3, .slice A t.length c), (4, .pointer (some ⟨g1, 0, none⟩)), (9, .pointer (some ⟨g34, 0, none⟩)), (10, .slice (some ⟨g27, 0, none⟩) t.length (t.length + 3)), (11, .int .i64 ((nextE p0 (List.length acc) gd nodes q l).1)), (12, .int .i64 ((nextE p0 (List.length acc) gd nodes q l).2))]) (φ := []) tbok 5 [] [1, 2, 3, 4, 9, 10, 11, 12] E (by kernel_rfl) trivial ?_
          clear E; intro a E
          refine wpList_nil ?_
          refine th_n ?_
          refine wp_seq ?_
          refine wp_region_lit ?_
          refine vrun (w := w42) (lp := [(3, .slice A t.length c), (4, .pointer (some ⟨g1, 0, none⟩)), (9, .pointer (some ⟨g34, 0, none⟩)), (10, .slice (some ⟨g27, 0, none⟩) t.length (t.length + 3)), (11, .int .i64 ((nextE p0 (List.length acc) gd nodes q l).1)), (12, .int .i64 ((nextE p0 (List.length acc) gd nodes q l).2)), (52, .agg #[.int .i64 p0, .slice A1 acc.length c1, .slice A2 gd.length c2, .slice A3 nodes.length c3]), (53, .int .i64 q), (54, .int .u8 l)]) (φ := [cellsAt w42 g1 (0) [.int .i64 p0, .slice A1 acc.length c1, .slice A2 gd.length c2, .slice A3 nodes.length c3]]) tbok 3 [.agg #[.int .i64 p0, .slice A1 acc.length c1, .slice A2 gd.length c2, .slice A3 nodes.length c3]] [3, 4, 9, 10, 11, 12, 52, 53, 54] E (by kernel_rfl) (B5.sub 0 _ rfl) ?_
          clear E; intro a E
          refine e_call E rfl rfl Try.func11 rfl rfl rfl (rNext_calls p0 A1 A2 A3 c1 c2 c3 acc gd nodes q l _ (by omega) (by omega) (by omega) (H1.now HW) (H2.now HW) (H3.now HW) hlt hW hG) ?_
          intro v45 w46 a hR47 E_
          obtain ⟨rfl, hc48⟩ := hR47
          replace E := E_ _ rfl; clear E_
          replace B5 := B5.chg hc48 (fun h_ => h_)
          replace L20 := L20.chg hc48 (fun h_ => h_) (fun _ _ h_ => h_)
          replace L21 := L21.chg hc48 (fun h_ => h_) (fun _ _ h_ => h_)
          replace L22 := L22.chg hc48 (fun h_ => h_) (fun _ _ h_ => h_)
          replace L29 := L29.chg hc48 (fun h_ => h_) (fun _ _ h_ => h_)
          replace B38 := B38.chg hc48 (fun h_ => h_)
          replace HW := HW.trans hc48 (fun _ _ h_ => h_.elim)
          refine vrun (w := w46) (lp := [(3, .slice A t.length c), (4, .pointer (some ⟨g1, 0, none⟩)), (9, .pointer (some ⟨g34, 0, none⟩)), (10, .slice (some ⟨g27, 0, none⟩) t.length (t.length + 3)), (11, .int .i64 ((nextE p0 (List.length acc) gd nodes q l).1)), (12, .int .i64 ((nextE p0 (List.length acc) gd nodes q l).2)), (13, .int .i64 ((nextE p0 (List.length acc) gd nodes q l).1)), (14, .int .i64 ((nextE p0 (List.length acc) gd nodes q l).2))]) (φ := []) tbok 5 [] [3, 4, 9, 10, 11, 12, 13, 14] E (by kernel_rfl) trivial ?_
          clear E; intro a E
          refine wpList_nil ?_
          refine th_n ?_
          refine wp_seq ?_
          refine wp_region_lit ?_
          refine vrun (w := w46) (lp := [(3, .slice A t.length c), (4, .pointer (some ⟨g1, 0, none⟩)), (9, .pointer (some ⟨g34, 0, none⟩)), (10, .slice (some ⟨g27, 0, none⟩) t.length (t.length + 3)), (11, .int .i64 ((nextE p0 (List.length acc) gd nodes q l).1)), (12, .int .i64 ((nextE p0 (List.length acc) gd nodes q l).2)), (13, .int .i64 ((nextE p0 (List.length acc) gd nodes q l).1)), (14, .int .i64 ((nextE p0 (List.length acc) gd nodes q l).2)), (59, .agg #[.int .i64 p0, .slice (some ⟨g14, 0, none⟩) (List.length acc) (List.length acc + 3), .slice (some ⟨g15, 0, none⟩) (List.length gd) (List.length gd + 3), .slice (some ⟨g16, 0, none⟩) (List.length nodes) (List.length nodes + 3)]), (60, .slice (some ⟨g27, 0, none⟩) t.length (t.length + 3))]) (φ := [cellsAt w46 g34 (0) [.int .i64 p0, .slice (some ⟨g14, 0, none⟩) (List.length acc) (List.length acc + 3), .slice (some ⟨g15, 0, none⟩) (List.length gd) (List.length gd + 3), .slice (some ⟨g16, 0, none⟩) (List.length nodes) (List.length nodes + 3)]]) tbok 2 [.agg #[.int .i64 p0, .slice (some ⟨g14, 0, none⟩) (List.length acc) (List.length acc + 3), .slice (some ⟨g15, 0, none⟩) (List.length gd) (List.length gd + 3), .slice (some ⟨g16, 0, none⟩) (List.length nodes) (List.length nodes + 3)]] [3, 4, 9, 10, 11, 12, 13, 14, 59, 60] E (by kernel_rfl) (B38.sub 0 _ rfl) ?_
          clear E; intro a E
          refine e_call E rfl rfl Try.func12 rfl rfl rfl (Run_calls p0 (some ⟨g14, 0, none⟩) (some ⟨g15, 0, none⟩) (some ⟨g16, 0, none⟩) (List.length acc + 3) (List.length gd + 3) (List.length nodes + 3) acc gd nodes (some ⟨g27, 0, none⟩) (t.length + 3) t _ (by omega) (by omega) (by omega) (bB_view L20.now) (lentL_view L21.now) (bN_view L22.now) (by omega) (lentM_view L29.now) hW hG hT) ?_
          intro v49 w50 a hR51 E_
          obtain ⟨rfl, hc52⟩ := hR51
          replace E := E_ _ rfl; clear E_
          replace B5 := B5.chg hc52 (fun h_ => h_)
          replace L20 := L20.chg hc52 (fun h_ => h_) (fun _ _ h_ => h_)
          replace L21 := L21.chg hc52 (fun h_ => h_) (fun _ _ h_ => h_)
          replace L22 := L22.chg hc52 (fun h_ => h_) (fun _ _ h_ => h_)
          replace L29 := L29.chg hc52 (fun h_ => h_) (fun _ _ h_ => h_)
          replace B38 := B38.chg hc52 (fun h_ => h_)
          replace HW := HW.trans hc52 (fun _ _ h_ => h_.elim)
          refine vrun (w := w50) (lp := [(3, .slice A t.length c), (4, .pointer (some ⟨g1, 0, none⟩)), (9, .pointer (some ⟨g34, 0, none⟩)), (10, .slice (some ⟨g27, 0, none⟩) t.length (t.length + 3)), (11, .int .i64 ((nextE p0 (List.length acc) gd nodes q l).1)), (12, .int .i64 ((nextE p0 (List.length acc) gd nodes q l).2)), (13, .int .i64 ((nextE p0 (List.length acc) gd nodes q l).1)), (14, .int .i64 ((nextE p0 (List.length acc) gd nodes q l).2)), (15, .int .i64 ((runE p0 (List.length acc) gd nodes t).1)), (16, .int .i64 ((runE p0 (List.length acc) gd nodes t).2))]) (φ := []) tbok 5 [] [3, 4, 9, 10, 11, 12, 13, 14, 15, 16] E (by kernel_rfl) trivial ?_
          clear E; intro a E
          refine wpList_nil ?_
          refine th_n ?_
          refine wp_seq ?_
          refine wp_region_lit ?_
          refine vrun (w := w50) (lp := [(3, .slice A t.length c), (4, .pointer (some ⟨g1, 0, none⟩)), (9, .pointer (some ⟨g34, 0, none⟩)), (10, .slice (some ⟨g27, 0, none⟩) t.length (t.length + 3)), (11, .int .i64 ((nextE p0 (List.length acc) gd nodes q l).1)), (12, .int .i64 ((nextE p0 (List.length acc) gd nodes q l).2)), (13, .int .i64 ((nextE p0 (List.length acc) gd nodes q l).1)), (14, .int .i64 ((nextE p0 (List.length acc) gd nodes q l).2)), (15, .int .i64 ((runE p0 (List.length acc) gd nodes t).1)), (16, .int .i64 ((runE p0 (List.length acc) gd nodes t).2)), (65, .agg #[.int .i64 p0, .slice A1 acc.length c1, .slice A2 gd.length c2, .slice A3 nodes.length c3]), (66, .slice A t.length c)]) (φ := [cellsAt w50 g1 (0) [.int .i64 p0, .slice A1 acc.length c1, .slice A2 gd.length c2, .slice A3 nodes.length c3]]) tbok 2 [.agg #[.int .i64 p0, .slice A1 acc.length c1, .slice A2 gd.length c2, .slice A3 nodes.length c3]] [3, 4, 9, 10, 11, 12, 13, 14, 15, 16, 65, 66] E (by kernel_rfl) (B5.sub 0 _ rfl) ?_
          clear E; intro a E
          refine e_call E rfl rfl Try.func13 rfl rfl rfl (rRun_calls p0 A1 A2 A3 c1 c2 c3 acc gd nodes A c t _ (by omega) (by omega) (by omega) (H1.now HW) (H2.now HW) (H3.now HW) (by omega) (H.now HW) hW hG hT) ?_
          intro v53 w54 a hR55 E_
          obtain ⟨rfl, hc56⟩ := hR55
          replace E := E_ _ rfl; clear E_
          replace B5 := B5.chg hc56 (fun h_ => h_)
          replace L20 := L20.chg hc56 (fun h_ => h_) (fun _ _ h_ => h_)
          replace L21 := L21.chg hc56 (fun h_ => h_) (fun _ _ h_ => h_)
          replace L22 := L22.chg hc56 (fun h_ => h_) (fun _ _ h_ => h_)
          replace L29 := L29.chg hc56 (fun h_ => h_) (fun _ _ h_ => h_)
          replace B38 := B38.chg hc56 (fun h_ => h_)
          replace HW := HW.trans hc56 (fun _ _ h_ => h_.elim)
          refine vrun (w := w54) (lp := [(3, .slice A t.length c), (4, .pointer (some ⟨g1, 0, none⟩)), (9, .pointer (some ⟨g34, 0, none⟩)), (10, .slice (some ⟨g27, 0, none⟩) t.length (t.length + 3)), (11, .int .i64 ((nextE p0 (List.length acc) gd nodes q l).1)), (12, .int .i64 ((nextE p0 (List.length acc) gd nodes q l).2)), (13, .int .i64 ((nextE p0 (List.length acc) gd nodes q l).1)), (14, .int .i64 ((nextE p0 (List.length acc) gd nodes q l).2)), (15, .int .i64 ((runE p0 (List.length acc) gd nodes t).1)), (16, .int .i64 ((runE p0 (List.length acc) gd nodes t).2)), (17, .int .i64 ((runE p0 (List.length acc) gd nodes t).1)), (18, .int .i64 ((runE p0 (List.length acc) gd nodes t).2))]) (φ := []) tbok 5 [] [3, 4, 9, 10, 11, 12, 13, 14, 15, 16, 17, 18] E (by kernel_rfl) trivial ?_
          clear E; intro a E
          refine wpList_nil ?_
          refine th_n ?_
          refine wp_seq ?_
          refine wp_region_lit ?_
          refine vrun (w := w54) (lp := [(3, .slice A t.length c), (4, .pointer (some ⟨g1, 0, none⟩)), (9, .pointer (some ⟨g34, 0, none⟩)), (10, .slice (some ⟨g27, 0, none⟩) t.length (t.length + 3)), (12, .int .i64 ((nextE p0 (List.length acc) gd nodes q l).2)), (14, .int .i64 ((nextE p0 (List.length acc) gd nodes q l).2)), (15, .int .i64 ((runE p0 (List.length acc) gd nodes t).1)), (16, .int .i64 ((runE p0 (List.length acc) gd nodes t).2)), (17, .int .i64 ((runE p0 (List.length acc) gd nodes t).1)), (18, .int .i64 ((runE p0 (List.length acc) gd nodes t).2)), (73, .bool (((nextE p0 (List.length acc) gd nodes q l).1 : Int) == ((nextE p0 (List.length acc) gd nodes q l).1)))]) (φ := []) tbok 4 [] [3, 4, 9, 10, 12, 14, 15, 16, 17, 18, 73] E (by kernel_rfl) trivial ?_
          clear E; intro a E
          refine E.cases (t := 73) rfl (fun hb_ E_ => ?_) (fun hb_ E_ => ?_)
          · replace E := E_; clear E_
            have h57 : ((nextE p0 (List.length acc) gd nodes q l).1 : Int) = (nextE p0 (List.length acc) gd nodes q l).1 := eq_of_beq hb_
            clear hb_
            refine vrun (w := w54) (lp := [(3, .slice A t.length c), (4, .pointer (some ⟨g1, 0, none⟩)), (9, .pointer (some ⟨g34, 0, none⟩)), (10, .slice (some ⟨g27, 0, none⟩) t.length (t.length + 3)), (15, .int .i64 ((runE p0 (List.length acc) gd nodes t).1)), (16, .int .i64 ((runE p0 (List.length acc) gd nodes t).2)), (17, .int .i64 ((runE p0 (List.length acc) gd nodes t).1)), (18, .int .i64 ((runE p0 (List.length acc) gd nodes t).2)), (78, .bool (((nextE p0 (List.length acc) gd nodes q l).2 : Int) == ((nextE p0 (List.length acc) gd nodes q l).2)))]) (φ := []) tbok 5 [] [3, 4, 9, 10, 15, 16, 17, 18, 78] E (by kernel_rfl) trivial ?_
            clear E; intro a E
            refine E.cases (t := 78) rfl (fun hb_ E_ => ?_) (fun hb_ E_ => ?_)
            · replace E := E_; clear E_
              have h58 : ((nextE p0 (List.length acc) gd nodes q l).2 : Int) = (nextE p0 (List.length acc) gd nodes q l).2 := eq_of_beq hb_
              clear hb_
              refine vrun (w := w54) (lp := [(3, .slice A t.length c), (4, .pointer (some ⟨g1, 0, none⟩)), (9, .pointer (some ⟨g34, 0, none⟩)), (10, .slice (some ⟨g27, 0, none⟩) t.length (t.length + 3)), (16, .int .i64 ((runE p0 (List.length acc) gd nodes t).2)), (18, .int .i64 ((runE p0 (List.length acc) gd nodes t).2)), (83, .bool (((runE p0 (List.length acc) gd nodes t).1 : Int) == ((runE p0 (List.length acc) gd nodes t).1)))]) (φ := []) tbok 5 [] [3, 4, 9, 10, 16, 18, 83] E (by kernel_rfl) trivial ?_
              clear E; intro a E
              refine E.cases (t := 83) rfl (fun hb_ E_ => ?_) (fun hb_ E_ => ?_)
              · replace E := E_; clear E_
                have h59 : ((runE p0 (List.length acc) gd nodes t).1 : Int) = (runE p0 (List.length acc) gd nodes t).1 := eq_of_beq hb_
                clear hb_
                refine vrun (w := w54) (lp := [(3, .slice A t.length c), (4, .pointer (some ⟨g1, 0, none⟩)), (9, .pointer (some ⟨g34, 0, none⟩)), (10, .slice (some ⟨g27, 0, none⟩) t.length (t.length + 3)), (88, .bool (((runE p0 (List.length acc) gd nodes t).2 : Int) == ((runE p0 (List.length acc) gd nodes t).2)))]) (φ := []) tbok 5 [] [3, 4, 9, 10, 88] E (by kernel_rfl) trivial ?_
                clear E; intro a E
                refine E.cases (t := 88) rfl (fun hb_ E_ => ?_) (fun hb_ E_ => ?_)
                · replace E := E_; clear E_
                  have h60 : ((runE p0 (List.length acc) gd nodes t).2 : Int) = (runE p0 (List.length acc) gd nodes t).2 := eq_of_beq hb_
                  clear hb_
                  refine vrun (w := w54) (lp := [(3, .slice A t.length c), (10, .slice (some ⟨g27, 0, none⟩) t.length (t.length + 3)), (88, .bool true), (89, .agg #[.int .i64 p0, .slice (some ⟨g14, 0, none⟩) (List.length acc) (List.length acc + 3), .slice (some ⟨g15, 0, none⟩) (List.length gd) (List.length gd + 3), .slice (some ⟨g16, 0, none⟩) (List.length nodes) (List.length nodes + 3)]), (90, .agg #[.int .i64 p0, .slice A1 acc.length c1, .slice A2 gd.length c2, .slice A3 nodes.length c3])]) (φ := [cellsAt w54 g34 (0) [.int .i64 p0, .slice (some ⟨g14, 0, none⟩) (List.length acc) (List.length acc + 3), .slice (some ⟨g15, 0, none⟩) (List.length gd) (List.length gd + 3), .slice (some ⟨g16, 0, none⟩) (List.length nodes) (List.length nodes + 3)], cellsAt w54 g1 (0) [.int .i64 p0, .slice A1 acc.length c1, .slice A2 gd.length c2, .slice A3 nodes.length c3]]) tbok 2 [.agg #[.int .i64 p0, .slice (some ⟨g14, 0, none⟩) (List.length acc) (List.length acc + 3), .slice (some ⟨g15, 0, none⟩) (List.length gd) (List.length gd + 3), .slice (some ⟨g16, 0, none⟩) (List.length nodes) (List.length nodes + 3)], .agg #[.int .i64 p0, .slice A1 acc.length c1, .slice A2 gd.length c2, .slice A3 nodes.length c3]] [3, 10, 88, 89, 90] E (by kernel_rfl) ⟨B38.sub 0 _ rfl, B5.sub 0 _ rfl⟩ ?_
                  clear E; intro a E
                  refine e_call E rfl rfl Try.func14 rfl rfl rfl (KeptAuto_calls p0 A1 A2 A3 c1 c2 c3 acc gd nodes (some ⟨g14, 0, none⟩) (some ⟨g15, 0, none⟩) (some ⟨g16, 0, none⟩) _ (by omega) (H1.now HW) (H2.now HW) (H3.now HW) L20.now L21.now L22.now) ?_
                  intro v61 w62 a hR63 E_
                  obtain ⟨rfl, hc64⟩ := hR63
                  replace E := E_ _ rfl; clear E_
                  replace B5 := B5.chg hc64 (fun h_ => h_)
                  replace L20 := L20.chg hc64 (fun h_ => h_) (fun _ _ h_ => h_)
                  replace L21 := L21.chg hc64 (fun h_ => h_) (fun _ _ h_ => h_)
                  replace L22 := L22.chg hc64 (fun h_ => h_) (fun _ _ h_ => h_)
                  replace L29 := L29.chg hc64 (fun h_ => h_) (fun _ _ h_ => h_)
                  replace B38 := B38.chg hc64 (fun h_ => h_)
                  replace HW := HW.trans hc64 (fun _ _ h_ => h_.elim)
                  refine vrun (w := w62) (lp := [(93, .bool true), (94, .slice (some ⟨g27, 0, none⟩) t.length (t.length + 3)), (95, .slice A t.length c)]) (φ := []) tbok 4 [] [93, 94, 95] E (by kernel_rfl) trivial ?_
                  clear E; intro a E
                  refine e_call E rfl rfl Try.func15 rfl rfl rfl (KeptLetters_calls (some ⟨g27, 0, none⟩) A c t _ (by omega) L29.now (H.now HW)) ?_
                  intro v65 w66 a hR67 E_
                  obtain ⟨rfl, hc68⟩ := hR67
                  replace E := E_ _ rfl; clear E_
                  replace B5 := B5.chg hc68 (fun h_ => h_)
                  replace L20 := L20.chg hc68 (fun h_ => h_) (fun _ _ h_ => h_)
                  replace L21 := L21.chg hc68 (fun h_ => h_) (fun _ _ h_ => h_)
                  replace L22 := L22.chg hc68 (fun h_ => h_) (fun _ _ h_ => h_)
                  replace L29 := L29.chg hc68 (fun h_ => h_) (fun _ _ h_ => h_)
                  replace B38 := B38.chg hc68 (fun h_ => h_)
                  replace HW := HW.trans hc68 (fun _ _ h_ => h_.elim)
                  refine vrun (w := w66) (lp := [(8, .bool true)]) (φ := []) tbok 2 [] [8] E (by kernel_rfl) trivial ?_
                  clear E; intro a E
                  refine wpList_nil ?_
                  refine th_n ?_
                  refine wp_ret ?_
                  refine ret1 E rfl rfl ?_
                  exact ⟨_, rfl, rfl, HW.own⟩
                · replace E := E_; clear E_
                  have h69 : ¬ (((runE p0 (List.length acc) gd nodes t).2 : Int) = (runE p0 (List.length acc) gd nodes t).2) := ne_of_beq_false hb_
                  clear hb_
                  exact absurd rfl h69
              · replace E := E_; clear E_
                have h70 : ¬ (((runE p0 (List.length acc) gd nodes t).1 : Int) = (runE p0 (List.length acc) gd nodes t).1) := ne_of_beq_false hb_
                clear hb_
                exact absurd rfl h70
            · replace E := E_; clear E_
              have h71 : ¬ (((nextE p0 (List.length acc) gd nodes q l).2 : Int) = (nextE p0 (List.length acc) gd nodes q l).2) := ne_of_beq_false hb_
              clear hb_
              exact absurd rfl h71
          · replace E := E_; clear E_
            have h72 : ¬ (((nextE p0 (List.length acc) gd nodes q l).1 : Int) = (nextE p0 (List.length acc) gd nodes q l).1) := ne_of_beq_false hb_
            clear hb_
            exact absurd rfl h72

end Go.V
