/- Contracts of functions of the program: walks. -/
import Derived.Test.YtllkojpinpojiaaCx
import Derived.Test.YtllkojpinpojiaaTb
set_option linter.all false
set_option linter.unusedVariables false
set_option linter.unnecessarySimpa false
set_option linter.unusedSimpArgs false
namespace Go.V
open Go Go.Proofs

/-! rejoinder/rejoinderlaw19.Large -/
set_option maxRecDepth 100000 in
theorem Large_calls (p0 : Int) (A1 A2 A3 : Option Addr) (c1 c2 c3 : Nat) (acc : List Bool) (gd : List Int) (nodes : List Nd) (w0 : World) :
    Calls Try.prog 8 #[.agg #[.int .i64 p0, .slice A1 acc.length c1, .slice A2 gd.length c2, .slice A3 nodes.length c3]] w0 fun e w' => ∃ v, e = .returned v ∧ (v = .bool (largeB p0 acc.length gd.length nodes.length) ∧ Ext w0 w') := by
  have HW : Chg (Hi w0.heap.size) w0 w0 := Chg.refl _ _
  refine enterV (n := 41) Try.func8 rfl rfl rfl ?_
  intro a E
  replace E := E.pick [(0, .agg #[.int .i64 p0, .slice A1 acc.length c1, .slice A2 gd.length c2, .slice A3 nodes.length c3])] ⟨rfl, trivial⟩
  refine wp_seq ?_
  refine wp_region_lit ?_
  refine e_box E rfl rfl rfl ?_
  intro w2 g1 a hc3 hg4 B5 E_
  replace E := E_ _ rfl; clear E_
  replace B5 : Bx w2 g1 26 [.int .i64 p0, .slice A1 acc.length c1, .slice A2 gd.length c2, .slice A3 nodes.length c3] := B5
  have hi_g1 : w0.heap.size ≤ g1 := Nat.le_trans HW.size hg4
  replace HW := HW.trans hc3 (fun _ _ h_ => h_.elim)
  refine vrun (w := w2) (lp := [(1, .pointer (some ⟨g1, 0, none⟩))]) (φ := []) tbok 1 [] [1] E (by kernel_rfl) trivial ?_
  clear E; intro a E
  refine wpList_nil ?_
  refine th_n ?_
  refine wp_seq ?_
  refine wp_region_lit ?_
  refine vrun (w := w2) (lp := [(1, .pointer (some ⟨g1, 0, none⟩)), (6, .bool (decide (3 < p0)))]) (φ := [World.cell? w2 ⟨g1, 0, none⟩ = some (.int .i64 p0)]) tbok 4 [.int .i64 p0] [1, 6] E (by kernel_rfl) (B5.cell (j := 0) rfl) ?_
  clear E; intro a E
  refine E.cases (t := 6) rfl (fun hb_ E_ => ?_) (fun hb_ E_ => ?_)
  · replace E := E_; clear E_
    have h6 : 3 < p0 := of_decide_eq_true hb_
    clear hb_
    refine vrun (w := w2) (lp := [(1, .pointer (some ⟨g1, 0, none⟩)), (11, .bool (decide (p0 ≤ 8)))]) (φ := [World.cell? w2 ⟨g1, 0, none⟩ = some (.int .i64 p0)]) tbok 5 [.int .i64 p0] [1, 11] E (by kernel_rfl) (B5.cell (j := 0) rfl) ?_
    clear E; intro a E
    refine E.cases (t := 11) rfl (fun hb_ E_ => ?_) (fun hb_ E_ => ?_)
    · replace E := E_; clear E_
      have h7 : p0 ≤ 8 := of_decide_eq_true hb_
      clear hb_
      refine vrun (w := w2) (lp := [(2, .bool true)]) (φ := []) tbok 30 [] [2] E (by kernel_rfl) trivial ?_
      clear E; intro a E
      refine wpList_nil ?_
      refine th_n ?_
      refine wp_ret ?_
      refine ret1 E rfl rfl ?_
      exact ⟨_, rfl, congrArg Value.bool (by unfold largeB; first | exact (decide_eq_true (by omega)).symm | exact decide_eq_decide.2 ⟨fun h_ => by omega, fun h_ => by omega⟩ | exact (decide_eq_false (by omega)).symm), HW.own⟩
    · replace E := E_; clear E_
      have h8 : ¬ (p0 ≤ 8) := of_decide_eq_false hb_
      clear hb_
      refine vrun (w := w2) (lp := [(1, .pointer (some ⟨g1, 0, none⟩)), (11, .bool false), (16, .bool (decide (10 < ((acc.length : Nat) : Int))))]) (φ := [World.cell? w2 ⟨g1, 1, none⟩ = some (.slice A1 acc.length c1)]) tbok 5 [.slice A1 acc.length c1] [1, 11, 16] E (by kernel_rfl) (B5.cell (j := 1) rfl) ?_
      clear E; intro a E
      refine E.cases (t := 16) rfl (fun hb_ E_ => ?_) (fun hb_ E_ => ?_)
      · replace E := E_; clear E_
        have h9 : 10 < ((acc.length : Nat) : Int) := of_decide_eq_true hb_
        clear hb_
        refine vrun (w := w2) (lp := [(1, .pointer (some ⟨g1, 0, none⟩)), (23, .bool (decide (((acc.length : Nat) : Int) ≤ 256)))]) (φ := [World.cell? w2 ⟨g1, 1, none⟩ = some (.slice A1 acc.length c1)]) tbok 7 [.slice A1 acc.length c1] [1, 23] E (by kernel_rfl) (B5.cell (j := 1) rfl) ?_
        clear E; intro a E
        refine E.cases (t := 23) rfl (fun hb_ E_ => ?_) (fun hb_ E_ => ?_)
        · replace E := E_; clear E_
          have h10 : ((acc.length : Nat) : Int) ≤ 256 := of_decide_eq_true hb_
          clear hb_
          refine vrun (w := w2) (lp := [(2, .bool true)]) (φ := []) tbok 18 [] [2] E (by kernel_rfl) trivial ?_
          clear E; intro a E
          refine wpList_nil ?_
          refine th_n ?_
          refine wp_ret ?_
          refine ret1 E rfl rfl ?_
          exact ⟨_, rfl, congrArg Value.bool (by unfold largeB; first | exact (decide_eq_true (by omega)).symm | exact decide_eq_decide.2 ⟨fun h_ => by omega, fun h_ => by omega⟩ | exact (decide_eq_false (by omega)).symm), HW.own⟩
        · replace E := E_; clear E_
          have h11 : ¬ (((acc.length : Nat) : Int) ≤ 256) := of_decide_eq_false hb_
          clear hb_
          refine vrun (w := w2) (lp := [(1, .pointer (some ⟨g1, 0, none⟩)), (29, .bool (decide (259 < ((acc.length : Nat) : Int))))]) (φ := [World.cell? w2 ⟨g1, 1, none⟩ = some (.slice A1 acc.length c1)]) tbok 6 [.slice A1 acc.length c1] [1, 29] E (by kernel_rfl) (B5.cell (j := 1) rfl) ?_
          clear E; intro a E
          refine E.cases (t := 29) rfl (fun hb_ E_ => ?_) (fun hb_ E_ => ?_)
          · replace E := E_; clear E_
            have h12 : 259 < ((acc.length : Nat) : Int) := of_decide_eq_true hb_
            clear hb_
            refine vrun (w := w2) (lp := [(2, .bool true)]) (φ := []) tbok 12 [] [2] E (by kernel_rfl) trivial ?_
            clear E; intro a E
            refine wpList_nil ?_
            refine th_n ?_
            refine wp_ret ?_
            refine ret1 E rfl rfl ?_
            exact ⟨_, rfl, congrArg Value.bool (by unfold largeB; first | exact (decide_eq_true (by omega)).symm | exact decide_eq_decide.2 ⟨fun h_ => by omega, fun h_ => by omega⟩ | exact (decide_eq_false (by omega)).symm), HW.own⟩
          · replace E := E_; clear E_
            have h13 : ¬ (259 < ((acc.length : Nat) : Int)) := of_decide_eq_false hb_
            clear hb_
            refine vrun (w := w2) (lp := [(1, .pointer (some ⟨g1, 0, none⟩)), (35, .bool (decide (40 < ((nodes.length : Nat) : Int))))]) (φ := [World.cell? w2 ⟨g1, 3, none⟩ = some (.slice A3 nodes.length c3)]) tbok 6 [.slice A3 nodes.length c3] [1, 35] E (by kernel_rfl) (B5.cell (j := 3) rfl) ?_
            clear E; intro a E
            refine E.cases (t := 35) rfl (fun hb_ E_ => ?_) (fun hb_ E_ => ?_)
            · replace E := E_; clear E_
              have h14 : 40 < ((nodes.length : Nat) : Int) := of_decide_eq_true hb_
              clear hb_
              refine vrun (w := w2) (lp := [(2, .bool true)]) (φ := []) tbok 6 [] [2] E (by kernel_rfl) trivial ?_
              clear E; intro a E
              refine wpList_nil ?_
              refine th_n ?_
              refine wp_ret ?_
              refine ret1 E rfl rfl ?_
              exact ⟨_, rfl, congrArg Value.bool (by unfold largeB; first | exact (decide_eq_true (by omega)).symm | exact decide_eq_decide.2 ⟨fun h_ => by omega, fun h_ => by omega⟩ | exact (decide_eq_false (by omega)).symm), HW.own⟩
            · replace E := E_; clear E_
              have h15 : ¬ (40 < ((nodes.length : Nat) : Int)) := of_decide_eq_false hb_
              clear hb_
              refine vrun (w := w2) (lp := [(2, .bool (decide (300 < ((gd.length : Nat) : Int))))]) (φ := [World.cell? w2 ⟨g1, 2, none⟩ = some (.slice A2 gd.length c2)]) tbok 6 [.slice A2 gd.length c2] [2] E (by kernel_rfl) (B5.cell (j := 2) rfl) ?_
              clear E; intro a E
              refine wpList_nil ?_
              refine th_n ?_
              refine wp_ret ?_
              refine ret1 E rfl rfl ?_
              exact ⟨_, rfl, congrArg Value.bool (by unfold largeB; first | exact (decide_eq_true (by omega)).symm | exact decide_eq_decide.2 ⟨fun h_ => by omega, fun h_ => by omega⟩ | exact (decide_eq_false (by omega)).symm), HW.own⟩
      · replace E := E_; clear E_
        have h16 : ¬ (10 < ((acc.length : Nat) : Int)) := of_decide_eq_false hb_
        clear hb_
        refine vrun (w := w2) (lp := [(1, .pointer (some ⟨g1, 0, none⟩)), (29, .bool (decide (259 < ((acc.length : Nat) : Int))))]) (φ := [World.cell? w2 ⟨g1, 1, none⟩ = some (.slice A1 acc.length c1)]) tbok 13 [.slice A1 acc.length c1] [1, 29] E (by kernel_rfl) (B5.cell (j := 1) rfl) ?_
        clear E; intro a E
        refine E.cases (t := 29) rfl (fun hb_ E_ => ?_) (fun hb_ E_ => ?_)
        · replace E := E_; clear E_
          have h17 : 259 < ((acc.length : Nat) : Int) := of_decide_eq_true hb_
          clear hb_
          refine vrun (w := w2) (lp := [(2, .bool true)]) (φ := []) tbok 12 [] [2] E (by kernel_rfl) trivial ?_
          clear E; intro a E
          refine wpList_nil ?_
          refine th_n ?_
          refine wp_ret ?_
          refine ret1 E rfl rfl ?_
          exact ⟨_, rfl, congrArg Value.bool (by unfold largeB; first | exact (decide_eq_true (by omega)).symm | exact decide_eq_decide.2 ⟨fun h_ => by omega, fun h_ => by omega⟩ | exact (decide_eq_false (by omega)).symm), HW.own⟩
        · replace E := E_; clear E_
          have h18 : ¬ (259 < ((acc.length : Nat) : Int)) := of_decide_eq_false hb_
          clear hb_
          refine vrun (w := w2) (lp := [(1, .pointer (some ⟨g1, 0, none⟩)), (35, .bool (decide (40 < ((nodes.length : Nat) : Int))))]) (φ := [World.cell? w2 ⟨g1, 3, none⟩ = some (.slice A3 nodes.length c3)]) tbok 6 [.slice A3 nodes.length c3] [1, 35] E (by kernel_rfl) (B5.cell (j := 3) rfl) ?_
          clear E; intro a E
          refine E.cases (t := 35) rfl (fun hb_ E_ => ?_) (fun hb_ E_ => ?_)
          · replace E := E_; clear E_
            have h19 : 40 < ((nodes.length : Nat) : Int) := of_decide_eq_true hb_
            clear hb_
            refine vrun (w := w2) (lp := [(2, .bool true)]) (φ := []) tbok 6 [] [2] E (by kernel_rfl) trivial ?_
            clear E; intro a E
            refine wpList_nil ?_
            refine th_n ?_
            refine wp_ret ?_
            refine ret1 E rfl rfl ?_
            exact ⟨_, rfl, congrArg Value.bool (by unfold largeB; first | exact (decide_eq_true (by omega)).symm | exact decide_eq_decide.2 ⟨fun h_ => by omega, fun h_ => by omega⟩ | exact (decide_eq_false (by omega)).symm), HW.own⟩
          · replace E := E_; clear E_
            have h20 : ¬ (40 < ((nodes.length : Nat) : Int)) := of_decide_eq_false hb_
            clear hb_
            refine vrun (w := w2) (lp := [(2, .bool (decide (300 < ((gd.length : Nat) : Int))))]) (φ := [World.cell? w2 ⟨g1, 2, none⟩ = some (.slice A2 gd.length c2)]) tbok 6 [.slice A2 gd.length c2] [2] E (by kernel_rfl) (B5.cell (j := 2) rfl) ?_
            clear E; intro a E
            refine wpList_nil ?_
            refine th_n ?_
            refine wp_ret ?_
            refine ret1 E rfl rfl ?_
            exact ⟨_, rfl, congrArg Value.bool (by unfold largeB; first | exact (decide_eq_true (by omega)).symm | exact decide_eq_decide.2 ⟨fun h_ => by omega, fun h_ => by omega⟩ | exact (decide_eq_false (by omega)).symm), HW.own⟩
  · replace E := E_; clear E_
    have h21 : ¬ (3 < p0) := of_decide_eq_false hb_
    clear hb_
    refine vrun (w := w2) (lp := [(1, .pointer (some ⟨g1, 0, none⟩)), (11, .bool false), (16, .bool (decide (10 < ((acc.length : Nat) : Int))))]) (φ := [World.cell? w2 ⟨g1, 1, none⟩ = some (.slice A1 acc.length c1)]) tbok 10 [.slice A1 acc.length c1] [1, 11, 16] E (by kernel_rfl) (B5.cell (j := 1) rfl) ?_
    clear E; intro a E
    refine E.cases (t := 16) rfl (fun hb_ E_ => ?_) (fun hb_ E_ => ?_)
    · replace E := E_; clear E_
      have h22 : 10 < ((acc.length : Nat) : Int) := of_decide_eq_true hb_
      clear hb_
      refine vrun (w := w2) (lp := [(1, .pointer (some ⟨g1, 0, none⟩)), (23, .bool (decide (((acc.length : Nat) : Int) ≤ 256)))]) (φ := [World.cell? w2 ⟨g1, 1, none⟩ = some (.slice A1 acc.length c1)]) tbok 7 [.slice A1 acc.length c1] [1, 23] E (by kernel_rfl) (B5.cell (j := 1) rfl) ?_
      clear E; intro a E
      refine E.cases (t := 23) rfl (fun hb_ E_ => ?_) (fun hb_ E_ => ?_)
      · replace E := E_; clear E_
        have h23 : ((acc.length : Nat) : Int) ≤ 256 := of_decide_eq_true hb_
        clear hb_
        refine vrun (w := w2) (lp := [(2, .bool true)]) (φ := []) tbok 18 [] [2] E (by kernel_rfl) trivial ?_
        clear E; intro a E
        refine wpList_nil ?_
        refine th_n ?_
        refine wp_ret ?_
        refine ret1 E rfl rfl ?_
        exact ⟨_, rfl, congrArg Value.bool (by unfold largeB; first | exact (decide_eq_true (by omega)).symm | exact decide_eq_decide.2 ⟨fun h_ => by omega, fun h_ => by omega⟩ | exact (decide_eq_false (by omega)).symm), HW.own⟩
      · replace E := E_; clear E_
        have h24 : ¬ (((acc.length : Nat) : Int) ≤ 256) := of_decide_eq_false hb_
        clear hb_
        refine vrun (w := w2) (lp := [(1, .pointer (some ⟨g1, 0, none⟩)), (29, .bool (decide (259 < ((acc.length : Nat) : Int))))]) (φ := [World.cell? w2 ⟨g1, 1, none⟩ = some (.slice A1 acc.length c1)]) tbok 6 [.slice A1 acc.length c1] [1, 29] E (by kernel_rfl) (B5.cell (j := 1) rfl) ?_
        clear E; intro a E
        refine E.cases (t := 29) rfl (fun hb_ E_ => ?_) (fun hb_ E_ => ?_)
        · replace E := E_; clear E_
          have h25 : 259 < ((acc.length : Nat) : Int) := of_decide_eq_true hb_
          clear hb_
          refine vrun (w := w2) (lp := [(2, .bool true)]) (φ := []) tbok 12 [] [2] E (by kernel_rfl) trivial ?_
          clear E; intro a E
          refine wpList_nil ?_
          refine th_n ?_
          refine wp_ret ?_
          refine ret1 E rfl rfl ?_
          exact ⟨_, rfl, congrArg Value.bool (by unfold largeB; first | exact (decide_eq_true (by omega)).symm | exact decide_eq_decide.2 ⟨fun h_ => by omega, fun h_ => by omega⟩ | exact (decide_eq_false (by omega)).symm), HW.own⟩
        · replace E := E_; clear E_
          have h26 : ¬ (259 < ((acc.length : Nat) : Int)) := of_decide_eq_false hb_
          clear hb_
          refine vrun (w := w2) (lp := [(1, .pointer (some ⟨g1, 0, none⟩)), (35, .bool (decide (40 < ((nodes.length : Nat) : Int))))]) (φ := [World.cell? w2 ⟨g1, 3, none⟩ = some (.slice A3 nodes.length c3)]) tbok 6 [.slice A3 nodes.length c3] [1, 35] E (by kernel_rfl) (B5.cell (j := 3) rfl) ?_
          clear E; intro a E
          refine E.cases (t := 35) rfl (fun hb_ E_ => ?_) (fun hb_ E_ => ?_)
          · replace E := E_; clear E_
            have h27 : 40 < ((nodes.length : Nat) : Int) := of_decide_eq_true hb_
            clear hb_
            refine vrun (w := w2) (lp := [(2, .bool true)]) (φ := []) tbok 6 [] [2] E (by kernel_rfl) trivial ?_
            clear E; intro a E
            refine wpList_nil ?_
            refine th_n ?_
            refine wp_ret ?_
            refine ret1 E rfl rfl ?_
            exact ⟨_, rfl, congrArg Value.bool (by unfold largeB; first | exact (decide_eq_true (by omega)).symm | exact decide_eq_decide.2 ⟨fun h_ => by omega, fun h_ => by omega⟩ | exact (decide_eq_false (by omega)).symm), HW.own⟩
          · replace E := E_; clear E_
            have h28 : ¬ (40 < ((nodes.length : Nat) : Int)) := of_decide_eq_false hb_
            clear hb_
            refine vrun (w := w2) (lp := [(2, .bool (decide (300 < ((gd.length : Nat) : Int))))]) (φ := [World.cell? w2 ⟨g1, 2, none⟩ = some (.slice A2 gd.length c2)]) tbok 6 [.slice A2 gd.length c2] [2] E (by kernel_rfl) (B5.cell (j := 2) rfl) ?_
            clear E; intro a E
            refine wpList_nil ?_
            refine th_n ?_
            refine wp_ret ?_
            refine ret1 E rfl rfl ?_
            exact ⟨_, rfl, congrArg Value.bool (by unfold largeB; first | exact (decide_eq_true (by omega)).symm | exact decide_eq_decide.2 ⟨fun h_ => by omega, fun h_ => by omega⟩ | exact (decide_eq_false (by omega)).symm), HW.own⟩
    · replace E := E_; clear E_
      have h29 : ¬ (10 < ((acc.length : Nat) : Int)) := of_decide_eq_false hb_
      clear hb_
      refine vrun (w := w2) (lp := [(1, .pointer (some ⟨g1, 0, none⟩)), (29, .bool (decide (259 < ((acc.length : Nat) : Int))))]) (φ := [World.cell? w2 ⟨g1, 1, none⟩ = some (.slice A1 acc.length c1)]) tbok 13 [.slice A1 acc.length c1] [1, 29] E (by kernel_rfl) (B5.cell (j := 1) rfl) ?_
      clear E; intro a E
      refine E.cases (t := 29) rfl (fun hb_ E_ => ?_) (fun hb_ E_ => ?_)
      · replace E := E_; clear E_
        have h30 : 259 < ((acc.length : Nat) : Int) := of_decide_eq_true hb_
        clear hb_
        refine vrun (w := w2) (lp := [(2, .bool true)]) (φ := []) tbok 12 [] [2] E (by kernel_rfl) trivial ?_
        clear E; intro a E
        refine wpList_nil ?_
        refine th_n ?_
        refine wp_ret ?_
        refine ret1 E rfl rfl ?_
        exact ⟨_, rfl, congrArg Value.bool (by unfold largeB; first | exact (decide_eq_true (by omega)).symm | exact decide_eq_decide.2 ⟨fun h_ => by omega, fun h_ => by omega⟩ | exact (decide_eq_false (by omega)).symm), HW.own⟩
      · replace E := E_; clear E_
        have h31 : ¬ (259 < ((acc.length : Nat) : Int)) := of_decide_eq_false hb_
        clear hb_
        refine vrun (w := w2) (lp := [(1, .pointer (some ⟨g1, 0, none⟩)), (35, .bool (decide (40 < ((nodes.length : Nat) : Int))))]) (φ := [World.cell? w2 ⟨g1, 3, none⟩ = some (.slice A3 nodes.length c3)]) tbok 6 [.slice A3 nodes.length c3] [1, 35] E (by kernel_rfl) (B5.cell (j := 3) rfl) ?_
        clear E; intro a E
        refine E.cases (t := 35) rfl (fun hb_ E_ => ?_) (fun hb_ E_ => ?_)
        · replace E := E_; clear E_
          have h32 : 40 < ((nodes.length : Nat) : Int) := of_decide_eq_true hb_
          clear hb_
          refine vrun (w := w2) (lp := [(2, .bool true)]) (φ := []) tbok 6 [] [2] E (by kernel_rfl) trivial ?_
          clear E; intro a E
          refine wpList_nil ?_
          refine th_n ?_
          refine wp_ret ?_
          refine ret1 E rfl rfl ?_
          exact ⟨_, rfl, congrArg Value.bool (by unfold largeB; first | exact (decide_eq_true (by omega)).symm | exact decide_eq_decide.2 ⟨fun h_ => by omega, fun h_ => by omega⟩ | exact (decide_eq_false (by omega)).symm), HW.own⟩
        · replace E := E_; clear E_
          have h33 : ¬ (40 < ((nodes.length : Nat) : Int)) := of_decide_eq_false hb_
          clear hb_
          refine vrun (w := w2) (lp := [(2, .bool (decide (300 < ((gd.length : Nat) : Int))))]) (φ := [World.cell? w2 ⟨g1, 2, none⟩ = some (.slice A2 gd.length c2)]) tbok 6 [.slice A2 gd.length c2] [2] E (by kernel_rfl) (B5.cell (j := 2) rfl) ?_
          clear E; intro a E
          refine wpList_nil ?_
          refine th_n ?_
          refine wp_ret ?_
          refine ret1 E rfl rfl ?_
          exact ⟨_, rfl, congrArg Value.bool (by unfold largeB; first | exact (decide_eq_true (by omega)).symm | exact decide_eq_decide.2 ⟨fun h_ => by omega, fun h_ => by omega⟩ | exact (decide_eq_false (by omega)).symm), HW.own⟩

/-! rejoinder/rejoinderlaw19.Real -/
set_option maxRecDepth 100000 in
theorem Real_calls (p0 : Int) (A1 A2 A3 : Option Addr) (c1 c2 c3 : Nat) (acc : List Bool) (gd : List Int) (nodes : List Nd) (w0 : World) :
    Calls Try.prog 10 #[.agg #[.int .i64 p0, .slice A1 acc.length c1, .slice A2 gd.length c2, .slice A3 nodes.length c3]] w0 fun e w' => ∃ v, e = .returned v ∧ (v = .bool (realB acc.length gd.length) ∧ Ext w0 w') := by
  have HW : Chg (Hi w0.heap.size) w0 w0 := Chg.refl _ _
  refine enterV (n := 16) Try.func10 rfl rfl rfl ?_
  intro a E
  replace E := E.pick [(0, .agg #[.int .i64 p0, .slice A1 acc.length c1, .slice A2 gd.length c2, .slice A3 nodes.length c3])] ⟨rfl, trivial⟩
  refine wp_seq ?_
  refine wp_region_lit ?_
  refine e_box E rfl rfl rfl ?_
  intro w2 g1 a hc3 hg4 B5 E_
  replace E := E_ _ rfl; clear E_
  replace B5 : Bx w2 g1 26 [.int .i64 p0, .slice A1 acc.length c1, .slice A2 gd.length c2, .slice A3 nodes.length c3] := B5
  have hi_g1 : w0.heap.size ≤ g1 := Nat.le_trans HW.size hg4
  replace HW := HW.trans hc3 (fun _ _ h_ => h_.elim)
  refine vrun (w := w2) (lp := [(1, .pointer (some ⟨g1, 0, none⟩))]) (φ := []) tbok 1 [] [1] E (by kernel_rfl) trivial ?_
  clear E; intro a E
  refine wpList_nil ?_
  refine th_n ?_
  refine wp_seq ?_
  refine wp_region_lit ?_
  refine vrun (w := w2) (lp := [(1, .pointer (some ⟨g1, 0, none⟩)), (7, .bool (decide (0 < ((acc.length : Nat) : Int))))]) (φ := [World.cell? w2 ⟨g1, 1, none⟩ = some (.slice A1 acc.length c1)]) tbok 5 [.slice A1 acc.length c1] [1, 7] E (by kernel_rfl) (B5.cell (j := 1) rfl) ?_
  clear E; intro a E
  refine E.cases (t := 7) rfl (fun hb_ E_ => ?_) (fun hb_ E_ => ?_)
  · replace E := E_; clear E_
    have h6 : 0 < ((acc.length : Nat) : Int) := of_decide_eq_true hb_
    clear hb_
    refine vrun (w := w2) (lp := [(2, .bool ((((gd.length : Nat) : Int) : Int) == ((acc.length : Nat) : Int)))]) (φ := [World.cell? w2 ⟨g1, 2, none⟩ = some (.slice A2 gd.length c2), World.cell? w2 ⟨g1, 1, none⟩ = some (.slice A1 acc.length c1)]) tbok 9 [.slice A2 gd.length c2, .slice A1 acc.length c1] [2] E (by kernel_rfl) ⟨B5.cell (j := 2) rfl, B5.cell (j := 1) rfl⟩ ?_
    clear E; intro a E
    refine wpList_nil ?_
    refine th_n ?_
    refine wp_ret ?_
    refine ret1 E rfl rfl ?_
    exact ⟨_, rfl, congrArg Value.bool (by unfold realB; (first | rw [ibeq] | skip); first | exact (decide_eq_true (by omega)).symm | exact decide_eq_decide.2 ⟨fun h_ => by omega, fun h_ => by omega⟩ | exact (decide_eq_false (by omega)).symm), HW.own⟩
  · replace E := E_; clear E_
    have h7 : ¬ (0 < ((acc.length : Nat) : Int)) := of_decide_eq_false hb_
    clear hb_
    refine vrun (w := w2) (lp := [(2, .bool false)]) (φ := []) tbok 9 [] [2] E (by kernel_rfl) trivial ?_
    clear E; intro a E
    refine wpList_nil ?_
    refine th_n ?_
    refine wp_ret ?_
    refine ret1 E rfl rfl ?_
    exact ⟨_, rfl, congrArg Value.bool (by unfold realB; (first | rw [ibeq] | skip); first | exact (decide_eq_true (by omega)).symm | exact decide_eq_decide.2 ⟨fun h_ => by omega, fun h_ => by omega⟩ | exact (decide_eq_false (by omega)).symm), HW.own⟩

/-! rejoinder/rejoinderkit.Pick -/
set_option maxRecDepth 100000 in
theorem Pick_calls (x n : Int) (w0 : World) (hx : -9223372036854775808 ≤ x ∧ x ≤ 9223372036854775807) (hn : n ≤ 4611686018427387904) :
    Calls Try.prog 11 #[.int .i64 x, .int .i64 n] w0 fun e w' => ∃ v, e = .returned v ∧ (v = .int .i64 (pickV x n) ∧ Ext w0 w') := by
  have HW : Chg (Hi w0.heap.size) w0 w0 := Chg.refl _ _
  refine enterV (n := 16) Try.func11 rfl rfl rfl ?_
  intro a E
  replace E := E.pick [(0, .int .i64 x), (1, .int .i64 n)] ⟨rfl, rfl, trivial⟩
  refine wp_seq ?_
  refine wp_region_lit ?_
  refine vrun (w := w0) (lp := [(0, .int .i64 x), (1, .int .i64 n)]) (φ := []) tbok 1 [] [0, 1] E (by kernel_rfl) trivial ?_
  clear E; intro a E
  refine wpList_nil ?_
  refine th_n ?_
  refine wp_seq ?_
  refine wp_seq ?_
  refine wp_region_lit ?_
  refine vrun (w := w0) (lp := [(0, .int .i64 x), (1, .int .i64 n), (6, .bool (decide (n < 1)))]) (φ := []) tbok 2 [] [0, 1, 6] E (by kernel_rfl) trivial ?_
  clear E; intro a E
  refine wpList_nil ?_
  refine th_n ?_
  refine E.cases (t := 6) rfl (fun hb_ E_ => ?_) (fun hb_ E_ => ?_)
  · replace E := E_; clear E_
    have h1 : n < 1 := of_decide_eq_true hb_
    clear hb_
    refine c_true E rfl ?_
    refine wp_seq ?_
    refine wp_region_lit ?_
    refine vrun (w := w0) (lp := [(4, .int .i64 0)]) (φ := []) tbok 1 [] [4] E (by kernel_rfl) trivial ?_
    clear E; intro a E
    refine wpList_nil ?_
    refine th_n ?_
    refine wp_ret ?_
    refine th_ret ?_
    refine ret1 E rfl rfl ?_
    exact ⟨_, rfl, by unfold pickV; rw [if_pos (by omega)], HW.own⟩
  · replace E := E_; clear E_
    have h2 : ¬ (n < 1) := of_decide_eq_false hb_
    clear hb_
    refine c_false E rfl ?_
    refine wp_skip ?_
    refine th_n ?_
    refine wp_seq ?_
    refine wp_region_lit ?_
    refine vrun (w := w0) (lp := [(0, .int .i64 (Int.tmod x n)), (1, .int .i64 n)]) (φ := [(n : Int) ≠ 0 ∧ Int.tmod x n = Int.tmod x n]) tbok 4 [.int .i64 (Int.tmod x n)] [0, 1] E (by kernel_rfl) (⟨by omega, rfl⟩) ?_
    clear E; intro a E
    refine wpList_nil ?_
    refine th_n ?_
    refine wp_seq ?_
    refine wp_seq ?_
    refine wp_region_lit ?_
    refine vrun (w := w0) (lp := [(0, .int .i64 (Int.tmod x n)), (1, .int .i64 n), (11, .bool (decide ((Int.tmod x n) < 0)))]) (φ := []) tbok 2 [] [0, 1, 11] E (by kernel_rfl) trivial ?_
    clear E; intro a E
    refine wpList_nil ?_
    refine th_n ?_
    refine E.cases (t := 11) rfl (fun hb_ E_ => ?_) (fun hb_ E_ => ?_)
    · replace E := E_; clear E_
      have h3 : (Int.tmod x n) < 0 := of_decide_eq_true hb_
      clear hb_
      refine c_true E rfl ?_
      refine wp_region_lit ?_
      refine vrun (w := w0) (lp := [(0, .int .i64 (Int.tmod x n + n))]) (φ := [IntKind.i64.wrap ((Int.tmod x n) + n) = Int.tmod x n + n]) tbok 4 [.int .i64 (Int.tmod x n + n)] [0] E (by kernel_rfl) (pick_add (by omega) hn (by omega)) ?_
      clear E; intro a E
      refine wpList_nil ?_
      refine th_n ?_
      refine wp_seq ?_
      refine wp_region_lit ?_
      refine vrun (w := w0) (lp := [(4, .int .i64 (Int.tmod x n + n))]) (φ := []) tbok 2 [] [4] E (by kernel_rfl) trivial ?_
      clear E; intro a E
      refine wpList_nil ?_
      refine th_n ?_
      refine wp_ret ?_
      refine ret1 E rfl rfl ?_
      exact ⟨_, rfl, by unfold pickV; rw [if_neg (by omega), if_pos (by omega)], HW.own⟩
    · replace E := E_; clear E_
      have h4 : ¬ ((Int.tmod x n) < 0) := of_decide_eq_false hb_
      clear hb_
      refine c_false E rfl ?_
      refine wp_skip ?_
      refine th_n ?_
      refine wp_seq ?_
      refine wp_region_lit ?_
      refine vrun (w := w0) (lp := [(4, .int .i64 (Int.tmod x n))]) (φ := []) tbok 2 [] [4] E (by kernel_rfl) trivial ?_
      clear E; intro a E
      refine wpList_nil ?_
      refine th_n ?_
      refine wp_ret ?_
      refine ret1 E rfl rfl ?_
      exact ⟨_, rfl, by unfold pickV; rw [if_neg (by omega), if_neg (by omega)], HW.own⟩

end Go.V
