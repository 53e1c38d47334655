/- Contracts of functions of the program: walks. -/
import Derived.Test.YthlbijcgnekcbaaTb
set_option linter.all false
set_option linter.unusedVariables false
set_option linter.unnecessarySimpa false
set_option linter.unusedSimpArgs false
namespace Go.V
open Go Go.Proofs

/-! (*rejoinder/guard.Store).none#nil -/
set_option maxRecDepth 100000 in
theorem none_nil  (w0 : World) :
    Calls Try.prog 31 #[.pointer none] w0 fun e w' => ∃ v, e = .returned v ∧ (v = .bool true ∧ Ext w0 w') := by
  have HW : Chg (Hi w0.heap.size) w0 w0 := Chg.refl _ _
  refine enterV (n := 12) Try.func31 rfl rfl rfl ?_
  intro a E
  replace E := E.pick [(0, .pointer none)] ⟨rfl, trivial⟩
  refine wp_seq ?_
  refine wp_region_lit ?_
  refine vrun (w := w0) (lp := [(0, .pointer none)]) (φ := []) tbok 1 [] [0] E (by kernel_rfl) trivial ?_
  clear E; intro a E
  refine wpList_nil ?_
  refine th_n ?_
  refine wp_seq ?_
  refine wp_region_lit ?_
  refine vrun (w := w0) (lp := [(2, .bool true)]) (φ := []) tbok 10 [] [2] E (by kernel_rfl) trivial ?_
  clear E; intro a E
  refine wpList_nil ?_
  refine th_n ?_
  refine wp_ret ?_
  refine ret1 E rfl rfl ?_
  exact ⟨_, rfl, rfl, HW.own⟩

/-! (*rejoinder/guard.Store).none#zero -/
set_option maxRecDepth 100000 in
theorem none_zero (p : Nat)  (w0 : World) (B0 : Bx w0 p 44 [.int .i64 0, .slice none 0 0, .map none]) :
    Calls Try.prog 31 #[.pointer (some ⟨p, 0, none⟩)] w0 fun e w' => ∃ v, e = .returned v ∧ (v = .bool true ∧ Ext w0 w') := by
  have HW : Chg (Hi w0.heap.size) w0 w0 := Chg.refl _ _
  refine enterV (n := 12) Try.func31 rfl rfl rfl ?_
  intro a E
  replace E := E.pick [(0, .pointer (some ⟨p, 0, none⟩))] ⟨rfl, trivial⟩
  refine wp_seq ?_
  refine wp_region_lit ?_
  refine vrun (w := w0) (lp := [(0, .pointer (some ⟨p, 0, none⟩))]) (φ := []) tbok 1 [] [0] E (by kernel_rfl) trivial ?_
  clear E; intro a E
  refine wpList_nil ?_
  refine th_n ?_
  refine wp_seq ?_
  refine wp_region_lit ?_
  refine vrun (w := w0) (lp := [(2, .bool true)]) (φ := [World.cell? w0 ⟨p, 2, none⟩ = some (.map none)]) tbok 10 [.map none] [2] E (by kernel_rfl) (B0.cell (j := 2) rfl) ?_
  clear E; intro a E
  refine wpList_nil ?_
  refine th_n ?_
  refine wp_ret ?_
  refine ret1 E rfl rfl ?_
  exact ⟨_, rfl, rfl, HW.own⟩

/-! (*rejoinder/guard.Store).Add#nil -/
set_option maxRecDepth 100000 in
theorem Add_nil (A : Option Addr) (c n : Nat) (w0 : World) :
    Calls Try.prog 17 #[.pointer none, .slice A n c] w0 fun e w' => ∃ v, e = .returned v ∧ (v = .tuple #[.int .i64 0, .int .i64 1] ∧ Ext w0 w') := by
  have HW : Chg (Hi w0.heap.size) w0 w0 := Chg.refl _ _
  refine enterV (n := 63) Try.func17 rfl rfl rfl ?_
  intro a E
  replace E := E.pick [(0, .pointer none), (1, .slice A n c)] ⟨rfl, rfl, trivial⟩
  refine wp_seq ?_
  refine wp_region_lit ?_
  refine vrun (w := w0) (lp := [(0, .pointer none), (1, .slice A n c)]) (φ := []) tbok 2 [] [0, 1] E (by kernel_rfl) trivial ?_
  clear E; intro a E
  refine wpList_nil ?_
  refine th_n ?_
  refine wp_seq ?_
  refine wp_seq ?_
  refine wp_region_lit ?_
  refine vrun (w := w0) (lp := [(0, .pointer none), (1, .slice A n c), (10, .pointer none)]) (φ := []) tbok 1 [] [0, 1, 10] E (by kernel_rfl) trivial ?_
  clear E; intro a E
  refine e_call E rfl rfl Try.func31 rfl rfl rfl (none_nil  _ ) ?_
  intro v1 w2 a hR3 E_
  obtain ⟨rfl, hc4⟩ := hR3
  replace E := E_ _ rfl; clear E_
  replace HW := HW.trans hc4 (fun _ _ h_ => h_.elim)
  refine wpList_nil ?_
  refine th_n ?_
  refine c_true E rfl ?_
  refine wp_seq ?_
  refine wp_region_lit ?_
  refine vrun (w := w2) (lp := [(4, .int .i64 0), (5, .int .i64 1)]) (φ := []) tbok 2 [] [4, 5] E (by kernel_rfl) trivial ?_
  clear E; intro a E
  refine wpList_nil ?_
  refine th_n ?_
  refine wp_ret ?_
  refine th_ret ?_
  refine ret2 E rfl rfl rfl ?_
  exact ⟨_, rfl, rfl, HW.own⟩

/-! (*rejoinder/guard.Store).Add#zero -/
set_option maxRecDepth 100000 in
theorem Add_zero (p : Nat) (A : Option Addr) (c n : Nat) (w0 : World) (B0 : Bx w0 p 44 [.int .i64 0, .slice none 0 0, .map none]) :
    Calls Try.prog 17 #[.pointer (some ⟨p, 0, none⟩), .slice A n c] w0 fun e w' => ∃ v, e = .returned v ∧ (v = .tuple #[.int .i64 0, .int .i64 1] ∧ Ext w0 w') := by
  have HW : Chg (Hi w0.heap.size) w0 w0 := Chg.refl _ _
  refine enterV (n := 63) Try.func17 rfl rfl rfl ?_
  intro a E
  replace E := E.pick [(0, .pointer (some ⟨p, 0, none⟩)), (1, .slice A n c)] ⟨rfl, rfl, trivial⟩
  refine wp_seq ?_
  refine wp_region_lit ?_
  refine vrun (w := w0) (lp := [(0, .pointer (some ⟨p, 0, none⟩)), (1, .slice A n c)]) (φ := []) tbok 2 [] [0, 1] E (by kernel_rfl) trivial ?_
  clear E; intro a E
  refine wpList_nil ?_
  refine th_n ?_
  refine wp_seq ?_
  refine wp_seq ?_
  refine wp_region_lit ?_
  refine vrun (w := w0) (lp := [(0, .pointer (some ⟨p, 0, none⟩)), (1, .slice A n c), (10, .pointer (some ⟨p, 0, none⟩))]) (φ := []) tbok 1 [] [0, 1, 10] E (by kernel_rfl) trivial ?_
  clear E; intro a E
  refine e_call E rfl rfl Try.func31 rfl rfl rfl (none_zero p  _  B0) ?_
  intro v1 w2 a hR3 E_
  obtain ⟨rfl, hc4⟩ := hR3
  replace E := E_ _ rfl; clear E_
  replace B0 := B0.chg hc4 (fun h_ => h_)
  replace HW := HW.trans hc4 (fun _ _ h_ => h_.elim)
  refine wpList_nil ?_
  refine th_n ?_
  refine c_true E rfl ?_
  refine wp_seq ?_
  refine wp_region_lit ?_
  refine vrun (w := w2) (lp := [(4, .int .i64 0), (5, .int .i64 1)]) (φ := []) tbok 2 [] [4, 5] E (by kernel_rfl) trivial ?_
  clear E; intro a E
  refine wpList_nil ?_
  refine th_n ?_
  refine wp_ret ?_
  refine th_ret ?_
  refine ret2 E rfl rfl rfl ?_
  exact ⟨_, rfl, rfl, HW.own⟩

/-! (*rejoinder/guard.Store).Nodes#nil -/
set_option maxRecDepth 100000 in
theorem Nodes_nil  (w0 : World) :
    Calls Try.prog 18 #[.pointer none] w0 fun e w' => ∃ v, e = .returned v ∧ (v = .slice none 0 0 ∧ Ext w0 w') := by
  have HW : Chg (Hi w0.heap.size) w0 w0 := Chg.refl _ _
  refine enterV (n := 11) Try.func18 rfl rfl rfl ?_
  intro a E
  replace E := E.pick [(0, .pointer none)] ⟨rfl, trivial⟩
  refine wp_seq ?_
  refine wp_region_lit ?_
  refine vrun (w := w0) (lp := [(0, .pointer none)]) (φ := []) tbok 1 [] [0] E (by kernel_rfl) trivial ?_
  clear E; intro a E
  refine wpList_nil ?_
  refine th_n ?_
  refine wp_seq ?_
  refine wp_seq ?_
  refine wp_region_lit ?_
  refine vrun (w := w0) (lp := [(0, .pointer none), (3, .pointer none)]) (φ := []) tbok 1 [] [0, 3] E (by kernel_rfl) trivial ?_
  clear E; intro a E
  refine e_call E rfl rfl Try.func31 rfl rfl rfl (none_nil  _ ) ?_
  intro v1 w2 a hR3 E_
  obtain ⟨rfl, hc4⟩ := hR3
  replace E := E_ _ rfl; clear E_
  replace HW := HW.trans hc4 (fun _ _ h_ => h_.elim)
  refine wpList_nil ?_
  refine th_n ?_
  refine c_true E rfl ?_
  refine wp_seq ?_
  refine wp_region_lit ?_
  refine vrun (w := w2) (lp := [(2, .slice none 0 0)]) (φ := []) tbok 1 [] [2] E (by kernel_rfl) trivial ?_
  clear E; intro a E
  refine wpList_nil ?_
  refine th_n ?_
  refine wp_ret ?_
  refine th_ret ?_
  refine ret1 E rfl rfl ?_
  exact ⟨_, rfl, rfl, HW.own⟩

/-! (*rejoinder/guard.Store).Nodes#zero -/
set_option maxRecDepth 100000 in
theorem Nodes_zero (p : Nat)  (w0 : World) (B0 : Bx w0 p 44 [.int .i64 0, .slice none 0 0, .map none]) :
    Calls Try.prog 18 #[.pointer (some ⟨p, 0, none⟩)] w0 fun e w' => ∃ v, e = .returned v ∧ (v = .slice none 0 0 ∧ Ext w0 w') := by
  have HW : Chg (Hi w0.heap.size) w0 w0 := Chg.refl _ _
  refine enterV (n := 11) Try.func18 rfl rfl rfl ?_
  intro a E
  replace E := E.pick [(0, .pointer (some ⟨p, 0, none⟩))] ⟨rfl, trivial⟩
  refine wp_seq ?_
  refine wp_region_lit ?_
  refine vrun (w := w0) (lp := [(0, .pointer (some ⟨p, 0, none⟩))]) (φ := []) tbok 1 [] [0] E (by kernel_rfl) trivial ?_
  clear E; intro a E
  refine wpList_nil ?_
  refine th_n ?_
  refine wp_seq ?_
  refine wp_seq ?_
  refine wp_region_lit ?_
  refine vrun (w := w0) (lp := [(0, .pointer (some ⟨p, 0, none⟩)), (3, .pointer (some ⟨p, 0, none⟩))]) (φ := []) tbok 1 [] [0, 3] E (by kernel_rfl) trivial ?_
  clear E; intro a E
  refine e_call E rfl rfl Try.func31 rfl rfl rfl (none_zero p  _  B0) ?_
  intro v1 w2 a hR3 E_
  obtain ⟨rfl, hc4⟩ := hR3
  replace E := E_ _ rfl; clear E_
  replace B0 := B0.chg hc4 (fun h_ => h_)
  replace HW := HW.trans hc4 (fun _ _ h_ => h_.elim)
  refine wpList_nil ?_
  refine th_n ?_
  refine c_true E rfl ?_
  refine wp_seq ?_
  refine wp_region_lit ?_
  refine vrun (w := w2) (lp := [(2, .slice none 0 0)]) (φ := []) tbok 1 [] [2] E (by kernel_rfl) trivial ?_
  clear E; intro a E
  refine wpList_nil ?_
  refine th_n ?_
  refine wp_ret ?_
  refine th_ret ?_
  refine ret1 E rfl rfl ?_
  exact ⟨_, rfl, rfl, HW.own⟩

/-! (*rejoinder/guard.Store).Len#nil -/
set_option maxRecDepth 100000 in
theorem Len_nil  (w0 : World) :
    Calls Try.prog 19 #[.pointer none] w0 fun e w' => ∃ v, e = .returned v ∧ (v = .int .i64 0 ∧ Ext w0 w') := by
  have HW : Chg (Hi w0.heap.size) w0 w0 := Chg.refl _ _
  refine enterV (n := 10) Try.func19 rfl rfl rfl ?_
  intro a E
  replace E := E.pick [(0, .pointer none)] ⟨rfl, trivial⟩
  refine wp_seq ?_
  refine wp_region_lit ?_
  refine vrun (w := w0) (lp := [(0, .pointer none)]) (φ := []) tbok 1 [] [0] E (by kernel_rfl) trivial ?_
  clear E; intro a E
  refine wpList_nil ?_
  refine th_n ?_
  refine wp_seq ?_
  refine wp_seq ?_
  refine wp_region_lit ?_
  refine vrun (w := w0) (lp := [(0, .pointer none), (3, .pointer none)]) (φ := []) tbok 1 [] [0, 3] E (by kernel_rfl) trivial ?_
  clear E; intro a E
  refine e_call E rfl rfl Try.func31 rfl rfl rfl (none_nil  _ ) ?_
  intro v1 w2 a hR3 E_
  obtain ⟨rfl, hc4⟩ := hR3
  replace E := E_ _ rfl; clear E_
  replace HW := HW.trans hc4 (fun _ _ h_ => h_.elim)
  refine wpList_nil ?_
  refine th_n ?_
  refine c_true E rfl ?_
  refine wp_seq ?_
  refine wp_region_lit ?_
  refine vrun (w := w2) (lp := [(2, .int .i64 0)]) (φ := []) tbok 1 [] [2] E (by kernel_rfl) trivial ?_
  clear E; intro a E
  refine wpList_nil ?_
  refine th_n ?_
  refine wp_ret ?_
  refine th_ret ?_
  refine ret1 E rfl rfl ?_
  exact ⟨_, rfl, rfl, HW.own⟩

/-! (*rejoinder/guard.Store).Len#zero -/
set_option maxRecDepth 100000 in
theorem Len_zero (p : Nat)  (w0 : World) (B0 : Bx w0 p 44 [.int .i64 0, .slice none 0 0, .map none]) :
    Calls Try.prog 19 #[.pointer (some ⟨p, 0, none⟩)] w0 fun e w' => ∃ v, e = .returned v ∧ (v = .int .i64 0 ∧ Ext w0 w') := by
  have HW : Chg (Hi w0.heap.size) w0 w0 := Chg.refl _ _
  refine enterV (n := 10) Try.func19 rfl rfl rfl ?_
  intro a E
  replace E := E.pick [(0, .pointer (some ⟨p, 0, none⟩))] ⟨rfl, trivial⟩
  refine wp_seq ?_
  refine wp_region_lit ?_
  refine vrun (w := w0) (lp := [(0, .pointer (some ⟨p, 0, none⟩))]) (φ := []) tbok 1 [] [0] E (by kernel_rfl) trivial ?_
  clear E; intro a E
  refine wpList_nil ?_
  refine th_n ?_
  refine wp_seq ?_
  refine wp_seq ?_
  refine wp_region_lit ?_
  refine vrun (w := w0) (lp := [(0, .pointer (some ⟨p, 0, none⟩)), (3, .pointer (some ⟨p, 0, none⟩))]) (φ := []) tbok 1 [] [0, 3] E (by kernel_rfl) trivial ?_
  clear E; intro a E
  refine e_call E rfl rfl Try.func31 rfl rfl rfl (none_zero p  _  B0) ?_
  intro v1 w2 a hR3 E_
  obtain ⟨rfl, hc4⟩ := hR3
  replace E := E_ _ rfl; clear E_
  replace B0 := B0.chg hc4 (fun h_ => h_)
  replace HW := HW.trans hc4 (fun _ _ h_ => h_.elim)
  refine wpList_nil ?_
  refine th_n ?_
  refine c_true E rfl ?_
  refine wp_seq ?_
  refine wp_region_lit ?_
  refine vrun (w := w2) (lp := [(2, .int .i64 0)]) (φ := []) tbok 1 [] [2] E (by kernel_rfl) trivial ?_
  clear E; intro a E
  refine wpList_nil ?_
  refine th_n ?_
  refine wp_ret ?_
  refine th_ret ?_
  refine ret1 E rfl rfl ?_
  exact ⟨_, rfl, rfl, HW.own⟩

/-! rejoinder/rejoinderlaw14.GuardNil -/
set_option maxRecDepth 100000 in
theorem lawNil_calls (A : Option Addr) (c n : Nat) (w0 : World) :
    Calls Try.prog 4 #[.slice A n c] w0 fun e w' => ∃ v, e = .returned v ∧ (v = .bool true ∧ Ext w0 w') := by
  have HW : Chg (Hi w0.heap.size) w0 w0 := Chg.refl _ _
  refine enterV (n := 48) Try.func4 rfl rfl rfl ?_
  intro a E
  replace E := E.pick [(0, .slice A n c)] ⟨rfl, trivial⟩
  refine wp_seq ?_
  refine wp_region_lit ?_
  refine vrun (w := w0) (lp := [(0, .slice A n c)]) (φ := []) tbok 1 [] [0] E (by kernel_rfl) trivial ?_
  clear E; intro a E
  refine wpList_nil ?_
  refine th_n ?_
  refine wp_seq ?_
  refine wp_region_lit ?_
  refine e_build (ps := []) (v := .agg #[.int .i64 0, .slice none 0 0, .map none]) E rfl rfl tbok rfl (by kernel_rfl) rfl ?_
  clear E; intro a E
  refine e_box E rfl rfl rfl ?_
  intro w2 g1 a hc3 hg4 B5 E_
  replace E := E_ _ rfl; clear E_
  replace B5 : Bx w2 g1 44 [.int .i64 0, .slice none 0 0, .map none] := B5
  have hi_g1 : w0.heap.size ≤ g1 := Nat.le_trans HW.size hg4
  replace HW := HW.trans hc3 (fun _ _ h_ => h_.elim)
  refine e_buildSlice (ps := [(0, .pointer none), (1, .pointer (some ⟨g1, 0, none⟩))]) (cs := [.pointer none, .pointer (some ⟨g1, 0, none⟩)]) E rfl rfl tbok rfl rfl (by kernel_rfl) ?_
  intro w7 g6 a hc8 hg9 B10 E_
  replace E := E_ _ rfl; clear E_
  have hi_g6 : w0.heap.size ≤ g6 := Nat.le_trans HW.size hg9
  have ne_g1_g6 : g1 ≠ g6 := by have h_ := B5.lt; omega
  replace B5 := B5.chg hc8 (fun h_ => h_)
  replace HW := HW.trans hc8 (fun _ _ h_ => h_.elim)
  refine vrun (w := w7) (lp := [(0, .slice A n c), (3, .slice (some ⟨g6, 0, none⟩) 2 2)]) (φ := []) tbok 1 [] [0, 3] E (by kernel_rfl) trivial ?_
  clear E; intro a E
  refine wpList_nil ?_
  refine th_n ?_
  refine wp_seq ?_
  refine wp_seq ?_
  refine wp_region_lit ?_
  refine vrun (w := w7) (lp := [(0, .slice A n c), (3, .slice (some ⟨g6, 0, none⟩) 2 2), (4, .int .i64 0)]) (φ := []) tbok 1 [] [0, 3, 4] E (by kernel_rfl) trivial ?_
  clear E; intro a E
  refine wpList_nil ?_
  refine th_n ?_
  refine wp_block ?_
  refine wp_loop_rounds 3 ?_
  refine unr (m := 2) ?_
  refine wp_seq ?_
  refine wp_seq ?_
  refine wp_region_lit ?_
  refine vrun (w := w7) (lp := [(0, .slice A n c), (3, .slice (some ⟨g6, 0, none⟩) 2 2), (4, .int .i64 0), (13, .bool true)]) (φ := []) tbok 4 [] [0, 3, 4, 13] E (by kernel_rfl) trivial ?_
  clear E; intro a E
  refine wpList_nil ?_
  refine th_n ?_
  refine c_true E rfl ?_
  refine wp_skip ?_
  refine th_n ?_
  refine wp_seq ?_
  refine wp_block ?_
  refine wp_seq ?_
  refine wp_region_lit ?_
  refine vrun (w := w7) (lp := [(0, .slice A n c), (3, .slice (some ⟨g6, 0, none⟩) 2 2), (4, .int .i64 0), (20, .pointer none), (21, .slice A n c)]) (φ := [0 ≤ (0 : Int) ∧ (0 : Int) < ((2 : Nat) : Int), World.cell? w7 ⟨g6, 0, none⟩ = some (.pointer none)]) tbok 5 [.pointer none] [0, 3, 4, 20, 21] E (by kernel_rfl) ⟨⟨by decide, by decide⟩, B10.cell (j := 0) rfl⟩ ?_
  clear E; intro a E
  refine e_call E rfl rfl Try.func17 rfl rfl rfl (Add_nil A c n _ ) ?_
  intro v11 w12 a hR13 E_
  obtain ⟨rfl, hc14⟩ := hR13
  replace E := E_ _ rfl; clear E_
  replace B5 := B5.chg hc14 (fun h_ => h_)
  replace B10 := B10.chg hc14 (fun h_ => h_)
  replace HW := HW.trans hc14 (fun _ _ h_ => h_.elim)
  refine vrun (w := w12) (lp := [(0, .slice A n c), (3, .slice (some ⟨g6, 0, none⟩) 2 2), (4, .int .i64 0), (5, .int .i64 0), (6, .int .i64 1)]) (φ := []) tbok 5 [] [0, 3, 4, 5, 6] E (by kernel_rfl) trivial ?_
  clear E; intro a E
  refine wpList_nil ?_
  refine th_n ?_
  refine wp_seq ?_
  refine wp_region_lit ?_
  refine vrun (w := w12) (lp := [(0, .slice A n c), (3, .slice (some ⟨g6, 0, none⟩) 2 2), (4, .int .i64 0), (28, .int .i64 1), (29, .bool false), (31, .bool false), (32, .slice (some ⟨g6, 0, none⟩) 2 2), (33, .int .i64 0), (34, .pointer (some ⟨g6, 0, none⟩)), (35, .pointer none)]) (φ := [0 ≤ (0 : Int) ∧ (0 : Int) < ((2 : Nat) : Int), World.cell? w12 ⟨g6, 0, none⟩ = some (.pointer none)]) tbok 11 [.pointer none] [0, 3, 4, 28, 29, 31, 32, 33, 34, 35] E (by kernel_rfl) ⟨⟨by decide, by decide⟩, B10.cell (j := 0) rfl⟩ ?_
  clear E; intro a E
  refine e_call E rfl rfl Try.func18 rfl rfl rfl (Nodes_nil  _ ) ?_
  intro v15 w16 a hR17 E_
  obtain ⟨rfl, hc18⟩ := hR17
  replace E := E_ _ rfl; clear E_
  replace B5 := B5.chg hc18 (fun h_ => h_)
  replace B10 := B10.chg hc18 (fun h_ => h_)
  replace HW := HW.trans hc18 (fun _ _ h_ => h_.elim)
  refine vrun (w := w16) (lp := [(0, .slice A n c), (3, .slice (some ⟨g6, 0, none⟩) 2 2), (4, .int .i64 0), (28, .int .i64 1), (29, .bool false), (32, .slice (some ⟨g6, 0, none⟩) 2 2), (33, .int .i64 0), (34, .pointer (some ⟨g6, 0, none⟩)), (35, .pointer none), (36, .slice none 0 0), (37, .int .i64 0), (38, .bool false), (40, .bool false), (41, .slice (some ⟨g6, 0, none⟩) 2 2), (42, .int .i64 0), (43, .pointer (some ⟨g6, 0, none⟩)), (44, .pointer none)]) (φ := [0 ≤ (0 : Int) ∧ (0 : Int) < ((2 : Nat) : Int), World.cell? w16 ⟨g6, 0, none⟩ = some (.pointer none)]) tbok 8 [.pointer none] [0, 3, 4, 28, 29, 32, 33, 34, 35, 36, 37, 38, 40, 41, 42, 43, 44] E (by kernel_rfl) ⟨⟨by decide, by decide⟩, B10.cell (j := 0) rfl⟩ ?_
  clear E; intro a E
  refine e_call E rfl rfl Try.func19 rfl rfl rfl (Len_nil  _ ) ?_
  intro v19 w20 a hR21 E_
  obtain ⟨rfl, hc22⟩ := hR21
  replace E := E_ _ rfl; clear E_
  replace B5 := B5.chg hc22 (fun h_ => h_)
  replace B10 := B10.chg hc22 (fun h_ => h_)
  replace HW := HW.trans hc22 (fun _ _ h_ => h_.elim)
  refine vrun (w := w20) (lp := [(0, .slice A n c), (3, .slice (some ⟨g6, 0, none⟩) 2 2), (4, .int .i64 0), (28, .int .i64 1), (29, .bool false), (32, .slice (some ⟨g6, 0, none⟩) 2 2), (33, .int .i64 0), (34, .pointer (some ⟨g6, 0, none⟩)), (35, .pointer none), (36, .slice none 0 0), (37, .int .i64 0), (38, .bool false), (41, .slice (some ⟨g6, 0, none⟩) 2 2), (42, .int .i64 0), (43, .pointer (some ⟨g6, 0, none⟩)), (44, .pointer none), (45, .int .i64 0), (46, .bool false), (47, .bool false)]) (φ := []) tbok 2 [] [0, 3, 4, 28, 29, 32, 33, 34, 35, 36, 37, 38, 41, 42, 43, 44, 45, 46, 47] E (by kernel_rfl) trivial ?_
  clear E; intro a E
  refine wpList_nil ?_
  refine th_n ?_
  refine c_false E rfl ?_
  refine wp_skip ?_
  refine bl_n ?_
  refine th_n ?_
  refine wp_region_lit ?_
  refine vrun (w := w20) (lp := [(0, .slice A n c), (3, .slice (some ⟨g6, 0, none⟩) 2 2), (4, .int .i64 1), (28, .int .i64 1), (29, .bool false), (32, .slice (some ⟨g6, 0, none⟩) 2 2), (33, .int .i64 0), (34, .pointer (some ⟨g6, 0, none⟩)), (35, .pointer none), (36, .slice none 0 0), (37, .int .i64 0), (38, .bool false), (41, .slice (some ⟨g6, 0, none⟩) 2 2), (42, .int .i64 0), (43, .pointer (some ⟨g6, 0, none⟩)), (44, .pointer none), (45, .int .i64 0), (46, .bool false)]) (φ := [IntKind.i64.wrap (0 + 1) = 1]) tbok 3 [.int .i64 1] [0, 3, 4, 28, 29, 32, 33, 34, 35, 36, 37, 38, 41, 42, 43, 44, 45, 46] E (by kernel_rfl) (wrap_i64 (by omega) (by omega)) ?_
  clear E; intro a E
  refine wpList_nil ?_
  refine th_n ?_
  refine unr (m := 1) ?_
  refine wp_seq ?_
  refine wp_seq ?_
  refine wp_region_lit ?_
  refine vrun (w := w20) (lp := [(0, .slice A n c), (3, .slice (some ⟨g6, 0, none⟩) 2 2), (4, .int .i64 1), (13, .bool true), (28, .int .i64 1), (29, .bool false), (32, .slice (some ⟨g6, 0, none⟩) 2 2), (33, .int .i64 0), (34, .pointer (some ⟨g6, 0, none⟩)), (35, .pointer none), (36, .slice none 0 0), (37, .int .i64 0), (38, .bool false), (41, .slice (some ⟨g6, 0, none⟩) 2 2), (42, .int .i64 0), (43, .pointer (some ⟨g6, 0, none⟩)), (44, .pointer none), (45, .int .i64 0), (46, .bool false)]) (φ := []) tbok 4 [] [0, 3, 4, 13, 28, 29, 32, 33, 34, 35, 36, 37, 38, 41, 42, 43, 44, 45, 46] E (by kernel_rfl) trivial ?_
  clear E; intro a E
  refine wpList_nil ?_
  refine th_n ?_
  refine c_true E rfl ?_
  refine wp_skip ?_
  refine th_n ?_
  refine wp_seq ?_
  refine wp_block ?_
  refine wp_seq ?_
  refine wp_region_lit ?_
  refine vrun (w := w20) (lp := [(0, .slice A n c), (3, .slice (some ⟨g6, 0, none⟩) 2 2), (4, .int .i64 1), (20, .pointer (some ⟨g1, 0, none⟩)), (21, .slice A n c), (28, .int .i64 1), (29, .bool false), (32, .slice (some ⟨g6, 0, none⟩) 2 2), (33, .int .i64 0), (34, .pointer (some ⟨g6, 0, none⟩)), (35, .pointer none), (36, .slice none 0 0), (37, .int .i64 0), (38, .bool false), (41, .slice (some ⟨g6, 0, none⟩) 2 2), (42, .int .i64 0), (43, .pointer (some ⟨g6, 0, none⟩)), (44, .pointer none), (45, .int .i64 0), (46, .bool false)]) (φ := [0 ≤ (1 : Int) ∧ (1 : Int) < ((2 : Nat) : Int), World.cell? w20 ⟨g6, 1, none⟩ = some (.pointer (some ⟨g1, 0, none⟩))]) tbok 5 [.pointer (some ⟨g1, 0, none⟩)] [0, 3, 4, 20, 21, 28, 29, 32, 33, 34, 35, 36, 37, 38, 41, 42, 43, 44, 45, 46] E (by kernel_rfl) ⟨⟨by decide, by decide⟩, B10.cell (j := 1) rfl⟩ ?_
  clear E; intro a E
  refine e_call E rfl rfl Try.func17 rfl rfl rfl (Add_zero g1 A c n _  B5) ?_
  intro v23 w24 a hR25 E_
  obtain ⟨rfl, hc26⟩ := hR25
  replace E := E_ _ rfl; clear E_
  replace B5 := B5.chg hc26 (fun h_ => h_)
  replace B10 := B10.chg hc26 (fun h_ => h_)
  replace HW := HW.trans hc26 (fun _ _ h_ => h_.elim)
  refine vrun (w := w24) (lp := [(0, .slice A n c), (3, .slice (some ⟨g6, 0, none⟩) 2 2), (4, .int .i64 1), (5, .int .i64 0), (6, .int .i64 1), (28, .int .i64 1), (29, .bool false), (32, .slice (some ⟨g6, 0, none⟩) 2 2), (33, .int .i64 0), (34, .pointer (some ⟨g6, 0, none⟩)), (35, .pointer none), (36, .slice none 0 0), (37, .int .i64 0), (38, .bool false), (41, .slice (some ⟨g6, 0, none⟩) 2 2), (42, .int .i64 0), (43, .pointer (some ⟨g6, 0, none⟩)), (44, .pointer none), (45, .int .i64 0), (46, .bool false)]) (φ := []) tbok 5 [] [0, 3, 4, 5, 6, 28, 29, 32, 33, 34, 35, 36, 37, 38, 41, 42, 43, 44, 45, 46] E (by kernel_rfl) trivial ?_
  clear E; intro a E
  refine wpList_nil ?_
  refine th_n ?_
  refine wp_seq ?_
  refine wp_region_lit ?_
  refine vrun (w := w24) (lp := [(0, .slice A n c), (3, .slice (some ⟨g6, 0, none⟩) 2 2), (4, .int .i64 1), (28, .int .i64 1), (29, .bool false), (31, .bool false), (32, .slice (some ⟨g6, 0, none⟩) 2 2), (33, .int .i64 1), (34, .pointer (some ⟨g6, 1, none⟩)), (35, .pointer (some ⟨g1, 0, none⟩)), (36, .slice none 0 0), (37, .int .i64 0), (38, .bool false), (41, .slice (some ⟨g6, 0, none⟩) 2 2), (42, .int .i64 0), (43, .pointer (some ⟨g6, 0, none⟩)), (44, .pointer none), (45, .int .i64 0), (46, .bool false)]) (φ := [0 ≤ (1 : Int) ∧ (1 : Int) < ((2 : Nat) : Int), World.cell? w24 ⟨g6, 1, none⟩ = some (.pointer (some ⟨g1, 0, none⟩))]) tbok 11 [.pointer (some ⟨g1, 0, none⟩)] [0, 3, 4, 28, 29, 31, 32, 33, 34, 35, 36, 37, 38, 41, 42, 43, 44, 45, 46] E (by kernel_rfl) ⟨⟨by decide, by decide⟩, B10.cell (j := 1) rfl⟩ ?_
  clear E; intro a E
  refine e_call E rfl rfl Try.func18 rfl rfl rfl (Nodes_zero g1  _  B5) ?_
  intro v27 w28 a hR29 E_
  obtain ⟨rfl, hc30⟩ := hR29
  replace E := E_ _ rfl; clear E_
  replace B5 := B5.chg hc30 (fun h_ => h_)
  replace B10 := B10.chg hc30 (fun h_ => h_)
  replace HW := HW.trans hc30 (fun _ _ h_ => h_.elim)
  refine vrun (w := w28) (lp := [(0, .slice A n c), (3, .slice (some ⟨g6, 0, none⟩) 2 2), (4, .int .i64 1), (28, .int .i64 1), (29, .bool false), (32, .slice (some ⟨g6, 0, none⟩) 2 2), (33, .int .i64 1), (34, .pointer (some ⟨g6, 1, none⟩)), (35, .pointer (some ⟨g1, 0, none⟩)), (36, .slice none 0 0), (37, .int .i64 0), (38, .bool false), (40, .bool false), (41, .slice (some ⟨g6, 0, none⟩) 2 2), (42, .int .i64 1), (43, .pointer (some ⟨g6, 1, none⟩)), (44, .pointer (some ⟨g1, 0, none⟩)), (45, .int .i64 0), (46, .bool false)]) (φ := [0 ≤ (1 : Int) ∧ (1 : Int) < ((2 : Nat) : Int), World.cell? w28 ⟨g6, 1, none⟩ = some (.pointer (some ⟨g1, 0, none⟩))]) tbok 8 [.pointer (some ⟨g1, 0, none⟩)] [0, 3, 4, 28, 29, 32, 33, 34, 35, 36, 37, 38, 40, 41, 42, 43, 44, 45, 46] E (by kernel_rfl) ⟨⟨by decide, by decide⟩, B10.cell (j := 1) rfl⟩ ?_
  clear E; intro a E
  refine e_call E rfl rfl Try.func19 rfl rfl rfl (Len_zero g1  _  B5) ?_
  intro v31 w32 a hR33 E_
  obtain ⟨rfl, hc34⟩ := hR33
  replace E := E_ _ rfl; clear E_
  replace B5 := B5.chg hc34 (fun h_ => h_)
  replace B10 := B10.chg hc34 (fun h_ => h_)
  replace HW := HW.trans hc34 (fun _ _ h_ => h_.elim)
  refine vrun (w := w32) (lp := [(0, .slice A n c), (3, .slice (some ⟨g6, 0, none⟩) 2 2), (4, .int .i64 1), (28, .int .i64 1), (29, .bool false), (32, .slice (some ⟨g6, 0, none⟩) 2 2), (33, .int .i64 1), (34, .pointer (some ⟨g6, 1, none⟩)), (35, .pointer (some ⟨g1, 0, none⟩)), (36, .slice none 0 0), (37, .int .i64 0), (38, .bool false), (41, .slice (some ⟨g6, 0, none⟩) 2 2), (42, .int .i64 1), (43, .pointer (some ⟨g6, 1, none⟩)), (44, .pointer (some ⟨g1, 0, none⟩)), (45, .int .i64 0), (46, .bool false), (47, .bool false)]) (φ := []) tbok 2 [] [0, 3, 4, 28, 29, 32, 33, 34, 35, 36, 37, 38, 41, 42, 43, 44, 45, 46, 47] E (by kernel_rfl) trivial ?_
  clear E; intro a E
  refine wpList_nil ?_
  refine th_n ?_
  refine c_false E rfl ?_
  refine wp_skip ?_
  refine bl_n ?_
  refine th_n ?_
  refine wp_region_lit ?_
  refine vrun (w := w32) (lp := [(0, .slice A n c), (3, .slice (some ⟨g6, 0, none⟩) 2 2), (4, .int .i64 2), (28, .int .i64 1), (29, .bool false), (32, .slice (some ⟨g6, 0, none⟩) 2 2), (33, .int .i64 1), (34, .pointer (some ⟨g6, 1, none⟩)), (35, .pointer (some ⟨g1, 0, none⟩)), (36, .slice none 0 0), (37, .int .i64 0), (38, .bool false), (41, .slice (some ⟨g6, 0, none⟩) 2 2), (42, .int .i64 1), (43, .pointer (some ⟨g6, 1, none⟩)), (44, .pointer (some ⟨g1, 0, none⟩)), (45, .int .i64 0), (46, .bool false)]) (φ := [IntKind.i64.wrap (1 + 1) = 2]) tbok 3 [.int .i64 2] [0, 3, 4, 28, 29, 32, 33, 34, 35, 36, 37, 38, 41, 42, 43, 44, 45, 46] E (by kernel_rfl) (wrap_i64 (by omega) (by omega)) ?_
  clear E; intro a E
  refine wpList_nil ?_
  refine th_n ?_
  refine unr (m := 0) ?_
  refine wp_seq ?_
  refine wp_seq ?_
  refine wp_region_lit ?_
  refine vrun (w := w32) (lp := [(0, .slice A n c), (3, .slice (some ⟨g6, 0, none⟩) 2 2), (4, .int .i64 2), (13, .bool false), (28, .int .i64 1), (29, .bool false), (32, .slice (some ⟨g6, 0, none⟩) 2 2), (33, .int .i64 1), (34, .pointer (some ⟨g6, 1, none⟩)), (35, .pointer (some ⟨g1, 0, none⟩)), (36, .slice none 0 0), (37, .int .i64 0), (38, .bool false), (41, .slice (some ⟨g6, 0, none⟩) 2 2), (42, .int .i64 1), (43, .pointer (some ⟨g6, 1, none⟩)), (44, .pointer (some ⟨g1, 0, none⟩)), (45, .int .i64 0), (46, .bool false)]) (φ := []) tbok 4 [] [0, 3, 4, 13, 28, 29, 32, 33, 34, 35, 36, 37, 38, 41, 42, 43, 44, 45, 46] E (by kernel_rfl) trivial ?_
  clear E; intro a E
  refine wpList_nil ?_
  refine th_n ?_
  refine c_false E rfl ?_
  refine wp_exit ?_
  refine th_exit ?_
  refine th_exit ?_
  refine bl_hit ?_
  refine th_n ?_
  refine wp_seq ?_
  refine wp_region_lit ?_
  refine vrun (w := w32) (lp := [(2, .bool true)]) (φ := []) tbok 1 [] [2] E (by kernel_rfl) trivial ?_
  clear E; intro a E
  refine wpList_nil ?_
  refine th_n ?_
  refine wp_ret ?_
  refine ret1 E rfl rfl ?_
  exact ⟨_, rfl, rfl, HW.own⟩

end Go.V
