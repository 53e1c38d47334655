/- Contracts of functions of the program: walks. -/
import Derived.Test.YtljkomkejdngcaaTb
set_option linter.all false
set_option linter.unusedVariables false
set_option linter.unnecessarySimpa false
set_option linter.unusedSimpArgs false
namespace Go.V
open Go Go.Proofs

/-! (*rejoinder/watch.Watch).none#nil -/
set_option maxRecDepth 100000 in
theorem none_nil  (w0 : World) :
    Calls Try.prog 32 #[.pointer none] w0 fun e w' => ∃ v, e = .returned v ∧ (v = .bool true ∧ Ext w0 w') := by
  have HW : Chg (Hi w0.heap.size) w0 w0 := Chg.refl _ _
  refine enterV (n := 12) Try.func32 rfl rfl rfl ?_
  intro a E
  replace E := E.pick [(0, .pointer none)] ⟨rfl, trivial⟩
  refine wp_seq ?_
  refine wp_region_lit ?_
  refine vrun (w := w0) (lp := [(0, .pointer none)]) (φ := []) tbok 1 [] [0] E (by kernel_rfl) trivial ?_
  clear E; intro a E
  refine wpList_nil ?_
  refine th_n ?_
  refine wp_seq ?_
  refine wp_region_lit ?_
  refine vrun (w := w0) (lp := [(2, .bool true)]) (φ := []) tbok 10 [] [2] E (by kernel_rfl) trivial ?_
  clear E; intro a E
  refine wpList_nil ?_
  refine th_n ?_
  refine wp_ret ?_
  refine ret1 E rfl rfl ?_
  exact ⟨_, rfl, rfl, HW.own⟩

/-! (*rejoinder/watch.Watch).none#zero -/
set_option maxRecDepth 100000 in
theorem none_zero (p : Nat)  (w0 : World) (B0 : Bx w0 p 27 [.pointer none, .slice none 0 0]) :
    Calls Try.prog 32 #[.pointer (some ⟨p, 0, none⟩)] w0 fun e w' => ∃ v, e = .returned v ∧ (v = .bool true ∧ Ext w0 w') := by
  have HW : Chg (Hi w0.heap.size) w0 w0 := Chg.refl _ _
  refine enterV (n := 12) Try.func32 rfl rfl rfl ?_
  intro a E
  replace E := E.pick [(0, .pointer (some ⟨p, 0, none⟩))] ⟨rfl, trivial⟩
  refine wp_seq ?_
  refine wp_region_lit ?_
  refine vrun (w := w0) (lp := [(0, .pointer (some ⟨p, 0, none⟩))]) (φ := []) tbok 1 [] [0] E (by kernel_rfl) trivial ?_
  clear E; intro a E
  refine wpList_nil ?_
  refine th_n ?_
  refine wp_seq ?_
  refine wp_region_lit ?_
  refine vrun (w := w0) (lp := [(2, .bool true)]) (φ := [World.cell? w0 ⟨p, 0, none⟩ = some (.pointer none)]) tbok 10 [.pointer none] [2] E (by kernel_rfl) (B0.cell (j := 0) rfl) ?_
  clear E; intro a E
  refine wpList_nil ?_
  refine th_n ?_
  refine wp_ret ?_
  refine ret1 E rfl rfl ?_
  exact ⟨_, rfl, rfl, HW.own⟩

/-! (*rejoinder/watch.Watch).Feed#nil -/
set_option maxRecDepth 100000 in
theorem Feed_nil (l : Int) (w0 : World) :
    Calls Try.prog 9 #[.pointer none, .int .u8 l] w0 fun e w' => ∃ v, e = .returned v ∧ (v = .tuple #[.int .u8 0, .int .i64 1] ∧ Ext w0 w') := by
  have HW : Chg (Hi w0.heap.size) w0 w0 := Chg.refl _ _
  refine enterV (n := 67) Try.func9 rfl rfl rfl ?_
  intro a E
  replace E := E.pick [(0, .pointer none), (1, .int .u8 l)] ⟨rfl, rfl, trivial⟩
  refine wp_seq ?_
  refine wp_region_lit ?_
  refine vrun (w := w0) (lp := [(0, .pointer none), (1, .int .u8 l)]) (φ := []) tbok 2 [] [0, 1] E (by kernel_rfl) trivial ?_
  clear E; intro a E
  refine wpList_nil ?_
  refine th_n ?_
  refine wp_seq ?_
  refine wp_block ?_
  refine wp_seq ?_
  refine wp_region_lit ?_
  refine vrun (w := w0) (lp := [(0, .pointer none), (1, .int .u8 l), (9, .pointer none)]) (φ := []) tbok 1 [] [0, 1, 9] E (by kernel_rfl) trivial ?_
  clear E; intro a E
  refine e_call E rfl rfl Try.func32 rfl rfl rfl (none_nil  _ ) ?_
  intro v1 w2 a hR3 E_
  obtain ⟨rfl, hc4⟩ := hR3
  replace E := E_ _ rfl; clear E_
  replace HW := HW.trans hc4 (fun _ _ h_ => h_.elim)
  refine vrun (w := w2) (lp := [(0, .pointer none), (1, .int .u8 l), (8, .bool true)]) (φ := []) tbok 1 [] [0, 1, 8] E (by kernel_rfl) trivial ?_
  clear E; intro a E
  refine wpList_nil ?_
  refine th_n ?_
  refine c_true E rfl ?_
  refine wp_seq ?_
  refine wp_region_lit ?_
  refine vrun (w := w2) (lp := [(4, .int .u8 0), (5, .int .i64 1)]) (φ := []) tbok 2 [] [4, 5] E (by kernel_rfl) trivial ?_
  clear E; intro a E
  refine wpList_nil ?_
  refine th_n ?_
  refine wp_ret ?_
  refine bl_ret ?_
  refine th_ret ?_
  refine ret2 E rfl rfl rfl ?_
  exact ⟨_, rfl, rfl, HW.own⟩

/-! (*rejoinder/watch.Watch).Feed#zero -/
set_option maxRecDepth 100000 in
theorem Feed_zero (p : Nat) (l : Int) (w0 : World) (B0 : Bx w0 p 27 [.pointer none, .slice none 0 0]) :
    Calls Try.prog 9 #[.pointer (some ⟨p, 0, none⟩), .int .u8 l] w0 fun e w' => ∃ v, e = .returned v ∧ (v = .tuple #[.int .u8 0, .int .i64 1] ∧ Ext w0 w') := by
  have HW : Chg (Hi w0.heap.size) w0 w0 := Chg.refl _ _
  refine enterV (n := 67) Try.func9 rfl rfl rfl ?_
  intro a E
  replace E := E.pick [(0, .pointer (some ⟨p, 0, none⟩)), (1, .int .u8 l)] ⟨rfl, rfl, trivial⟩
  refine wp_seq ?_
  refine wp_region_lit ?_
  refine vrun (w := w0) (lp := [(0, .pointer (some ⟨p, 0, none⟩)), (1, .int .u8 l)]) (φ := []) tbok 2 [] [0, 1] E (by kernel_rfl) trivial ?_
  clear E; intro a E
  refine wpList_nil ?_
  refine th_n ?_
  refine wp_seq ?_
  refine wp_block ?_
  refine wp_seq ?_
  refine wp_region_lit ?_
  refine vrun (w := w0) (lp := [(0, .pointer (some ⟨p, 0, none⟩)), (1, .int .u8 l), (9, .pointer (some ⟨p, 0, none⟩))]) (φ := []) tbok 1 [] [0, 1, 9] E (by kernel_rfl) trivial ?_
  clear E; intro a E
  refine e_call E rfl rfl Try.func32 rfl rfl rfl (none_zero p  _  B0) ?_
  intro v1 w2 a hR3 E_
  obtain ⟨rfl, hc4⟩ := hR3
  replace E := E_ _ rfl; clear E_
  replace B0 := B0.chg hc4 (fun h_ => h_)
  replace HW := HW.trans hc4 (fun _ _ h_ => h_.elim)
  refine vrun (w := w2) (lp := [(0, .pointer (some ⟨p, 0, none⟩)), (1, .int .u8 l), (8, .bool true)]) (φ := []) tbok 1 [] [0, 1, 8] E (by kernel_rfl) trivial ?_
  clear E; intro a E
  refine wpList_nil ?_
  refine th_n ?_
  refine c_true E rfl ?_
  refine wp_seq ?_
  refine wp_region_lit ?_
  refine vrun (w := w2) (lp := [(4, .int .u8 0), (5, .int .i64 1)]) (φ := []) tbok 2 [] [4, 5] E (by kernel_rfl) trivial ?_
  clear E; intro a E
  refine wpList_nil ?_
  refine th_n ?_
  refine wp_ret ?_
  refine bl_ret ?_
  refine th_ret ?_
  refine ret2 E rfl rfl rfl ?_
  exact ⟨_, rfl, rfl, HW.own⟩

/-! (*rejoinder/watch.Watch).Back#nil -/
set_option maxRecDepth 100000 in
theorem Back_nil  (w0 : World) :
    Calls Try.prog 10 #[.pointer none] w0 fun e w' => ∃ v, e = .returned v ∧ (v = .tuple #[.int .u8 0, .int .i64 1] ∧ Ext w0 w') := by
  have HW : Chg (Hi w0.heap.size) w0 w0 := Chg.refl _ _
  refine enterV (n := 30) Try.func10 rfl rfl rfl ?_
  intro a E
  replace E := E.pick [(0, .pointer none)] ⟨rfl, trivial⟩
  refine wp_seq ?_
  refine wp_region_lit ?_
  refine vrun (w := w0) (lp := [(0, .pointer none)]) (φ := []) tbok 2 [] [0] E (by kernel_rfl) trivial ?_
  clear E; intro a E
  refine wpList_nil ?_
  refine th_n ?_
  refine wp_seq ?_
  refine wp_block ?_
  refine wp_seq ?_
  refine wp_region_lit ?_
  refine vrun (w := w0) (lp := [(0, .pointer none), (5, .pointer none)]) (φ := []) tbok 1 [] [0, 5] E (by kernel_rfl) trivial ?_
  clear E; intro a E
  refine e_call E rfl rfl Try.func32 rfl rfl rfl (none_nil  _ ) ?_
  intro v1 w2 a hR3 E_
  obtain ⟨rfl, hc4⟩ := hR3
  replace E := E_ _ rfl; clear E_
  replace HW := HW.trans hc4 (fun _ _ h_ => h_.elim)
  refine vrun (w := w2) (lp := [(0, .pointer none), (4, .bool true)]) (φ := []) tbok 1 [] [0, 4] E (by kernel_rfl) trivial ?_
  clear E; intro a E
  refine wpList_nil ?_
  refine th_n ?_
  refine c_true E rfl ?_
  refine wp_seq ?_
  refine wp_region_lit ?_
  refine vrun (w := w2) (lp := [(2, .int .u8 0), (3, .int .i64 1)]) (φ := []) tbok 2 [] [2, 3] E (by kernel_rfl) trivial ?_
  clear E; intro a E
  refine wpList_nil ?_
  refine th_n ?_
  refine wp_ret ?_
  refine bl_ret ?_
  refine th_ret ?_
  refine ret2 E rfl rfl rfl ?_
  exact ⟨_, rfl, rfl, HW.own⟩

/-! (*rejoinder/watch.Watch).Back#zero -/
set_option maxRecDepth 100000 in
theorem Back_zero (p : Nat)  (w0 : World) (B0 : Bx w0 p 27 [.pointer none, .slice none 0 0]) :
    Calls Try.prog 10 #[.pointer (some ⟨p, 0, none⟩)] w0 fun e w' => ∃ v, e = .returned v ∧ (v = .tuple #[.int .u8 0, .int .i64 1] ∧ Ext w0 w') := by
  have HW : Chg (Hi w0.heap.size) w0 w0 := Chg.refl _ _
  refine enterV (n := 30) Try.func10 rfl rfl rfl ?_
  intro a E
  replace E := E.pick [(0, .pointer (some ⟨p, 0, none⟩))] ⟨rfl, trivial⟩
  refine wp_seq ?_
  refine wp_region_lit ?_
  refine vrun (w := w0) (lp := [(0, .pointer (some ⟨p, 0, none⟩))]) (φ := []) tbok 2 [] [0] E (by kernel_rfl) trivial ?_
  clear E; intro a E
  refine wpList_nil ?_
  refine th_n ?_
  refine wp_seq ?_
  refine wp_block ?_
  refine wp_seq ?_
  refine wp_region_lit ?_
  refine vrun (w := w0) (lp := [(0, .pointer (some ⟨p, 0, none⟩)), (5, .pointer (some ⟨p, 0, none⟩))]) (φ := []) tbok 1 [] [0, 5] E (by kernel_rfl) trivial ?_
  clear E; intro a E
  refine e_call E rfl rfl Try.func32 rfl rfl rfl (none_zero p  _  B0) ?_
  intro v1 w2 a hR3 E_
  obtain ⟨rfl, hc4⟩ := hR3
  replace E := E_ _ rfl; clear E_
  replace B0 := B0.chg hc4 (fun h_ => h_)
  replace HW := HW.trans hc4 (fun _ _ h_ => h_.elim)
  refine vrun (w := w2) (lp := [(0, .pointer (some ⟨p, 0, none⟩)), (4, .bool true)]) (φ := []) tbok 1 [] [0, 4] E (by kernel_rfl) trivial ?_
  clear E; intro a E
  refine wpList_nil ?_
  refine th_n ?_
  refine c_true E rfl ?_
  refine wp_seq ?_
  refine wp_region_lit ?_
  refine vrun (w := w2) (lp := [(2, .int .u8 0), (3, .int .i64 1)]) (φ := []) tbok 2 [] [2, 3] E (by kernel_rfl) trivial ?_
  clear E; intro a E
  refine wpList_nil ?_
  refine th_n ?_
  refine wp_ret ?_
  refine bl_ret ?_
  refine th_ret ?_
  refine ret2 E rfl rfl rfl ?_
  exact ⟨_, rfl, rfl, HW.own⟩

/-! (*rejoinder/watch.Watch).Off#nil -/
set_option maxRecDepth 100000 in
theorem Off_nil  (w0 : World) :
    Calls Try.prog 11 #[.pointer none] w0 fun e w' => ∃ v, e = .returned v ∧ (v = .tuple #[.int .i64 0, .int .i64 1] ∧ Ext w0 w') := by
  have HW : Chg (Hi w0.heap.size) w0 w0 := Chg.refl _ _
  refine enterV (n := 21) Try.func11 rfl rfl rfl ?_
  intro a E
  replace E := E.pick [(0, .pointer none)] ⟨rfl, trivial⟩
  refine wp_seq ?_
  refine wp_region_lit ?_
  refine vrun (w := w0) (lp := [(0, .pointer none)]) (φ := []) tbok 2 [] [0] E (by kernel_rfl) trivial ?_
  clear E; intro a E
  refine wpList_nil ?_
  refine th_n ?_
  refine wp_seq ?_
  refine wp_seq ?_
  refine wp_region_lit ?_
  refine vrun (w := w0) (lp := [(0, .pointer none), (5, .pointer none)]) (φ := []) tbok 1 [] [0, 5] E (by kernel_rfl) trivial ?_
  clear E; intro a E
  refine e_call E rfl rfl Try.func32 rfl rfl rfl (none_nil  _ ) ?_
  intro v1 w2 a hR3 E_
  obtain ⟨rfl, hc4⟩ := hR3
  replace E := E_ _ rfl; clear E_
  replace HW := HW.trans hc4 (fun _ _ h_ => h_.elim)
  refine wpList_nil ?_
  refine th_n ?_
  refine c_true E rfl ?_
  refine wp_seq ?_
  refine wp_region_lit ?_
  refine vrun (w := w2) (lp := [(2, .int .i64 0), (3, .int .i64 1)]) (φ := []) tbok 2 [] [2, 3] E (by kernel_rfl) trivial ?_
  clear E; intro a E
  refine wpList_nil ?_
  refine th_n ?_
  refine wp_ret ?_
  refine th_ret ?_
  refine ret2 E rfl rfl rfl ?_
  exact ⟨_, rfl, rfl, HW.own⟩

/-! (*rejoinder/watch.Watch).Off#zero -/
set_option maxRecDepth 100000 in
theorem Off_zero (p : Nat)  (w0 : World) (B0 : Bx w0 p 27 [.pointer none, .slice none 0 0]) :
    Calls Try.prog 11 #[.pointer (some ⟨p, 0, none⟩)] w0 fun e w' => ∃ v, e = .returned v ∧ (v = .tuple #[.int .i64 0, .int .i64 1] ∧ Ext w0 w') := by
  have HW : Chg (Hi w0.heap.size) w0 w0 := Chg.refl _ _
  refine enterV (n := 21) Try.func11 rfl rfl rfl ?_
  intro a E
  replace E := E.pick [(0, .pointer (some ⟨p, 0, none⟩))] ⟨rfl, trivial⟩
  refine wp_seq ?_
  refine wp_region_lit ?_
  refine vrun (w := w0) (lp := [(0, .pointer (some ⟨p, 0, none⟩))]) (φ := []) tbok 2 [] [0] E (by kernel_rfl) trivial ?_
  clear E; intro a E
  refine wpList_nil ?_
  refine th_n ?_
  refine wp_seq ?_
  refine wp_seq ?_
  refine wp_region_lit ?_
  refine vrun (w := w0) (lp := [(0, .pointer (some ⟨p, 0, none⟩)), (5, .pointer (some ⟨p, 0, none⟩))]) (φ := []) tbok 1 [] [0, 5] E (by kernel_rfl) trivial ?_
  clear E; intro a E
  refine e_call E rfl rfl Try.func32 rfl rfl rfl (none_zero p  _  B0) ?_
  intro v1 w2 a hR3 E_
  obtain ⟨rfl, hc4⟩ := hR3
  replace E := E_ _ rfl; clear E_
  replace B0 := B0.chg hc4 (fun h_ => h_)
  replace HW := HW.trans hc4 (fun _ _ h_ => h_.elim)
  refine wpList_nil ?_
  refine th_n ?_
  refine c_true E rfl ?_
  refine wp_seq ?_
  refine wp_region_lit ?_
  refine vrun (w := w2) (lp := [(2, .int .i64 0), (3, .int .i64 1)]) (φ := []) tbok 2 [] [2, 3] E (by kernel_rfl) trivial ?_
  clear E; intro a E
  refine wpList_nil ?_
  refine th_n ?_
  refine wp_ret ?_
  refine th_ret ?_
  refine ret2 E rfl rfl rfl ?_
  exact ⟨_, rfl, rfl, HW.own⟩

/-! (*rejoinder/watch.Watch).Verdict#nil -/
set_option maxRecDepth 100000 in
theorem Verdict_nil  (w0 : World) :
    Calls Try.prog 12 #[.pointer none] w0 fun e w' => ∃ v, e = .returned v ∧ (v = .int .u8 0 ∧ Ext w0 w') := by
  have HW : Chg (Hi w0.heap.size) w0 w0 := Chg.refl _ _
  refine enterV (n := 16) Try.func12 rfl rfl rfl ?_
  intro a E
  replace E := E.pick [(0, .pointer none)] ⟨rfl, trivial⟩
  refine wp_seq ?_
  refine wp_region_lit ?_
  refine vrun (w := w0) (lp := [(0, .pointer none)]) (φ := []) tbok 1 [] [0] E (by kernel_rfl) trivial ?_
  clear E; intro a E
  refine wpList_nil ?_
  refine th_n ?_
  refine wp_seq ?_
  refine wp_seq ?_
  refine wp_region_lit ?_
  refine vrun (w := w0) (lp := [(0, .pointer none), (3, .pointer none)]) (φ := []) tbok 1 [] [0, 3] E (by kernel_rfl) trivial ?_
  clear E; intro a E
  refine e_call E rfl rfl Try.func32 rfl rfl rfl (none_nil  _ ) ?_
  intro v1 w2 a hR3 E_
  obtain ⟨rfl, hc4⟩ := hR3
  replace E := E_ _ rfl; clear E_
  replace HW := HW.trans hc4 (fun _ _ h_ => h_.elim)
  refine wpList_nil ?_
  refine th_n ?_
  refine c_true E rfl ?_
  refine wp_seq ?_
  refine wp_region_lit ?_
  refine vrun (w := w2) (lp := [(2, .int .u8 0)]) (φ := []) tbok 1 [] [2] E (by kernel_rfl) trivial ?_
  clear E; intro a E
  refine wpList_nil ?_
  refine th_n ?_
  refine wp_ret ?_
  refine th_ret ?_
  refine ret1 E rfl rfl ?_
  exact ⟨_, rfl, rfl, HW.own⟩

/-! (*rejoinder/watch.Watch).Verdict#zero -/
set_option maxRecDepth 100000 in
theorem Verdict_zero (p : Nat)  (w0 : World) (B0 : Bx w0 p 27 [.pointer none, .slice none 0 0]) :
    Calls Try.prog 12 #[.pointer (some ⟨p, 0, none⟩)] w0 fun e w' => ∃ v, e = .returned v ∧ (v = .int .u8 0 ∧ Ext w0 w') := by
  have HW : Chg (Hi w0.heap.size) w0 w0 := Chg.refl _ _
  refine enterV (n := 16) Try.func12 rfl rfl rfl ?_
  intro a E
  replace E := E.pick [(0, .pointer (some ⟨p, 0, none⟩))] ⟨rfl, trivial⟩
  refine wp_seq ?_
  refine wp_region_lit ?_
  refine vrun (w := w0) (lp := [(0, .pointer (some ⟨p, 0, none⟩))]) (φ := []) tbok 1 [] [0] E (by kernel_rfl) trivial ?_
  clear E; intro a E
  refine wpList_nil ?_
  refine th_n ?_
  refine wp_seq ?_
  refine wp_seq ?_
  refine wp_region_lit ?_
  refine vrun (w := w0) (lp := [(0, .pointer (some ⟨p, 0, none⟩)), (3, .pointer (some ⟨p, 0, none⟩))]) (φ := []) tbok 1 [] [0, 3] E (by kernel_rfl) trivial ?_
  clear E; intro a E
  refine e_call E rfl rfl Try.func32 rfl rfl rfl (none_zero p  _  B0) ?_
  intro v1 w2 a hR3 E_
  obtain ⟨rfl, hc4⟩ := hR3
  replace E := E_ _ rfl; clear E_
  replace B0 := B0.chg hc4 (fun h_ => h_)
  replace HW := HW.trans hc4 (fun _ _ h_ => h_.elim)
  refine wpList_nil ?_
  refine th_n ?_
  refine c_true E rfl ?_
  refine wp_seq ?_
  refine wp_region_lit ?_
  refine vrun (w := w2) (lp := [(2, .int .u8 0)]) (φ := []) tbok 1 [] [2] E (by kernel_rfl) trivial ?_
  clear E; intro a E
  refine wpList_nil ?_
  refine th_n ?_
  refine wp_ret ?_
  refine th_ret ?_
  refine ret1 E rfl rfl ?_
  exact ⟨_, rfl, rfl, HW.own⟩

/-! (*rejoinder/watch.Watch).State#nil -/
set_option maxRecDepth 100000 in
theorem State_nil  (w0 : World) :
    Calls Try.prog 13 #[.pointer none] w0 fun e w' => ∃ v, e = .returned v ∧ (v = .int .i64 0 ∧ Ext w0 w') := by
  have HW : Chg (Hi w0.heap.size) w0 w0 := Chg.refl _ _
  refine enterV (n := 25) Try.func13 rfl rfl rfl ?_
  intro a E
  replace E := E.pick [(0, .pointer none)] ⟨rfl, trivial⟩
  refine wp_seq ?_
  refine wp_region_lit ?_
  refine vrun (w := w0) (lp := [(0, .pointer none)]) (φ := []) tbok 1 [] [0] E (by kernel_rfl) trivial ?_
  clear E; intro a E
  refine wpList_nil ?_
  refine th_n ?_
  refine wp_seq ?_
  refine wp_seq ?_
  refine wp_region_lit ?_
  refine vrun (w := w0) (lp := [(0, .pointer none), (3, .pointer none)]) (φ := []) tbok 1 [] [0, 3] E (by kernel_rfl) trivial ?_
  clear E; intro a E
  refine e_call E rfl rfl Try.func32 rfl rfl rfl (none_nil  _ ) ?_
  intro v1 w2 a hR3 E_
  obtain ⟨rfl, hc4⟩ := hR3
  replace E := E_ _ rfl; clear E_
  replace HW := HW.trans hc4 (fun _ _ h_ => h_.elim)
  refine vrun (w := w2) (lp := [(0, .pointer none), (12, .bool true)]) (φ := []) tbok 8 [] [0, 12] E (by kernel_rfl) trivial ?_
  clear E; intro a E
  refine wpList_nil ?_
  refine th_n ?_
  refine c_true E rfl ?_
  refine wp_seq ?_
  refine wp_region_lit ?_
  refine vrun (w := w2) (lp := [(2, .int .i64 0)]) (φ := []) tbok 1 [] [2] E (by kernel_rfl) trivial ?_
  clear E; intro a E
  refine wpList_nil ?_
  refine th_n ?_
  refine wp_ret ?_
  refine th_ret ?_
  refine ret1 E rfl rfl ?_
  exact ⟨_, rfl, rfl, HW.own⟩

/-! (*rejoinder/watch.Watch).State#zero -/
set_option maxRecDepth 100000 in
theorem State_zero (p : Nat)  (w0 : World) (B0 : Bx w0 p 27 [.pointer none, .slice none 0 0]) :
    Calls Try.prog 13 #[.pointer (some ⟨p, 0, none⟩)] w0 fun e w' => ∃ v, e = .returned v ∧ (v = .int .i64 0 ∧ Ext w0 w') := by
  have HW : Chg (Hi w0.heap.size) w0 w0 := Chg.refl _ _
  refine enterV (n := 25) Try.func13 rfl rfl rfl ?_
  intro a E
  replace E := E.pick [(0, .pointer (some ⟨p, 0, none⟩))] ⟨rfl, trivial⟩
  refine wp_seq ?_
  refine wp_region_lit ?_
  refine vrun (w := w0) (lp := [(0, .pointer (some ⟨p, 0, none⟩))]) (φ := []) tbok 1 [] [0] E (by kernel_rfl) trivial ?_
  clear E; intro a E
  refine wpList_nil ?_
  refine th_n ?_
  refine wp_seq ?_
  refine wp_seq ?_
  refine wp_region_lit ?_
  refine vrun (w := w0) (lp := [(0, .pointer (some ⟨p, 0, none⟩)), (3, .pointer (some ⟨p, 0, none⟩))]) (φ := []) tbok 1 [] [0, 3] E (by kernel_rfl) trivial ?_
  clear E; intro a E
  refine e_call E rfl rfl Try.func32 rfl rfl rfl (none_zero p  _  B0) ?_
  intro v1 w2 a hR3 E_
  obtain ⟨rfl, hc4⟩ := hR3
  replace E := E_ _ rfl; clear E_
  replace B0 := B0.chg hc4 (fun h_ => h_)
  replace HW := HW.trans hc4 (fun _ _ h_ => h_.elim)
  refine vrun (w := w2) (lp := [(0, .pointer (some ⟨p, 0, none⟩)), (12, .bool true)]) (φ := []) tbok 8 [] [0, 12] E (by kernel_rfl) trivial ?_
  clear E; intro a E
  refine wpList_nil ?_
  refine th_n ?_
  refine c_true E rfl ?_
  refine wp_seq ?_
  refine wp_region_lit ?_
  refine vrun (w := w2) (lp := [(2, .int .i64 0)]) (φ := []) tbok 1 [] [2] E (by kernel_rfl) trivial ?_
  clear E; intro a E
  refine wpList_nil ?_
  refine th_n ?_
  refine wp_ret ?_
  refine th_ret ?_
  refine ret1 E rfl rfl ?_
  exact ⟨_, rfl, rfl, HW.own⟩

/-! (*rejoinder/watch.Watch).Len#nil -/
set_option maxRecDepth 100000 in
theorem Len_nil  (w0 : World) :
    Calls Try.prog 14 #[.pointer none] w0 fun e w' => ∃ v, e = .returned v ∧ (v = .int .i64 0 ∧ Ext w0 w') := by
  have HW : Chg (Hi w0.heap.size) w0 w0 := Chg.refl _ _
  refine enterV (n := 10) Try.func14 rfl rfl rfl ?_
  intro a E
  replace E := E.pick [(0, .pointer none)] ⟨rfl, trivial⟩
  refine wp_seq ?_
  refine wp_region_lit ?_
  refine vrun (w := w0) (lp := [(0, .pointer none)]) (φ := []) tbok 1 [] [0] E (by kernel_rfl) trivial ?_
  clear E; intro a E
  refine wpList_nil ?_
  refine th_n ?_
  refine wp_seq ?_
  refine wp_seq ?_
  refine wp_region_lit ?_
  refine vrun (w := w0) (lp := [(0, .pointer none), (3, .pointer none)]) (φ := []) tbok 1 [] [0, 3] E (by kernel_rfl) trivial ?_
  clear E; intro a E
  refine e_call E rfl rfl Try.func32 rfl rfl rfl (none_nil  _ ) ?_
  intro v1 w2 a hR3 E_
  obtain ⟨rfl, hc4⟩ := hR3
  replace E := E_ _ rfl; clear E_
  replace HW := HW.trans hc4 (fun _ _ h_ => h_.elim)
  refine wpList_nil ?_
  refine th_n ?_
  refine c_true E rfl ?_
  refine wp_seq ?_
  refine wp_region_lit ?_
  refine vrun (w := w2) (lp := [(2, .int .i64 0)]) (φ := []) tbok 1 [] [2] E (by kernel_rfl) trivial ?_
  clear E; intro a E
  refine wpList_nil ?_
  refine th_n ?_
  refine wp_ret ?_
  refine th_ret ?_
  refine ret1 E rfl rfl ?_
  exact ⟨_, rfl, rfl, HW.own⟩

/-! (*rejoinder/watch.Watch).Len#zero -/
set_option maxRecDepth 100000 in
theorem Len_zero (p : Nat)  (w0 : World) (B0 : Bx w0 p 27 [.pointer none, .slice none 0 0]) :
    Calls Try.prog 14 #[.pointer (some ⟨p, 0, none⟩)] w0 fun e w' => ∃ v, e = .returned v ∧ (v = .int .i64 0 ∧ Ext w0 w') := by
  have HW : Chg (Hi w0.heap.size) w0 w0 := Chg.refl _ _
  refine enterV (n := 10) Try.func14 rfl rfl rfl ?_
  intro a E
  replace E := E.pick [(0, .pointer (some ⟨p, 0, none⟩))] ⟨rfl, trivial⟩
  refine wp_seq ?_
  refine wp_region_lit ?_
  refine vrun (w := w0) (lp := [(0, .pointer (some ⟨p, 0, none⟩))]) (φ := []) tbok 1 [] [0] E (by kernel_rfl) trivial ?_
  clear E; intro a E
  refine wpList_nil ?_
  refine th_n ?_
  refine wp_seq ?_
  refine wp_seq ?_
  refine wp_region_lit ?_
  refine vrun (w := w0) (lp := [(0, .pointer (some ⟨p, 0, none⟩)), (3, .pointer (some ⟨p, 0, none⟩))]) (φ := []) tbok 1 [] [0, 3] E (by kernel_rfl) trivial ?_
  clear E; intro a E
  refine e_call E rfl rfl Try.func32 rfl rfl rfl (none_zero p  _  B0) ?_
  intro v1 w2 a hR3 E_
  obtain ⟨rfl, hc4⟩ := hR3
  replace E := E_ _ rfl; clear E_
  replace B0 := B0.chg hc4 (fun h_ => h_)
  replace HW := HW.trans hc4 (fun _ _ h_ => h_.elim)
  refine wpList_nil ?_
  refine th_n ?_
  refine c_true E rfl ?_
  refine wp_seq ?_
  refine wp_region_lit ?_
  refine vrun (w := w2) (lp := [(2, .int .i64 0)]) (φ := []) tbok 1 [] [2] E (by kernel_rfl) trivial ?_
  clear E; intro a E
  refine wpList_nil ?_
  refine th_n ?_
  refine wp_ret ?_
  refine th_ret ?_
  refine ret1 E rfl rfl ?_
  exact ⟨_, rfl, rfl, HW.own⟩

/-! (*rejoinder/watch.Watch).Fork#nil -/
set_option maxRecDepth 100000 in
theorem Fork_nil  (w0 : World) :
    Calls Try.prog 15 #[.pointer none] w0 fun e w' => ∃ v, e = .returned v ∧ (v = .pointer none ∧ Ext w0 w') := by
  have HW : Chg (Hi w0.heap.size) w0 w0 := Chg.refl _ _
  refine enterV (n := 17) Try.func15 rfl rfl rfl ?_
  intro a E
  replace E := E.pick [(0, .pointer none)] ⟨rfl, trivial⟩
  refine wp_seq ?_
  refine wp_region_lit ?_
  refine vrun (w := w0) (lp := [(0, .pointer none)]) (φ := []) tbok 1 [] [0] E (by kernel_rfl) trivial ?_
  clear E; intro a E
  refine wpList_nil ?_
  refine th_n ?_
  refine wp_seq ?_
  refine wp_seq ?_
  refine wp_region_lit ?_
  refine vrun (w := w0) (lp := [(0, .pointer none), (3, .pointer none)]) (φ := []) tbok 1 [] [0, 3] E (by kernel_rfl) trivial ?_
  clear E; intro a E
  refine e_call E rfl rfl Try.func32 rfl rfl rfl (none_nil  _ ) ?_
  intro v1 w2 a hR3 E_
  obtain ⟨rfl, hc4⟩ := hR3
  replace E := E_ _ rfl; clear E_
  replace HW := HW.trans hc4 (fun _ _ h_ => h_.elim)
  refine wpList_nil ?_
  refine th_n ?_
  refine c_true E rfl ?_
  refine wp_seq ?_
  refine wp_region_lit ?_
  refine vrun (w := w2) (lp := [(2, .pointer none)]) (φ := []) tbok 1 [] [2] E (by kernel_rfl) trivial ?_
  clear E; intro a E
  refine wpList_nil ?_
  refine th_n ?_
  refine wp_ret ?_
  refine th_ret ?_
  refine ret1 E rfl rfl ?_
  exact ⟨_, rfl, rfl, HW.own⟩

/-! (*rejoinder/watch.Watch).Fork#zero -/
set_option maxRecDepth 100000 in
theorem Fork_zero (p : Nat)  (w0 : World) (B0 : Bx w0 p 27 [.pointer none, .slice none 0 0]) :
    Calls Try.prog 15 #[.pointer (some ⟨p, 0, none⟩)] w0 fun e w' => ∃ v, e = .returned v ∧ (v = .pointer none ∧ Ext w0 w') := by
  have HW : Chg (Hi w0.heap.size) w0 w0 := Chg.refl _ _
  refine enterV (n := 17) Try.func15 rfl rfl rfl ?_
  intro a E
  replace E := E.pick [(0, .pointer (some ⟨p, 0, none⟩))] ⟨rfl, trivial⟩
  refine wp_seq ?_
  refine wp_region_lit ?_
  refine vrun (w := w0) (lp := [(0, .pointer (some ⟨p, 0, none⟩))]) (φ := []) tbok 1 [] [0] E (by kernel_rfl) trivial ?_
  clear E; intro a E
  refine wpList_nil ?_
  refine th_n ?_
  refine wp_seq ?_
  refine wp_seq ?_
  refine wp_region_lit ?_
  refine vrun (w := w0) (lp := [(0, .pointer (some ⟨p, 0, none⟩)), (3, .pointer (some ⟨p, 0, none⟩))]) (φ := []) tbok 1 [] [0, 3] E (by kernel_rfl) trivial ?_
  clear E; intro a E
  refine e_call E rfl rfl Try.func32 rfl rfl rfl (none_zero p  _  B0) ?_
  intro v1 w2 a hR3 E_
  obtain ⟨rfl, hc4⟩ := hR3
  replace E := E_ _ rfl; clear E_
  replace B0 := B0.chg hc4 (fun h_ => h_)
  replace HW := HW.trans hc4 (fun _ _ h_ => h_.elim)
  refine wpList_nil ?_
  refine th_n ?_
  refine c_true E rfl ?_
  refine wp_seq ?_
  refine wp_region_lit ?_
  refine vrun (w := w2) (lp := [(2, .pointer none)]) (φ := []) tbok 1 [] [2] E (by kernel_rfl) trivial ?_
  clear E; intro a E
  refine wpList_nil ?_
  refine th_n ?_
  refine wp_ret ?_
  refine th_ret ?_
  refine ret1 E rfl rfl ?_
  exact ⟨_, rfl, rfl, HW.own⟩

/-! rejoinder/rejoinderlaw21.WatchNil -/
set_option maxRecDepth 100000 in
theorem lawNil_calls (l : Int) (w0 : World) :
    Calls Try.prog 3 #[.int .u8 l] w0 fun e w' => ∃ v, e = .returned v ∧ (v = .bool true ∧ Ext w0 w') := by
  have HW : Chg (Hi w0.heap.size) w0 w0 := Chg.refl _ _
  refine enterV (n := 83) Try.func3 rfl rfl rfl ?_
  intro a E
  replace E := E.pick [(0, .int .u8 l)] ⟨rfl, trivial⟩
  refine wp_seq ?_
  refine wp_region_lit ?_
  refine vrun (w := w0) (lp := [(0, .int .u8 l)]) (φ := []) tbok 1 [] [0] E (by kernel_rfl) trivial ?_
  clear E; intro a E
  refine wpList_nil ?_
  refine th_n ?_
  refine wp_seq ?_
  refine wp_region_lit ?_
  refine e_build (ps := []) (v := .agg #[.pointer none, .slice none 0 0]) E rfl rfl tbok rfl (by kernel_rfl) rfl ?_
  clear E; intro a E
  refine e_box E rfl rfl rfl ?_
  intro w2 g1 a hc3 hg4 B5 E_
  replace E := E_ _ rfl; clear E_
  replace B5 : Bx w2 g1 27 [.pointer none, .slice none 0 0] := B5
  have hi_g1 : w0.heap.size ≤ g1 := Nat.le_trans HW.size hg4
  replace HW := HW.trans hc3 (fun _ _ h_ => h_.elim)
  refine e_buildSlice (ps := [(0, .pointer none), (1, .pointer (some ⟨g1, 0, none⟩))]) (cs := [.pointer none, .pointer (some ⟨g1, 0, none⟩)]) E rfl rfl tbok rfl rfl (by kernel_rfl) ?_
  intro w7 g6 a hc8 hg9 B10 E_
  replace E := E_ _ rfl; clear E_
  have hi_g6 : w0.heap.size ≤ g6 := Nat.le_trans HW.size hg9
  have ne_g1_g6 : g1 ≠ g6 := by have h_ := B5.lt; omega
  replace B5 := B5.chg hc8 (fun h_ => h_)
  replace HW := HW.trans hc8 (fun _ _ h_ => h_.elim)
  refine vrun (w := w7) (lp := [(0, .int .u8 l), (3, .slice (some ⟨g6, 0, none⟩) 2 2)]) (φ := []) tbok 1 [] [0, 3] E (by kernel_rfl) trivial ?_
  clear E; intro a E
  refine wpList_nil ?_
  refine th_n ?_
  refine wp_seq ?_
  refine wp_seq ?_
  refine wp_region_lit ?_
  refine vrun (w := w7) (lp := [(0, .int .u8 l), (3, .slice (some ⟨g6, 0, none⟩) 2 2), (4, .int .i64 0)]) (φ := []) tbok 1 [] [0, 3, 4] E (by kernel_rfl) trivial ?_
  clear E; intro a E
  refine wpList_nil ?_
  refine th_n ?_
  refine wp_block ?_
  refine wp_loop_rounds 3 ?_
  refine unr (m := 2) ?_
  refine wp_seq ?_
  refine wp_seq ?_
  refine wp_region_lit ?_
  refine vrun (w := w7) (lp := [(0, .int .u8 l), (3, .slice (some ⟨g6, 0, none⟩) 2 2), (4, .int .i64 0), (18, .bool true)]) (φ := []) tbok 4 [] [0, 3, 4, 18] E (by kernel_rfl) trivial ?_
  clear E; intro a E
  refine wpList_nil ?_
  refine th_n ?_
  refine c_true E rfl ?_
  refine wp_skip ?_
  refine th_n ?_
  refine wp_seq ?_
  refine wp_block ?_
  refine wp_seq ?_
  refine wp_region_lit ?_
  refine vrun (w := w7) (lp := [(0, .int .u8 l), (3, .slice (some ⟨g6, 0, none⟩) 2 2), (4, .int .i64 0), (5, .pointer none)]) (φ := [0 ≤ (0 : Int) ∧ (0 : Int) < ((2 : Nat) : Int), World.cell? w7 ⟨g6, 0, none⟩ = some (.pointer none)]) tbok 5 [.pointer none] [0, 3, 4, 5] E (by kernel_rfl) ⟨⟨by decide, by decide⟩, B10.cell (j := 0) rfl⟩ ?_
  clear E; intro a E
  refine wpList_nil ?_
  refine th_n ?_
  refine wp_seq ?_
  refine wp_region_lit ?_
  refine vrun (w := w7) (lp := [(0, .int .u8 l), (3, .slice (some ⟨g6, 0, none⟩) 2 2), (4, .int .i64 0), (5, .pointer none), (26, .pointer none), (27, .int .u8 l)]) (φ := []) tbok 2 [] [0, 3, 4, 5, 26, 27] E (by kernel_rfl) trivial ?_
  clear E; intro a E
  refine e_call E rfl rfl Try.func9 rfl rfl rfl (Feed_nil l _ ) ?_
  intro v11 w12 a hR13 E_
  obtain ⟨rfl, hc14⟩ := hR13
  replace E := E_ _ rfl; clear E_
  replace B5 := B5.chg hc14 (fun h_ => h_)
  replace B10 := B10.chg hc14 (fun h_ => h_)
  replace HW := HW.trans hc14 (fun _ _ h_ => h_.elim)
  refine vrun (w := w12) (lp := [(0, .int .u8 l), (3, .slice (some ⟨g6, 0, none⟩) 2 2), (4, .int .i64 0), (5, .pointer none), (6, .int .u8 0), (7, .int .i64 1)]) (φ := []) tbok 5 [] [0, 3, 4, 5, 6, 7] E (by kernel_rfl) trivial ?_
  clear E; intro a E
  refine wpList_nil ?_
  refine th_n ?_
  refine wp_seq ?_
  refine wp_region_lit ?_
  refine vrun (w := w12) (lp := [(0, .int .u8 l), (3, .slice (some ⟨g6, 0, none⟩) 2 2), (4, .int .i64 0), (5, .pointer none), (6, .int .u8 0), (7, .int .i64 1), (32, .pointer none)]) (φ := []) tbok 1 [] [0, 3, 4, 5, 6, 7, 32] E (by kernel_rfl) trivial ?_
  clear E; intro a E
  refine e_call E rfl rfl Try.func10 rfl rfl rfl (Back_nil  _ ) ?_
  intro v15 w16 a hR17 E_
  obtain ⟨rfl, hc18⟩ := hR17
  replace E := E_ _ rfl; clear E_
  replace B5 := B5.chg hc18 (fun h_ => h_)
  replace B10 := B10.chg hc18 (fun h_ => h_)
  replace HW := HW.trans hc18 (fun _ _ h_ => h_.elim)
  refine vrun (w := w16) (lp := [(0, .int .u8 l), (3, .slice (some ⟨g6, 0, none⟩) 2 2), (4, .int .i64 0), (5, .pointer none), (6, .int .u8 0), (7, .int .i64 1), (8, .int .u8 0), (9, .int .i64 1)]) (φ := []) tbok 5 [] [0, 3, 4, 5, 6, 7, 8, 9] E (by kernel_rfl) trivial ?_
  clear E; intro a E
  refine wpList_nil ?_
  refine th_n ?_
  refine wp_seq ?_
  refine wp_region_lit ?_
  refine vrun (w := w16) (lp := [(0, .int .u8 l), (3, .slice (some ⟨g6, 0, none⟩) 2 2), (4, .int .i64 0), (5, .pointer none), (6, .int .u8 0), (7, .int .i64 1), (8, .int .u8 0), (9, .int .i64 1), (37, .pointer none)]) (φ := []) tbok 1 [] [0, 3, 4, 5, 6, 7, 8, 9, 37] E (by kernel_rfl) trivial ?_
  clear E; intro a E
  refine e_call E rfl rfl Try.func11 rfl rfl rfl (Off_nil  _ ) ?_
  intro v19 w20 a hR21 E_
  obtain ⟨rfl, hc22⟩ := hR21
  replace E := E_ _ rfl; clear E_
  replace B5 := B5.chg hc22 (fun h_ => h_)
  replace B10 := B10.chg hc22 (fun h_ => h_)
  replace HW := HW.trans hc22 (fun _ _ h_ => h_.elim)
  refine vrun (w := w20) (lp := [(0, .int .u8 l), (3, .slice (some ⟨g6, 0, none⟩) 2 2), (4, .int .i64 0), (5, .pointer none), (6, .int .u8 0), (7, .int .i64 1), (8, .int .u8 0), (9, .int .i64 1), (10, .int .i64 0), (11, .int .i64 1)]) (φ := []) tbok 5 [] [0, 3, 4, 5, 6, 7, 8, 9, 10, 11] E (by kernel_rfl) trivial ?_
  clear E; intro a E
  refine wpList_nil ?_
  refine th_n ?_
  refine wp_seq ?_
  refine wp_region_lit ?_
  refine vrun (w := w20) (lp := [(0, .int .u8 l), (3, .slice (some ⟨g6, 0, none⟩) 2 2), (4, .int .i64 0), (5, .pointer none), (44, .int .u8 0), (45, .bool false), (48, .int .i64 0), (49, .bool false), (52, .int .i64 1), (53, .bool false), (56, .int .i64 1), (57, .bool false), (60, .int .i64 1), (61, .bool false), (63, .bool false), (64, .pointer none)]) (φ := []) tbok 24 [] [0, 3, 4, 5, 44, 45, 48, 49, 52, 53, 56, 57, 60, 61, 63, 64] E (by kernel_rfl) trivial ?_
  clear E; intro a E
  refine e_call E rfl rfl Try.func12 rfl rfl rfl (Verdict_nil  _ ) ?_
  intro v23 w24 a hR25 E_
  obtain ⟨rfl, hc26⟩ := hR25
  replace E := E_ _ rfl; clear E_
  replace B5 := B5.chg hc26 (fun h_ => h_)
  replace B10 := B10.chg hc26 (fun h_ => h_)
  replace HW := HW.trans hc26 (fun _ _ h_ => h_.elim)
  refine vrun (w := w24) (lp := [(0, .int .u8 l), (3, .slice (some ⟨g6, 0, none⟩) 2 2), (4, .int .i64 0), (5, .pointer none), (44, .int .u8 0), (45, .bool false), (48, .int .i64 0), (49, .bool false), (52, .int .i64 1), (53, .bool false), (56, .int .i64 1), (57, .bool false), (60, .int .i64 1), (61, .bool false), (64, .pointer none), (65, .int .u8 0), (66, .bool false), (68, .bool false), (69, .pointer none)]) (φ := []) tbok 4 [] [0, 3, 4, 5, 44, 45, 48, 49, 52, 53, 56, 57, 60, 61, 64, 65, 66, 68, 69] E (by kernel_rfl) trivial ?_
  clear E; intro a E
  refine e_call E rfl rfl Try.func13 rfl rfl rfl (State_nil  _ ) ?_
  intro v27 w28 a hR29 E_
  obtain ⟨rfl, hc30⟩ := hR29
  replace E := E_ _ rfl; clear E_
  replace B5 := B5.chg hc30 (fun h_ => h_)
  replace B10 := B10.chg hc30 (fun h_ => h_)
  replace HW := HW.trans hc30 (fun _ _ h_ => h_.elim)
  refine vrun (w := w28) (lp := [(0, .int .u8 l), (3, .slice (some ⟨g6, 0, none⟩) 2 2), (4, .int .i64 0), (5, .pointer none), (44, .int .u8 0), (45, .bool false), (48, .int .i64 0), (49, .bool false), (52, .int .i64 1), (53, .bool false), (56, .int .i64 1), (57, .bool false), (60, .int .i64 1), (61, .bool false), (64, .pointer none), (65, .int .u8 0), (66, .bool false), (69, .pointer none), (70, .int .i64 0), (71, .bool false), (73, .bool false), (74, .pointer none)]) (φ := []) tbok 4 [] [0, 3, 4, 5, 44, 45, 48, 49, 52, 53, 56, 57, 60, 61, 64, 65, 66, 69, 70, 71, 73, 74] E (by kernel_rfl) trivial ?_
  clear E; intro a E
  refine e_call E rfl rfl Try.func14 rfl rfl rfl (Len_nil  _ ) ?_
  intro v31 w32 a hR33 E_
  obtain ⟨rfl, hc34⟩ := hR33
  replace E := E_ _ rfl; clear E_
  replace B5 := B5.chg hc34 (fun h_ => h_)
  replace B10 := B10.chg hc34 (fun h_ => h_)
  replace HW := HW.trans hc34 (fun _ _ h_ => h_.elim)
  refine vrun (w := w32) (lp := [(0, .int .u8 l), (3, .slice (some ⟨g6, 0, none⟩) 2 2), (4, .int .i64 0), (44, .int .u8 0), (45, .bool false), (48, .int .i64 0), (49, .bool false), (52, .int .i64 1), (53, .bool false), (56, .int .i64 1), (57, .bool false), (60, .int .i64 1), (61, .bool false), (64, .pointer none), (65, .int .u8 0), (66, .bool false), (69, .pointer none), (70, .int .i64 0), (71, .bool false), (74, .pointer none), (75, .int .i64 0), (76, .bool false), (78, .bool false), (79, .pointer none)]) (φ := []) tbok 4 [] [0, 3, 4, 44, 45, 48, 49, 52, 53, 56, 57, 60, 61, 64, 65, 66, 69, 70, 71, 74, 75, 76, 78, 79] E (by kernel_rfl) trivial ?_
  clear E; intro a E
  refine e_call E rfl rfl Try.func15 rfl rfl rfl (Fork_nil  _ ) ?_
  intro v35 w36 a hR37 E_
  obtain ⟨rfl, hc38⟩ := hR37
  replace E := E_ _ rfl; clear E_
  replace B5 := B5.chg hc38 (fun h_ => h_)
  replace B10 := B10.chg hc38 (fun h_ => h_)
  replace HW := HW.trans hc38 (fun _ _ h_ => h_.elim)
  refine vrun (w := w36) (lp := [(0, .int .u8 l), (3, .slice (some ⟨g6, 0, none⟩) 2 2), (4, .int .i64 0), (44, .int .u8 0), (45, .bool false), (48, .int .i64 0), (49, .bool false), (52, .int .i64 1), (53, .bool false), (56, .int .i64 1), (57, .bool false), (60, .int .i64 1), (61, .bool false), (64, .pointer none), (65, .int .u8 0), (66, .bool false), (69, .pointer none), (70, .int .i64 0), (71, .bool false), (74, .pointer none), (75, .int .i64 0), (76, .bool false), (79, .pointer none), (80, .pointer none), (81, .bool false), (82, .bool false)]) (φ := []) tbok 2 [] [0, 3, 4, 44, 45, 48, 49, 52, 53, 56, 57, 60, 61, 64, 65, 66, 69, 70, 71, 74, 75, 76, 79, 80, 81, 82] E (by kernel_rfl) trivial ?_
  clear E; intro a E
  refine wpList_nil ?_
  refine th_n ?_
  refine c_false E rfl ?_
  refine wp_skip ?_
  refine bl_n ?_
  refine th_n ?_
  refine wp_region_lit ?_
  refine vrun (w := w36) (lp := [(0, .int .u8 l), (3, .slice (some ⟨g6, 0, none⟩) 2 2), (4, .int .i64 1), (44, .int .u8 0), (45, .bool false), (48, .int .i64 0), (49, .bool false), (52, .int .i64 1), (53, .bool false), (56, .int .i64 1), (57, .bool false), (60, .int .i64 1), (61, .bool false), (64, .pointer none), (65, .int .u8 0), (66, .bool false), (69, .pointer none), (70, .int .i64 0), (71, .bool false), (74, .pointer none), (75, .int .i64 0), (76, .bool false), (79, .pointer none), (80, .pointer none), (81, .bool false)]) (φ := [IntKind.i64.wrap (0 + 1) = 1]) tbok 3 [.int .i64 1] [0, 3, 4, 44, 45, 48, 49, 52, 53, 56, 57, 60, 61, 64, 65, 66, 69, 70, 71, 74, 75, 76, 79, 80, 81] E (by kernel_rfl) (wrap_i64 (by omega) (by omega)) ?_
  clear E; intro a E
  refine wpList_nil ?_
  refine th_n ?_
  refine unr (m := 1) ?_
  refine wp_seq ?_
  refine wp_seq ?_
  refine wp_region_lit ?_
  refine vrun (w := w36) (lp := [(0, .int .u8 l), (3, .slice (some ⟨g6, 0, none⟩) 2 2), (4, .int .i64 1), (18, .bool true), (44, .int .u8 0), (45, .bool false), (48, .int .i64 0), (49, .bool false), (52, .int .i64 1), (53, .bool false), (56, .int .i64 1), (57, .bool false), (60, .int .i64 1), (61, .bool false), (64, .pointer none), (65, .int .u8 0), (66, .bool false), (69, .pointer none), (70, .int .i64 0), (71, .bool false), (74, .pointer none), (75, .int .i64 0), (76, .bool false), (79, .pointer none), (80, .pointer none), (81, .bool false)]) (φ := []) tbok 4 [] [0, 3, 4, 18, 44, 45, 48, 49, 52, 53, 56, 57, 60, 61, 64, 65, 66, 69, 70, 71, 74, 75, 76, 79, 80, 81] E (by kernel_rfl) trivial ?_
  clear E; intro a E
  refine wpList_nil ?_
  refine th_n ?_
  refine c_true E rfl ?_
  refine wp_skip ?_
  refine th_n ?_
  refine wp_seq ?_
  refine wp_block ?_
  refine wp_seq ?_
  refine wp_region_lit ?_
  refine vrun (w := w36) (lp := [(0, .int .u8 l), (3, .slice (some ⟨g6, 0, none⟩) 2 2), (4, .int .i64 1), (5, .pointer (some ⟨g1, 0, none⟩)), (44, .int .u8 0), (45, .bool false), (48, .int .i64 0), (49, .bool false), (52, .int .i64 1), (53, .bool false), (56, .int .i64 1), (57, .bool false), (60, .int .i64 1), (61, .bool false), (64, .pointer none), (65, .int .u8 0), (66, .bool false), (69, .pointer none), (70, .int .i64 0), (71, .bool false), (74, .pointer none), (75, .int .i64 0), (76, .bool false), (79, .pointer none), (80, .pointer none), (81, .bool false)]) (φ := [0 ≤ (1 : Int) ∧ (1 : Int) < ((2 : Nat) : Int), World.cell? w36 ⟨g6, 1, none⟩ = some (.pointer (some ⟨g1, 0, none⟩))]) tbok 5 [.pointer (some ⟨g1, 0, none⟩)] [0, 3, 4, 5, 44, 45, 48, 49, 52, 53, 56, 57, 60, 61, 64, 65, 66, 69, 70, 71, 74, 75, 76, 79, 80, 81] E (by kernel_rfl) ⟨⟨by decide, by decide⟩, B10.cell (j := 1) rfl⟩ ?_
  clear E; intro a E
  refine wpList_nil ?_
  refine th_n ?_
  refine wp_seq ?_
  refine wp_region_lit ?_
  refine vrun (w := w36) (lp := [(0, .int .u8 l), (3, .slice (some ⟨g6, 0, none⟩) 2 2), (4, .int .i64 1), (5, .pointer (some ⟨g1, 0, none⟩)), (26, .pointer (some ⟨g1, 0, none⟩)), (27, .int .u8 l), (44, .int .u8 0), (45, .bool false), (48, .int .i64 0), (49, .bool false), (52, .int .i64 1), (53, .bool false), (56, .int .i64 1), (57, .bool false), (60, .int .i64 1), (61, .bool false), (64, .pointer none), (65, .int .u8 0), (66, .bool false), (69, .pointer none), (70, .int .i64 0), (71, .bool false), (74, .pointer none), (75, .int .i64 0), (76, .bool false), (79, .pointer none), (80, .pointer none), (81, .bool false)]) (φ := []) tbok 2 [] [0, 3, 4, 5, 26, 27, 44, 45, 48, 49, 52, 53, 56, 57, 60, 61, 64, 65, 66, 69, 70, 71, 74, 75, 76, 79, 80, 81] E (by kernel_rfl) trivial ?_
  clear E; intro a E
  refine e_call E rfl rfl Try.func9 rfl rfl rfl (Feed_zero g1 l _  B5) ?_
  intro v39 w40 a hR41 E_
  obtain ⟨rfl, hc42⟩ := hR41
  replace E := E_ _ rfl; clear E_
  replace B5 := B5.chg hc42 (fun h_ => h_)
  replace B10 := B10.chg hc42 (fun h_ => h_)
  replace HW := HW.trans hc42 (fun _ _ h_ => h_.elim)
  refine vrun (w := w40) (lp := [(0, .int .u8 l), (3, .slice (some ⟨g6, 0, none⟩) 2 2), (4, .int .i64 1), (5, .pointer (some ⟨g1, 0, none⟩)), (6, .int .u8 0), (7, .int .i64 1), (44, .int .u8 0), (45, .bool false), (48, .int .i64 0), (49, .bool false), (52, .int .i64 1), (53, .bool false), (56, .int .i64 1), (57, .bool false), (60, .int .i64 1), (61, .bool false), (64, .pointer none), (65, .int .u8 0), (66, .bool false), (69, .pointer none), (70, .int .i64 0), (71, .bool false), (74, .pointer none), (75, .int .i64 0), (76, .bool false), (79, .pointer none), (80, .pointer none), (81, .bool false)]) (φ := []) tbok 5 [] [0, 3, 4, 5, 6, 7, 44, 45, 48, 49, 52, 53, 56, 57, 60, 61, 64, 65, 66, 69, 70, 71, 74, 75, 76, 79, 80, 81] E (by kernel_rfl) trivial ?_
  clear E; intro a E
  refine wpList_nil ?_
  refine th_n ?_
  refine wp_seq ?_
  refine wp_region_lit ?_
  refine vrun (w := w40) (lp := [(0, .int .u8 l), (3, .slice (some ⟨g6, 0, none⟩) 2 2), (4, .int .i64 1), (5, .pointer (some ⟨g1, 0, none⟩)), (6, .int .u8 0), (7, .int .i64 1), (32, .pointer (some ⟨g1, 0, none⟩)), (44, .int .u8 0), (45, .bool false), (48, .int .i64 0), (49, .bool false), (52, .int .i64 1), (53, .bool false), (56, .int .i64 1), (57, .bool false), (60, .int .i64 1), (61, .bool false), (64, .pointer none), (65, .int .u8 0), (66, .bool false), (69, .pointer none), (70, .int .i64 0), (71, .bool false), (74, .pointer none), (75, .int .i64 0), (76, .bool false), (79, .pointer none), (80, .pointer none), (81, .bool false)]) (φ := []) tbok 1 [] [0, 3, 4, 5, 6, 7, 32, 44, 45, 48, 49, 52, 53, 56, 57, 60, 61, 64, 65, 66, 69, 70, 71, 74, 75, 76, 79, 80, 81] E (by kernel_rfl) trivial ?_
  clear E; intro a E
  refine e_call E rfl rfl Try.func10 rfl rfl rfl (Back_zero g1  _  B5) ?_
  intro v43 w44 a hR45 E_
  obtain ⟨rfl, hc46⟩ := hR45
  replace E := E_ _ rfl; clear E_
  replace B5 := B5.chg hc46 (fun h_ => h_)
  replace B10 := B10.chg hc46 (fun h_ => h_)
  replace HW := HW.trans hc46 (fun _ _ h_ => h_.elim)
  refine vrun (w := w44) (lp := [(0, .int .u8 l), (3, .slice (some ⟨g6, 0, none⟩) 2 2), (4, .int .i64 1), (5, .pointer (some ⟨g1, 0, none⟩)), (6, .int .u8 0), (7, .int .i64 1), (8, .int .u8 0), (9, .int .i64 1), (44, .int .u8 0), (45, .bool false), (48, .int .i64 0), (49, .bool false), (52, .int .i64 1), (53, .bool false), (56, .int .i64 1), (57, .bool false), (60, .int .i64 1), (61, .bool false), (64, .pointer none), (65, .int .u8 0), (66, .bool false), (69, .pointer none), (70, .int .i64 0), (71, .bool false), (74, .pointer none), (75, .int .i64 0), (76, .bool false), (79, .pointer none), (80, .pointer none), (81, .bool false)]) (φ := []) tbok 5 [] [0, 3, 4, 5, 6, 7, 8, 9, 44, 45, 48, 49, 52, 53, 56, 57, 60, 61, 64, 65, 66, 69, 70, 71, 74, 75, 76, 79, 80, 81] E (by kernel_rfl) trivial ?_
  clear E; intro a E
  refine wpList_nil ?_
  refine th_n ?_
  refine wp_seq ?_
  refine wp_region_lit ?_
  refine vrun (w := w44) (lp := [(0, .int .u8 l), (3, .slice (some ⟨g6, 0, none⟩) 2 2), (4, .int .i64 1), (5, .pointer (some ⟨g1, 0, none⟩)), (6, .int .u8 0), (7, .int .i64 1), (8, .int .u8 0), (9, .int .i64 1), (37, .pointer (some ⟨g1, 0, none⟩)), (44, .int .u8 0), (45, .bool false), (48, .int .i64 0), (49, .bool false), (52, .int .i64 1), (53, .bool false), (56, .int .i64 1), (57, .bool false), (60, .int .i64 1), (61, .bool false), (64, .pointer none), (65, .int .u8 0), (66, .bool false), (69, .pointer none), (70, .int .i64 0), (71, .bool false), (74, .pointer none), (75, .int .i64 0), (76, .bool false), (79, .pointer none), (80, .pointer none), (81, .bool false)]) (φ := []) tbok 1 [] [0, 3, 4, 5, 6, 7, 8, 9, 37, 44, 45, 48, 49, 52, 53, 56, 57, 60, 61, 64, 65, 66, 69, 70, 71, 74, 75, 76, 79, 80, 81] E (by kernel_rfl) trivial ?_
  clear E; intro a E
  refine e_call E rfl rfl Try.func11 rfl rfl rfl (Off_zero g1  _  B5) ?_
  intro v47 w48 a hR49 E_
  obtain ⟨rfl, hc50⟩ := hR49
  replace E := E_ _ rfl; clear E_
  replace B5 := B5.chg hc50 (fun h_ => h_)
  replace B10 := B10.chg hc50 (fun h_ => h_)
  replace HW := HW.trans hc50 (fun _ _ h_ => h_.elim)
  refine vrun (w := w48) (lp := [(0, .int .u8 l), (3, .slice (some ⟨g6, 0, none⟩) 2 2), (4, .int .i64 1), (5, .pointer (some ⟨g1, 0, none⟩)), (6, .int .u8 0), (7, .int .i64 1), (8, .int .u8 0), (9, .int .i64 1), (10, .int .i64 0), (11, .int .i64 1), (44, .int .u8 0), (45, .bool false), (48, .int .i64 0), (49, .bool false), (52, .int .i64 1), (53, .bool false), (56, .int .i64 1), (57, .bool false), (60, .int .i64 1), (61, .bool false), (64, .pointer none), (65, .int .u8 0), (66, .bool false), (69, .pointer none), (70, .int .i64 0), (71, .bool false), (74, .pointer none), (75, .int .i64 0), (76, .bool false), (79, .pointer none), (80, .pointer none), (81, .bool false)]) (φ := []) tbok 5 [] [0, 3, 4, 5, 6, 7, 8, 9, 10, 11, 44, 45, 48, 49, 52, 53, 56, 57, 60, 61, 64, 65, 66, 69, 70, 71, 74, 75, 76, 79, 80, 81] E (by kernel_rfl) trivial ?_
  clear E; intro a E
  refine wpList_nil ?_
  refine th_n ?_
  refine wp_seq ?_
  refine wp_region_lit ?_
  refine vrun (w := w48) (lp := [(0, .int .u8 l), (3, .slice (some ⟨g6, 0, none⟩) 2 2), (4, .int .i64 1), (5, .pointer (some ⟨g1, 0, none⟩)), (44, .int .u8 0), (45, .bool false), (48, .int .i64 0), (49, .bool false), (52, .int .i64 1), (53, .bool false), (56, .int .i64 1), (57, .bool false), (60, .int .i64 1), (61, .bool false), (63, .bool false), (64, .pointer (some ⟨g1, 0, none⟩)), (65, .int .u8 0), (66, .bool false), (69, .pointer none), (70, .int .i64 0), (71, .bool false), (74, .pointer none), (75, .int .i64 0), (76, .bool false), (79, .pointer none), (80, .pointer none), (81, .bool false)]) (φ := []) tbok 24 [] [0, 3, 4, 5, 44, 45, 48, 49, 52, 53, 56, 57, 60, 61, 63, 64, 65, 66, 69, 70, 71, 74, 75, 76, 79, 80, 81] E (by kernel_rfl) trivial ?_
  clear E; intro a E
  refine e_call E rfl rfl Try.func12 rfl rfl rfl (Verdict_zero g1  _  B5) ?_
  intro v51 w52 a hR53 E_
  obtain ⟨rfl, hc54⟩ := hR53
  replace E := E_ _ rfl; clear E_
  replace B5 := B5.chg hc54 (fun h_ => h_)
  replace B10 := B10.chg hc54 (fun h_ => h_)
  replace HW := HW.trans hc54 (fun _ _ h_ => h_.elim)
  refine vrun (w := w52) (lp := [(0, .int .u8 l), (3, .slice (some ⟨g6, 0, none⟩) 2 2), (4, .int .i64 1), (5, .pointer (some ⟨g1, 0, none⟩)), (44, .int .u8 0), (45, .bool false), (48, .int .i64 0), (49, .bool false), (52, .int .i64 1), (53, .bool false), (56, .int .i64 1), (57, .bool false), (60, .int .i64 1), (61, .bool false), (64, .pointer (some ⟨g1, 0, none⟩)), (65, .int .u8 0), (66, .bool false), (68, .bool false), (69, .pointer (some ⟨g1, 0, none⟩)), (70, .int .i64 0), (71, .bool false), (74, .pointer none), (75, .int .i64 0), (76, .bool false), (79, .pointer none), (80, .pointer none), (81, .bool false)]) (φ := []) tbok 4 [] [0, 3, 4, 5, 44, 45, 48, 49, 52, 53, 56, 57, 60, 61, 64, 65, 66, 68, 69, 70, 71, 74, 75, 76, 79, 80, 81] E (by kernel_rfl) trivial ?_
  clear E; intro a E
  refine e_call E rfl rfl Try.func13 rfl rfl rfl (State_zero g1  _  B5) ?_
  intro v55 w56 a hR57 E_
  obtain ⟨rfl, hc58⟩ := hR57
  replace E := E_ _ rfl; clear E_
  replace B5 := B5.chg hc58 (fun h_ => h_)
  replace B10 := B10.chg hc58 (fun h_ => h_)
  replace HW := HW.trans hc58 (fun _ _ h_ => h_.elim)
  refine vrun (w := w56) (lp := [(0, .int .u8 l), (3, .slice (some ⟨g6, 0, none⟩) 2 2), (4, .int .i64 1), (5, .pointer (some ⟨g1, 0, none⟩)), (44, .int .u8 0), (45, .bool false), (48, .int .i64 0), (49, .bool false), (52, .int .i64 1), (53, .bool false), (56, .int .i64 1), (57, .bool false), (60, .int .i64 1), (61, .bool false), (64, .pointer (some ⟨g1, 0, none⟩)), (65, .int .u8 0), (66, .bool false), (69, .pointer (some ⟨g1, 0, none⟩)), (70, .int .i64 0), (71, .bool false), (73, .bool false), (74, .pointer (some ⟨g1, 0, none⟩)), (75, .int .i64 0), (76, .bool false), (79, .pointer none), (80, .pointer none), (81, .bool false)]) (φ := []) tbok 4 [] [0, 3, 4, 5, 44, 45, 48, 49, 52, 53, 56, 57, 60, 61, 64, 65, 66, 69, 70, 71, 73, 74, 75, 76, 79, 80, 81] E (by kernel_rfl) trivial ?_
  clear E; intro a E
  refine e_call E rfl rfl Try.func14 rfl rfl rfl (Len_zero g1  _  B5) ?_
  intro v59 w60 a hR61 E_
  obtain ⟨rfl, hc62⟩ := hR61
  replace E := E_ _ rfl; clear E_
  replace B5 := B5.chg hc62 (fun h_ => h_)
  replace B10 := B10.chg hc62 (fun h_ => h_)
  replace HW := HW.trans hc62 (fun _ _ h_ => h_.elim)
  refine vrun (w := w60) (lp := [(0, .int .u8 l), (3, .slice (some ⟨g6, 0, none⟩) 2 2), (4, .int .i64 1), (44, .int .u8 0), (45, .bool false), (48, .int .i64 0), (49, .bool false), (52, .int .i64 1), (53, .bool false), (56, .int .i64 1), (57, .bool false), (60, .int .i64 1), (61, .bool false), (64, .pointer (some ⟨g1, 0, none⟩)), (65, .int .u8 0), (66, .bool false), (69, .pointer (some ⟨g1, 0, none⟩)), (70, .int .i64 0), (71, .bool false), (74, .pointer (some ⟨g1, 0, none⟩)), (75, .int .i64 0), (76, .bool false), (78, .bool false), (79, .pointer (some ⟨g1, 0, none⟩)), (80, .pointer none), (81, .bool false)]) (φ := []) tbok 4 [] [0, 3, 4, 44, 45, 48, 49, 52, 53, 56, 57, 60, 61, 64, 65, 66, 69, 70, 71, 74, 75, 76, 78, 79, 80, 81] E (by kernel_rfl) trivial ?_
  clear E; intro a E
  refine e_call E rfl rfl Try.func15 rfl rfl rfl (Fork_zero g1  _  B5) ?_
  intro v63 w64 a hR65 E_
  obtain ⟨rfl, hc66⟩ := hR65
  replace E := E_ _ rfl; clear E_
  replace B5 := B5.chg hc66 (fun h_ => h_)
  replace B10 := B10.chg hc66 (fun h_ => h_)
  replace HW := HW.trans hc66 (fun _ _ h_ => h_.elim)
  refine vrun (w := w64) (lp := [(0, .int .u8 l), (3, .slice (some ⟨g6, 0, none⟩) 2 2), (4, .int .i64 1), (44, .int .u8 0), (45, .bool false), (48, .int .i64 0), (49, .bool false), (52, .int .i64 1), (53, .bool false), (56, .int .i64 1), (57, .bool false), (60, .int .i64 1), (61, .bool false), (64, .pointer (some ⟨g1, 0, none⟩)), (65, .int .u8 0), (66, .bool false), (69, .pointer (some ⟨g1, 0, none⟩)), (70, .int .i64 0), (71, .bool false), (74, .pointer (some ⟨g1, 0, none⟩)), (75, .int .i64 0), (76, .bool false), (79, .pointer (some ⟨g1, 0, none⟩)), (80, .pointer none), (81, .bool false), (82, .bool false)]) (φ := []) tbok 2 [] [0, 3, 4, 44, 45, 48, 49, 52, 53, 56, 57, 60, 61, 64, 65, 66, 69, 70, 71, 74, 75, 76, 79, 80, 81, 82] E (by kernel_rfl) trivial ?_
  clear E; intro a E
  refine wpList_nil ?_
  refine th_n ?_
  refine c_false E rfl ?_
  refine wp_skip ?_
  refine bl_n ?_
  refine th_n ?_
  refine wp_region_lit ?_
  refine vrun (w := w64) (lp := [(0, .int .u8 l), (3, .slice (some ⟨g6, 0, none⟩) 2 2), (4, .int .i64 2), (44, .int .u8 0), (45, .bool false), (48, .int .i64 0), (49, .bool false), (52, .int .i64 1), (53, .bool false), (56, .int .i64 1), (57, .bool false), (60, .int .i64 1), (61, .bool false), (64, .pointer (some ⟨g1, 0, none⟩)), (65, .int .u8 0), (66, .bool false), (69, .pointer (some ⟨g1, 0, none⟩)), (70, .int .i64 0), (71, .bool false), (74, .pointer (some ⟨g1, 0, none⟩)), (75, .int .i64 0), (76, .bool false), (79, .pointer (some ⟨g1, 0, none⟩)), (80, .pointer none), (81, .bool false)]) (φ := [IntKind.i64.wrap (1 + 1) = 2]) tbok 3 [.int .i64 2] [0, 3, 4, 44, 45, 48, 49, 52, 53, 56, 57, 60, 61, 64, 65, 66, 69, 70, 71, 74, 75, 76, 79, 80, 81] E (by kernel_rfl) (wrap_i64 (by omega) (by omega)) ?_
  clear E; intro a E
  refine wpList_nil ?_
  refine th_n ?_
  refine unr (m := 0) ?_
  refine wp_seq ?_
  refine wp_seq ?_
  refine wp_region_lit ?_
  refine vrun (w := w64) (lp := [(0, .int .u8 l), (3, .slice (some ⟨g6, 0, none⟩) 2 2), (4, .int .i64 2), (18, .bool false), (44, .int .u8 0), (45, .bool false), (48, .int .i64 0), (49, .bool false), (52, .int .i64 1), (53, .bool false), (56, .int .i64 1), (57, .bool false), (60, .int .i64 1), (61, .bool false), (64, .pointer (some ⟨g1, 0, none⟩)), (65, .int .u8 0), (66, .bool false), (69, .pointer (some ⟨g1, 0, none⟩)), (70, .int .i64 0), (71, .bool false), (74, .pointer (some ⟨g1, 0, none⟩)), (75, .int .i64 0), (76, .bool false), (79, .pointer (some ⟨g1, 0, none⟩)), (80, .pointer none), (81, .bool false)]) (φ := []) tbok 4 [] [0, 3, 4, 18, 44, 45, 48, 49, 52, 53, 56, 57, 60, 61, 64, 65, 66, 69, 70, 71, 74, 75, 76, 79, 80, 81] E (by kernel_rfl) trivial ?_
  clear E; intro a E
  refine wpList_nil ?_
  refine th_n ?_
  refine c_false E rfl ?_
  refine wp_exit ?_
  refine th_exit ?_
  refine th_exit ?_
  refine bl_hit ?_
  refine th_n ?_
  refine wp_seq ?_
  refine wp_region_lit ?_
  refine vrun (w := w64) (lp := [(2, .bool true)]) (φ := []) tbok 1 [] [2] E (by kernel_rfl) trivial ?_
  clear E; intro a E
  refine wpList_nil ?_
  refine th_n ?_
  refine wp_ret ?_
  refine ret1 E rfl rfl ?_
  exact ⟨_, rfl, rfl, HW.own⟩

end Go.V
