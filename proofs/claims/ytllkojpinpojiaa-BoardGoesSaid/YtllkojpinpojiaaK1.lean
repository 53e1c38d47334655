/- Contracts of functions of the program: walks. -/
import Derived.Test.YtllkojpinpojiaaKeys
set_option linter.all false
set_option linter.unusedVariables false
set_option linter.unnecessarySimpa false
set_option linter.unusedSimpArgs false
namespace Go.V
open Go Go.Proofs

/-! rejoinder/rejoinderkit.SameInts -/
set_option maxRecDepth 100000 in
theorem SameInts_calls (A1 A2 : Option Addr) (c1 c2 n1 n2 : Nat) (xs ys : List Int) (w0 : World) (hn1 : n1 = xs.length) (hn2 : n2 = ys.length) (hl1 : xs.length ≤ 140737488351232) (H1 : C (cInt .i64) w0 (Lo w0.heap.size) A1 xs) (H2 : C (cInt .i64) w0 (Lo w0.heap.size) A2 ys) :
    Calls Try.prog 41 #[.slice A1 n1 c1, .slice A2 n2 c2] w0 fun e w' => ∃ v, e = .returned v ∧ (v = .bool (decide (xs = ys)) ∧ Ext w0 w') := by
  have HW : Chg (Hi w0.heap.size) w0 w0 := Chg.refl _ _
  subst hn1 hn2
  refine enterV (n := 26) Try.func41 rfl rfl rfl ?_
  intro a E
  replace E := E.pick [(0, .slice A1 xs.length c1), (1, .slice A2 ys.length c2)] ⟨rfl, rfl, trivial⟩
  refine wp_seq ?_
  refine wp_region_lit ?_
  refine vrun (w := w0) (lp := [(0, .slice A1 xs.length c1), (1, .slice A2 ys.length c2)]) (φ := []) tbok 1 [] [0, 1] E (by kernel_rfl) trivial ?_
  clear E; intro a E
  refine wpList_nil ?_
  refine th_n ?_
  refine wp_seq ?_
  refine wp_seq ?_
  refine wp_region_lit ?_
  refine vrun (w := w0) (lp := [(0, .slice A1 xs.length c1), (1, .slice A2 ys.length c2), (10, .bool ((((xs.length : Nat) : Int) : Int) != ((ys.length : Nat) : Int)))]) (φ := []) tbok 5 [] [0, 1, 10] E (by kernel_rfl) trivial ?_
  clear E; intro a E
  refine wpList_nil ?_
  refine th_n ?_
  refine E.cases (t := 10) rfl (fun hb_ E_ => ?_) (fun hb_ E_ => ?_)
  · replace E := E_; clear E_
    have h1 : ¬ ((((xs.length : Nat) : Int) : Int) = ((ys.length : Nat) : Int)) := bne_iff_ne.1 hb_
    clear hb_
    refine c_true E rfl ?_
    refine wp_seq ?_
    refine wp_region_lit ?_
    refine vrun (w := w0) (lp := [(4, .bool false)]) (φ := []) tbok 1 [] [4] E (by kernel_rfl) trivial ?_
    clear E; intro a E
    refine wpList_nil ?_
    refine th_n ?_
    refine wp_ret ?_
    refine th_ret ?_
    refine ret1 E rfl rfl ?_
    refine ⟨_, rfl, ?_, HW.own⟩
    rw [decide_eq_false (fun e_ => h1 (by rw [e_]))]
  · replace E := E_; clear E_
    have h2 : (((xs.length : Nat) : Int) : Int) = ((ys.length : Nat) : Int) := bne_eq_false_iff_eq.1 hb_
    clear hb_
    refine c_false E rfl ?_
    refine wp_skip ?_
    refine th_n ?_
    refine wp_seq ?_
    refine wp_seq ?_
    refine wp_region_lit ?_
    refine vrun (w := w0) (lp := [(0, .slice A1 xs.length c1), (1, .slice A2 ys.length c2), (5, .int .i64 0)]) (φ := []) tbok 1 [] [0, 1, 5] E (by kernel_rfl) trivial ?_
    clear E; intro a E
    refine wpList_nil ?_
    refine th_n ?_
    refine wp_block ?_
    refine loopV (fun m4 a w3 => ∃ (k : Nat), Fr a 26 [(0, .slice A1 xs.length c1), (1, .slice A2 ys.length c2), (5, .int .i64 (k : Int))] ∧ Chg (Hi w0.heap.size) w0 w3 ∧ (k ≤ xs.length) ∧ (∀ i, i < k → xs.getD i 0 = ys.getD i 0) ∧ m4 = xs.length - k) (xs.length - (0)) ?_ ?_
    · skip
      exact ⟨0, E.pick _ ⟨rfl, rfl, rfl, trivial⟩, HW, (by omega), (fun i hi => absurd hi (by omega)), rfl⟩
    · clear E HW; intro m4 a w3 hI_
      obtain ⟨k, hI_⟩ := hI_
      obtain ⟨E, HW, hk, hI, hm_m4⟩ := hI_
      refine wp_seq ?_
      refine wp_seq ?_
      refine wp_region_lit ?_
      refine vrun (w := w3) (lp := [(0, .slice A1 xs.length c1), (1, .slice A2 ys.length c2), (5, .int .i64 (k : Int)), (14, .bool (decide ((k : Int) < ((xs.length : Nat) : Int))))]) (φ := []) tbok 4 [] [0, 1, 5, 14] E (by kernel_rfl) trivial ?_
      clear E; intro a E
      refine wpList_nil ?_
      refine th_n ?_
      refine E.cases (t := 14) rfl (fun hb_ E_ => ?_) (fun hb_ E_ => ?_)
      · replace E := E_; clear E_
        have h5 : (k : Int) < ((xs.length : Nat) : Int) := of_decide_eq_true hb_
        clear hb_
        refine c_true E rfl ?_
        refine wp_skip ?_
        refine th_n ?_
        refine wp_seq ?_
        refine wp_block ?_
        refine wp_seq ?_
        refine dr_start (S := fun w_ => Chg No w3 w_) (by kernel_rfl) ?_
        intro w6 hc7
        have HWs := HW
        have HS : Chg No w3 w6 := hc7.mono (fun _ _ h_ => h_.elim)
        replace HW := HW.trans hc7 (fun _ _ h_ => h_.elim)
        have hx_19 : 0 ≤ (k : Int) ∧ (k : Int) < ((xs.length : Nat) : Int) := ⟨by omega, by omega⟩
        obtain ⟨b8, o9, e_b8⟩ := H1.addr (by omega)
        subst e_b8
        have hx_23 : 0 ≤ (k : Int) ∧ (k : Int) < ((ys.length : Nat) : Int) := ⟨by omega, by omega⟩
        obtain ⟨b10, o11, e_b10⟩ := H2.addr (by omega)
        subst e_b10
        refine drun (lp := [(0, .slice (some ⟨b8, o9, none⟩) xs.length c1), (1, .slice (some ⟨b10, o11, none⟩) ys.length c2), (5, .int .i64 (k : Int)), (25, .bool (((List.getD xs (Int.toNat (k : Int)) 0) : Int) != (List.getD ys (Int.toNat (k : Int)) 0)))]) tbok (by kernel_rfl) [0, 1, 2, 3, 4, 5, 6, 7, 8] [.int .i64 (List.getD xs (Int.toNat (k : Int)) 0), .int .i64 (List.getD ys (Int.toNat (k : Int)) 0)] [0, 1, 5, 25] (fun w_ => [0 ≤ (k : Int) ∧ (k : Int) < ((xs.length : Nat) : Int), World.cell? w_ ⟨b8, o9 + (Int.toNat (k : Int)) * 1, none⟩ = some (.int .i64 (List.getD xs (Int.toNat (k : Int)) 0)), 0 ≤ (k : Int) ∧ (k : Int) < ((ys.length : Nat) : Int), World.cell? w_ ⟨b10, o11 + (Int.toNat (k : Int)) * 1, none⟩ = some (.int .i64 (List.getD ys (Int.toNat (k : Int)) 0))]) (fuel := 0) E (fun _ _ => by kernel_rfl) (fun w_ hS_ => ⟨hx_19, hS_.cell (C.at1 (H1.keep HWs lo_hi) 0 hx_19.1 hx_19.2) (fun h_ => h_), hx_23, hS_.cell (C.at1 (H2.keep HWs lo_hi) 0 hx_23.1 hx_23.2) (fun h_ => h_)⟩) (by kernel_rfl) HS ?_
        clear E; intro a E
        refine dr_done (by kernel_rfl) ?_
        clear HS HWs
        refine th_n ?_
        refine E.cases (t := 25) rfl (fun hb_ E_ => ?_) (fun hb_ E_ => ?_)
        · replace E := E_; clear E_
          have h12 : ¬ (((List.getD xs (Int.toNat (k : Int)) 0) : Int) = (List.getD ys (Int.toNat (k : Int)) 0)) := bne_iff_ne.1 hb_
          clear hb_
          refine c_true E rfl ?_
          refine wp_seq ?_
          refine wp_region_lit ?_
          refine vrun (w := w6) (lp := [(4, .bool false)]) (φ := []) tbok 1 [] [4] E (by kernel_rfl) trivial ?_
          clear E; intro a E
          refine wpList_nil ?_
          refine th_n ?_
          refine wp_ret ?_
          refine bl_ret ?_
          refine th_ret ?_
          refine th_ret ?_
          refine bl_ret ?_
          refine th_ret ?_
          refine ret1 E rfl rfl ?_
          refine ⟨_, rfl, ?_, HW.own⟩
          rw [decide_eq_false (same_ne h12)]
        · replace E := E_; clear E_
          have h13 : ((List.getD xs (Int.toNat (k : Int)) 0) : Int) = (List.getD ys (Int.toNat (k : Int)) 0) := bne_eq_false_iff_eq.1 hb_
          clear hb_
          refine c_false E rfl ?_
          refine wp_skip ?_
          refine bl_n ?_
          refine th_n ?_
          refine wp_region_lit ?_
          refine vrun (w := w6) (lp := [(0, .slice (some ⟨b8, o9, none⟩) xs.length c1), (1, .slice (some ⟨b10, o11, none⟩) ys.length c2), (5, .int .i64 ((k : Int) + 1))]) (φ := [IntKind.i64.wrap ((k : Int) + 1) = (k : Int) + 1]) tbok 3 [.int .i64 ((k : Int) + 1)] [0, 1, 5] E (by kernel_rfl) (wrap_i64 (by omega) (by omega)) ?_
          clear E; intro a E
          refine wpList_nil ?_
          refine th_n ⟨xs.length - (k + 1), by omega, ?_⟩
          exact ⟨k + 1, E.pick _ ⟨rfl, rfl, rfl, trivial⟩, HW, (by omega), (same_step hI h13), rfl⟩
      · replace E := E_; clear E_
        have h14 : ¬ ((k : Int) < ((xs.length : Nat) : Int)) := of_decide_eq_false hb_
        clear hb_
        refine c_false E rfl ?_
        refine wp_exit ?_
        refine th_exit ?_
        refine th_exit ?_
        refine bl_hit ?_
        refine th_n ?_
        refine wp_seq ?_
        refine wp_region_lit ?_
        refine vrun (w := w3) (lp := [(4, .bool true)]) (φ := []) tbok 1 [] [4] E (by kernel_rfl) trivial ?_
        clear E; intro a E
        refine wpList_nil ?_
        refine th_n ?_
        refine wp_ret ?_
        refine ret1 E rfl rfl ?_
        refine ⟨_, rfl, ?_, HW.own⟩
        rw [decide_eq_true (same_ext 0 (by omega) (fun i hi => hI i (by omega)))]

/-! rejoinder/rejoinderkit.SameBools -/
set_option maxRecDepth 100000 in
theorem SameBools_calls (A1 A2 : Option Addr) (c1 c2 n1 n2 : Nat) (xs ys : List Bool) (w0 : World) (hn1 : n1 = xs.length) (hn2 : n2 = ys.length) (hl1 : xs.length ≤ 140737488351232) (H1 : C cBool w0 (Lo w0.heap.size) A1 xs) (H2 : C cBool w0 (Lo w0.heap.size) A2 ys) :
    Calls Try.prog 57 #[.slice A1 n1 c1, .slice A2 n2 c2] w0 fun e w' => ∃ v, e = .returned v ∧ (v = .bool (decide (xs = ys)) ∧ Ext w0 w') := by
  have HW : Chg (Hi w0.heap.size) w0 w0 := Chg.refl _ _
  subst hn1 hn2
  refine enterV (n := 26) Try.func57 rfl rfl rfl ?_
  intro a E
  replace E := E.pick [(0, .slice A1 xs.length c1), (1, .slice A2 ys.length c2)] ⟨rfl, rfl, trivial⟩
  refine wp_seq ?_
  refine wp_region_lit ?_
  refine vrun (w := w0) (lp := [(0, .slice A1 xs.length c1), (1, .slice A2 ys.length c2)]) (φ := []) tbok 1 [] [0, 1] E (by kernel_rfl) trivial ?_
  clear E; intro a E
  refine wpList_nil ?_
  refine th_n ?_
  refine wp_seq ?_
  refine wp_seq ?_
  refine wp_region_lit ?_
  refine vrun (w := w0) (lp := [(0, .slice A1 xs.length c1), (1, .slice A2 ys.length c2), (10, .bool ((((xs.length : Nat) : Int) : Int) != ((ys.length : Nat) : Int)))]) (φ := []) tbok 5 [] [0, 1, 10] E (by kernel_rfl) trivial ?_
  clear E; intro a E
  refine wpList_nil ?_
  refine th_n ?_
  refine E.cases (t := 10) rfl (fun hb_ E_ => ?_) (fun hb_ E_ => ?_)
  · replace E := E_; clear E_
    have h1 : ¬ ((((xs.length : Nat) : Int) : Int) = ((ys.length : Nat) : Int)) := bne_iff_ne.1 hb_
    clear hb_
    refine c_true E rfl ?_
    refine wp_seq ?_
    refine wp_region_lit ?_
    refine vrun (w := w0) (lp := [(4, .bool false)]) (φ := []) tbok 1 [] [4] E (by kernel_rfl) trivial ?_
    clear E; intro a E
    refine wpList_nil ?_
    refine th_n ?_
    refine wp_ret ?_
    refine th_ret ?_
    refine ret1 E rfl rfl ?_
    refine ⟨_, rfl, ?_, HW.own⟩
    rw [decide_eq_false (fun e_ => h1 (by rw [e_]))]
  · replace E := E_; clear E_
    have h2 : (((xs.length : Nat) : Int) : Int) = ((ys.length : Nat) : Int) := bne_eq_false_iff_eq.1 hb_
    clear hb_
    refine c_false E rfl ?_
    refine wp_skip ?_
    refine th_n ?_
    refine wp_seq ?_
    refine wp_seq ?_
    refine wp_region_lit ?_
    refine vrun (w := w0) (lp := [(0, .slice A1 xs.length c1), (1, .slice A2 ys.length c2), (5, .int .i64 0)]) (φ := []) tbok 1 [] [0, 1, 5] E (by kernel_rfl) trivial ?_
    clear E; intro a E
    refine wpList_nil ?_
    refine th_n ?_
    refine wp_block ?_
    refine loopV (fun m4 a w3 => ∃ (k : Nat), Fr a 26 [(0, .slice A1 xs.length c1), (1, .slice A2 ys.length c2), (5, .int .i64 (k : Int))] ∧ Chg (Hi w0.heap.size) w0 w3 ∧ (k ≤ xs.length) ∧ (∀ i, i < k → xs.getD i false = ys.getD i false) ∧ m4 = xs.length - k) (xs.length - (0)) ?_ ?_
    · skip
      exact ⟨0, E.pick _ ⟨rfl, rfl, rfl, trivial⟩, HW, (by omega), (fun i hi => absurd hi (by omega)), rfl⟩
    · clear E HW; intro m4 a w3 hI_
      obtain ⟨k, hI_⟩ := hI_
      obtain ⟨E, HW, hk, hI, hm_m4⟩ := hI_
      refine wp_seq ?_
      refine wp_seq ?_
      refine wp_region_lit ?_
      refine vrun (w := w3) (lp := [(0, .slice A1 xs.length c1), (1, .slice A2 ys.length c2), (5, .int .i64 (k : Int)), (14, .bool (decide ((k : Int) < ((xs.length : Nat) : Int))))]) (φ := []) tbok 4 [] [0, 1, 5, 14] E (by kernel_rfl) trivial ?_
      clear E; intro a E
      refine wpList_nil ?_
      refine th_n ?_
      refine E.cases (t := 14) rfl (fun hb_ E_ => ?_) (fun hb_ E_ => ?_)
      · replace E := E_; clear E_
        have h5 : (k : Int) < ((xs.length : Nat) : Int) := of_decide_eq_true hb_
        clear hb_
        refine c_true E rfl ?_
        refine wp_skip ?_
        refine th_n ?_
        refine wp_seq ?_
        refine wp_block ?_
        refine wp_seq ?_
        refine dr_start (S := fun w_ => Chg No w3 w_) (by kernel_rfl) ?_
        intro w6 hc7
        have HWs := HW
        have HS : Chg No w3 w6 := hc7.mono (fun _ _ h_ => h_.elim)
        replace HW := HW.trans hc7 (fun _ _ h_ => h_.elim)
        have hx_19 : 0 ≤ (k : Int) ∧ (k : Int) < ((xs.length : Nat) : Int) := ⟨by omega, by omega⟩
        obtain ⟨b8, o9, e_b8⟩ := H1.addr (by omega)
        subst e_b8
        have hx_23 : 0 ≤ (k : Int) ∧ (k : Int) < ((ys.length : Nat) : Int) := ⟨by omega, by omega⟩
        obtain ⟨b10, o11, e_b10⟩ := H2.addr (by omega)
        subst e_b10
        refine drun (lp := [(0, .slice (some ⟨b8, o9, none⟩) xs.length c1), (1, .slice (some ⟨b10, o11, none⟩) ys.length c2), (5, .int .i64 (k : Int)), (25, .bool (!((List.getD xs (Int.toNat (k : Int)) false) == (List.getD ys (Int.toNat (k : Int)) false))))]) tbok (by kernel_rfl) [0, 1, 2, 3, 4, 5, 6, 7, 8] [.bool (List.getD xs (Int.toNat (k : Int)) false), .bool (List.getD ys (Int.toNat (k : Int)) false)] [0, 1, 5, 25] (fun w_ => [0 ≤ (k : Int) ∧ (k : Int) < ((xs.length : Nat) : Int), World.cell? w_ ⟨b8, o9 + (Int.toNat (k : Int)) * 1, none⟩ = some (.bool (List.getD xs (Int.toNat (k : Int)) false)), 0 ≤ (k : Int) ∧ (k : Int) < ((ys.length : Nat) : Int), World.cell? w_ ⟨b10, o11 + (Int.toNat (k : Int)) * 1, none⟩ = some (.bool (List.getD ys (Int.toNat (k : Int)) false))]) (fuel := 0) E (fun _ _ => by kernel_rfl) (fun w_ hS_ => ⟨hx_19, hS_.cell (C.at1 (H1.keep HWs lo_hi) false hx_19.1 hx_19.2) (fun h_ => h_), hx_23, hS_.cell (C.at1 (H2.keep HWs lo_hi) false hx_23.1 hx_23.2) (fun h_ => h_)⟩) (by kernel_rfl) HS ?_
        clear E; intro a E
        refine dr_done (by kernel_rfl) ?_
        clear HS HWs
        refine th_n ?_
        refine E.cases (t := 25) rfl (fun hb_ E_ => ?_) (fun hb_ E_ => ?_)
        · replace E := E_; clear E_
          have h12 : ¬ ((List.getD xs (Int.toNat (k : Int)) false) = (List.getD ys (Int.toNat (k : Int)) false)) := by simpa using hb_
          clear hb_
          refine c_true E rfl ?_
          refine wp_seq ?_
          refine wp_region_lit ?_
          refine vrun (w := w6) (lp := [(4, .bool false)]) (φ := []) tbok 1 [] [4] E (by kernel_rfl) trivial ?_
          clear E; intro a E
          refine wpList_nil ?_
          refine th_n ?_
          refine wp_ret ?_
          refine bl_ret ?_
          refine th_ret ?_
          refine th_ret ?_
          refine bl_ret ?_
          refine th_ret ?_
          refine ret1 E rfl rfl ?_
          refine ⟨_, rfl, ?_, HW.own⟩
          rw [decide_eq_false (same_ne h12)]
        · replace E := E_; clear E_
          have h13 : (List.getD xs (Int.toNat (k : Int)) false) = (List.getD ys (Int.toNat (k : Int)) false) := by simpa using hb_
          clear hb_
          refine c_false E rfl ?_
          refine wp_skip ?_
          refine bl_n ?_
          refine th_n ?_
          refine wp_region_lit ?_
          refine vrun (w := w6) (lp := [(0, .slice (some ⟨b8, o9, none⟩) xs.length c1), (1, .slice (some ⟨b10, o11, none⟩) ys.length c2), (5, .int .i64 ((k : Int) + 1))]) (φ := [IntKind.i64.wrap ((k : Int) + 1) = (k : Int) + 1]) tbok 3 [.int .i64 ((k : Int) + 1)] [0, 1, 5] E (by kernel_rfl) (wrap_i64 (by omega) (by omega)) ?_
          clear E; intro a E
          refine wpList_nil ?_
          refine th_n ⟨xs.length - (k + 1), by omega, ?_⟩
          exact ⟨k + 1, E.pick _ ⟨rfl, rfl, rfl, trivial⟩, HW, (by omega), (same_step hI h13), rfl⟩
      · replace E := E_; clear E_
        have h14 : ¬ ((k : Int) < ((xs.length : Nat) : Int)) := of_decide_eq_false hb_
        clear hb_
        refine c_false E rfl ?_
        refine wp_exit ?_
        refine th_exit ?_
        refine th_exit ?_
        refine bl_hit ?_
        refine th_n ?_
        refine wp_seq ?_
        refine wp_region_lit ?_
        refine vrun (w := w3) (lp := [(4, .bool true)]) (φ := []) tbok 1 [] [4] E (by kernel_rfl) trivial ?_
        clear E; intro a E
        refine wpList_nil ?_
        refine th_n ?_
        refine wp_ret ?_
        refine ret1 E rfl rfl ?_
        refine ⟨_, rfl, ?_, HW.own⟩
        rw [decide_eq_true (same_ext false (by omega) (fun i hi => hI i (by omega)))]

/-! rejoinder/rejoinderkit.SameNodes -/
set_option maxRecDepth 100000 in
theorem SameNodes_calls (A1 A2 : Option Addr) (c1 c2 n1 n2 : Nat) (xs ys : List Nd) (w0 : World) (hn1 : n1 = xs.length) (hn2 : n2 = ys.length) (hl1 : xs.length ≤ 140737488351232) (H1 : C cNode w0 (Lo w0.heap.size) A1 xs) (H2 : C cNode w0 (Lo w0.heap.size) A2 ys) :
    Calls Try.prog 58 #[.slice A1 n1 c1, .slice A2 n2 c2] w0 fun e w' => ∃ v, e = .returned v ∧ (v = .bool (decide (xs = ys)) ∧ Ext w0 w') := by
  have HW : Chg (Hi w0.heap.size) w0 w0 := Chg.refl _ _
  subst hn1 hn2
  refine enterV (n := 26) Try.func58 rfl rfl rfl ?_
  intro a E
  replace E := E.pick [(0, .slice A1 xs.length c1), (1, .slice A2 ys.length c2)] ⟨rfl, rfl, trivial⟩
  refine wp_seq ?_
  refine wp_region_lit ?_
  refine vrun (w := w0) (lp := [(0, .slice A1 xs.length c1), (1, .slice A2 ys.length c2)]) (φ := []) tbok 1 [] [0, 1] E (by kernel_rfl) trivial ?_
  clear E; intro a E
  refine wpList_nil ?_
  refine th_n ?_
  refine wp_seq ?_
  refine wp_seq ?_
  refine wp_region_lit ?_
  refine vrun (w := w0) (lp := [(0, .slice A1 xs.length c1), (1, .slice A2 ys.length c2), (10, .bool ((((xs.length : Nat) : Int) : Int) != ((ys.length : Nat) : Int)))]) (φ := []) tbok 5 [] [0, 1, 10] E (by kernel_rfl) trivial ?_
  clear E; intro a E
  refine wpList_nil ?_
  refine th_n ?_
  refine E.cases (t := 10) rfl (fun hb_ E_ => ?_) (fun hb_ E_ => ?_)
  · replace E := E_; clear E_
    have h1 : ¬ ((((xs.length : Nat) : Int) : Int) = ((ys.length : Nat) : Int)) := bne_iff_ne.1 hb_
    clear hb_
    refine c_true E rfl ?_
    refine wp_seq ?_
    refine wp_region_lit ?_
    refine vrun (w := w0) (lp := [(4, .bool false)]) (φ := []) tbok 1 [] [4] E (by kernel_rfl) trivial ?_
    clear E; intro a E
    refine wpList_nil ?_
    refine th_n ?_
    refine wp_ret ?_
    refine th_ret ?_
    refine ret1 E rfl rfl ?_
    refine ⟨_, rfl, ?_, HW.own⟩
    rw [decide_eq_false (fun e_ => h1 (by rw [e_]))]
  · replace E := E_; clear E_
    have h2 : (((xs.length : Nat) : Int) : Int) = ((ys.length : Nat) : Int) := bne_eq_false_iff_eq.1 hb_
    clear hb_
    refine c_false E rfl ?_
    refine wp_skip ?_
    refine th_n ?_
    refine wp_seq ?_
    refine wp_seq ?_
    refine wp_region_lit ?_
    refine vrun (w := w0) (lp := [(0, .slice A1 xs.length c1), (1, .slice A2 ys.length c2), (5, .int .i64 0)]) (φ := []) tbok 1 [] [0, 1, 5] E (by kernel_rfl) trivial ?_
    clear E; intro a E
    refine wpList_nil ?_
    refine th_n ?_
    refine wp_block ?_
    refine loopV (fun m4 a w3 => ∃ (k : Nat), Fr a 26 [(0, .slice A1 xs.length c1), (1, .slice A2 ys.length c2), (5, .int .i64 (k : Int))] ∧ Chg (Hi w0.heap.size) w0 w3 ∧ (k ≤ xs.length) ∧ (∀ i, i < k → xs.getD i default = ys.getD i default) ∧ m4 = xs.length - k) (xs.length - (0)) ?_ ?_
    · skip
      exact ⟨0, E.pick _ ⟨rfl, rfl, rfl, trivial⟩, HW, (by omega), (fun i hi => absurd hi (by omega)), rfl⟩
    · clear E HW; intro m4 a w3 hI_
      obtain ⟨k, hI_⟩ := hI_
      obtain ⟨E, HW, hk, hI, hm_m4⟩ := hI_
      refine wp_seq ?_
      refine wp_seq ?_
      refine wp_region_lit ?_
      refine vrun (w := w3) (lp := [(0, .slice A1 xs.length c1), (1, .slice A2 ys.length c2), (5, .int .i64 (k : Int)), (14, .bool (decide ((k : Int) < ((xs.length : Nat) : Int))))]) (φ := []) tbok 4 [] [0, 1, 5, 14] E (by kernel_rfl) trivial ?_
      clear E; intro a E
      refine wpList_nil ?_
      refine th_n ?_
      refine E.cases (t := 14) rfl (fun hb_ E_ => ?_) (fun hb_ E_ => ?_)
      · replace E := E_; clear E_
        have h5 : (k : Int) < ((xs.length : Nat) : Int) := of_decide_eq_true hb_
        clear hb_
        refine c_true E rfl ?_
        refine wp_skip ?_
        refine th_n ?_
        refine wp_seq ?_
        refine wp_block ?_
        refine wp_seq ?_
        refine dr_start (S := fun w_ => Chg No w3 w_) (by kernel_rfl) ?_
        intro w6 hc7
        have HWs := HW
        have HS : Chg No w3 w6 := hc7.mono (fun _ _ h_ => h_.elim)
        replace HW := HW.trans hc7 (fun _ _ h_ => h_.elim)
        have hx_19 : 0 ≤ (k : Int) ∧ (k : Int) < ((xs.length : Nat) : Int) := ⟨by omega, by omega⟩
        obtain ⟨b8, o9, e_b8⟩ := H1.addr (by omega)
        subst e_b8
        have hx_23 : 0 ≤ (k : Int) ∧ (k : Int) < ((ys.length : Nat) : Int) := ⟨by omega, by omega⟩
        obtain ⟨b10, o11, e_b10⟩ := H2.addr (by omega)
        subst e_b10
        refine drun (lp := [(0, .slice (some ⟨b8, o9, none⟩) xs.length c1), (1, .slice (some ⟨b10, o11, none⟩) ys.length c2), (5, .int .i64 (k : Int)), (20, .agg #[.int .i64 ((List.getD xs (Int.toNat (k : Int)) default).P), .int .i64 ((List.getD xs (Int.toNat (k : Int)) default).Lo), .int .i64 ((List.getD xs (Int.toNat (k : Int)) default).Hi)]), (24, .agg #[.int .i64 ((List.getD ys (Int.toNat (k : Int)) default).P), .int .i64 ((List.getD ys (Int.toNat (k : Int)) default).Lo), .int .i64 ((List.getD ys (Int.toNat (k : Int)) default).Hi)])]) tbok (by kernel_rfl) [0, 1, 2, 3, 4, 5, 6, 7] [.agg #[.int .i64 ((List.getD xs (Int.toNat (k : Int)) default).P), .int .i64 ((List.getD xs (Int.toNat (k : Int)) default).Lo), .int .i64 ((List.getD xs (Int.toNat (k : Int)) default).Hi)], .agg #[.int .i64 ((List.getD ys (Int.toNat (k : Int)) default).P), .int .i64 ((List.getD ys (Int.toNat (k : Int)) default).Lo), .int .i64 ((List.getD ys (Int.toNat (k : Int)) default).Hi)]] [0, 1, 5, 20, 24] (fun w_ => [0 ≤ (k : Int) ∧ (k : Int) < ((xs.length : Nat) : Int), cellsAt w_ b8 (o9 + (Int.toNat (k : Int)) * 3) [.int .i64 ((List.getD xs (Int.toNat (k : Int)) default).P), .int .i64 ((List.getD xs (Int.toNat (k : Int)) default).Lo), .int .i64 ((List.getD xs (Int.toNat (k : Int)) default).Hi)], 0 ≤ (k : Int) ∧ (k : Int) < ((ys.length : Nat) : Int), cellsAt w_ b10 (o11 + (Int.toNat (k : Int)) * 3) [.int .i64 ((List.getD ys (Int.toNat (k : Int)) default).P), .int .i64 ((List.getD ys (Int.toNat (k : Int)) default).Lo), .int .i64 ((List.getD ys (Int.toNat (k : Int)) default).Hi)]]) (fuel := 1) E (fun _ _ => by kernel_rfl) (fun w_ hS_ => ⟨hx_19, hS_.cellsAt (fun h_ => h_) (C.atP (H1.keep HWs lo_hi) default hx_19.1 hx_19.2), hx_23, hS_.cellsAt (fun h_ => h_) (C.atP (H2.keep HWs lo_hi) default hx_23.1 hx_23.2)⟩) (by kernel_rfl) HS ?_
        clear E; intro a E
        refine wpAnyH_all (rs := [8]) (by kernel_rfl) (by simp) ?_
        refine all1 ?_
        · refine wpOp_of_list rfl ?_
          refine e_eqS E rfl rfl rfl rfl grdNd (eqNd (List.getD xs (Int.toNat (k : Int)) default) (List.getD ys (Int.toNat (k : Int)) default) _) (!decide ((List.getD xs (Int.toNat (k : Int)) default) = (List.getD ys (Int.toNat (k : Int)) default))) (.inr ⟨rfl, rfl⟩) rfl ?_
          clear E; intro a E
          refine wpList_nil ?_
          refine th_n ⟨HS, ?_⟩
          refine dr_done (by kernel_rfl) ?_
          clear HS HWs
          refine th_n ?_
          refine E.cases (t := 25) rfl (fun hb_ E_ => ?_) (fun hb_ E_ => ?_)
          · replace E := E_; clear E_
            have h12 : ¬ ((List.getD xs (Int.toNat (k : Int)) default) = (List.getD ys (Int.toNat (k : Int)) default)) := by simpa using hb_
            clear hb_
            refine c_true E rfl ?_
            refine wp_seq ?_
            refine wp_region_lit ?_
            refine vrun (w := w6) (lp := [(4, .bool false)]) (φ := []) tbok 1 [] [4] E (by kernel_rfl) trivial ?_
            clear E; intro a E
            refine wpList_nil ?_
            refine th_n ?_
            refine wp_ret ?_
            refine bl_ret ?_
            refine th_ret ?_
            refine th_ret ?_
            refine bl_ret ?_
            refine th_ret ?_
            refine ret1 E rfl rfl ?_
            refine ⟨_, rfl, ?_, HW.own⟩
            rw [decide_eq_false (same_ne h12)]
          · replace E := E_; clear E_
            have h13 : (List.getD xs (Int.toNat (k : Int)) default) = (List.getD ys (Int.toNat (k : Int)) default) := by simpa using hb_
            clear hb_
            refine c_false E rfl ?_
            refine wp_skip ?_
            refine bl_n ?_
            refine th_n ?_
            refine wp_region_lit ?_
            refine vrun (w := w6) (lp := [(0, .slice (some ⟨b8, o9, none⟩) xs.length c1), (1, .slice (some ⟨b10, o11, none⟩) ys.length c2), (5, .int .i64 ((k : Int) + 1))]) (φ := [IntKind.i64.wrap ((k : Int) + 1) = (k : Int) + 1]) tbok 3 [.int .i64 ((k : Int) + 1)] [0, 1, 5] E (by kernel_rfl) (wrap_i64 (by omega) (by omega)) ?_
            clear E; intro a E
            refine wpList_nil ?_
            refine th_n ⟨xs.length - (k + 1), by omega, ?_⟩
            exact ⟨k + 1, E.pick _ ⟨rfl, rfl, rfl, trivial⟩, HW, (by omega), (same_step hI h13), rfl⟩
      · replace E := E_; clear E_
        have h14 : ¬ ((k : Int) < ((xs.length : Nat) : Int)) := of_decide_eq_false hb_
        clear hb_
        refine c_false E rfl ?_
        refine wp_exit ?_
        refine th_exit ?_
        refine th_exit ?_
        refine bl_hit ?_
        refine th_n ?_
        refine wp_seq ?_
        refine wp_region_lit ?_
        refine vrun (w := w3) (lp := [(4, .bool true)]) (φ := []) tbok 1 [] [4] E (by kernel_rfl) trivial ?_
        clear E; intro a E
        refine wpList_nil ?_
        refine th_n ?_
        refine wp_ret ?_
        refine ret1 E rfl rfl ?_
        refine ⟨_, rfl, ?_, HW.own⟩
        rw [decide_eq_true (same_ext default (by omega) (fun i hi => hI i (by omega)))]

/-! rejoinder/rejoinderkit.LentInts -/
set_option maxRecDepth 100000 in
theorem LentInts_calls (A1 : Option Addr) (c1 : Nat) (l : List Int) (w0 : World) (hl : l.length ≤ 100000000) (H1 : C (cInt .i64) w0 (Lo w0.heap.size) A1 l) :
    Calls Try.prog 35 #[.slice A1 l.length c1] w0 fun e w' => ∃ v, e = .returned v ∧ ∃ g, v = .slice (some ⟨g, 0, none⟩) l.length (l.length + 3) ∧ w0.heap.size ≤ g ∧ Ext w0 w' ∧ BL (cInt .i64) w' No g 3 (l.length + 3) (lentL l) := by
  have HW : Chg (Hi w0.heap.size) w0 w0 := Chg.refl _ _
  refine enterV (n := 29) Try.func35 rfl rfl rfl ?_
  intro a E
  replace E := E.pick [(0, .slice A1 l.length c1)] ⟨rfl, trivial⟩
  refine wp_seq ?_
  refine wp_region_lit ?_
  refine vrun (w := w0) (lp := [(0, .slice A1 l.length c1)]) (φ := []) tbok 1 [] [0] E (by kernel_rfl) trivial ?_
  clear E; intro a E
  refine wpList_nil ?_
  refine th_n ?_
  refine wp_seq ?_
  refine wp_region_lit ?_
  refine vrun (w := w0) (lp := [(0, .slice A1 l.length c1), (7, .int .i64 (((l.length : Nat) : Int) + 3))]) (φ := [IntKind.i64.wrap (((l.length : Nat) : Int) + 3) = ((l.length : Nat) : Int) + 3]) tbok 3 [.int .i64 (((l.length : Nat) : Int) + 3)] [0, 7] E (by kernel_rfl) (wrap_i64 (by omega) (by omega)) ?_
  clear E; intro a E
  refine e_makeL (cInt .i64) (z := 0) (l.length + 3) (l.length + 3) No E rfl rfl tbok rfl rfl rfl rfl (by omega) (by omega) (by omega) (by show 8 * (l.length + 3) ≤ 281474976710656; omega) (by omega) rfl rfl (fun _ _ => rfl) (fun _ h_ => h_.elim) ?_
  intro w2 g1 a hc3 hg4 L5 E_
  replace E := E_ _ rfl; clear E_
  have hi_g1 : w0.heap.size ≤ g1 := Nat.le_trans HW.size hg4
  replace HW := HW.trans hc3 (fun _ _ h_ => h_.elim)
  refine vrun (w := w2) (lp := [(0, .slice A1 l.length c1), (3, .slice (some ⟨g1, 0, none⟩) (l.length + 3) (l.length + 3))]) (φ := []) tbok 1 [] [0, 3] E (by kernel_rfl) trivial ?_
  clear E; intro a E
  refine wpList_nil ?_
  refine th_n ?_
  refine wp_seq ?_
  refine wp_region_lit ?_
  refine vrun (w := w2) (lp := [(0, .slice A1 l.length c1), (3, .slice (some ⟨g1, 0, none⟩) (l.length + 3) (l.length + 3)), (9, .slice (some ⟨g1, 0, none⟩) (l.length + 3) (l.length + 3)), (10, .slice A1 l.length c1)]) (φ := []) tbok 2 [] [0, 3, 9, 10] E (by kernel_rfl) trivial ?_
  clear E; intro a E
  refine e_copyL (d := (cInt .i64)) (g := g1) E rfl rfl tbok rfl rfl rfl rfl rfl L5 (H1.keep HW lo_hi) Enc.anyF (by omega) (by omega) ?_
  intro w6 a hc7 L5 E_
  replace E := E_ _ rfl; clear E_
  replace HW := HW.trans hc7 (fun _ _ h_ => by subst h_; exact hi_g1)
  refine wpList_nil ?_
  refine th_n ?_
  refine wp_seq ?_
  refine wp_seq ?_
  refine wp_region_lit ?_
  refine vrun (w := w6) (lp := [(0, .slice A1 l.length c1), (3, .slice (some ⟨g1, 0, none⟩) (l.length + 3) (l.length + 3)), (4, .int .i64 ((l.length : Nat) : Int))]) (φ := []) tbok 3 [] [0, 3, 4] E (by kernel_rfl) trivial ?_
  clear E; intro a E
  refine wpList_nil ?_
  refine th_n ?_
  refine wp_block ?_
  refine loopV (fun m9 a w8 => ∃ (k : Nat), Fr a 29 [(0, .slice A1 l.length c1), (3, .slice (some ⟨g1, 0, none⟩) (l.length + 3) (l.length + 3)), (4, .int .i64 (k : Int))] ∧ Chg (Hi w0.heap.size) w0 w8 ∧ BL (cInt .i64) w8 No g1 3 ((l.length + 3)) (lentP l k) ∧ (l.length ≤ k ∧ k ≤ l.length + 3) ∧ m9 = l.length + 3 - k) (l.length + 3 - (l.length)) ?_ ?_
  · skip
    exact ⟨l.length, E.pick _ ⟨rfl, rfl, rfl, trivial⟩, HW, (L5.eq (lentP_start l)), ⟨by omega, by omega⟩, rfl⟩
  · clear E HW; intro m9 a w8 hI_
    obtain ⟨k, hI_⟩ := hI_
    clear L5
    obtain ⟨E, HW, L5, hk, hm_m9⟩ := hI_
    refine wp_seq ?_
    refine wp_seq ?_
    refine wp_region_lit ?_
    refine vrun (w := w8) (lp := [(0, .slice A1 l.length c1), (3, .slice (some ⟨g1, 0, none⟩) (l.length + 3) (l.length + 3)), (4, .int .i64 (k : Int)), (17, .bool (decide ((k : Int) < (((l.length + 3) : Nat) : Int))))]) (φ := []) tbok 4 [] [0, 3, 4, 17] E (by kernel_rfl) trivial ?_
    clear E; intro a E
    refine wpList_nil ?_
    refine th_n ?_
    refine E.cases (t := 17) rfl (fun hb_ E_ => ?_) (fun hb_ E_ => ?_)
    · replace E := E_; clear E_
      have h10 : (k : Int) < (((l.length + 3) : Nat) : Int) := of_decide_eq_true hb_
      clear hb_
      refine c_true E rfl ?_
      refine wp_skip ?_
      refine th_n ?_
      refine wp_seq ?_
      refine wp_block ?_
      refine wp_region_lit ?_
      have hx_24 : 0 ≤ (k : Int) ∧ (k : Int) < (((l.length + 3) : Nat) : Int) := ⟨by omega, by omega⟩
      refine vrun (w := w8) (lp := [(0, .slice A1 l.length c1), (3, .slice (some ⟨g1, 0, none⟩) (l.length + 3) (l.length + 3)), (4, .int .i64 (k : Int)), (23, .int .i64 (7700 + (k : Int))), (24, .pointer (some ⟨g1, 0 + (Int.toNat (k : Int)) * 1, none⟩))]) (φ := [IntKind.i64.wrap (7700 + (k : Int)) = 7700 + (k : Int), 0 ≤ (k : Int) ∧ (k : Int) < (((l.length + 3) : Nat) : Int)]) tbok 5 [.int .i64 (7700 + (k : Int))] [0, 3, 4, 23, 24] E (by kernel_rfl) ⟨wrap_i64 (by omega) (by omega), hx_24⟩ ?_
      clear E; intro a E
      refine e_setL (g := g1) (i := (k : Int)) (7700 + (k : Int)) E rfl rfl rfl rfl tbok rfl L5 rfl rfl ⟨hx_24.1, by have h1_ := hx_24.2; omega⟩ rfl ?_
      clear E; intro w11 a hc12 L5 E
      replace HW := HW.trans hc12 (fun _ _ h_ => by subst h_; exact hi_g1)
      refine wpList_nil ?_
      refine bl_n ?_
      refine th_n ?_
      refine wp_region_lit ?_
      refine vrun (w := w11) (lp := [(0, .slice A1 l.length c1), (3, .slice (some ⟨g1, 0, none⟩) (l.length + 3) (l.length + 3)), (4, .int .i64 ((k : Int) + 1))]) (φ := [IntKind.i64.wrap ((k : Int) + 1) = (k : Int) + 1]) tbok 3 [.int .i64 ((k : Int) + 1)] [0, 3, 4] E (by kernel_rfl) (wrap_i64 (by omega) (by omega)) ?_
      clear E; intro a E
      refine wpList_nil ?_
      refine th_n ⟨l.length + 3 - (k + 1), by omega, ?_⟩
      exact ⟨k + 1, E.pick _ ⟨rfl, rfl, rfl, trivial⟩, HW, (L5.eq (lentP_step l (by omega) (by omega))), ⟨by omega, by omega⟩, rfl⟩
    · replace E := E_; clear E_
      have h13 : ¬ ((k : Int) < (((l.length + 3) : Nat) : Int)) := of_decide_eq_false hb_
      clear hb_
      refine c_false E rfl ?_
      refine wp_exit ?_
      refine th_exit ?_
      refine th_exit ?_
      refine bl_hit ?_
      refine th_n ?_
      refine wp_seq ?_
      refine wp_region_lit ?_
      refine vrun (w := w8) (lp := [(2, .slice (some ⟨g1, 0, none⟩) l.length (l.length + 3))]) (φ := [0 ≤ ((l.length : Nat) : Int) ∧ ((l.length : Nat) : Int) ≤ (((l.length + 3) : Nat) : Int)]) tbok 5 [] [2] E (by kernel_rfl) (⟨by omega, by omega⟩) ?_
      clear E; intro a E
      refine wpList_nil ?_
      refine th_n ?_
      refine wp_ret ?_
      refine ret1 E rfl rfl ?_
      refine ⟨_, rfl, g1, rfl, hi_g1, HW.own, ?_⟩
      obtain rfl : k = l.length + 3 := by omega
      exact L5.eq (lentP_end l)

/-! rejoinder/rejoinderkit.KeptInts -/
set_option maxRecDepth 100000 in
theorem KeptInts_calls (A1 A2 : Option Addr) (c2 : Nat) (l : List Int) (w0 : World) (hl : l.length ≤ 100000000) (H1 : C (cInt .i64) w0 (Lo w0.heap.size) A1 (lentL l)) (H2 : C (cInt .i64) w0 (Lo w0.heap.size) A2 l) :
    Calls Try.prog 45 #[.slice A1 l.length (l.length + 3), .slice A2 l.length c2] w0 fun e w' => ∃ v, e = .returned v ∧ (v = .bool true ∧ Ext w0 w') := by
  have HW : Chg (Hi w0.heap.size) w0 w0 := Chg.refl _ _
  have hq_ := lentL_len l
  refine enterV (n := 23) Try.func45 rfl rfl rfl ?_
  intro a E
  replace E := E.pick [(0, .slice A1 l.length (l.length + 3)), (1, .slice A2 l.length c2)] ⟨rfl, rfl, trivial⟩
  refine wp_seq ?_
  refine wp_region_lit ?_
  refine vrun (w := w0) (lp := [(0, .slice A1 l.length (l.length + 3)), (1, .slice A2 l.length c2)]) (φ := []) tbok 1 [] [0, 1] E (by kernel_rfl) trivial ?_
  clear E; intro a E
  refine wpList_nil ?_
  refine th_n ?_
  refine wp_seq ?_
  refine dr_start (S := fun w_ => Chg No w0 w_) (by kernel_rfl) ?_
  intro w1 hc2
  have HWs := HW
  have HS : Chg No w0 w1 := hc2.mono (fun _ _ h_ => h_.elim)
  replace HW := HW.trans hc2 (fun _ _ h_ => h_.elim)
  refine drun (lp := [(0, .slice A1 l.length (l.length + 3)), (1, .slice A2 l.length c2), (10, .bool ((((l.length : Nat) : Int) : Int) == ((l.length : Nat) : Int)))]) tbok (by kernel_rfl) [0, 1, 2, 3, 4, 5] [] [0, 1, 10] (fun w_ => []) (fuel := 13) E (fun _ _ => by kernel_rfl) (fun w_ hS_ => trivial) (by kernel_rfl) HS ?_
  clear E; intro a E
  refine E.cases (t := 10) rfl (fun hb_ E_ => ?_) (fun hb_ E_ => ?_)
  · replace E := E_; clear E_
    have h3 : (((l.length : Nat) : Int) : Int) = ((l.length : Nat) : Int) := eq_of_beq hb_
    clear hb_
    refine drun (lp := [(10, .bool true), (14, .slice A1 (l.length + 3) (l.length + 3)), (15, .slice A2 l.length c2), (19, .int .i64 (((l.length : Nat) : Int) + 3))]) tbok (by kernel_rfl) [6, 7, 8, 9, 10, 12, 13, 14] [.int .i64 (((l.length : Nat) : Int) + 3)] [10, 14, 15, 19] (fun w_ => [0 ≤ (((l.length + 3) : Nat) : Int) ∧ (((l.length + 3) : Nat) : Int) ≤ (((l.length + 3) : Nat) : Int), IntKind.i64.wrap (((l.length : Nat) : Int) + 3) = ((l.length : Nat) : Int) + 3]) (fuel := 5) E (fun _ _ => by kernel_rfl) (fun w_ hS_ => ⟨⟨by omega, by omega⟩, wrap_i64 (by omega) (by omega)⟩) (by kernel_rfl) HS ?_
    clear E; intro a E
    refine wpAnyH_all (rs := [11]) (by kernel_rfl) (by simp) ?_
    refine all1 ?_
    · refine wpOp_of_list rfl ?_
      refine e_call E rfl rfl Try.func35 rfl rfl rfl (LentInts_calls A2 c2 l _ (by omega) (H2.now HW)) ?_
      intro v7 w8 a hR9 E_
      obtain ⟨g4, rfl, hg5, hc10, L6⟩ := hR9
      replace E := E_ _ rfl; clear E_
      have hi_g4 : w0.heap.size ≤ g4 := Nat.le_trans HW.size hg5
      have hw_g4 : w0.heap.size ≤ g4 := Nat.le_trans HS.size hg5
      replace HS := HS.trans hc10 (fun _ _ h_ => h_.elim)
      replace HW := HW.trans hc10 (fun _ _ h_ => h_.elim)
      refine wpList_nil ?_
      refine th_n ⟨HS, ?_⟩
      refine drun (lp := [(10, .bool true), (14, .slice A1 (l.length + 3) (l.length + 3)), (20, .slice (some ⟨g4, 0, none⟩) (l.length + 3) (l.length + 3))]) tbok (by kernel_rfl) [15] [] [10, 14, 20] (fun w_ => [0 ≤ (((l.length : Nat) : Int) + 3) ∧ (((l.length : Nat) : Int) + 3) ≤ (((l.length + 3) : Nat) : Int)]) (fuel := 3) E (fun _ _ => by kernel_rfl) (fun w_ hS_ => (⟨by omega, by omega⟩)) (by kernel_rfl) HS ?_
      clear E; intro a E
      refine wpAnyH_all (rs := [16]) (by kernel_rfl) (by simp) ?_
      refine all1 ?_
      · refine wpOp_of_list rfl ?_
        refine e_call E rfl rfl Try.func41 rfl rfl rfl (SameInts_calls A1 (some ⟨g4, 0, none⟩) (l.length + 3) (l.length + 3) (l.length + 3) (l.length + 3) (lentL l) (lentL l) _ (by first | rfl | omega) (by have h_ := L6.len; omega) (by omega) (H1.now HW) L6.now) ?_
        intro v11 w12 a hR13 E_
        obtain ⟨rfl, hc14⟩ := hR13
        replace E := E_ _ rfl; clear E_
        replace L6 := L6.chg hc14 (fun h_ => h_) (fun _ _ h_ => h_)
        replace HS := HS.trans hc14 (fun _ _ h_ => h_.elim)
        replace HW := HW.trans hc14 (fun _ _ h_ => h_.elim)
        refine wpList_nil ?_
        refine th_n ⟨HS, ?_⟩
        refine drun (lp := [(4, .bool (decide ((lentL l) = lentL l)))]) tbok (by kernel_rfl) [17, 18] [] [4] (fun w_ => []) (fuel := 0) E (fun _ _ => by kernel_rfl) (fun w_ hS_ => trivial) (by kernel_rfl) HS ?_
        clear E; intro a E
        refine dr_done (by kernel_rfl) ?_
        clear HS HWs
        refine th_n ?_
        refine wp_ret ?_
        refine ret1 E rfl rfl ?_
        refine ⟨_, rfl, ?_, HW.own⟩
        simp
  · replace E := E_; clear E_
    have h15 : ¬ ((((l.length : Nat) : Int) : Int) = ((l.length : Nat) : Int)) := ne_of_beq_false hb_
    clear hb_
    exact absurd rfl h15

/-! rejoinder/rejoinderkit.SameAuto -/
set_option maxRecDepth 100000 in
theorem SameAuto_calls (p0 : Int) (A1 A2 A3 : Option Addr) (c1 c2 c3 : Nat) (acc : List Bool) (gd : List Int) (nodes : List Nd) (p2 : Int) (B1 B2 B3 : Option Addr) (d1 d2 d3 : Nat) (acc2 : List Bool) (gd2 : List Int) (nodes2 : List Nd) (w0 : World) (hl : acc.length ≤ 1000000 ∧ gd.length ≤ 1000000 ∧ nodes.length ≤ 1000000) (H1 : C cBool w0 (Lo w0.heap.size) A1 acc) (H2 : C (cInt .i64) w0 (Lo w0.heap.size) A2 gd) (H3 : C cNode w0 (Lo w0.heap.size) A3 nodes) (J1 : C cBool w0 (Lo w0.heap.size) B1 acc2) (J2 : C (cInt .i64) w0 (Lo w0.heap.size) B2 gd2) (J3 : C cNode w0 (Lo w0.heap.size) B3 nodes2) :
    Calls Try.prog 44 #[.agg #[.int .i64 p0, .slice A1 acc.length c1, .slice A2 gd.length c2, .slice A3 nodes.length c3], .agg #[.int .i64 p2, .slice B1 acc2.length d1, .slice B2 gd2.length d2, .slice B3 nodes2.length d3]] w0 fun e w' => ∃ v, e = .returned v ∧ (v = .bool (decide (p0 = p2 ∧ acc = acc2 ∧ gd = gd2 ∧ nodes = nodes2)) ∧ Ext w0 w') := by
  have HW : Chg (Hi w0.heap.size) w0 w0 := Chg.refl _ _
  refine enterV (n := 31) Try.func44 rfl rfl rfl ?_
  intro a E
  replace E := E.pick [(0, .agg #[.int .i64 p0, .slice A1 acc.length c1, .slice A2 gd.length c2, .slice A3 nodes.length c3]), (1, .agg #[.int .i64 p2, .slice B1 acc2.length d1, .slice B2 gd2.length d2, .slice B3 nodes2.length d3])] ⟨rfl, rfl, trivial⟩
  refine wp_seq ?_
  refine wp_region_lit ?_
  refine e_box E rfl rfl rfl ?_
  intro w2 g1 a hc3 hg4 B5 E_
  replace E := E_ _ rfl; clear E_
  replace B5 : Bx w2 g1 26 [.int .i64 p0, .slice A1 acc.length c1, .slice A2 gd.length c2, .slice A3 nodes.length c3] := B5
  have hi_g1 : w0.heap.size ≤ g1 := Nat.le_trans HW.size hg4
  replace HW := HW.trans hc3 (fun _ _ h_ => h_.elim)
  refine e_box E rfl rfl rfl ?_
  intro w7 g6 a hc8 hg9 B10 E_
  replace E := E_ _ rfl; clear E_
  replace B10 : Bx w7 g6 26 [.int .i64 p2, .slice B1 acc2.length d1, .slice B2 gd2.length d2, .slice B3 nodes2.length d3] := B10
  have hi_g6 : w0.heap.size ≤ g6 := Nat.le_trans HW.size hg9
  have ne_g1_g6 : g1 ≠ g6 := by have h_ := B5.lt; omega
  replace B5 := B5.chg hc8 (fun h_ => h_)
  replace HW := HW.trans hc8 (fun _ _ h_ => h_.elim)
  refine vrun (w := w7) (lp := [(2, .pointer (some ⟨g1, 0, none⟩)), (3, .pointer (some ⟨g6, 0, none⟩))]) (φ := []) tbok 1 [] [2, 3] E (by kernel_rfl) trivial ?_
  clear E; intro a E
  refine wpList_nil ?_
  refine th_n ?_
  refine wp_seq ?_
  refine wp_region_lit ?_
  refine vrun (w := w7) (lp := [(2, .pointer (some ⟨g1, 0, none⟩)), (3, .pointer (some ⟨g6, 0, none⟩)), (10, .bool ((p0 : Int) == p2))]) (φ := [World.cell? w7 ⟨g1, 0, none⟩ = some (.int .i64 p0), World.cell? w7 ⟨g6, 0, none⟩ = some (.int .i64 p2)]) tbok 6 [.int .i64 p0, .int .i64 p2] [2, 3, 10] E (by kernel_rfl) ⟨B5.cell (j := 0) rfl, B10.cell (j := 0) rfl⟩ ?_
  clear E; intro a E
  refine E.cases (t := 10) rfl (fun hb_ E_ => ?_) (fun hb_ E_ => ?_)
  · replace E := E_; clear E_
    have h11 : (p0 : Int) = p2 := eq_of_beq hb_
    clear hb_
    refine vrun (w := w7) (lp := [(2, .pointer (some ⟨g1, 0, none⟩)), (3, .pointer (some ⟨g6, 0, none⟩)), (10, .bool true), (12, .slice A1 acc.length c1), (14, .slice B1 acc2.length d1)]) (φ := [World.cell? w7 ⟨g1, 1, none⟩ = some (.slice A1 acc.length c1), World.cell? w7 ⟨g6, 1, none⟩ = some (.slice B1 acc2.length d1)]) tbok 4 [.slice A1 acc.length c1, .slice B1 acc2.length d1] [2, 3, 10, 12, 14] E (by kernel_rfl) ⟨B5.cell (j := 1) rfl, B10.cell (j := 1) rfl⟩ ?_
    clear E; intro a E
    refine e_call E rfl rfl Try.func57 rfl rfl rfl (SameBools_calls A1 B1 c1 d1 acc.length acc2.length acc acc2 _ (by first | rfl | omega) (by first | rfl | omega) (by omega) (H1.now HW) (J1.now HW)) ?_
    intro v12 w13 a hR14 E_
    obtain ⟨rfl, hc15⟩ := hR14
    replace E := E_ _ rfl; clear E_
    replace B5 := B5.chg hc15 (fun h_ => h_)
    replace B10 := B10.chg hc15 (fun h_ => h_)
    replace HW := HW.trans hc15 (fun _ _ h_ => h_.elim)
    refine vrun (w := w13) (lp := [(2, .pointer (some ⟨g1, 0, none⟩)), (3, .pointer (some ⟨g6, 0, none⟩)), (17, .bool (decide (acc = acc2)))]) (φ := []) tbok 2 [] [2, 3, 17] E (by kernel_rfl) trivial ?_
    clear E; intro a E
    refine E.cases (t := 17) rfl (fun hb_ E_ => ?_) (fun hb_ E_ => ?_)
    · replace E := E_; clear E_
      have h16 : acc = acc2 := of_decide_eq_true hb_
      clear hb_
      refine vrun (w := w13) (lp := [(2, .pointer (some ⟨g1, 0, none⟩)), (3, .pointer (some ⟨g6, 0, none⟩)), (17, .bool true), (19, .slice A2 gd.length c2), (21, .slice B2 gd2.length d2)]) (φ := [World.cell? w13 ⟨g1, 2, none⟩ = some (.slice A2 gd.length c2), World.cell? w13 ⟨g6, 2, none⟩ = some (.slice B2 gd2.length d2)]) tbok 4 [.slice A2 gd.length c2, .slice B2 gd2.length d2] [2, 3, 17, 19, 21] E (by kernel_rfl) ⟨B5.cell (j := 2) rfl, B10.cell (j := 2) rfl⟩ ?_
      clear E; intro a E
      refine e_call E rfl rfl Try.func41 rfl rfl rfl (SameInts_calls A2 B2 c2 d2 gd.length gd2.length gd gd2 _ (by first | rfl | omega) (by first | rfl | omega) (by omega) (H2.now HW) (J2.now HW)) ?_
      intro v17 w18 a hR19 E_
      obtain ⟨rfl, hc20⟩ := hR19
      replace E := E_ _ rfl; clear E_
      replace B5 := B5.chg hc20 (fun h_ => h_)
      replace B10 := B10.chg hc20 (fun h_ => h_)
      replace HW := HW.trans hc20 (fun _ _ h_ => h_.elim)
      refine vrun (w := w18) (lp := [(2, .pointer (some ⟨g1, 0, none⟩)), (3, .pointer (some ⟨g6, 0, none⟩)), (24, .bool (decide (gd = gd2)))]) (φ := []) tbok 2 [] [2, 3, 24] E (by kernel_rfl) trivial ?_
      clear E; intro a E
      refine E.cases (t := 24) rfl (fun hb_ E_ => ?_) (fun hb_ E_ => ?_)
      · replace E := E_; clear E_
        have h21 : gd = gd2 := of_decide_eq_true hb_
        clear hb_
        refine vrun (w := w18) (lp := [(24, .bool true), (26, .slice A3 nodes.length c3), (28, .slice B3 nodes2.length d3)]) (φ := [World.cell? w18 ⟨g1, 3, none⟩ = some (.slice A3 nodes.length c3), World.cell? w18 ⟨g6, 3, none⟩ = some (.slice B3 nodes2.length d3)]) tbok 4 [.slice A3 nodes.length c3, .slice B3 nodes2.length d3] [24, 26, 28] E (by kernel_rfl) ⟨B5.cell (j := 3) rfl, B10.cell (j := 3) rfl⟩ ?_
        clear E; intro a E
        refine e_call E rfl rfl Try.func58 rfl rfl rfl (SameNodes_calls A3 B3 c3 d3 nodes.length nodes2.length nodes nodes2 _ (by first | rfl | omega) (by first | rfl | omega) (by omega) (H3.now HW) (J3.now HW)) ?_
        intro v22 w23 a hR24 E_
        obtain ⟨rfl, hc25⟩ := hR24
        replace E := E_ _ rfl; clear E_
        replace B5 := B5.chg hc25 (fun h_ => h_)
        replace B10 := B10.chg hc25 (fun h_ => h_)
        replace HW := HW.trans hc25 (fun _ _ h_ => h_.elim)
        refine vrun (w := w23) (lp := [(4, .bool (decide (nodes = nodes2)))]) (φ := []) tbok 2 [] [4] E (by kernel_rfl) trivial ?_
        clear E; intro a E
        refine wpList_nil ?_
        refine th_n ?_
        refine wp_ret ?_
        refine ret1 E rfl rfl ?_
        refine ⟨_, rfl, ?_, HW.own⟩
        clear E HW
        simp_all
      · replace E := E_; clear E_
        have h26 : ¬ (gd = gd2) := of_decide_eq_false hb_
        clear hb_
        refine vrun (w := w18) (lp := [(4, .bool false)]) (φ := []) tbok 7 [] [4] E (by kernel_rfl) trivial ?_
        clear E; intro a E
        refine wpList_nil ?_
        refine th_n ?_
        refine wp_ret ?_
        refine ret1 E rfl rfl ?_
        refine ⟨_, rfl, ?_, HW.own⟩
        clear E HW
        simp_all
    · replace E := E_; clear E_
      have h27 : ¬ (acc = acc2) := of_decide_eq_false hb_
      clear hb_
      refine vrun (w := w13) (lp := [(4, .bool false)]) (φ := []) tbok 14 [] [4] E (by kernel_rfl) trivial ?_
      clear E; intro a E
      refine wpList_nil ?_
      refine th_n ?_
      refine wp_ret ?_
      refine ret1 E rfl rfl ?_
      refine ⟨_, rfl, ?_, HW.own⟩
      clear E HW
      simp_all
  · replace E := E_; clear E_
    have h28 : ¬ ((p0 : Int) = p2) := ne_of_beq_false hb_
    clear hb_
    refine vrun (w := w7) (lp := [(4, .bool false)]) (φ := []) tbok 21 [] [4] E (by kernel_rfl) trivial ?_
    clear E; intro a E
    refine wpList_nil ?_
    refine th_n ?_
    refine wp_ret ?_
    refine ret1 E rfl rfl ?_
    refine ⟨_, rfl, ?_, HW.own⟩
    clear E HW
    simp_all

end Go.V
