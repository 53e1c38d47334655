/- Contracts of functions of the program: walks. -/
import Derived.Test.YtllkojpinpojiaaBg
import Derived.Test.YtllkojpinpojiaaK1
import Derived.Test.YtllkojpinpojiaaKl
set_option linter.all false
set_option linter.unusedVariables false
set_option linter.unnecessarySimpa false
set_option linter.unusedSimpArgs false
namespace Go.V
open Go Go.Proofs

/-! rejoinder/rejoinderlaw22.First -/
set_option maxRecDepth 100000 in
theorem First_calls  (w0 : World) :
    Calls Try.prog 31 #[] w0 fun e w' => ∃ v, e = .returned v ∧ ∃ g1 g2 g3, v = .agg #[.int .i64 2, .slice (some ⟨g1, 0, none⟩) 3 3, .slice (some ⟨g2, 0, none⟩) 3 3, .slice (some ⟨g3, 0, none⟩) 1 1] ∧ w0.heap.size ≤ g1 ∧ w0.heap.size ≤ g2 ∧ w0.heap.size ≤ g3 ∧ Ext w0 w' ∧ BL cBool w' No g1 4 3 [false, false, true] ∧ BL (cInt .i64) w' No g2 3 3 [0, -2, -3] ∧ BL cNode w' No g3 63 1 [⟨0, -2, -3⟩] := by
  have HW : Chg (Hi w0.heap.size) w0 w0 := Chg.refl _ _
  refine enterV (n := 6) Try.func31 rfl rfl rfl ?_
  intro a E
  replace E := E.pick [] trivial
  refine wp_seq ?_
  refine wp_region_lit ?_
  refine e_alloc E rfl rfl tbok rfl ?_
  intro w2 g1 a hc3 hg4 B5 E_
  replace E := E_ _ rfl; clear E_
  replace B5 : Bx w2 g1 26 [.int .i64 0, .slice none 0 0, .slice none 0 0, .slice none 0 0] := B5
  have hi_g1 : w0.heap.size ≤ g1 := Nat.le_trans HW.size hg4
  replace HW := HW.trans hc3 (fun _ _ h_ => h_.elim)
  refine wpList_nil ?_
  refine th_n ?_
  refine wp_seq ?_
  refine wp_region_lit ?_
  refine e_buildSlice (ps := [(0, .bool false), (1, .bool false), (2, .bool true)]) (cs := [.bool false, .bool false, .bool true]) E rfl rfl tbok rfl rfl (by kernel_rfl) ?_
  intro w7 g6 a hc8 hg9 B10 E_
  replace E := E_ _ rfl; clear E_
  have hi_g6 : w0.heap.size ≤ g6 := Nat.le_trans HW.size hg9
  have ne_g1_g6 : g1 ≠ g6 := by have h_ := B5.lt; omega
  replace B5 := B5.chg hc8 (fun h_ => h_)
  replace HW := HW.trans hc8 (fun _ _ h_ => h_.elim)
  refine e_buildSlice (ps := [(0, .int .i64 0), (1, .int .i64 (-2)), (2, .int .i64 (-3))]) (cs := [.int .i64 0, .int .i64 (-2), .int .i64 (-3)]) E rfl rfl tbok rfl rfl (by kernel_rfl) ?_
  intro w12 g11 a hc13 hg14 B15 E_
  replace E := E_ _ rfl; clear E_
  have hi_g11 : w0.heap.size ≤ g11 := Nat.le_trans HW.size hg14
  have ne_g1_g11 : g1 ≠ g11 := by have h_ := B5.lt; omega
  have ne_g6_g11 : g6 ≠ g11 := by have h_ := B10.lt; omega
  replace B5 := B5.chg hc13 (fun h_ => h_)
  replace B10 := B10.chg hc13 (fun h_ => h_)
  replace HW := HW.trans hc13 (fun _ _ h_ => h_.elim)
  refine e_build (ps := [(0, .int .i64 0), (1, .int .i64 (-2)), (2, .int .i64 (-3))]) (v := .agg #[.int .i64 0, .int .i64 (-2), .int .i64 (-3)]) E rfl rfl tbok rfl (by kernel_rfl) rfl ?_
  clear E; intro a E
  refine e_buildSlice (ps := [(0, .agg #[.int .i64 0, .int .i64 (-2), .int .i64 (-3)])]) (cs := [.int .i64 0, .int .i64 (-2), .int .i64 (-3)]) E rfl rfl tbok rfl rfl (by kernel_rfl) ?_
  intro w17 g16 a hc18 hg19 B20 E_
  replace E := E_ _ rfl; clear E_
  have hi_g16 : w0.heap.size ≤ g16 := Nat.le_trans HW.size hg19
  have ne_g1_g16 : g1 ≠ g16 := by have h_ := B5.lt; omega
  have ne_g6_g16 : g6 ≠ g16 := by have h_ := B10.lt; omega
  have ne_g11_g16 : g11 ≠ g16 := by have h_ := B15.lt; omega
  replace B5 := B5.chg hc18 (fun h_ => h_)
  replace B10 := B10.chg hc18 (fun h_ => h_)
  replace B15 := B15.chg hc18 (fun h_ => h_)
  replace HW := HW.trans hc18 (fun _ _ h_ => h_.elim)
  refine e_build (ps := [(0, .int .i64 2), (1, .slice (some ⟨g6, 0, none⟩) 3 3), (2, .slice (some ⟨g11, 0, none⟩) 3 3), (3, .slice (some ⟨g16, 0, none⟩) 1 1)]) (v := .agg #[.int .i64 2, .slice (some ⟨g6, 0, none⟩) 3 3, .slice (some ⟨g11, 0, none⟩) 3 3, .slice (some ⟨g16, 0, none⟩) 1 1]) E rfl rfl tbok rfl (by kernel_rfl) rfl ?_
  clear E; intro a E
  refine e_store (g := g1) (off := 0) E rfl rfl rfl rfl tbok rfl B5 rfl rfl rfl rfl ?_
  clear E; intro w21 a hc22 B5 E
  replace B5 : Bx w21 g1 26 [.int .i64 2, .slice (some ⟨g6, 0, none⟩) 3 3, .slice (some ⟨g11, 0, none⟩) 3 3, .slice (some ⟨g16, 0, none⟩) 1 1] := B5
  replace B10 := B10.chg hc22 (fun h_ => ne_g1_g6 h_.symm)
  replace B15 := B15.chg hc22 (fun h_ => ne_g1_g11 h_.symm)
  replace B20 := B20.chg hc22 (fun h_ => ne_g1_g16 h_.symm)
  replace HW := HW.trans hc22 (fun _ _ h_ => by subst h_; exact hi_g1)
  refine wpList_nil ?_
  refine th_n ?_
  refine wp_ret ?_
  refine retV E [.cell 0 26] [.agg #[.int .i64 2, .slice (some ⟨g6, 0, none⟩) 3 3, .slice (some ⟨g11, 0, none⟩) 3 3, .slice (some ⟨g16, 0, none⟩) 1 1]] rfl ⟨⟨_, rfl, run_loadBx tbok B5 rfl rfl rfl 0 rfl rfl⟩, trivial⟩ (.inl rfl) ?_
  exact ⟨_, rfl, g6, g11, g16, rfl, hi_g6, hi_g11, hi_g16, HW.own, ⟨rfl, fun h_ => h_, _, ⟨_, _, rfl, rfl, ⟨_, _, rfl, rfl, ⟨_, _, rfl, rfl, rfl⟩⟩⟩, B10⟩, ⟨rfl, fun h_ => h_, _, ⟨_, _, rfl, rfl, ⟨_, _, rfl, rfl, ⟨_, _, rfl, rfl, rfl⟩⟩⟩, B15⟩, ⟨rfl, fun h_ => h_, _, ⟨_, _, rfl, rfl, rfl⟩, B20⟩⟩

/-! rejoinder/rejoinderlaw22.rows -/
set_option maxRecDepth 100000 in
theorem rows_calls (A1 A2 : Option Addr) (c1 c2 : Nat) (xs ys : List (List Int)) (w0 : World) (hl1 : xs.length ≤ 140737488351232) (H1 : C (cSl (cInt .i64)) w0 (Lo w0.heap.size) A1 xs) (H2 : C (cSl (cInt .i64)) w0 (Lo w0.heap.size) A2 ys) (hB : ∀ l ∈ xs, l.length ≤ 140737488351232) :
    Calls Try.prog 24 #[.slice A1 xs.length c1, .slice A2 ys.length c2] w0 fun e w' => ∃ v, e = .returned v ∧ (v = .bool (decide (xs = ys)) ∧ Ext w0 w') := by
  have HW : Chg (Hi w0.heap.size) w0 w0 := Chg.refl _ _
  refine enterV (n := 27) Try.func24 rfl rfl rfl ?_
  intro a E
  replace E := E.pick [(0, .slice A1 xs.length c1), (1, .slice A2 ys.length c2)] ⟨rfl, rfl, trivial⟩
  refine wp_seq ?_
  refine wp_region_lit ?_
  refine vrun (w := w0) (lp := [(0, .slice A1 xs.length c1), (1, .slice A2 ys.length c2)]) (φ := []) tbok 1 [] [0, 1] E (by kernel_rfl) trivial ?_
  clear E; intro a E
  refine wpList_nil ?_
  refine th_n ?_
  refine wp_seq ?_
  refine wp_seq ?_
  refine wp_region_lit ?_
  refine vrun (w := w0) (lp := [(0, .slice A1 xs.length c1), (1, .slice A2 ys.length c2), (10, .bool ((((xs.length : Nat) : Int) : Int) != ((ys.length : Nat) : Int)))]) (φ := []) tbok 5 [] [0, 1, 10] E (by kernel_rfl) trivial ?_
  clear E; intro a E
  refine wpList_nil ?_
  refine th_n ?_
  refine E.cases (t := 10) rfl (fun hb_ E_ => ?_) (fun hb_ E_ => ?_)
  · replace E := E_; clear E_
    have h1 : ¬ ((((xs.length : Nat) : Int) : Int) = ((ys.length : Nat) : Int)) := bne_iff_ne.1 hb_
    clear hb_
    refine c_true E rfl ?_
    refine wp_seq ?_
    refine wp_region_lit ?_
    refine vrun (w := w0) (lp := [(4, .bool false)]) (φ := []) tbok 1 [] [4] E (by kernel_rfl) trivial ?_
    clear E; intro a E
    refine wpList_nil ?_
    refine th_n ?_
    refine wp_ret ?_
    refine th_ret ?_
    refine ret1 E rfl rfl ?_
    refine ⟨_, rfl, ?_, HW.own⟩
    rw [decide_eq_false (fun e_ => h1 (by rw [e_]))]
  · replace E := E_; clear E_
    have h2 : (((xs.length : Nat) : Int) : Int) = ((ys.length : Nat) : Int) := bne_eq_false_iff_eq.1 hb_
    clear hb_
    refine c_false E rfl ?_
    refine wp_skip ?_
    refine th_n ?_
    refine wp_seq ?_
    refine wp_seq ?_
    refine wp_region_lit ?_
    refine vrun (w := w0) (lp := [(0, .slice A1 xs.length c1), (1, .slice A2 ys.length c2), (5, .int .i64 0)]) (φ := []) tbok 1 [] [0, 1, 5] E (by kernel_rfl) trivial ?_
    clear E; intro a E
    refine wpList_nil ?_
    refine th_n ?_
    refine wp_block ?_
    refine loopV (fun m4 a w3 => ∃ (k : Nat), Fr a 27 [(0, .slice A1 xs.length c1), (1, .slice A2 ys.length c2), (5, .int .i64 (k : Int))] ∧ Chg (Hi w0.heap.size) w0 w3 ∧ (k ≤ xs.length) ∧ (∀ i, i < k → xs.getD i [] = ys.getD i []) ∧ m4 = xs.length - k) (xs.length - (0)) ?_ ?_
    · skip
      exact ⟨0, E.pick _ ⟨rfl, rfl, rfl, trivial⟩, HW, (by omega), (fun i hi => absurd hi (by omega)), rfl⟩
    · clear E HW; intro m4 a w3 hI_
      obtain ⟨k, hI_⟩ := hI_
      obtain ⟨E, HW, hk, hI, hm_m4⟩ := hI_
      refine wp_seq ?_
      refine wp_seq ?_
      refine wp_region_lit ?_
      refine vrun (w := w3) (lp := [(0, .slice A1 xs.length c1), (1, .slice A2 ys.length c2), (5, .int .i64 (k : Int)), (14, .bool (decide ((k : Int) < ((xs.length : Nat) : Int))))]) (φ := []) tbok 4 [] [0, 1, 5, 14] E (by kernel_rfl) trivial ?_
      clear E; intro a E
      refine wpList_nil ?_
      refine th_n ?_
      refine E.cases (t := 14) rfl (fun hb_ E_ => ?_) (fun hb_ E_ => ?_)
      · replace E := E_; clear E_
        have h5 : (k : Int) < ((xs.length : Nat) : Int) := of_decide_eq_true hb_
        clear hb_
        refine c_true E rfl ?_
        refine wp_skip ?_
        refine th_n ?_
        refine wp_seq ?_
        refine wp_block ?_
        refine wp_seq ?_
        refine dr_start (S := fun w_ => Chg No w3 w_) (by kernel_rfl) ?_
        intro w6 hc7
        have HWs := HW
        have HS : Chg No w3 w6 := hc7.mono (fun _ _ h_ => h_.elim)
        replace HW := HW.trans hc7 (fun _ _ h_ => h_.elim)
        have hx_19 : 0 ≤ (k : Int) ∧ (k : Int) < ((xs.length : Nat) : Int) := ⟨by omega, by omega⟩
        obtain ⟨b8, o9, e_b8⟩ := H1.addr (by omega)
        subst e_b8
        obtain ⟨A10, c11, hl12, hk13, C14⟩ := C.atSl (H1.keep HWs lo_hi) hx_19.1 hx_19.2
        have hx_23 : 0 ≤ (k : Int) ∧ (k : Int) < ((ys.length : Nat) : Int) := ⟨by omega, by omega⟩
        obtain ⟨b15, o16, e_b15⟩ := H2.addr (by omega)
        subst e_b15
        obtain ⟨A17, c18, hl19, hk20, C21⟩ := C.atSl (H2.keep HWs lo_hi) hx_23.1 hx_23.2
        refine drun (lp := [(0, .slice (some ⟨b8, o9, none⟩) xs.length c1), (1, .slice (some ⟨b15, o16, none⟩) ys.length c2), (5, .int .i64 (k : Int)), (20, .slice A10 (List.length (List.getD xs (Int.toNat (k : Int)) [])) c11), (24, .slice A17 (List.length (List.getD ys (Int.toNat (k : Int)) [])) c18)]) tbok (by kernel_rfl) [0, 1, 2, 3, 4, 5, 6, 7] [.slice A10 (List.length (List.getD xs (Int.toNat (k : Int)) [])) c11, .slice A17 (List.length (List.getD ys (Int.toNat (k : Int)) [])) c18] [0, 1, 5, 20, 24] (fun w_ => [0 ≤ (k : Int) ∧ (k : Int) < ((xs.length : Nat) : Int), World.cell? w_ ⟨b8, o9 + (Int.toNat (k : Int)) * 1, none⟩ = some (.slice A10 (List.length (List.getD xs (Int.toNat (k : Int)) [])) c11), 0 ≤ (k : Int) ∧ (k : Int) < ((ys.length : Nat) : Int), World.cell? w_ ⟨b15, o16 + (Int.toNat (k : Int)) * 1, none⟩ = some (.slice A17 (List.length (List.getD ys (Int.toNat (k : Int)) [])) c18)]) (fuel := 2) E (fun _ _ => by kernel_rfl) (fun w_ hS_ => ⟨hx_19, hS_.cell (hl12) (fun h_ => h_), hx_23, hS_.cell (hl19) (fun h_ => h_)⟩) (by kernel_rfl) HS ?_
        clear E; intro a E
        replace C14 := C14.keep HS (fun _ _ h_ => h_)
        replace C21 := C21.keep HS (fun _ _ h_ => h_)
        refine wpAnyH_all (rs := [8]) (by kernel_rfl) (by simp) ?_
        refine all1 ?_
        · refine wpOp_of_list rfl ?_
          refine e_call E rfl rfl Try.func41 rfl rfl rfl (SameInts_calls A10 A17 c11 c18 (List.length (List.getD xs (Int.toNat (k : Int)) [])) (List.length (List.getD ys (Int.toNat (k : Int)) [])) (List.getD xs (Int.toNat (k : Int)) []) (List.getD ys (Int.toNat (k : Int)) []) _ (by first | rfl | omega) (by first | rfl | omega) (by first | omega | decide | exact (getD_len hB _)) (C14.mono (lo_lo HW.size)) (C21.mono (lo_lo HW.size))) ?_
          intro v22 w23 a hR24 E_
          obtain ⟨rfl, hc25⟩ := hR24
          replace E := E_ _ rfl; clear E_
          replace C14 := C14.keep hc25 (fun _ _ h_ => h_)
          replace C21 := C21.keep hc25 (fun _ _ h_ => h_)
          replace HS := HS.trans hc25 (fun _ _ h_ => h_.elim)
          replace HW := HW.trans hc25 (fun _ _ h_ => h_.elim)
          refine wpList_nil ?_
          refine th_n ⟨HS, ?_⟩
          refine drun (lp := [(0, .slice (some ⟨b8, o9, none⟩) xs.length c1), (1, .slice (some ⟨b15, o16, none⟩) ys.length c2), (5, .int .i64 (k : Int)), (26, .bool (!decide ((List.getD xs (Int.toNat (k : Int)) []) = (List.getD ys (Int.toNat (k : Int)) []))))]) tbok (by kernel_rfl) [9] [] [0, 1, 5, 26] (fun w_ => []) (fuel := 0) E (fun _ _ => by kernel_rfl) (fun w_ hS_ => trivial) (by kernel_rfl) HS ?_
          clear E; intro a E
          refine dr_done (by kernel_rfl) ?_
          clear HS HWs
          refine th_n ?_
          refine E.cases (t := 26) rfl (fun hb_ E_ => ?_) (fun hb_ E_ => ?_)
          · replace E := E_; clear E_
            have h26 : ¬ ((List.getD xs (Int.toNat (k : Int)) []) = (List.getD ys (Int.toNat (k : Int)) [])) := by simpa using hb_
            clear hb_
            refine c_true E rfl ?_
            refine wp_seq ?_
            refine wp_region_lit ?_
            refine vrun (w := w23) (lp := [(4, .bool false)]) (φ := []) tbok 1 [] [4] E (by kernel_rfl) trivial ?_
            clear E; intro a E
            refine wpList_nil ?_
            refine th_n ?_
            refine wp_ret ?_
            refine bl_ret ?_
            refine th_ret ?_
            refine th_ret ?_
            refine bl_ret ?_
            refine th_ret ?_
            refine ret1 E rfl rfl ?_
            refine ⟨_, rfl, ?_, HW.own⟩
            rw [decide_eq_false (same_ne h26)]
          · replace E := E_; clear E_
            have h27 : (List.getD xs (Int.toNat (k : Int)) []) = (List.getD ys (Int.toNat (k : Int)) []) := by simpa using hb_
            clear hb_
            refine c_false E rfl ?_
            refine wp_skip ?_
            refine bl_n ?_
            refine th_n ?_
            refine wp_region_lit ?_
            refine vrun (w := w23) (lp := [(0, .slice (some ⟨b8, o9, none⟩) xs.length c1), (1, .slice (some ⟨b15, o16, none⟩) ys.length c2), (5, .int .i64 ((k : Int) + 1))]) (φ := [IntKind.i64.wrap ((k : Int) + 1) = (k : Int) + 1]) tbok 3 [.int .i64 ((k : Int) + 1)] [0, 1, 5] E (by kernel_rfl) (wrap_i64 (by omega) (by omega)) ?_
            clear E; intro a E
            refine wpList_nil ?_
            refine th_n ⟨xs.length - (k + 1), by omega, ?_⟩
            exact ⟨k + 1, E.pick _ ⟨rfl, rfl, rfl, trivial⟩, HW, (by omega), (same_step hI h27), rfl⟩
      · replace E := E_; clear E_
        have h28 : ¬ ((k : Int) < ((xs.length : Nat) : Int)) := of_decide_eq_false hb_
        clear hb_
        refine c_false E rfl ?_
        refine wp_exit ?_
        refine th_exit ?_
        refine th_exit ?_
        refine bl_hit ?_
        refine th_n ?_
        refine wp_seq ?_
        refine wp_region_lit ?_
        refine vrun (w := w3) (lp := [(4, .bool true)]) (φ := []) tbok 1 [] [4] E (by kernel_rfl) trivial ?_
        clear E; intro a E
        refine wpList_nil ?_
        refine th_n ?_
        refine wp_ret ?_
        refine ret1 E rfl rfl ?_
        refine ⟨_, rfl, ?_, HW.own⟩
        rw [decide_eq_true (same_ext [] (by omega) (fun i hi => hI i (by omega)))]

/-! rejoinder/rejoinderlaw22.awake -/
set_option maxRecDepth 100000 in
theorem awake_calls  (w0 : World) :
    Calls Try.prog 7 #[] w0 fun e w' => ∃ v, e = .returned v ∧ (v = .bool true ∧ Ext w0 w') := by
  have HW : Chg (Hi w0.heap.size) w0 w0 := Chg.refl _ _
  refine enterV (n := 23) Try.func7 rfl rfl rfl ?_
  intro a E
  replace E := E.pick [] trivial
  refine wp_seq ?_
  refine wp_region_lit ?_
  refine vrun (w := w0) (lp := []) (φ := []) tbok 1 [] [] E (by kernel_rfl) trivial ?_
  clear E; intro a E
  refine wpList_nil ?_
  refine th_n ?_
  refine wp_seq ?_
  refine wp_region_lit ?_
  refine e_call E rfl rfl Try.func31 rfl rfl rfl (First_calls _) ?_
  intro v10 w11 a hR12 E_
  obtain ⟨g1, g2, g3, rfl, hg4, hg5, hg6, hc13, L7, L8, L9⟩ := hR12
  replace E := E_ _ rfl; clear E_
  have hi_g1 : w0.heap.size ≤ g1 := Nat.le_trans HW.size hg4
  have hi_g2 : w0.heap.size ≤ g2 := Nat.le_trans HW.size hg5
  have hi_g3 : w0.heap.size ≤ g3 := Nat.le_trans HW.size hg6
  replace HW := HW.trans hc13 (fun _ _ h_ => h_.elim)
  refine e_build (ps := [(0, .int .u8 1), (1, .int .u8 2)]) (v := .agg #[.int .u8 1, .int .u8 2]) E rfl rfl tbok rfl (by kernel_rfl) rfl ?_
  clear E; intro a E
  refine e_call E rfl rfl Try.func12 rfl rfl rfl (Goes_calls 2 (some ⟨g1, 0, none⟩) (some ⟨g2, 0, none⟩) (some ⟨g3, 0, none⟩) 3 3 1 ([false, false, true]) ([0, -2, -3]) ([⟨0, -2, -3⟩]) 1 2 0 _ (by first | omega | decide) (by first | omega | decide) (by first | omega | decide) L7.now L8.now L9.now (by intro x hx; simp at hx; subst hx; exact ⟨⟨by decide, by decide⟩, ⟨by decide, by decide⟩, ⟨by decide, by decide⟩⟩) (by decide) (by decide) (by decide)) ?_
  intro v19 w20 a hR21 E_
  obtain ⟨A14, c15, Fq16, rfl, hc22, hO17, R18⟩ := hR21
  rw [goes_first] at E_ R18
  replace E := E_ _ rfl; clear E_
  have hOwn := Own.no w0.heap.size w11
  have fz_g1 : ¬ No g1 := fun h_ => h_
  have fz_g2 : ¬ No g2 := fun h_ => h_
  have fz_g3 : ¬ No g3 := fun h_ => h_
  have sp_R18_g1 : ¬ At A14 g1 := fun h_ => by have i_ := R18.hi _ h_; have j_ := L7.lt; unfold Hi at i_; omega
  have sp_R18_g2 : ¬ At A14 g2 := fun h_ => by have i_ := R18.hi _ h_; have j_ := L8.lt; unfold Hi at i_; omega
  have sp_R18_g3 : ¬ At A14 g3 := fun h_ => by have i_ := R18.hi _ h_; have j_ := L9.lt; unfold Hi at i_; omega
  have fz_R18 : ∀ q, At A14 q → ¬ No q := fun q_ h_ f_ => by have i_ := R18.hi q_ h_; have j_ := (hOwn q_ f_).2; unfold Hi at i_; omega
  replace R18 := R18.from_ HW.size
  have hb_ := HW.size
  replace fz_g1 : ¬ (FzF No Fq16) g1 := FzF.no fz_g1 (fun f_ => by have i_ := (hO17 _ f_).1; have j_ := L7.lt; omega)
  replace fz_g2 : ¬ (FzF No Fq16) g2 := FzF.no fz_g2 (fun f_ => by have i_ := (hO17 _ f_).1; have j_ := L8.lt; omega)
  replace fz_g3 : ¬ (FzF No Fq16) g3 := FzF.no fz_g3 (fun f_ => by have i_ := (hO17 _ f_).1; have j_ := L9.lt; omega)
  replace fz_R18 : ∀ q, At A14 q → ¬ (FzF No Fq16) q := FzF.noA fz_R18 (fun q_ h_ => (R18.inv h_).2.2)
  replace R18 := R18.monoF (G := (FzF No Fq16)) (fun _ h_ => Or.inr h_) fz_R18
  replace hOwn := hOwn.step hc22
  replace L7 := L7.chg hc22 (fun h_ => h_) (fun _ _ h_ => h_)
  replace L8 := L8.chg hc22 (fun h_ => h_) (fun _ _ h_ => h_)
  replace L9 := L9.chg hc22 (fun h_ => h_) (fun _ _ h_ => h_)
  replace HW := HW.trans hc22 (fun _ _ h_ => h_.elim)
  replace hOwn := hOwn.addF hO17 hb_ (Nat.le_refl _); clear hb_
  refine vrun (w := w20) (lp := [(1, .slice A14 (List.length [[1, 1], [2, 2]]) c15), (2, .int .i64 0)]) (φ := []) tbok 5 [] [1, 2] E (by kernel_rfl) trivial ?_
  clear E; intro a E
  refine wpList_nil ?_
  refine th_n ?_
  refine wp_seq ?_
  refine wp_region_lit ?_
  refine vrun (w := w20) (lp := [(11, .bool true), (12, .slice A14 (List.length [[1, 1], [2, 2]]) c15)]) (φ := []) tbok 4 [] [11, 12] E (by kernel_rfl) trivial ?_
  clear E; intro a E
  refine e_buildSlice (ps := [(0, .int .i64 1), (1, .int .i64 1)]) (cs := [.int .i64 1, .int .i64 1]) E rfl rfl tbok rfl rfl (by kernel_rfl) ?_
  intro w24 g23 a hc25 hg26 B27 E_
  replace E := E_ _ rfl; clear E_
  have hi_g23 : w0.heap.size ≤ g23 := Nat.le_trans HW.size hg26
  have fz_g23 : ¬ (FzF No Fq16) g23 := hOwn.new hg26
  have ne_g1_g23 : g1 ≠ g23 := by have h_ := L7.lt; omega
  have ne_g2_g23 : g2 ≠ g23 := by have h_ := L8.lt; omega
  have ne_g3_g23 : g3 ≠ g23 := by have h_ := L9.lt; omega
  have sp_R18_g23 := R18.fresh hg26
  replace hOwn := hOwn.step hc25
  replace L7 := L7.chg hc25 (fun h_ => h_) (fun _ _ h_ => h_)
  replace L8 := L8.chg hc25 (fun h_ => h_) (fun _ _ h_ => h_)
  replace L9 := L9.chg hc25 (fun h_ => h_) (fun _ _ h_ => h_)
  replace R18 := R18.keep hc25 (fun _ _ h_ => h_) (fun _ _ h_ => h_)
  replace HW := HW.trans hc25 (fun _ _ h_ => h_.elim)
  refine e_buildSlice (ps := [(0, .int .i64 2), (1, .int .i64 2)]) (cs := [.int .i64 2, .int .i64 2]) E rfl rfl tbok rfl rfl (by kernel_rfl) ?_
  intro w29 g28 a hc30 hg31 B32 E_
  replace E := E_ _ rfl; clear E_
  have hi_g28 : w0.heap.size ≤ g28 := Nat.le_trans HW.size hg31
  have fz_g28 : ¬ (FzF No Fq16) g28 := hOwn.new hg31
  have ne_g1_g28 : g1 ≠ g28 := by have h_ := L7.lt; omega
  have ne_g2_g28 : g2 ≠ g28 := by have h_ := L8.lt; omega
  have ne_g3_g28 : g3 ≠ g28 := by have h_ := L9.lt; omega
  have sp_R18_g28 := R18.fresh hg31
  have ne_g23_g28 : g23 ≠ g28 := by have h_ := B27.lt; omega
  replace hOwn := hOwn.step hc30
  replace L7 := L7.chg hc30 (fun h_ => h_) (fun _ _ h_ => h_)
  replace L8 := L8.chg hc30 (fun h_ => h_) (fun _ _ h_ => h_)
  replace L9 := L9.chg hc30 (fun h_ => h_) (fun _ _ h_ => h_)
  replace R18 := R18.keep hc30 (fun _ _ h_ => h_) (fun _ _ h_ => h_)
  replace B27 := B27.chg hc30 (fun h_ => h_)
  replace HW := HW.trans hc30 (fun _ _ h_ => h_.elim)
  refine e_buildSlice (ps := [(0, .slice (some ⟨g23, 0, none⟩) 2 2), (1, .slice (some ⟨g28, 0, none⟩) 2 2)]) (cs := [.slice (some ⟨g23, 0, none⟩) 2 2, .slice (some ⟨g28, 0, none⟩) 2 2]) E rfl rfl tbok rfl rfl (by kernel_rfl) ?_
  intro w34 g33 a hc35 hg36 B37 E_
  replace E := E_ _ rfl; clear E_
  have hi_g33 : w0.heap.size ≤ g33 := Nat.le_trans HW.size hg36
  have fz_g33 : ¬ (FzF No Fq16) g33 := hOwn.new hg36
  have ne_g1_g33 : g1 ≠ g33 := by have h_ := L7.lt; omega
  have ne_g2_g33 : g2 ≠ g33 := by have h_ := L8.lt; omega
  have ne_g3_g33 : g3 ≠ g33 := by have h_ := L9.lt; omega
  have sp_R18_g33 := R18.fresh hg36
  have ne_g23_g33 : g23 ≠ g33 := by have h_ := B27.lt; omega
  have ne_g28_g33 : g28 ≠ g33 := by have h_ := B32.lt; omega
  replace hOwn := hOwn.step hc35
  replace L7 := L7.chg hc35 (fun h_ => h_) (fun _ _ h_ => h_)
  replace L8 := L8.chg hc35 (fun h_ => h_) (fun _ _ h_ => h_)
  replace L9 := L9.chg hc35 (fun h_ => h_) (fun _ _ h_ => h_)
  replace R18 := R18.keep hc35 (fun _ _ h_ => h_) (fun _ _ h_ => h_)
  replace B27 := B27.chg hc35 (fun h_ => h_)
  replace B32 := B32.chg hc35 (fun h_ => h_)
  replace HW := HW.trans hc35 (fun _ _ h_ => h_.elim)
  refine e_call E rfl rfl Try.func24 rfl rfl rfl (rows_calls A14 (some ⟨g33, 0, none⟩) c15 2 ([[1, 1], [2, 2]]) ([[1, 1], [2, 2]]) _ (by first | omega | decide) (R18.nowF hOwn) (B37.Cx (d := cSl (cInt .i64)) (xs := [[1, 1], [2, 2]]) ⟨_, _, rfl, ⟨_, _, rfl, by decide, (B27.Cx (d := (cInt .i64)) (xs := [1, 1]) ⟨_, _, rfl, rfl, ⟨_, _, rfl, rfl, rfl⟩⟩)⟩, ⟨_, _, rfl, ⟨_, _, rfl, by decide, (B32.Cx (d := (cInt .i64)) (xs := [2, 2]) ⟨_, _, rfl, rfl, ⟨_, _, rfl, rfl, rfl⟩⟩)⟩, rfl⟩⟩) (by decide)) ?_
  intro v38 w39 a hR40 E_
  obtain ⟨rfl, hc41⟩ := hR40
  replace E := E_ _ rfl; clear E_
  replace hOwn := hOwn.step hc41
  replace L7 := L7.chg hc41 (fun h_ => h_) (fun _ _ h_ => h_)
  replace L8 := L8.chg hc41 (fun h_ => h_) (fun _ _ h_ => h_)
  replace L9 := L9.chg hc41 (fun h_ => h_) (fun _ _ h_ => h_)
  replace R18 := R18.keep hc41 (fun _ _ h_ => h_) (fun _ _ h_ => h_)
  replace B27 := B27.chg hc41 (fun h_ => h_)
  replace B32 := B32.chg hc41 (fun h_ => h_)
  replace B37 := B37.chg hc41 (fun h_ => h_)
  replace HW := HW.trans hc41 (fun _ _ h_ => h_.elim)
  refine vrun (w := w39) (lp := [(18, .bool (decide ([[1, 1], [2, 2]] = [[1, 1], [2, 2]])))]) (φ := []) tbok 2 [] [18] E (by kernel_rfl) trivial ?_
  clear E; intro a E
  refine E.cases (t := 18) rfl (fun hb_ E_ => ?_) (fun hb_ E_ => ?_)
  · replace E := E_; clear E_
    have h42 : [[1, 1], [2, 2]] = [[1, 1], [2, 2]] := of_decide_eq_true hb_
    clear hb_
    refine e_call E rfl rfl Try.func13 rfl rfl rfl (Moves_calls 5 _ (by decide)) ?_
    intro v46 w47 a hR48 E_
    obtain ⟨A43, c44, rfl, hc49, R45⟩ := hR48
    rw [moves5] at E_ R45
    replace E := E_ _ rfl; clear E_
    have sp_R45_g1 : ¬ At A43 g1 := fun h_ => by have i_ := R45.hi _ h_; have j_ := L7.lt; unfold Hi at i_; omega
    have sp_R45_g2 : ¬ At A43 g2 := fun h_ => by have i_ := R45.hi _ h_; have j_ := L8.lt; unfold Hi at i_; omega
    have sp_R45_g3 : ¬ At A43 g3 := fun h_ => by have i_ := R45.hi _ h_; have j_ := L9.lt; unfold Hi at i_; omega
    have sp_R18_R45 := R18.fresh2 R45.hi
    have sp_R45_R18 := At.comm sp_R18_R45
    have sp_R45_g23 : ¬ At A43 g23 := fun h_ => by have i_ := R45.hi _ h_; have j_ := B27.lt; unfold Hi at i_; omega
    have sp_R45_g28 : ¬ At A43 g28 := fun h_ => by have i_ := R45.hi _ h_; have j_ := B32.lt; unfold Hi at i_; omega
    have sp_R45_g33 : ¬ At A43 g33 := fun h_ => by have i_ := R45.hi _ h_; have j_ := B37.lt; unfold Hi at i_; omega
    have fz_R45 : ∀ q, At A43 q → ¬ (FzF No Fq16) q := fun q_ h_ f_ => by have i_ := R45.hi q_ h_; have j_ := (hOwn q_ f_).2; unfold Hi at i_; omega
    replace R45 := R45.from_ HW.size
    have hl_R45 := movesV_len 5
    replace hOwn := hOwn.step hc49
    replace L7 := L7.chg hc49 (fun h_ => h_) (fun _ _ h_ => h_)
    replace L8 := L8.chg hc49 (fun h_ => h_) (fun _ _ h_ => h_)
    replace L9 := L9.chg hc49 (fun h_ => h_) (fun _ _ h_ => h_)
    replace R18 := R18.keep hc49 (fun _ _ h_ => h_) (fun _ _ h_ => h_)
    replace B27 := B27.chg hc49 (fun h_ => h_)
    replace B32 := B32.chg hc49 (fun h_ => h_)
    replace B37 := B37.chg hc49 (fun h_ => h_)
    replace HW := HW.trans hc49 (fun _ _ h_ => h_.elim)
    refine e_buildSlice (ps := [(0, .int .u8 0), (1, .int .u8 1), (2, .int .u8 4), (3, .int .u8 5)]) (cs := [.int .u8 0, .int .u8 1, .int .u8 4, .int .u8 5]) E rfl rfl tbok rfl rfl (by kernel_rfl) ?_
    intro w51 g50 a hc52 hg53 B54 E_
    replace E := E_ _ rfl; clear E_
    have hi_g50 : w0.heap.size ≤ g50 := Nat.le_trans HW.size hg53
    have fz_g50 : ¬ (FzF No Fq16) g50 := hOwn.new hg53
    have ne_g1_g50 : g1 ≠ g50 := by have h_ := L7.lt; omega
    have ne_g2_g50 : g2 ≠ g50 := by have h_ := L8.lt; omega
    have ne_g3_g50 : g3 ≠ g50 := by have h_ := L9.lt; omega
    have sp_R18_g50 := R18.fresh hg53
    have ne_g23_g50 : g23 ≠ g50 := by have h_ := B27.lt; omega
    have ne_g28_g50 : g28 ≠ g50 := by have h_ := B32.lt; omega
    have ne_g33_g50 : g33 ≠ g50 := by have h_ := B37.lt; omega
    have sp_R45_g50 := R45.fresh hg53
    replace hOwn := hOwn.step hc52
    replace L7 := L7.chg hc52 (fun h_ => h_) (fun _ _ h_ => h_)
    replace L8 := L8.chg hc52 (fun h_ => h_) (fun _ _ h_ => h_)
    replace L9 := L9.chg hc52 (fun h_ => h_) (fun _ _ h_ => h_)
    replace R18 := R18.keep hc52 (fun _ _ h_ => h_) (fun _ _ h_ => h_)
    replace B27 := B27.chg hc52 (fun h_ => h_)
    replace B32 := B32.chg hc52 (fun h_ => h_)
    replace B37 := B37.chg hc52 (fun h_ => h_)
    replace R45 := R45.keep hc52 (fun _ _ h_ => h_) (fun _ _ h_ => h_)
    replace HW := HW.trans hc52 (fun _ _ h_ => h_.elim)
    refine e_call E rfl rfl Try.func25 rfl rfl rfl (SameLetters_calls A43 (some ⟨g50, 0, none⟩) c44 4 (List.length [0, 1, 4, 5]) 4 ([0, 1, 4, 5]) ([0, 1, 4, 5]) _ (by first | rfl | omega) (by first | rfl | omega) (by first | omega | decide | exact (by decide)) R45.now (B54.Cx (d := (cInt .u8)) (xs := [0, 1, 4, 5]) ⟨_, _, rfl, rfl, ⟨_, _, rfl, rfl, ⟨_, _, rfl, rfl, ⟨_, _, rfl, rfl, rfl⟩⟩⟩⟩)) ?_
    intro v55 w56 a hR57 E_
    obtain ⟨rfl, hc58⟩ := hR57
    replace E := E_ _ rfl; clear E_
    replace hOwn := hOwn.step hc58
    replace L7 := L7.chg hc58 (fun h_ => h_) (fun _ _ h_ => h_)
    replace L8 := L8.chg hc58 (fun h_ => h_) (fun _ _ h_ => h_)
    replace L9 := L9.chg hc58 (fun h_ => h_) (fun _ _ h_ => h_)
    replace R18 := R18.keep hc58 (fun _ _ h_ => h_) (fun _ _ h_ => h_)
    replace B27 := B27.chg hc58 (fun h_ => h_)
    replace B32 := B32.chg hc58 (fun h_ => h_)
    replace B37 := B37.chg hc58 (fun h_ => h_)
    replace R45 := R45.keep hc58 (fun _ _ h_ => h_) (fun _ _ h_ => h_)
    replace B54 := B54.chg hc58 (fun h_ => h_)
    replace HW := HW.trans hc58 (fun _ _ h_ => h_.elim)
    refine vrun (w := w56) (lp := [(0, .bool (decide ([0, 1, 4, 5] = [0, 1, 4, 5])))]) (φ := []) tbok 2 [] [0] E (by kernel_rfl) trivial ?_
    clear E; intro a E
    refine wpList_nil ?_
    refine th_n ?_
    refine wp_ret ?_
    refine ret1 E rfl rfl ?_
    exact ⟨_, rfl, rfl, HW.own⟩
  · replace E := E_; clear E_
    have h59 : ¬ ([[1, 1], [2, 2]] = [[1, 1], [2, 2]]) := of_decide_eq_false hb_
    clear hb_
    exact absurd rfl h59

end Go.V
