/- Contracts of functions of the program: walks. -/
import Derived.Test.YtldcmipgdacecaaFa
import Derived.Test.YtldcmipgdacecaaKl
set_option linter.all false
set_option linter.unusedVariables false
set_option linter.unnecessarySimpa false
set_option linter.unusedSimpArgs false
namespace Go.V
open Go Go.Proofs

/-! rejoinder/rejoinderlaw28.NearFar -/
set_option maxRecDepth 100000 in
theorem law_calls (A B : Option Addr) (c d : Nat) (xs ys : List Int) (w0 : World) (hl : xs.length ≤ 9223372036854775807) (hm : ys.length ≤ 9223372036854775807) (H : C (cInt .u8) w0 (Lo w0.heap.size) A xs) (J : C (cInt .u8) w0 (Lo w0.heap.size) B ys) (hX : ∀ x ∈ xs, 0 ≤ x ∧ x ≤ 255) (hY : ∀ x ∈ ys, 0 ≤ x ∧ x ≤ 255) :
    Calls Try.prog 3 #[.slice A xs.length c, .slice B ys.length d] w0 fun e w' => ∃ v, e = .returned v ∧ (v = .bool true ∧ Ext w0 w') := by
  have HW : Chg (Hi w0.heap.size) w0 w0 := Chg.refl _ _
  refine enterV (n := 73) Try.func3 rfl rfl rfl ?_
  intro a E
  replace E := E.pick [(0, .slice A xs.length c), (1, .slice B ys.length d)] ⟨rfl, rfl, trivial⟩
  refine wp_seq ?_
  refine wp_region_lit ?_
  refine vrun (w := w0) (lp := [(0, .slice A xs.length c), (1, .slice B ys.length d)]) (φ := []) tbok 1 [] [0, 1] E (by kernel_rfl) trivial ?_
  clear E; intro a E
  refine wpList_nil ?_
  refine th_n ?_
  refine wp_seq ?_
  refine wp_seq ?_
  refine wp_region_lit ?_
  refine vrun (w := w0) (lp := [(0, .slice A xs.length c), (1, .slice B ys.length d), (14, .bool (decide (60 < ((xs.length : Nat) : Int))))]) (φ := []) tbok 4 [] [0, 1, 14] E (by kernel_rfl) trivial ?_
  clear E; intro a E
  refine E.cases (t := 14) rfl (fun hb_ E_ => ?_) (fun hb_ E_ => ?_)
  · replace E := E_; clear E_
    have h1 : 60 < ((xs.length : Nat) : Int) := of_decide_eq_true hb_
    clear hb_
    refine vrun (w := w0) (lp := [(0, .slice A xs.length c), (1, .slice B ys.length d), (19, .bool (decide (((xs.length : Nat) : Int) ≤ 1024)))]) (φ := []) tbok 5 [] [0, 1, 19] E (by kernel_rfl) trivial ?_
    clear E; intro a E
    refine E.cases (t := 19) rfl (fun hb_ E_ => ?_) (fun hb_ E_ => ?_)
    · replace E := E_; clear E_
      have h2 : ((xs.length : Nat) : Int) ≤ 1024 := of_decide_eq_true hb_
      clear hb_
      refine vrun (w := w0) (lp := [(0, .slice A xs.length c), (1, .slice B ys.length d), (38, .bool true)]) (φ := []) tbok 19 [] [0, 1, 38] E (by kernel_rfl) trivial ?_
      clear E; intro a E
      refine wpList_nil ?_
      refine th_n ?_
      refine c_true E rfl ?_
      refine wp_seq ?_
      refine wp_region_lit ?_
      refine vrun (w := w0) (lp := [(4, .bool true)]) (φ := []) tbok 1 [] [4] E (by kernel_rfl) trivial ?_
      clear E; intro a E
      refine wpList_nil ?_
      refine th_n ?_
      refine wp_ret ?_
      refine th_ret ?_
      refine ret1 E rfl rfl ?_
      exact ⟨_, rfl, rfl, HW.own⟩
    · replace E := E_; clear E_
      have h3 : ¬ (((xs.length : Nat) : Int) ≤ 1024) := of_decide_eq_false hb_
      clear hb_
      refine vrun (w := w0) (lp := [(0, .slice A xs.length c), (1, .slice B ys.length d), (19, .bool false), (23, .bool (decide (60 < ((ys.length : Nat) : Int))))]) (φ := []) tbok 4 [] [0, 1, 19, 23] E (by kernel_rfl) trivial ?_
      clear E; intro a E
      refine E.cases (t := 23) rfl (fun hb_ E_ => ?_) (fun hb_ E_ => ?_)
      · replace E := E_; clear E_
        have h4 : 60 < ((ys.length : Nat) : Int) := of_decide_eq_true hb_
        clear hb_
        refine vrun (w := w0) (lp := [(0, .slice A xs.length c), (1, .slice B ys.length d), (29, .bool (decide (((ys.length : Nat) : Int) ≤ 1024)))]) (φ := []) tbok 6 [] [0, 1, 29] E (by kernel_rfl) trivial ?_
        clear E; intro a E
        refine E.cases (t := 29) rfl (fun hb_ E_ => ?_) (fun hb_ E_ => ?_)
        · replace E := E_; clear E_
          have h5 : ((ys.length : Nat) : Int) ≤ 1024 := of_decide_eq_true hb_
          clear hb_
          refine vrun (w := w0) (lp := [(0, .slice A xs.length c), (1, .slice B ys.length d), (38, .bool true)]) (φ := []) tbok 9 [] [0, 1, 38] E (by kernel_rfl) trivial ?_
          clear E; intro a E
          refine wpList_nil ?_
          refine th_n ?_
          refine c_true E rfl ?_
          refine wp_seq ?_
          refine wp_region_lit ?_
          refine vrun (w := w0) (lp := [(4, .bool true)]) (φ := []) tbok 1 [] [4] E (by kernel_rfl) trivial ?_
          clear E; intro a E
          refine wpList_nil ?_
          refine th_n ?_
          refine wp_ret ?_
          refine th_ret ?_
          refine ret1 E rfl rfl ?_
          exact ⟨_, rfl, rfl, HW.own⟩
        · replace E := E_; clear E_
          have h6 : ¬ (((ys.length : Nat) : Int) ≤ 1024) := of_decide_eq_false hb_
          clear hb_
          refine vrun (w := w0) (lp := [(0, .slice A xs.length c), (1, .slice B ys.length d), (34, .bool (decide (1033 < ((xs.length : Nat) : Int))))]) (φ := []) tbok 5 [] [0, 1, 34] E (by kernel_rfl) trivial ?_
          clear E; intro a E
          refine E.cases (t := 34) rfl (fun hb_ E_ => ?_) (fun hb_ E_ => ?_)
          · replace E := E_; clear E_
            have h7 : 1033 < ((xs.length : Nat) : Int) := of_decide_eq_true hb_
            clear hb_
            refine vrun (w := w0) (lp := [(0, .slice A xs.length c), (1, .slice B ys.length d), (38, .bool true)]) (φ := []) tbok 4 [] [0, 1, 38] E (by kernel_rfl) trivial ?_
            clear E; intro a E
            refine wpList_nil ?_
            refine th_n ?_
            refine c_true E rfl ?_
            refine wp_seq ?_
            refine wp_region_lit ?_
            refine vrun (w := w0) (lp := [(4, .bool true)]) (φ := []) tbok 1 [] [4] E (by kernel_rfl) trivial ?_
            clear E; intro a E
            refine wpList_nil ?_
            refine th_n ?_
            refine wp_ret ?_
            refine th_ret ?_
            refine ret1 E rfl rfl ?_
            exact ⟨_, rfl, rfl, HW.own⟩
          · replace E := E_; clear E_
            have h8 : ¬ (1033 < ((xs.length : Nat) : Int)) := of_decide_eq_false hb_
            clear hb_
            refine vrun (w := w0) (lp := [(0, .slice A xs.length c), (1, .slice B ys.length d), (38, .bool (decide (1033 < ((ys.length : Nat) : Int))))]) (φ := []) tbok 4 [] [0, 1, 38] E (by kernel_rfl) trivial ?_
            clear E; intro a E
            refine wpList_nil ?_
            refine th_n ?_
            refine E.cases (t := 38) rfl (fun hb_ E_ => ?_) (fun hb_ E_ => ?_)
            · replace E := E_; clear E_
              have h9 : 1033 < ((ys.length : Nat) : Int) := of_decide_eq_true hb_
              clear hb_
              refine c_true E rfl ?_
              refine wp_seq ?_
              refine wp_region_lit ?_
              refine vrun (w := w0) (lp := [(4, .bool true)]) (φ := []) tbok 1 [] [4] E (by kernel_rfl) trivial ?_
              clear E; intro a E
              refine wpList_nil ?_
              refine th_n ?_
              refine wp_ret ?_
              refine th_ret ?_
              refine ret1 E rfl rfl ?_
              exact ⟨_, rfl, rfl, HW.own⟩
            · replace E := E_; clear E_
              have h10 : ¬ (1033 < ((ys.length : Nat) : Int)) := of_decide_eq_false hb_
              clear hb_
              refine c_false E rfl ?_
              refine wp_skip ?_
              refine th_n ?_
              refine wp_seq ?_
              refine wp_region_lit ?_
              refine vrun (w := w0) (lp := [(0, .slice A xs.length c), (1, .slice B ys.length d), (39, .slice A xs.length c)]) (φ := []) tbok 1 [] [0, 1, 39] E (by kernel_rfl) trivial ?_
              clear E; intro a E
              refine e_call E rfl rfl Try.func8 rfl rfl rfl (LentLetters_calls A c xs _ (by omega) (H.now HW)) ?_
              intro v14 w15 a hR16 E_
              obtain ⟨g11, rfl, hg12, hc17, L13⟩ := hR16
              replace E := E_ _ rfl; clear E_
              have hi_g11 : w0.heap.size ≤ g11 := Nat.le_trans HW.size hg12
              replace HW := HW.trans hc17 (fun _ _ h_ => h_.elim)
              refine vrun (w := w15) (lp := [(0, .slice A xs.length c), (1, .slice B ys.length d), (40, .slice (some ⟨g11, 0, none⟩) xs.length (xs.length + 3)), (41, .slice B ys.length d)]) (φ := []) tbok 1 [] [0, 1, 40, 41] E (by kernel_rfl) trivial ?_
              clear E; intro a E
              refine e_call E rfl rfl Try.func8 rfl rfl rfl (LentLetters_calls B d ys _ (by omega) (J.now HW)) ?_
              intro v21 w22 a hR23 E_
              obtain ⟨g18, rfl, hg19, hc24, L20⟩ := hR23
              replace E := E_ _ rfl; clear E_
              have hi_g18 : w0.heap.size ≤ g18 := Nat.le_trans HW.size hg19
              have ne_g11_g18 : g11 ≠ g18 := by have h_ := L13.lt; omega
              replace L13 := L13.chg hc24 (fun h_ => h_) (fun _ _ h_ => h_)
              replace HW := HW.trans hc24 (fun _ _ h_ => h_.elim)
              refine vrun (w := w22) (lp := [(0, .slice A xs.length c), (1, .slice B ys.length d), (5, .slice (some ⟨g11, 0, none⟩) xs.length (xs.length + 3)), (6, .slice (some ⟨g18, 0, none⟩) ys.length (ys.length + 3))]) (φ := []) tbok 2 [] [0, 1, 5, 6] E (by kernel_rfl) trivial ?_
              clear E; intro a E
              refine wpList_nil ?_
              refine th_n ?_
              refine wp_seq ?_
              refine wp_region_lit ?_
              refine vrun (w := w22) (lp := [(0, .slice A xs.length c), (1, .slice B ys.length d), (5, .slice (some ⟨g11, 0, none⟩) xs.length (xs.length + 3)), (6, .slice (some ⟨g18, 0, none⟩) ys.length (ys.length + 3)), (44, .slice (some ⟨g11, 0, none⟩) xs.length (xs.length + 3)), (45, .slice (some ⟨g18, 0, none⟩) ys.length (ys.length + 3))]) (φ := []) tbok 2 [] [0, 1, 5, 6, 44, 45] E (by kernel_rfl) trivial ?_
              clear E; intro a E
              refine e_call E rfl rfl Try.func9 rfl rfl rfl (Far_calls (some ⟨g11, 0, none⟩) (some ⟨g18, 0, none⟩) (xs.length + 3) (ys.length + 3) xs ys _ (by omega) (by omega) (lentM_view L13.now) (lentM_view L20.now) hX hY) ?_
              intro v25 w26 a hR27 E_
              obtain ⟨rfl, hc28⟩ := hR27
              replace E := E_ _ rfl; clear E_
              replace L13 := L13.chg hc28 (fun h_ => h_) (fun _ _ h_ => h_)
              replace L20 := L20.chg hc28 (fun h_ => h_) (fun _ _ h_ => h_)
              replace HW := HW.trans hc28 (fun _ _ h_ => h_.elim)
              refine vrun (w := w26) (lp := [(0, .slice A xs.length c), (1, .slice B ys.length d), (5, .slice (some ⟨g11, 0, none⟩) xs.length (xs.length + 3)), (6, .slice (some ⟨g18, 0, none⟩) ys.length (ys.length + 3)), (7, .int .i64 ((farV xs ys).1)), (8, .int .i64 ((farV xs ys).2))]) (φ := []) tbok 5 [] [0, 1, 5, 6, 7, 8] E (by kernel_rfl) trivial ?_
              clear E; intro a E
              refine wpList_nil ?_
              refine th_n ?_
              refine wp_seq ?_
              refine wp_region_lit ?_
              refine vrun (w := w26) (lp := [(0, .slice A xs.length c), (1, .slice B ys.length d), (5, .slice (some ⟨g11, 0, none⟩) xs.length (xs.length + 3)), (6, .slice (some ⟨g18, 0, none⟩) ys.length (ys.length + 3)), (7, .int .i64 ((farV xs ys).1)), (8, .int .i64 ((farV xs ys).2)), (50, .slice A xs.length c), (51, .slice B ys.length d)]) (φ := []) tbok 2 [] [0, 1, 5, 6, 7, 8, 50, 51] E (by kernel_rfl) trivial ?_
              clear E; intro a E
              refine e_call E rfl rfl Try.func10 rfl rfl rfl (rFar_calls A B c d xs ys _ (by omega) (by omega) (H.now HW) (J.now HW) hX hY) ?_
              intro v29 w30 a hR31 E_
              obtain ⟨rfl, hc32⟩ := hR31
              replace E := E_ _ rfl; clear E_
              replace L13 := L13.chg hc32 (fun h_ => h_) (fun _ _ h_ => h_)
              replace L20 := L20.chg hc32 (fun h_ => h_) (fun _ _ h_ => h_)
              replace HW := HW.trans hc32 (fun _ _ h_ => h_.elim)
              refine vrun (w := w30) (lp := [(0, .slice A xs.length c), (1, .slice B ys.length d), (5, .slice (some ⟨g11, 0, none⟩) xs.length (xs.length + 3)), (6, .slice (some ⟨g18, 0, none⟩) ys.length (ys.length + 3)), (7, .int .i64 ((farV xs ys).1)), (8, .int .i64 ((farV xs ys).2)), (9, .int .i64 ((farV xs ys).1)), (10, .int .i64 ((farV xs ys).2))]) (φ := []) tbok 5 [] [0, 1, 5, 6, 7, 8, 9, 10] E (by kernel_rfl) trivial ?_
              clear E; intro a E
              refine wpList_nil ?_
              refine th_n ?_
              refine wp_seq ?_
              refine wp_region_lit ?_
              refine vrun (w := w30) (lp := [(0, .slice A xs.length c), (1, .slice B ys.length d), (5, .slice (some ⟨g11, 0, none⟩) xs.length (xs.length + 3)), (6, .slice (some ⟨g18, 0, none⟩) ys.length (ys.length + 3)), (8, .int .i64 ((farV xs ys).2)), (10, .int .i64 ((farV xs ys).2)), (58, .bool (((farV xs ys).1 : Int) == ((farV xs ys).1)))]) (φ := []) tbok 4 [] [0, 1, 5, 6, 8, 10, 58] E (by kernel_rfl) trivial ?_
              clear E; intro a E
              refine E.cases (t := 58) rfl (fun hb_ E_ => ?_) (fun hb_ E_ => ?_)
              · replace E := E_; clear E_
                have h33 : ((farV xs ys).1 : Int) = (farV xs ys).1 := eq_of_beq hb_
                clear hb_
                refine vrun (w := w30) (lp := [(0, .slice A xs.length c), (1, .slice B ys.length d), (5, .slice (some ⟨g11, 0, none⟩) xs.length (xs.length + 3)), (6, .slice (some ⟨g18, 0, none⟩) ys.length (ys.length + 3)), (63, .bool (((farV xs ys).2 : Int) == ((farV xs ys).2)))]) (φ := []) tbok 5 [] [0, 1, 5, 6, 63] E (by kernel_rfl) trivial ?_
                clear E; intro a E
                refine E.cases (t := 63) rfl (fun hb_ E_ => ?_) (fun hb_ E_ => ?_)
                · replace E := E_; clear E_
                  have h34 : ((farV xs ys).2 : Int) = (farV xs ys).2 := eq_of_beq hb_
                  clear hb_
                  refine vrun (w := w30) (lp := [(1, .slice B ys.length d), (6, .slice (some ⟨g18, 0, none⟩) ys.length (ys.length + 3)), (63, .bool true), (64, .slice (some ⟨g11, 0, none⟩) xs.length (xs.length + 3)), (65, .slice A xs.length c)]) (φ := []) tbok 2 [] [1, 6, 63, 64, 65] E (by kernel_rfl) trivial ?_
                  clear E; intro a E
                  refine e_call E rfl rfl Try.func11 rfl rfl rfl (KeptLetters_calls (some ⟨g11, 0, none⟩) A c xs _ (by omega) L13.now (H.now HW)) ?_
                  intro v35 w36 a hR37 E_
                  obtain ⟨rfl, hc38⟩ := hR37
                  replace E := E_ _ rfl; clear E_
                  replace L13 := L13.chg hc38 (fun h_ => h_) (fun _ _ h_ => h_)
                  replace L20 := L20.chg hc38 (fun h_ => h_) (fun _ _ h_ => h_)
                  replace HW := HW.trans hc38 (fun _ _ h_ => h_.elim)
                  refine vrun (w := w36) (lp := [(68, .bool true), (69, .slice (some ⟨g18, 0, none⟩) ys.length (ys.length + 3)), (70, .slice B ys.length d)]) (φ := []) tbok 4 [] [68, 69, 70] E (by kernel_rfl) trivial ?_
                  clear E; intro a E
                  refine e_call E rfl rfl Try.func11 rfl rfl rfl (KeptLetters_calls (some ⟨g18, 0, none⟩) B d ys _ (by omega) L20.now (J.now HW)) ?_
                  intro v39 w40 a hR41 E_
                  obtain ⟨rfl, hc42⟩ := hR41
                  replace E := E_ _ rfl; clear E_
                  replace L13 := L13.chg hc42 (fun h_ => h_) (fun _ _ h_ => h_)
                  replace L20 := L20.chg hc42 (fun h_ => h_) (fun _ _ h_ => h_)
                  replace HW := HW.trans hc42 (fun _ _ h_ => h_.elim)
                  refine vrun (w := w40) (lp := [(4, .bool true)]) (φ := []) tbok 2 [] [4] E (by kernel_rfl) trivial ?_
                  clear E; intro a E
                  refine wpList_nil ?_
                  refine th_n ?_
                  refine wp_ret ?_
                  refine ret1 E rfl rfl ?_
                  exact ⟨_, rfl, rfl, HW.own⟩
                · replace E := E_; clear E_
                  have h43 : ¬ (((farV xs ys).2 : Int) = (farV xs ys).2) := ne_of_beq_false hb_
                  clear hb_
                  exact absurd rfl h43
              · replace E := E_; clear E_
                have h44 : ¬ (((farV xs ys).1 : Int) = (farV xs ys).1) := ne_of_beq_false hb_
                clear hb_
                exact absurd rfl h44
      · replace E := E_; clear E_
        have h45 : ¬ (60 < ((ys.length : Nat) : Int)) := of_decide_eq_false hb_
        clear hb_
        refine vrun (w := w0) (lp := [(0, .slice A xs.length c), (1, .slice B ys.length d), (34, .bool (decide (1033 < ((xs.length : Nat) : Int))))]) (φ := []) tbok 11 [] [0, 1, 34] E (by kernel_rfl) trivial ?_
        clear E; intro a E
        refine E.cases (t := 34) rfl (fun hb_ E_ => ?_) (fun hb_ E_ => ?_)
        · replace E := E_; clear E_
          have h46 : 1033 < ((xs.length : Nat) : Int) := of_decide_eq_true hb_
          clear hb_
          refine vrun (w := w0) (lp := [(0, .slice A xs.length c), (1, .slice B ys.length d), (38, .bool true)]) (φ := []) tbok 4 [] [0, 1, 38] E (by kernel_rfl) trivial ?_
          clear E; intro a E
          refine wpList_nil ?_
          refine th_n ?_
          refine c_true E rfl ?_
          refine wp_seq ?_
          refine wp_region_lit ?_
          refine vrun (w := w0) (lp := [(4, .bool true)]) (φ := []) tbok 1 [] [4] E (by kernel_rfl) trivial ?_
          clear E; intro a E
          refine wpList_nil ?_
          refine th_n ?_
          refine wp_ret ?_
          refine th_ret ?_
          refine ret1 E rfl rfl ?_
          exact ⟨_, rfl, rfl, HW.own⟩
        · replace E := E_; clear E_
          have h47 : ¬ (1033 < ((xs.length : Nat) : Int)) := of_decide_eq_false hb_
          clear hb_
          refine vrun (w := w0) (lp := [(0, .slice A xs.length c), (1, .slice B ys.length d), (38, .bool (decide (1033 < ((ys.length : Nat) : Int))))]) (φ := []) tbok 4 [] [0, 1, 38] E (by kernel_rfl) trivial ?_
          clear E; intro a E
          refine wpList_nil ?_
          refine th_n ?_
          refine E.cases (t := 38) rfl (fun hb_ E_ => ?_) (fun hb_ E_ => ?_)
          · replace E := E_; clear E_
            have h48 : 1033 < ((ys.length : Nat) : Int) := of_decide_eq_true hb_
            clear hb_
            refine c_true E rfl ?_
            refine wp_seq ?_
            refine wp_region_lit ?_
            refine vrun (w := w0) (lp := [(4, .bool true)]) (φ := []) tbok 1 [] [4] E (by kernel_rfl) trivial ?_
            clear E; intro a E
            refine wpList_nil ?_
            refine th_n ?_
            refine wp_ret ?_
            refine th_ret ?_
            refine ret1 E rfl rfl ?_
            exact ⟨_, rfl, rfl, HW.own⟩
          · replace E := E_; clear E_
            have h49 : ¬ (1033 < ((ys.length : Nat) : Int)) := of_decide_eq_false hb_
            clear hb_
            refine c_false E rfl ?_
            refine wp_skip ?_
            refine th_n ?_
            refine wp_seq ?_
            refine wp_region_lit ?_
            refine vrun (w := w0) (lp := [(0, .slice A xs.length c), (1, .slice B ys.length d), (39, .slice A xs.length c)]) (φ := []) tbok 1 [] [0, 1, 39] E (by kernel_rfl) trivial ?_
            clear E; intro a E
            refine e_call E rfl rfl Try.func8 rfl rfl rfl (LentLetters_calls A c xs _ (by omega) (H.now HW)) ?_
            intro v53 w54 a hR55 E_
            obtain ⟨g50, rfl, hg51, hc56, L52⟩ := hR55
            replace E := E_ _ rfl; clear E_
            have hi_g50 : w0.heap.size ≤ g50 := Nat.le_trans HW.size hg51
            replace HW := HW.trans hc56 (fun _ _ h_ => h_.elim)
            refine vrun (w := w54) (lp := [(0, .slice A xs.length c), (1, .slice B ys.length d), (40, .slice (some ⟨g50, 0, none⟩) xs.length (xs.length + 3)), (41, .slice B ys.length d)]) (φ := []) tbok 1 [] [0, 1, 40, 41] E (by kernel_rfl) trivial ?_
            clear E; intro a E
            refine e_call E rfl rfl Try.func8 rfl rfl rfl (LentLetters_calls B d ys _ (by omega) (J.now HW)) ?_
            intro v60 w61 a hR62 E_
            obtain ⟨g57, rfl, hg58, hc63, L59⟩ := hR62
            replace E := E_ _ rfl; clear E_
            have hi_g57 : w0.heap.size ≤ g57 := Nat.le_trans HW.size hg58
            have ne_g50_g57 : g50 ≠ g57 := by have h_ := L52.lt; omega
            replace L52 := L52.chg hc63 (fun h_ => h_) (fun _ _ h_ => h_)
            replace HW := HW.trans hc63 (fun _ _ h_ => h_.elim)
            refine vrun (w := w61) (lp := [(0, .slice A xs.length c), (1, .slice B ys.length d), (5, .slice (some ⟨g50, 0, none⟩) xs.length (xs.length + 3)), (6, .slice (some ⟨g57, 0, none⟩) ys.length (ys.length + 3))]) (φ := []) tbok 2 [] [0, 1, 5, 6] E (by kernel_rfl) trivial ?_
            clear E; intro a E
            refine wpList_nil ?_
            refine th_n ?_
            refine wp_seq ?_
            refine wp_region_lit ?_
            refine vrun (w := w61) (lp := [(0, .slice A xs.length c), (1, .slice B ys.length d), (5, .slice (some ⟨g50, 0, none⟩) xs.length (xs.length + 3)), (6, .slice (some ⟨g57, 0, none⟩) ys.length (ys.length + 3)), (44, .slice (some ⟨g50, 0, none⟩) xs.length (xs.length + 3)), (45, .slice (some ⟨g57, 0, none⟩) ys.length (ys.length + 3))]) (φ := []) tbok 2 [] [0, 1, 5, 6, 44, 45] E (by kernel_rfl) trivial ?_
            clear E; intro a E
            refine e_call E rfl rfl Try.func9 rfl rfl rfl (Far_calls (some ⟨g50, 0, none⟩) (some ⟨g57, 0, none⟩) (xs.length + 3) (ys.length + 3) xs ys _ (by omega) (by omega) (lentM_view L52.now) (lentM_view L59.now) hX hY) ?_
            intro v64 w65 a hR66 E_
            obtain ⟨rfl, hc67⟩ := hR66
            replace E := E_ _ rfl; clear E_
            replace L52 := L52.chg hc67 (fun h_ => h_) (fun _ _ h_ => h_)
            replace L59 := L59.chg hc67 (fun h_ => h_) (fun _ _ h_ => h_)
            replace HW := HW.trans hc67 (fun _ _ h_ => h_.elim)
            refine vrun (w := w65) (lp := [(0, .slice A xs.length c), (1, .slice B ys.length d), (5, .slice (some ⟨g50, 0, none⟩) xs.length (xs.length + 3)), (6, .slice (some ⟨g57, 0, none⟩) ys.length (ys.length + 3)), (7, .int .i64 ((farV xs ys).1)), (8, .int .i64 ((farV xs ys).2))]) (φ := []) tbok 5 [] [0, 1, 5, 6, 7, 8] E (by kernel_rfl) trivial ?_
            clear E; intro a E
            refine wpList_nil ?_
            refine th_n ?_
            refine wp_seq ?_
            refine wp_region_lit ?_
            refine vrun (w := w65) (lp := [(0, .slice A xs.length c), (1, .slice B ys.length d), (5, .slice (some ⟨g50, 0, none⟩) xs.length (xs.length + 3)), (6, .slice (some ⟨g57, 0, none⟩) ys.length (ys.length + 3)), (7, .int .i64 ((farV xs ys).1)), (8, .int .i64 ((farV xs ys).2)), (50, .slice A xs.length c), (51, .slice B ys.length d)]) (φ := []) tbok 2 [] [0, 1, 5, 6, 7, 8, 50, 51] E (by kernel_rfl) trivial ?_
            clear E; intro a E
            refine e_call E rfl rfl Try.func10 rfl rfl rfl (rFar_calls A B c d xs ys _ (by omega) (by omega) (H.now HW) (J.now HW) hX hY) ?_
            intro v68 w69 a hR70 E_
            obtain ⟨rfl, hc71⟩ := hR70
            replace E := E_ _ rfl; clear E_
            replace L52 := L52.chg hc71 (fun h_ => h_) (fun _ _ h_ => h_)
            replace L59 := L59.chg hc71 (fun h_ => h_) (fun _ _ h_ => h_)
            replace HW := HW.trans hc71 (fun _ _ h_ => h_.elim)
            refine vrun (w := w69) (lp := [(0, .slice A xs.length c), (1, .slice B ys.length d), (5, .slice (some ⟨g50, 0, none⟩) xs.length (xs.length + 3)), (6, .slice (some ⟨g57, 0, none⟩) ys.length (ys.length + 3)), (7, .int .i64 ((farV xs ys).1)), (8, .int .i64 ((farV xs ys).2)), (9, .int .i64 ((farV xs ys).1)), (10, .int .i64 ((farV xs ys).2))]) (φ := []) tbok 5 [] [0, 1, 5, 6, 7, 8, 9, 10] E (by kernel_rfl) trivial ?_
            clear E; intro a E
            refine wpList_nil ?_
            refine th_n ?_
            refine wp_seq ?_
            refine wp_region_lit ?_
            refine vrun (w := w69) (lp := [(0, .slice A xs.length c), (1, .slice B ys.length d), (5, .slice (some ⟨g50, 0, none⟩) xs.length (xs.length + 3)), (6, .slice (some ⟨g57, 0, none⟩) ys.length (ys.length + 3)), (8, .int .i64 ((farV xs ys).2)), (10, .int .i64 ((farV xs ys).2)), (58, .bool (((farV xs ys).1 : Int) == ((farV xs ys).1)))]) (φ := []) tbok 4 [] [0, 1, 5, 6, 8, 10, 58] E (by kernel_rfl) trivial ?_
            clear E; intro a E
            refine E.cases (t := 58) rfl (fun hb_ E_ => ?_) (fun hb_ E_ => ?_)
            · replace E := E_; clear E_
              have h72 : ((farV xs ys).1 : Int) = (farV xs ys).1 := eq_of_beq hb_
              clear hb_
              refine vrun (w := w69) (lp := [(0, .slice A xs.length c), (1, .slice B ys.length d), (5, .slice (some ⟨g50, 0, none⟩) xs.length (xs.length + 3)), (6, .slice (some ⟨g57, 0, none⟩) ys.length (ys.length + 3)), (63, .bool (((farV xs ys).2 : Int) == ((farV xs ys).2)))]) (φ := []) tbok 5 [] [0, 1, 5, 6, 63] E (by kernel_rfl) trivial ?_
              clear E; intro a E
              refine E.cases (t := 63) rfl (fun hb_ E_ => ?_) (fun hb_ E_ => ?_)
              · replace E := E_; clear E_
                have h73 : ((farV xs ys).2 : Int) = (farV xs ys).2 := eq_of_beq hb_
                clear hb_
                refine vrun (w := w69) (lp := [(1, .slice B ys.length d), (6, .slice (some ⟨g57, 0, none⟩) ys.length (ys.length + 3)), (63, .bool true), (64, .slice (some ⟨g50, 0, none⟩) xs.length (xs.length + 3)), (65, .slice A xs.length c)]) (φ := []) tbok 2 [] [1, 6, 63, 64, 65] E (by kernel_rfl) trivial ?_
                clear E; intro a E
                refine e_call E rfl rfl Try.func11 rfl rfl rfl (KeptLetters_calls (some ⟨g50, 0, none⟩) A c xs _ (by omega) L52.now (H.now HW)) ?_
                intro v74 w75 a hR76 E_
                obtain ⟨rfl, hc77⟩ := hR76
                replace E := E_ _ rfl; clear E_
                replace L52 := L52.chg hc77 (fun h_ => h_) (fun _ _ h_ => h_)
                replace L59 := L59.chg hc77 (fun h_ => h_) (fun _ _ h_ => h_)
                replace HW := HW.trans hc77 (fun _ _ h_ => h_.elim)
                refine vrun (w := w75) (lp := [(68, .bool true), (69, .slice (some ⟨g57, 0, none⟩) ys.length (ys.length + 3)), (70, .slice B ys.length d)]) (φ := []) tbok 4 [] [68, 69, 70] E (by kernel_rfl) trivial ?_
                clear E; intro a E
                refine e_call E rfl rfl Try.func11 rfl rfl rfl (KeptLetters_calls (some ⟨g57, 0, none⟩) B d ys _ (by omega) L59.now (J.now HW)) ?_
                intro v78 w79 a hR80 E_
                obtain ⟨rfl, hc81⟩ := hR80
                replace E := E_ _ rfl; clear E_
                replace L52 := L52.chg hc81 (fun h_ => h_) (fun _ _ h_ => h_)
                replace L59 := L59.chg hc81 (fun h_ => h_) (fun _ _ h_ => h_)
                replace HW := HW.trans hc81 (fun _ _ h_ => h_.elim)
                refine vrun (w := w79) (lp := [(4, .bool true)]) (φ := []) tbok 2 [] [4] E (by kernel_rfl) trivial ?_
                clear E; intro a E
                refine wpList_nil ?_
                refine th_n ?_
                refine wp_ret ?_
                refine ret1 E rfl rfl ?_
                exact ⟨_, rfl, rfl, HW.own⟩
              · replace E := E_; clear E_
                have h82 : ¬ (((farV xs ys).2 : Int) = (farV xs ys).2) := ne_of_beq_false hb_
                clear hb_
                exact absurd rfl h82
            · replace E := E_; clear E_
              have h83 : ¬ (((farV xs ys).1 : Int) = (farV xs ys).1) := ne_of_beq_false hb_
              clear hb_
              exact absurd rfl h83
  · replace E := E_; clear E_
    have h84 : ¬ (60 < ((xs.length : Nat) : Int)) := of_decide_eq_false hb_
    clear hb_
    refine vrun (w := w0) (lp := [(0, .slice A xs.length c), (1, .slice B ys.length d), (19, .bool false), (23, .bool (decide (60 < ((ys.length : Nat) : Int))))]) (φ := []) tbok 9 [] [0, 1, 19, 23] E (by kernel_rfl) trivial ?_
    clear E; intro a E
    refine E.cases (t := 23) rfl (fun hb_ E_ => ?_) (fun hb_ E_ => ?_)
    · replace E := E_; clear E_
      have h85 : 60 < ((ys.length : Nat) : Int) := of_decide_eq_true hb_
      clear hb_
      refine vrun (w := w0) (lp := [(0, .slice A xs.length c), (1, .slice B ys.length d), (29, .bool (decide (((ys.length : Nat) : Int) ≤ 1024)))]) (φ := []) tbok 6 [] [0, 1, 29] E (by kernel_rfl) trivial ?_
      clear E; intro a E
      refine E.cases (t := 29) rfl (fun hb_ E_ => ?_) (fun hb_ E_ => ?_)
      · replace E := E_; clear E_
        have h86 : ((ys.length : Nat) : Int) ≤ 1024 := of_decide_eq_true hb_
        clear hb_
        refine vrun (w := w0) (lp := [(0, .slice A xs.length c), (1, .slice B ys.length d), (38, .bool true)]) (φ := []) tbok 9 [] [0, 1, 38] E (by kernel_rfl) trivial ?_
        clear E; intro a E
        refine wpList_nil ?_
        refine th_n ?_
        refine c_true E rfl ?_
        refine wp_seq ?_
        refine wp_region_lit ?_
        refine vrun (w := w0) (lp := [(4, .bool true)]) (φ := []) tbok 1 [] [4] E (by kernel_rfl) trivial ?_
        clear E; intro a E
        refine wpList_nil ?_
        refine th_n ?_
        refine wp_ret ?_
        refine th_ret ?_
        refine ret1 E rfl rfl ?_
        exact ⟨_, rfl, rfl, HW.own⟩
      · replace E := E_; clear E_
        have h87 : ¬ (((ys.length : Nat) : Int) ≤ 1024) := of_decide_eq_false hb_
        clear hb_
        refine vrun (w := w0) (lp := [(0, .slice A xs.length c), (1, .slice B ys.length d), (34, .bool (decide (1033 < ((xs.length : Nat) : Int))))]) (φ := []) tbok 5 [] [0, 1, 34] E (by kernel_rfl) trivial ?_
        clear E; intro a E
        refine E.cases (t := 34) rfl (fun hb_ E_ => ?_) (fun hb_ E_ => ?_)
        · replace E := E_; clear E_
          have h88 : 1033 < ((xs.length : Nat) : Int) := of_decide_eq_true hb_
          clear hb_
          refine vrun (w := w0) (lp := [(0, .slice A xs.length c), (1, .slice B ys.length d), (38, .bool true)]) (φ := []) tbok 4 [] [0, 1, 38] E (by kernel_rfl) trivial ?_
          clear E; intro a E
          refine wpList_nil ?_
          refine th_n ?_
          refine c_true E rfl ?_
          refine wp_seq ?_
          refine wp_region_lit ?_
          refine vrun (w := w0) (lp := [(4, .bool true)]) (φ := []) tbok 1 [] [4] E (by kernel_rfl) trivial ?_
          clear E; intro a E
          refine wpList_nil ?_
          refine th_n ?_
          refine wp_ret ?_
          refine th_ret ?_
          refine ret1 E rfl rfl ?_
          exact ⟨_, rfl, rfl, HW.own⟩
        · replace E := E_; clear E_
          have h89 : ¬ (1033 < ((xs.length : Nat) : Int)) := of_decide_eq_false hb_
          clear hb_
          refine vrun (w := w0) (lp := [(0, .slice A xs.length c), (1, .slice B ys.length d), (38, .bool (decide (1033 < ((ys.length : Nat) : Int))))]) (φ := []) tbok 4 [] [0, 1, 38] E (by kernel_rfl) trivial ?_
          clear E; intro a E
          refine wpList_nil ?_
          refine th_n ?_
          refine E.cases (t := 38) rfl (fun hb_ E_ => ?_) (fun hb_ E_ => ?_)
          · replace E := E_; clear E_
            have h90 : 1033 < ((ys.length : Nat) : Int) := of_decide_eq_true hb_
            clear hb_
            refine c_true E rfl ?_
            refine wp_seq ?_
            refine wp_region_lit ?_
            refine vrun (w := w0) (lp := [(4, .bool true)]) (φ := []) tbok 1 [] [4] E (by kernel_rfl) trivial ?_
            clear E; intro a E
            refine wpList_nil ?_
            refine th_n ?_
            refine wp_ret ?_
            refine th_ret ?_
            refine ret1 E rfl rfl ?_
            exact ⟨_, rfl, rfl, HW.own⟩
          · replace E := E_; clear E_
            have h91 : ¬ (1033 < ((ys.length : Nat) : Int)) := of_decide_eq_false hb_
            clear hb_
            refine c_false E rfl ?_
            refine wp_skip ?_
            refine th_n ?_
            refine wp_seq ?_
            refine wp_region_lit ?_
            refine vrun (w := w0) (lp := [(0, .slice A xs.length c), (1, .slice B ys.length d), (39, .slice A xs.length c)]) (φ := []) tbok 1 [] [0, 1, 39] E (by kernel_rfl) trivial ?_
            clear E; intro a E
            refine e_call E rfl rfl Try.func8 rfl rfl rfl (LentLetters_calls A c xs _ (by omega) (H.now HW)) ?_
            intro v95 w96 a hR97 E_
            obtain ⟨g92, rfl, hg93, hc98, L94⟩ := hR97
            replace E := E_ _ rfl; clear E_
            have hi_g92 : w0.heap.size ≤ g92 := Nat.le_trans HW.size hg93
            replace HW := HW.trans hc98 (fun _ _ h_ => h_.elim)
            refine vrun (w := w96) (lp := [(0, .slice A xs.length c), (1, .slice B ys.length d), (40, .slice (some ⟨g92, 0, none⟩) xs.length (xs.length + 3)), (41, .slice B ys.length d)]) (φ := []) tbok 1 [] [0, 1, 40, 41] E (by kernel_rfl) trivial ?_
            clear E; intro a E
            refine e_call E rfl rfl Try.func8 rfl rfl rfl (LentLetters_calls B d ys _ (by omega) (J.now HW)) ?_
            intro v102 w103 a hR104 E_
            obtain ⟨g99, rfl, hg100, hc105, L101⟩ := hR104
            replace E := E_ _ rfl; clear E_
            have hi_g99 : w0.heap.size ≤ g99 := Nat.le_trans HW.size hg100
            have ne_g92_g99 : g92 ≠ g99 := by have h_ := L94.lt; omega
            replace L94 := L94.chg hc105 (fun h_ => h_) (fun _ _ h_ => h_)
            replace HW := HW.trans hc105 (fun _ _ h_ => h_.elim)
            refine vrun (w := w103) (lp := [(0, .slice A xs.length c), (1, .slice B ys.length d), (5, .slice (some ⟨g92, 0, none⟩) xs.length (xs.length + 3)), (6, .slice (some ⟨g99, 0, none⟩) ys.length (ys.length + 3))]) (φ := []) tbok 2 [] [0, 1, 5, 6] E (by kernel_rfl) trivial ?_
            clear E; intro a E
            refine wpList_nil ?_
            refine th_n ?_
            refine wp_seq ?_
            refine wp_region_lit ?_
            refine vrun (w := w103) (lp := [(0, .slice A xs.length c), (1, .slice B ys.length d), (5, .slice (some ⟨g92, 0, none⟩) xs.length (xs.length + 3)), (6, .slice (some ⟨g99, 0, none⟩) ys.length (ys.length + 3)), (44, .slice (some ⟨g92, 0, none⟩) xs.length (xs.length + 3)), (45, .slice (some ⟨g99, 0, none⟩) ys.length (ys.length + 3))]) (φ := []) tbok 2 [] [0, 1, 5, 6, 44, 45] E (by kernel_rfl) trivial ?_
            clear E; intro a E
            refine e_call E rfl rfl Try.func9 rfl rfl rfl (Far_calls (some ⟨g92, 0, none⟩) (some ⟨g99, 0, none⟩) (xs.length + 3) (ys.length + 3) xs ys _ (by omega) (by omega) (lentM_view L94.now) (lentM_view L101.now) hX hY) ?_
            intro v106 w107 a hR108 E_
            obtain ⟨rfl, hc109⟩ := hR108
            replace E := E_ _ rfl; clear E_
            replace L94 := L94.chg hc109 (fun h_ => h_) (fun _ _ h_ => h_)
            replace L101 := L101.chg hc109 (fun h_ => h_) (fun _ _ h_ => h_)
            replace HW := HW.trans hc109 (fun _ _ h_ => h_.elim)
            refine vrun (w := w107) (lp := [(0, .slice A xs.length c), (1, .slice B ys.length d), (5, .slice (some ⟨g92, 0, none⟩) xs.length (xs.length + 3)), (6, .slice (some ⟨g99, 0, none⟩) ys.length (ys.length + 3)), (7, .int .i64 ((farV xs ys).1)), (8, .int .i64 ((farV xs ys).2))]) (φ := []) tbok 5 [] [0, 1, 5, 6, 7, 8] E (by kernel_rfl) trivial ?_
            clear E; intro a E
            refine wpList_nil ?_
            refine th_n ?_
            refine wp_seq ?_
            refine wp_region_lit ?_
            refine vrun (w := w107) (lp := [(0, .slice A xs.length c), (1, .slice B ys.length d), (5, .slice (some ⟨g92, 0, none⟩) xs.length (xs.length + 3)), (6, .slice (some ⟨g99, 0, none⟩) ys.length (ys.length + 3)), (7, .int .i64 ((farV xs ys).1)), (8, .int .i64 ((farV xs ys).2)), (50, .slice A xs.length c), (51, .slice B ys.length d)]) (φ := []) tbok 2 [] [0, 1, 5, 6, 7, 8, 50, 51] E (by kernel_rfl) trivial ?_
            clear E; intro a E
            refine e_call E rfl rfl Try.func10 rfl rfl rfl (rFar_calls A B c d xs ys _ (by omega) (by omega) (H.now HW) (J.now HW) hX hY) ?_
            intro v110 w111 a hR112 E_
            obtain ⟨rfl, hc113⟩ := hR112
            replace E := E_ _ rfl; clear E_
            replace L94 := L94.chg hc113 (fun h_ => h_) (fun _ _ h_ => h_)
            replace L101 := L101.chg hc113 (fun h_ => h_) (fun _ _ h_ => h_)
            replace HW := HW.trans hc113 (fun _ _ h_ => h_.elim)
            refine vrun (w := w111) (lp := [(0, .slice A xs.length c), (1, .slice B ys.length d), (5, .slice (some ⟨g92, 0, none⟩) xs.length (xs.length + 3)), (6, .slice (some ⟨g99, 0, none⟩) ys.length (ys.length + 3)), (7, .int .i64 ((farV xs ys).1)), (8, .int .i64 ((farV xs ys).2)), (9, .int .i64 ((farV xs ys).1)), (10, .int .i64 ((farV xs ys).2))]) (φ := []) tbok 5 [] [0, 1, 5, 6, 7, 8, 9, 10] E (by kernel_rfl) trivial ?_
            clear E; intro a E
            refine wpList_nil ?_
            refine th_n ?_
            refine wp_seq ?_
            refine wp_region_lit ?_
            refine vrun (w := w111) (lp := [(0, .slice A xs.length c), (1, .slice B ys.length d), (5, .slice (some ⟨g92, 0, none⟩) xs.length (xs.length + 3)), (6, .slice (some ⟨g99, 0, none⟩) ys.length (ys.length + 3)), (8, .int .i64 ((farV xs ys).2)), (10, .int .i64 ((farV xs ys).2)), (58, .bool (((farV xs ys).1 : Int) == ((farV xs ys).1)))]) (φ := []) tbok 4 [] [0, 1, 5, 6, 8, 10, 58] E (by kernel_rfl) trivial ?_
            clear E; intro a E
            refine E.cases (t := 58) rfl (fun hb_ E_ => ?_) (fun hb_ E_ => ?_)
            · replace E := E_; clear E_
              have h114 : ((farV xs ys).1 : Int) = (farV xs ys).1 := eq_of_beq hb_
              clear hb_
              refine vrun (w := w111) (lp := [(0, .slice A xs.length c), (1, .slice B ys.length d), (5, .slice (some ⟨g92, 0, none⟩) xs.length (xs.length + 3)), (6, .slice (some ⟨g99, 0, none⟩) ys.length (ys.length + 3)), (63, .bool (((farV xs ys).2 : Int) == ((farV xs ys).2)))]) (φ := []) tbok 5 [] [0, 1, 5, 6, 63] E (by kernel_rfl) trivial ?_
              clear E; intro a E
              refine E.cases (t := 63) rfl (fun hb_ E_ => ?_) (fun hb_ E_ => ?_)
              · replace E := E_; clear E_
                have h115 : ((farV xs ys).2 : Int) = (farV xs ys).2 := eq_of_beq hb_
                clear hb_
                refine vrun (w := w111) (lp := [(1, .slice B ys.length d), (6, .slice (some ⟨g99, 0, none⟩) ys.length (ys.length + 3)), (63, .bool true), (64, .slice (some ⟨g92, 0, none⟩) xs.length (xs.length + 3)), (65, .slice A xs.length c)]) (φ := []) tbok 2 [] [1, 6, 63, 64, 65] E (by kernel_rfl) trivial ?_
                clear E; intro a E
                refine e_call E rfl rfl Try.func11 rfl rfl rfl (KeptLetters_calls (some ⟨g92, 0, none⟩) A c xs _ (by omega) L94.now (H.now HW)) ?_
                intro v116 w117 a hR118 E_
                obtain ⟨rfl, hc119⟩ := hR118
                replace E := E_ _ rfl; clear E_
                replace L94 := L94.chg hc119 (fun h_ => h_) (fun _ _ h_ => h_)
                replace L101 := L101.chg hc119 (fun h_ => h_) (fun _ _ h_ => h_)
                replace HW := HW.trans hc119 (fun _ _ h_ => h_.elim)
                refine vrun (w := w117) (lp := [(68, .bool true), (69, .slice (some ⟨g99, 0, none⟩) ys.length (ys.length + 3)), (70, .slice B ys.length d)]) (φ := []) tbok 4 [] [68, 69, 70] E (by kernel_rfl) trivial ?_
                clear E; intro a E
                refine e_call E rfl rfl Try.func11 rfl rfl rfl (KeptLetters_calls (some ⟨g99, 0, none⟩) B d ys _ (by omega) L101.now (J.now HW)) ?_
                intro v120 w121 a hR122 E_
                obtain ⟨rfl, hc123⟩ := hR122
                replace E := E_ _ rfl; clear E_
                replace L94 := L94.chg hc123 (fun h_ => h_) (fun _ _ h_ => h_)
                replace L101 := L101.chg hc123 (fun h_ => h_) (fun _ _ h_ => h_)
                replace HW := HW.trans hc123 (fun _ _ h_ => h_.elim)
                refine vrun (w := w121) (lp := [(4, .bool true)]) (φ := []) tbok 2 [] [4] E (by kernel_rfl) trivial ?_
                clear E; intro a E
                refine wpList_nil ?_
                refine th_n ?_
                refine wp_ret ?_
                refine ret1 E rfl rfl ?_
                exact ⟨_, rfl, rfl, HW.own⟩
              · replace E := E_; clear E_
                have h124 : ¬ (((farV xs ys).2 : Int) = (farV xs ys).2) := ne_of_beq_false hb_
                clear hb_
                exact absurd rfl h124
            · replace E := E_; clear E_
              have h125 : ¬ (((farV xs ys).1 : Int) = (farV xs ys).1) := ne_of_beq_false hb_
              clear hb_
              exact absurd rfl h125
    · replace E := E_; clear E_
      have h126 : ¬ (60 < ((ys.length : Nat) : Int)) := of_decide_eq_false hb_
      clear hb_
      refine vrun (w := w0) (lp := [(0, .slice A xs.length c), (1, .slice B ys.length d), (34, .bool (decide (1033 < ((xs.length : Nat) : Int))))]) (φ := []) tbok 11 [] [0, 1, 34] E (by kernel_rfl) trivial ?_
      clear E; intro a E
      refine E.cases (t := 34) rfl (fun hb_ E_ => ?_) (fun hb_ E_ => ?_)
      · replace E := E_; clear E_
        have h127 : 1033 < ((xs.length : Nat) : Int) := of_decide_eq_true hb_
        clear hb_
        refine vrun (w := w0) (lp := [(0, .slice A xs.length c), (1, .slice B ys.length d), (38, .bool true)]) (φ := []) tbok 4 [] [0, 1, 38] E (by kernel_rfl) trivial ?_
        clear E; intro a E
        refine wpList_nil ?_
        refine th_n ?_
        refine c_true E rfl ?_
        refine wp_seq ?_
        refine wp_region_lit ?_
        refine vrun (w := w0) (lp := [(4, .bool true)]) (φ := []) tbok 1 [] [4] E (by kernel_rfl) trivial ?_
        clear E; intro a E
        refine wpList_nil ?_
        refine th_n ?_
        refine wp_ret ?_
        refine th_ret ?_
        refine ret1 E rfl rfl ?_
        exact ⟨_, rfl, rfl, HW.own⟩
      · replace E := E_; clear E_
        have h128 : ¬ (1033 < ((xs.length : Nat) : Int)) := of_decide_eq_false hb_
        clear hb_
        refine vrun (w := w0) (lp := [(0, .slice A xs.length c), (1, .slice B ys.length d), (38, .bool (decide (1033 < ((ys.length : Nat) : Int))))]) (φ := []) tbok 4 [] [0, 1, 38] E (by kernel_rfl) trivial ?_
        clear E; intro a E
        refine wpList_nil ?_
        refine th_n ?_
        refine E.cases (t := 38) rfl (fun hb_ E_ => ?_) (fun hb_ E_ => ?_)
        · replace E := E_; clear E_
          have h129 : 1033 < ((ys.length : Nat) : Int) := of_decide_eq_true hb_
          clear hb_
          refine c_true E rfl ?_
          refine wp_seq ?_
          refine wp_region_lit ?_
          refine vrun (w := w0) (lp := [(4, .bool true)]) (φ := []) tbok 1 [] [4] E (by kernel_rfl) trivial ?_
          clear E; intro a E
          refine wpList_nil ?_
          refine th_n ?_
          refine wp_ret ?_
          refine th_ret ?_
          refine ret1 E rfl rfl ?_
          exact ⟨_, rfl, rfl, HW.own⟩
        · replace E := E_; clear E_
          have h130 : ¬ (1033 < ((ys.length : Nat) : Int)) := of_decide_eq_false hb_
          clear hb_
          refine c_false E rfl ?_
          refine wp_skip ?_
          refine th_n ?_
          refine wp_seq ?_
          refine wp_region_lit ?_
          refine vrun (w := w0) (lp := [(0, .slice A xs.length c), (1, .slice B ys.length d), (39, .slice A xs.length c)]) (φ := []) tbok 1 [] [0, 1, 39] E (by kernel_rfl) trivial ?_
          clear E; intro a E
          refine e_call E rfl rfl Try.func8 rfl rfl rfl (LentLetters_calls A c xs _ (by omega) (H.now HW)) ?_
          intro v134 w135 a hR136 E_
          obtain ⟨g131, rfl, hg132, hc137, L133⟩ := hR136
          replace E := E_ _ rfl; clear E_
          have hi_g131 : w0.heap.size ≤ g131 := Nat.le_trans HW.size hg132
          replace HW := HW.trans hc137 (fun _ _ h_ => h_.elim)
          refine vrun (w := w135) (lp := [(0, .slice A xs.length c), (1, .slice B ys.length d), (40, .slice (some ⟨g131, 0, none⟩) xs.length (xs.length + 3)), (41, .slice B ys.length d)]) (φ := []) tbok 1 [] [0, 1, 40, 41] E (by kernel_rfl) trivial ?_
          clear E; intro a E
          refine e_call E rfl rfl Try.func8 rfl rfl rfl (LentLetters_calls B d ys _ (by omega) (J.now HW)) ?_
          intro v141 w142 a hR143 E_
          obtain ⟨g138, rfl, hg139, hc144, L140⟩ := hR143
          replace E := E_ _ rfl; clear E_
          have hi_g138 : w0.heap.size ≤ g138 := Nat.le_trans HW.size hg139
          have ne_g131_g138 : g131 ≠ g138 := by have h_ := L133.lt; omega
          replace L133 := L133.chg hc144 (fun h_ => h_) (fun _ _ h_ => h_)
          replace HW := HW.trans hc144 (fun _ _ h_ => h_.elim)
          refine vrun (w := w142) (lp := [(0, .slice A xs.length c), (1, .slice B ys.length d), (5, .slice (some ⟨g131, 0, none⟩) xs.length (xs.length + 3)), (6, .slice (some ⟨g138, 0, none⟩) ys.length (ys.length + 3))]) (φ := []) tbok 2 [] [0, 1, 5, 6] E (by kernel_rfl) trivial ?_
          clear E; intro a E
          refine wpList_nil ?_
          refine th_n ?_
          refine wp_seq ?_
          refine wp_region_lit ?_
          refine vrun (w := w142) (lp := [(0, .slice A xs.length c), (1, .slice B ys.length d), (5, .slice (some ⟨g131, 0, none⟩) xs.length (xs.length + 3)), (6, .slice (some ⟨g138, 0, none⟩) ys.length (ys.length + 3)), (44, .slice (some ⟨g131, 0, none⟩) xs.length (xs.length + 3)), (45, .slice (some ⟨g138, 0, none⟩) ys.length (ys.length + 3))]) (φ := []) tbok 2 [] [0, 1, 5, 6, 44, 45] E (by kernel_rfl) trivial ?_
          clear E; intro a E
          refine e_call E rfl rfl Try.func9 rfl rfl rfl (Far_calls (some ⟨g131, 0, none⟩) (some ⟨g138, 0, none⟩) (xs.length + 3) (ys.length + 3) xs ys _ (by omega) (by omega) (lentM_view L133.now) (lentM_view L140.now) hX hY) ?_
          intro v145 w146 a hR147 E_
          obtain ⟨rfl, hc148⟩ := hR147
          replace E := E_ _ rfl; clear E_
          replace L133 := L133.chg hc148 (fun h_ => h_) (fun _ _ h_ => h_)
          replace L140 := L140.chg hc148 (fun h_ => h_) (fun _ _ h_ => h_)
          replace HW := HW.trans hc148 (fun _ _ h_ => h_.elim)
          refine vrun (w := w146) (lp := [(0, .slice A xs.length c), (1, .slice B ys.length d), (5, .slice (some ⟨g131, 0, none⟩) xs.length (xs.length + 3)), (6, .slice (some ⟨g138, 0, none⟩) ys.length (ys.length + 3)), (7, .int .i64 ((farV xs ys).1)), (8, .int .i64 ((farV xs ys).2))]) (φ := []) tbok 5 [] [0, 1, 5, 6, 7, 8] E (by kernel_rfl) trivial ?_
          clear E; intro a E
          refine wpList_nil ?_
          refine th_n ?_
          refine wp_seq ?_
          refine wp_region_lit ?_
          refine vrun (w := w146) (lp := [(0, .slice A xs.length c), (1, .slice B ys.length d), (5, .slice (some ⟨g131, 0, none⟩) xs.length (xs.length + 3)), (6, .slice (some ⟨g138, 0, none⟩) ys.length (ys.length + 3)), (7, .int .i64 ((farV xs ys).1)), (8, .int .i64 ((farV xs ys).2)), (50, .slice A xs.length c), (51, .slice B ys.length d)]) (φ := []) tbok 2 [] [0, 1, 5, 6, 7, 8, 50, 51] E (by kernel_rfl) trivial ?_
          clear E; intro a E
          refine e_call E rfl rfl Try.func10 rfl rfl rfl (rFar_calls A B c d xs ys _ (by omega) (by omega) (H.now HW) (J.now HW) hX hY) ?_
          intro v149 w150 a hR151 E_
          obtain ⟨rfl, hc152⟩ := hR151
          replace E := E_ _ rfl; clear E_
          replace L133 := L133.chg hc152 (fun h_ => h_) (fun _ _ h_ => h_)
          replace L140 := L140.chg hc152 (fun h_ => h_) (fun _ _ h_ => h_)
          replace HW := HW.trans hc152 (fun _ _ h_ => h_.elim)
          refine vrun (w := w150) (lp := [(0, .slice A xs.length c), (1, .slice B ys.length d), (5, .slice (some ⟨g131, 0, none⟩) xs.length (xs.length + 3)), (6, .slice (some ⟨g138, 0, none⟩) ys.length (ys.length + 3)), (7, .int .i64 ((farV xs ys).1)), (8, .int .i64 ((farV xs ys).2)), (9, .int .i64 ((farV xs ys).1)), (10, .int .i64 ((farV xs ys).2))]) (φ := []) tbok 5 [] [0, 1, 5, 6, 7, 8, 9, 10] E (by kernel_rfl) trivial ?_
          clear E; intro a E
          refine wpList_nil ?_
          refine th_n ?_
          refine wp_seq ?_
          refine wp_region_lit ?_
          refine vrun (w := w150) (lp := [(0, .slice A xs.length c), (1, .slice B ys.length d), (5, .slice (some ⟨g131, 0, none⟩) xs.length (xs.length + 3)), (6, .slice (some ⟨g138, 0, none⟩) ys.length (ys.length + 3)), (8, .int .i64 ((farV xs ys).2)), (10, .int .i64 ((farV xs ys).2)), (58, .bool (((farV xs ys).1 : Int) == ((farV xs ys).1)))]) (φ := []) tbok 4 [] [0, 1, 5, 6, 8, 10, 58] E (by kernel_rfl) trivial ?_
          clear E; intro a E
          refine E.cases (t := 58) rfl (fun hb_ E_ => ?_) (fun hb_ E_ => ?_)
          · replace E := E_; clear E_
            have h153 : ((farV xs ys).1 : Int) = (farV xs ys).1 := eq_of_beq hb_
            clear hb_
            refine vrun (w := w150) (lp := [(0, .slice A xs.length c), (1, .slice B ys.length d), (5, .slice (some ⟨g131, 0, none⟩) xs.length (xs.length + 3)), (6, .slice (some ⟨g138, 0, none⟩) ys.length (ys.length + 3)), (63, .bool (((farV xs ys).2 : Int) == ((farV xs ys).2)))]) (φ := []) tbok 5 [] [0, 1, 5, 6, 63] E (by kernel_rfl) trivial ?_
            clear E; intro a E
            refine E.cases (t := 63) rfl (fun hb_ E_ => ?_) (fun hb_ E_ => ?_)
            · replace E := E_; clear E_
              have h154 : ((farV xs ys).2 : Int) = (farV xs ys).2 := eq_of_beq hb_
              clear hb_
              refine vrun (w := w150) (lp := [(1, .slice B ys.length d), (6, .slice (some ⟨g138, 0, none⟩) ys.length (ys.length + 3)), (63, .bool true), (64, .slice (some ⟨g131, 0, none⟩) xs.length (xs.length + 3)), (65, .slice A xs.length c)]) (φ := []) tbok 2 [] [1, 6, 63, 64, 65] E (by kernel_rfl) trivial ?_
              clear E; intro a E
              refine e_call E rfl rfl Try.func11 rfl rfl rfl (KeptLetters_calls (some ⟨g131, 0, none⟩) A c xs _ (by omega) L133.now (H.now HW)) ?_
              intro v155 w156 a hR157 E_
              obtain ⟨rfl, hc158⟩ := hR157
              replace E := E_ _ rfl; clear E_
              replace L133 := L133.chg hc158 (fun h_ => h_) (fun _ _ h_ => h_)
              replace L140 := L140.chg hc158 (fun h_ => h_) (fun _ _ h_ => h_)
              replace HW := HW.trans hc158 (fun _ _ h_ => h_.elim)
              refine vrun (w := w156) (lp := [(68, .bool true), (69, .slice (some ⟨g138, 0, none⟩) ys.length (ys.length + 3)), (70, .slice B ys.length d)]) (φ := []) tbok 4 [] [68, 69, 70] E (by kernel_rfl) trivial ?_
              clear E; intro a E
              refine e_call E rfl rfl Try.func11 rfl rfl rfl (KeptLetters_calls (some ⟨g138, 0, none⟩) B d ys _ (by omega) L140.now (J.now HW)) ?_
              intro v159 w160 a hR161 E_
              obtain ⟨rfl, hc162⟩ := hR161
              replace E := E_ _ rfl; clear E_
              replace L133 := L133.chg hc162 (fun h_ => h_) (fun _ _ h_ => h_)
              replace L140 := L140.chg hc162 (fun h_ => h_) (fun _ _ h_ => h_)
              replace HW := HW.trans hc162 (fun _ _ h_ => h_.elim)
              refine vrun (w := w160) (lp := [(4, .bool true)]) (φ := []) tbok 2 [] [4] E (by kernel_rfl) trivial ?_
              clear E; intro a E
              refine wpList_nil ?_
              refine th_n ?_
              refine wp_ret ?_
              refine ret1 E rfl rfl ?_
              exact ⟨_, rfl, rfl, HW.own⟩
            · replace E := E_; clear E_
              have h163 : ¬ (((farV xs ys).2 : Int) = (farV xs ys).2) := ne_of_beq_false hb_
              clear hb_
              exact absurd rfl h163
          · replace E := E_; clear E_
            have h164 : ¬ (((farV xs ys).1 : Int) = (farV xs ys).1) := ne_of_beq_false hb_
            clear hb_
            exact absurd rfl h164

end Go.V
