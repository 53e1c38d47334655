/- Contracts of functions of the program: walks. -/
import Derived.Test.YthlbijcgnekcbaaGo
set_option linter.all false
set_option linter.unusedVariables false
set_option linter.unnecessarySimpa false
set_option linter.unusedSimpArgs false
namespace Go.V
open Go Go.Proofs

/-! rejoinder/guard.Table -/
set_option maxRecDepth 100000 in
theorem Table_calls (A : Option Addr) (c : Nat) (nodes : List Nd) (n ref : Int) (w0 : World) (hr : -9223372036854775808 ≤ ref ∧ ref ≤ 9223372036854775807) (hl : nodes.length ≤ 140737488351232) (H : C cNode w0 (Lo w0.heap.size) A nodes) (hW : ∀ x ∈ nodes, x.wf) :
    Calls Try.prog 11 #[.int .i64 n, .slice A nodes.length c, .int .i64 ref] w0 fun e w' => ∃ v, e = .returned v ∧ ∃ A' c', v = .tuple #[.slice A' (tableV n nodes ref).1.length c', .int .i64 (tableV n nodes ref).2] ∧ Ext w0 w' ∧ Row (cInt .i64) 3 w' w0.heap.size No A' c' (tableV n nodes ref).1 := by
  have HW : Chg (Hi w0.heap.size) w0 w0 := Chg.refl _ _
  refine enterV (n := 39) Try.func11 rfl rfl rfl ?_
  intro a E
  replace E := E.pick [(0, .int .i64 n), (1, .slice A nodes.length c), (2, .int .i64 ref)] ⟨rfl, rfl, rfl, trivial⟩
  refine wp_seq ?_
  refine wp_region_lit ?_
  refine vrun (w := w0) (lp := [(0, .int .i64 n), (1, .slice A nodes.length c), (2, .int .i64 ref)]) (φ := []) tbok 2 [] [0, 1, 2] E (by kernel_rfl) trivial ?_
  clear E; intro a E
  refine wpList_nil ?_
  refine th_n ?_
  refine wp_seq ?_
  refine wp_seq ?_
  refine wp_region_lit ?_
  refine vrun (w := w0) (lp := [(0, .int .i64 n), (1, .slice A nodes.length c), (2, .int .i64 ref), (14, .bool (decide (n < 0)))]) (φ := []) tbok 3 [] [0, 1, 2, 14] E (by kernel_rfl) trivial ?_
  clear E; intro a E
  refine E.cases (t := 14) rfl (fun hb_ E_ => ?_) (fun hb_ E_ => ?_)
  · replace E := E_; clear E_
    have h1 : n < 0 := of_decide_eq_true hb_
    clear hb_
    refine vrun (w := w0) (lp := [(0, .int .i64 n), (1, .slice A nodes.length c), (2, .int .i64 ref), (17, .bool true)]) (φ := []) tbok 3 [] [0, 1, 2, 17] E (by kernel_rfl) trivial ?_
    clear E; intro a E
    refine wpList_nil ?_
    refine th_n ?_
    refine c_true E rfl ?_
    refine wp_seq ?_
    refine wp_region_lit ?_
    refine vrun (w := w0) (lp := [(6, .slice none 0 0), (7, .int .i64 2)]) (φ := []) tbok 2 [] [6, 7] E (by kernel_rfl) trivial ?_
    clear E; intro a E
    refine wpList_nil ?_
    refine th_n ?_
    refine wp_ret ?_
    refine th_ret ?_
    refine ret2 E rfl rfl rfl ?_
    have hq_ : tableV n nodes ref = ([], 2) := tableV_arg (by omega)
    rw [hq_]
    exact ⟨_, rfl, none, 0, rfl, HW.own, Row.nil _ _ _ _ _⟩
  · replace E := E_; clear E_
    have h2 : ¬ (n < 0) := of_decide_eq_false hb_
    clear hb_
    refine vrun (w := w0) (lp := [(0, .int .i64 n), (1, .slice A nodes.length c), (2, .int .i64 ref), (17, .bool (decide (8 < n)))]) (φ := []) tbok 3 [] [0, 1, 2, 17] E (by kernel_rfl) trivial ?_
    clear E; intro a E
    refine wpList_nil ?_
    refine th_n ?_
    refine E.cases (t := 17) rfl (fun hb_ E_ => ?_) (fun hb_ E_ => ?_)
    · replace E := E_; clear E_
      have h3 : 8 < n := of_decide_eq_true hb_
      clear hb_
      refine c_true E rfl ?_
      refine wp_seq ?_
      refine wp_region_lit ?_
      refine vrun (w := w0) (lp := [(6, .slice none 0 0), (7, .int .i64 2)]) (φ := []) tbok 2 [] [6, 7] E (by kernel_rfl) trivial ?_
      clear E; intro a E
      refine wpList_nil ?_
      refine th_n ?_
      refine wp_ret ?_
      refine th_ret ?_
      refine ret2 E rfl rfl rfl ?_
      have hq_ : tableV n nodes ref = ([], 2) := tableV_arg (by omega)
      rw [hq_]
      exact ⟨_, rfl, none, 0, rfl, HW.own, Row.nil _ _ _ _ _⟩
    · replace E := E_; clear E_
      have h4 : ¬ (8 < n) := of_decide_eq_false hb_
      clear hb_
      refine c_false E rfl ?_
      refine wp_skip ?_
      refine th_n ?_
      refine wp_seq ?_
      refine wp_region_lit ?_
      have R8 := Row.nil (cInt .i64) 3 w0 w0.heap.size No
      refine vrun (w := w0) (lp := [(0, .int .i64 n), (1, .slice A nodes.length c), (2, .int .i64 ref), (8, .slice none 0 0)]) (φ := []) tbok 1 [] [0, 1, 2, 8] E (by kernel_rfl) trivial ?_
      clear E; intro a E
      refine wpList_nil ?_
      refine th_n ?_
      refine wp_seq ?_
      refine wp_seq ?_
      refine wp_region_lit ?_
      refine vrun (w := w0) (lp := [(1, .slice A nodes.length c), (2, .int .i64 ref), (8, .slice none 0 0), (19, .int .i64 ((pw n : Nat) : Int)), (20, .int .i64 0)]) (φ := [0 ≤ n ∧ IntKind.i64.wrap (1 * 2 ^ (min (Int.toNat n) (IntKind.bits .i64))) = ((pw n : Nat) : Int)]) tbok 3 [.int .i64 ((pw n : Nat) : Int)] [1, 2, 8, 19, 20] E (by kernel_rfl) (pw_shl (by omega) (by omega)) ?_
      clear E; intro a E
      refine wpList_nil ?_
      refine th_n ?_
      refine wp_block ?_
      refine loopV (fun m6 a w5 => ∃ (k : Nat) (A8 : Option Addr) (c8 : Nat), Fr a 39 [(1, .slice A nodes.length c), (2, .int .i64 ref), (8, .slice A8 (List.length (tabL nodes ref k)) c8), (19, .int .i64 ((pw n : Nat) : Int)), (20, .int .i64 (k : Int))] ∧ Chg (Hi w0.heap.size) w0 w5 ∧ Row (cInt .i64) 3 w5 w0.heap.size No A8 c8 (tabL nodes ref k) ∧ (k ≤ pw n) ∧ (∀ i, i < k → (goF nodes (i : Nat) 9 ref).2 = true) ∧ m6 = pw n - k) (pw n - (0)) ?_ ?_
      · skip
        have hp_ := pw_le (n := n) (by omega)
        exact ⟨0, none, 0, E.pick _ ⟨rfl, rfl, rfl, rfl, rfl, trivial⟩, HW, R8, (by omega), (fun i hi => absurd hi (by omega)), rfl⟩
      · clear E HW; intro m6 a w5 hI_
        obtain ⟨k, hI_⟩ := hI_
        obtain ⟨A8, hI_⟩ := hI_
        obtain ⟨c8, hI_⟩ := hI_
        clear R8
        obtain ⟨E, HW, R8, hk, hS, hm_m6⟩ := hI_
        have hp_ := pw_le (n := n) (by omega)
        refine wp_seq ?_
        refine wp_region_lit ?_
        refine vrun (w := w5) (lp := [(1, .slice A nodes.length c), (2, .int .i64 ref), (8, .slice A8 (List.length (tabL nodes ref k)) c8), (19, .int .i64 ((pw n : Nat) : Int)), (20, .int .i64 (k : Int)), (21, .bool (decide ((k : Int) < ((pw n : Nat) : Int))))]) (φ := []) tbok 1 [] [1, 2, 8, 19, 20, 21] E (by kernel_rfl) trivial ?_
        clear E; intro a E
        refine wpList_nil ?_
        refine th_n ?_
        refine wp_seq ?_
        refine E.cases (t := 21) rfl (fun hb_ E_ => ?_) (fun hb_ E_ => ?_)
        · replace E := E_; clear E_
          have h7 : (k : Int) < ((pw n : Nat) : Int) := of_decide_eq_true hb_
          clear hb_
          refine c_true E rfl ?_
          refine wp_skip ?_
          refine th_n ?_
          refine wp_seq ?_
          refine wp_block ?_
          refine wp_seq ?_
          refine wp_region_lit ?_
          refine vrun (w := w5) (lp := [(1, .slice A nodes.length c), (2, .int .i64 ref), (8, .slice A8 (List.length (tabL nodes ref k)) c8), (9, .int .i64 (k : Int)), (19, .int .i64 ((pw n : Nat) : Int)), (20, .int .i64 (k : Int))]) (φ := []) tbok 2 [] [1, 2, 8, 9, 19, 20] E (by kernel_rfl) trivial ?_
          clear E; intro a E
          refine wpList_nil ?_
          refine th_n ?_
          refine wp_seq ?_
          refine wp_region_lit ?_
          refine vrun (w := w5) (lp := [(1, .slice A nodes.length c), (2, .int .i64 ref), (8, .slice A8 (List.length (tabL nodes ref k)) c8), (19, .int .i64 ((pw n : Nat) : Int)), (20, .int .i64 (k : Int)), (24, .slice A nodes.length c), (25, .int .i64 ref), (27, .int .u8 (k : Int))]) (φ := [IntKind.u8.wrap (k : Int) = (k : Int)]) tbok 4 [.int .u8 (k : Int)] [1, 2, 8, 19, 20, 24, 25, 27] E (by kernel_rfl) (wrap_u8 (by omega) (by omega)) ?_
          clear E; intro a E
          refine e_call E rfl rfl Try.func9 rfl rfl rfl (Go_calls A c nodes ref (k : Int) _ hr ⟨by omega, by omega⟩ (by omega) (H.now HW) hW) ?_
          intro v8 w9 a hR10 E_
          obtain ⟨rfl, hc11⟩ := hR10
          replace E := E_ _ rfl; clear E_
          replace R8 := R8.keep hc11 (fun _ _ h_ => h_) (fun _ _ h_ => h_)
          replace HW := HW.trans hc11 (fun _ _ h_ => h_.elim)
          refine vrun (w := w9) (lp := [(1, .slice A nodes.length c), (2, .int .i64 ref), (8, .slice A8 (List.length (tabL nodes ref k)) c8), (10, .int .i64 ((goF nodes (k : Int) 9 ref).1)), (11, .bool ((goF nodes (k : Int) 9 ref).2)), (19, .int .i64 ((pw n : Nat) : Int)), (20, .int .i64 (k : Int))]) (φ := []) tbok 5 [] [1, 2, 8, 10, 11, 19, 20] E (by kernel_rfl) trivial ?_
          clear E; intro a E
          refine wpList_nil ?_
          refine th_n ?_
          refine wp_seq ?_
          refine wp_seq ?_
          refine wp_region_lit ?_
          refine vrun (w := w9) (lp := [(1, .slice A nodes.length c), (2, .int .i64 ref), (8, .slice A8 (List.length (tabL nodes ref k)) c8), (10, .int .i64 ((goF nodes (k : Int) 9 ref).1)), (19, .int .i64 ((pw n : Nat) : Int)), (20, .int .i64 (k : Int)), (32, .bool (!((goF nodes (k : Int) 9 ref).2)))]) (φ := []) tbok 2 [] [1, 2, 8, 10, 19, 20, 32] E (by kernel_rfl) trivial ?_
          clear E; intro a E
          refine wpList_nil ?_
          refine th_n ?_
          refine E.cases (t := 32) rfl (fun hb_ E_ => ?_) (fun hb_ E_ => ?_)
          · replace E := E_; clear E_
            have h12 : (!((goF nodes (k : Int) 9 ref).2)) = true := hb_
            clear hb_
            refine c_true E rfl ?_
            refine wp_seq ?_
            refine wp_region_lit ?_
            refine vrun (w := w9) (lp := [(6, .slice none 0 0), (7, .int .i64 12)]) (φ := []) tbok 2 [] [6, 7] E (by kernel_rfl) trivial ?_
            clear E; intro a E
            refine wpList_nil ?_
            refine th_n ?_
            refine wp_ret ?_
            refine th_ret ?_
            refine bl_ret ?_
            refine th_ret ?_
            refine th_ret ?_
            refine bl_ret ?_
            refine th_ret ?_
            refine ret2 E rfl rfl rfl ?_
            have hq_ : tableV n nodes ref = ([], 12) := tableV_bad (by omega) (by omega) (k := k) (by omega) (by simpa using h12)
            rw [hq_]
            exact ⟨_, rfl, none, 0, rfl, HW.own, Row.nil _ _ _ _ _⟩
          · replace E := E_; clear E_
            have h13 : (!((goF nodes (k : Int) 9 ref).2)) = false := hb_
            clear hb_
            refine c_false E rfl ?_
            refine wp_skip ?_
            refine th_n ?_
            refine wp_region_lit ?_
            refine vrun (w := w9) (lp := [(1, .slice A nodes.length c), (2, .int .i64 ref), (19, .int .i64 ((pw n : Nat) : Int)), (20, .int .i64 (k : Int)), (33, .slice A8 (List.length (tabL nodes ref k)) c8), (34, .int .i64 ((goF nodes (k : Int) 9 ref).1))]) (φ := []) tbok 2 [] [1, 2, 19, 20, 33, 34] E (by kernel_rfl) trivial ?_
            clear E; intro a E
            refine e_buildSlice (ps := [(0, .int .i64 ((goF nodes (k : Int) 9 ref).1))]) (cs := [.int .i64 ((goF nodes (k : Int) 9 ref).1)]) E rfl rfl tbok rfl rfl (by kernel_rfl) ?_
            intro w15 g14 a hc16 hg17 B18 E_
            replace E := E_ _ rfl; clear E_
            have hi_g14 : w0.heap.size ≤ g14 := Nat.le_trans HW.size hg17
            have sp_R8_g14 := R8.fresh hg17
            replace R8 := R8.keep hc16 (fun _ _ h_ => h_) (fun _ _ h_ => h_)
            replace HW := HW.trans hc16 (fun _ _ h_ => h_.elim)
            have hl_ := tabL_len nodes ref k
            have hi19 := R8.hi
            refine e_append (cInt .i64) (xs := (tabL nodes ref k)) (ys := [(goF nodes (k : Int) 9 ref).1]) E rfl rfl tbok rfl rfl rfl rfl rfl rfl R8 rfl rfl ⟨_, _, rfl, rfl, rfl⟩ B18.cells (by show List.length (tabL nodes ref k) + 1 ≤ 1000000000000; omega) (by show (List.length (tabL nodes ref k) + 1) * 8 ≤ 140737488355328; omega) HW.size (fun _ h_ => h_.elim) ?_
            intro w20 A21 c22 a hc23 R8n hn24 E_
            rw [show (tabL nodes ref k) ++ [(goF nodes (k : Int) 9 ref).1] = tabL nodes ref (k + 1) from tabL_step nodes ref k] at E_ R8n
            replace E := E_ _ rfl; clear E_
            have sp_R8_g14' := At.step hn24 sp_R8_g14 B18.lt
            replace B18 := B18.chg hc23 sp_R8_g14
            replace HW := HW.trans hc23 (fun _ _ h_ => hi19 _ h_)
            replace sp_R8_g14 := sp_R8_g14'; clear sp_R8_g14'
            replace R8 := R8n; clear R8n
            refine vrun (w := w20) (lp := [(1, .slice A nodes.length c), (2, .int .i64 ref), (8, .slice A21 (List.length (tabL nodes ref (k + 1))) c22), (19, .int .i64 ((pw n : Nat) : Int)), (20, .int .i64 (k : Int))]) (φ := []) tbok 1 [] [1, 2, 8, 19, 20] E (by kernel_rfl) trivial ?_
            clear E; intro a E
            refine wpList_nil ?_
            refine bl_n ?_
            refine th_n ?_
            refine wp_region_lit ?_
            refine vrun (w := w20) (lp := [(1, .slice A nodes.length c), (2, .int .i64 ref), (8, .slice A21 (List.length (tabL nodes ref (k + 1))) c22), (19, .int .i64 ((pw n : Nat) : Int)), (20, .int .i64 ((k : Int) + 1))]) (φ := [IntKind.i64.wrap ((k : Int) + 1) = (k : Int) + 1]) tbok 2 [.int .i64 ((k : Int) + 1)] [1, 2, 8, 19, 20] E (by kernel_rfl) (wrap_i64 (by omega) (by omega)) ?_
            clear E; intro a E
            refine wpList_nil ?_
            refine th_n ⟨pw n - (k + 1), by omega, ?_⟩
            exact ⟨k + 1, A21, c22, E.pick _ ⟨rfl, rfl, rfl, rfl, rfl, trivial⟩, HW, R8, (by omega), (tabS_step hS (by simpa using h13)), rfl⟩
        · replace E := E_; clear E_
          have h25 : ¬ ((k : Int) < ((pw n : Nat) : Int)) := of_decide_eq_false hb_
          clear hb_
          refine c_false E rfl ?_
          refine wp_exit ?_
          refine th_exit ?_
          refine th_exit ?_
          refine bl_hit ?_
          refine th_n ?_
          refine wp_seq ?_
          refine wp_region_lit ?_
          refine vrun (w := w5) (lp := [(6, .slice A8 (List.length (tabL nodes ref k)) c8), (7, .int .i64 0)]) (φ := []) tbok 3 [] [6, 7] E (by kernel_rfl) trivial ?_
          clear E; intro a E
          refine wpList_nil ?_
          refine th_n ?_
          refine wp_ret ?_
          refine ret2 E rfl rfl rfl ?_
          obtain rfl : k = pw n := by omega
          have hq_ := tableV_ok (nodes := nodes) (ref := ref) (by omega) (by omega) hS
          rw [hq_]
          exact ⟨_, rfl, A8, c8, rfl, HW.own, R8⟩

/-! rejoinder/rejoinderref14.Table -/
set_option maxRecDepth 100000 in
theorem rTable_calls (A : Option Addr) (c : Nat) (nodes : List Nd) (n ref : Int) (w0 : World) (hr : -9223372036854775808 ≤ ref ∧ ref ≤ 9223372036854775807) (hl : nodes.length ≤ 140737488351232) (H : C cNode w0 (Lo w0.heap.size) A nodes) (hW : ∀ x ∈ nodes, x.wf) :
    Calls Try.prog 12 #[.int .i64 n, .slice A nodes.length c, .int .i64 ref] w0 fun e w' => ∃ v, e = .returned v ∧ ∃ A' c', v = .tuple #[.slice A' (tableV n nodes ref).1.length c', .int .i64 (tableV n nodes ref).2] ∧ Ext w0 w' ∧ Row (cInt .i64) 3 w' w0.heap.size No A' c' (tableV n nodes ref).1 := by
  have HW : Chg (Hi w0.heap.size) w0 w0 := Chg.refl _ _
  refine enterV (n := 39) Try.func12 rfl rfl rfl ?_
  intro a E
  replace E := E.pick [(0, .int .i64 n), (1, .slice A nodes.length c), (2, .int .i64 ref)] ⟨rfl, rfl, rfl, trivial⟩
  refine wp_seq ?_
  refine wp_region_lit ?_
  refine vrun (w := w0) (lp := [(0, .int .i64 n), (1, .slice A nodes.length c), (2, .int .i64 ref)]) (φ := []) tbok 2 [] [0, 1, 2] E (by kernel_rfl) trivial ?_
  clear E; intro a E
  refine wpList_nil ?_
  refine th_n ?_
  refine wp_seq ?_
  refine wp_seq ?_
  refine wp_region_lit ?_
  refine vrun (w := w0) (lp := [(0, .int .i64 n), (1, .slice A nodes.length c), (2, .int .i64 ref), (14, .bool (decide (n < 0)))]) (φ := []) tbok 3 [] [0, 1, 2, 14] E (by kernel_rfl) trivial ?_
  clear E; intro a E
  refine E.cases (t := 14) rfl (fun hb_ E_ => ?_) (fun hb_ E_ => ?_)
  · replace E := E_; clear E_
    have h1 : n < 0 := of_decide_eq_true hb_
    clear hb_
    refine vrun (w := w0) (lp := [(0, .int .i64 n), (1, .slice A nodes.length c), (2, .int .i64 ref), (17, .bool true)]) (φ := []) tbok 3 [] [0, 1, 2, 17] E (by kernel_rfl) trivial ?_
    clear E; intro a E
    refine wpList_nil ?_
    refine th_n ?_
    refine c_true E rfl ?_
    refine wp_seq ?_
    refine wp_region_lit ?_
    refine vrun (w := w0) (lp := [(6, .slice none 0 0), (7, .int .i64 2)]) (φ := []) tbok 2 [] [6, 7] E (by kernel_rfl) trivial ?_
    clear E; intro a E
    refine wpList_nil ?_
    refine th_n ?_
    refine wp_ret ?_
    refine th_ret ?_
    refine ret2 E rfl rfl rfl ?_
    have hq_ : tableV n nodes ref = ([], 2) := tableV_arg (by omega)
    rw [hq_]
    exact ⟨_, rfl, none, 0, rfl, HW.own, Row.nil _ _ _ _ _⟩
  · replace E := E_; clear E_
    have h2 : ¬ (n < 0) := of_decide_eq_false hb_
    clear hb_
    refine vrun (w := w0) (lp := [(0, .int .i64 n), (1, .slice A nodes.length c), (2, .int .i64 ref), (17, .bool (decide (8 < n)))]) (φ := []) tbok 3 [] [0, 1, 2, 17] E (by kernel_rfl) trivial ?_
    clear E; intro a E
    refine wpList_nil ?_
    refine th_n ?_
    refine E.cases (t := 17) rfl (fun hb_ E_ => ?_) (fun hb_ E_ => ?_)
    · replace E := E_; clear E_
      have h3 : 8 < n := of_decide_eq_true hb_
      clear hb_
      refine c_true E rfl ?_
      refine wp_seq ?_
      refine wp_region_lit ?_
      refine vrun (w := w0) (lp := [(6, .slice none 0 0), (7, .int .i64 2)]) (φ := []) tbok 2 [] [6, 7] E (by kernel_rfl) trivial ?_
      clear E; intro a E
      refine wpList_nil ?_
      refine th_n ?_
      refine wp_ret ?_
      refine th_ret ?_
      refine ret2 E rfl rfl rfl ?_
      have hq_ : tableV n nodes ref = ([], 2) := tableV_arg (by omega)
      rw [hq_]
      exact ⟨_, rfl, none, 0, rfl, HW.own, Row.nil _ _ _ _ _⟩
    · replace E := E_; clear E_
      have h4 : ¬ (8 < n) := of_decide_eq_false hb_
      clear hb_
      refine c_false E rfl ?_
      refine wp_skip ?_
      refine th_n ?_
      refine wp_seq ?_
      refine wp_region_lit ?_
      have R8 := Row.nil (cInt .i64) 3 w0 w0.heap.size No
      refine vrun (w := w0) (lp := [(0, .int .i64 n), (1, .slice A nodes.length c), (2, .int .i64 ref), (8, .slice none 0 0)]) (φ := []) tbok 1 [] [0, 1, 2, 8] E (by kernel_rfl) trivial ?_
      clear E; intro a E
      refine wpList_nil ?_
      refine th_n ?_
      refine wp_seq ?_
      refine wp_seq ?_
      refine wp_region_lit ?_
      refine vrun (w := w0) (lp := [(0, .int .i64 n), (1, .slice A nodes.length c), (2, .int .i64 ref), (8, .slice none 0 0), (9, .int .i64 0)]) (φ := []) tbok 1 [] [0, 1, 2, 8, 9] E (by kernel_rfl) trivial ?_
      clear E; intro a E
      refine wpList_nil ?_
      refine th_n ?_
      refine wp_block ?_
      refine loopV (fun m6 a w5 => ∃ (k : Nat) (A8 : Option Addr) (c8 : Nat), Fr a 39 [(0, .int .i64 n), (1, .slice A nodes.length c), (2, .int .i64 ref), (8, .slice A8 (List.length (tabL nodes ref k)) c8), (9, .int .i64 (k : Int))] ∧ Chg (Hi w0.heap.size) w0 w5 ∧ Row (cInt .i64) 3 w5 w0.heap.size No A8 c8 (tabL nodes ref k) ∧ (k ≤ pw n) ∧ (∀ i, i < k → (goF nodes (i : Nat) 9 ref).2 = true) ∧ m6 = pw n - k) (pw n - (0)) ?_ ?_
      · skip
        have hp_ := pw_le (n := n) (by omega)
        exact ⟨0, none, 0, E.pick _ ⟨rfl, rfl, rfl, rfl, rfl, trivial⟩, HW, R8, (by omega), (fun i hi => absurd hi (by omega)), rfl⟩
      · clear E HW; intro m6 a w5 hI_
        obtain ⟨k, hI_⟩ := hI_
        obtain ⟨A8, hI_⟩ := hI_
        obtain ⟨c8, hI_⟩ := hI_
        clear R8
        obtain ⟨E, HW, R8, hk, hS, hm_m6⟩ := hI_
        have hp_ := pw_le (n := n) (by omega)
        refine wp_seq ?_
        refine wp_seq ?_
        refine wp_region_lit ?_
        refine vrun (w := w5) (lp := [(0, .int .i64 n), (1, .slice A nodes.length c), (2, .int .i64 ref), (8, .slice A8 (List.length (tabL nodes ref k)) c8), (9, .int .i64 (k : Int)), (21, .bool (decide ((k : Int) < ((pw n : Nat) : Int))))]) (φ := [0 ≤ n ∧ IntKind.i64.wrap (1 * 2 ^ (min (Int.toNat n) (IntKind.bits .i64))) = ((pw n : Nat) : Int)]) tbok 4 [.int .i64 ((pw n : Nat) : Int)] [0, 1, 2, 8, 9, 21] E (by kernel_rfl) (pw_shl (by omega) (by omega)) ?_
        clear E; intro a E
        refine wpList_nil ?_
        refine th_n ?_
        refine E.cases (t := 21) rfl (fun hb_ E_ => ?_) (fun hb_ E_ => ?_)
        · replace E := E_; clear E_
          have h7 : (k : Int) < ((pw n : Nat) : Int) := of_decide_eq_true hb_
          clear hb_
          refine c_true E rfl ?_
          refine wp_skip ?_
          refine th_n ?_
          refine wp_seq ?_
          refine wp_block ?_
          refine wp_seq ?_
          refine wp_region_lit ?_
          refine vrun (w := w5) (lp := [(0, .int .i64 n), (1, .slice A nodes.length c), (2, .int .i64 ref), (8, .slice A8 (List.length (tabL nodes ref k)) c8), (9, .int .i64 (k : Int)), (25, .slice A nodes.length c), (26, .int .i64 ref), (28, .int .u8 (k : Int))]) (φ := [IntKind.u8.wrap (k : Int) = (k : Int)]) tbok 4 [.int .u8 (k : Int)] [0, 1, 2, 8, 9, 25, 26, 28] E (by kernel_rfl) (wrap_u8 (by omega) (by omega)) ?_
          clear E; intro a E
          refine e_call E rfl rfl Try.func10 rfl rfl rfl (rGo_calls A c nodes ref (k : Int) _ hr ⟨by omega, by omega⟩ (by omega) (H.now HW) hW) ?_
          intro v8 w9 a hR10 E_
          obtain ⟨rfl, hc11⟩ := hR10
          replace E := E_ _ rfl; clear E_
          replace R8 := R8.keep hc11 (fun _ _ h_ => h_) (fun _ _ h_ => h_)
          replace HW := HW.trans hc11 (fun _ _ h_ => h_.elim)
          refine vrun (w := w9) (lp := [(0, .int .i64 n), (1, .slice A nodes.length c), (2, .int .i64 ref), (8, .slice A8 (List.length (tabL nodes ref k)) c8), (9, .int .i64 (k : Int)), (10, .int .i64 ((goF nodes (k : Int) 9 ref).1)), (11, .bool ((goF nodes (k : Int) 9 ref).2))]) (φ := []) tbok 5 [] [0, 1, 2, 8, 9, 10, 11] E (by kernel_rfl) trivial ?_
          clear E; intro a E
          refine wpList_nil ?_
          refine th_n ?_
          refine wp_seq ?_
          refine wp_seq ?_
          refine wp_region_lit ?_
          refine vrun (w := w9) (lp := [(0, .int .i64 n), (1, .slice A nodes.length c), (2, .int .i64 ref), (8, .slice A8 (List.length (tabL nodes ref k)) c8), (9, .int .i64 (k : Int)), (10, .int .i64 ((goF nodes (k : Int) 9 ref).1)), (33, .bool (!((goF nodes (k : Int) 9 ref).2)))]) (φ := []) tbok 2 [] [0, 1, 2, 8, 9, 10, 33] E (by kernel_rfl) trivial ?_
          clear E; intro a E
          refine wpList_nil ?_
          refine th_n ?_
          refine E.cases (t := 33) rfl (fun hb_ E_ => ?_) (fun hb_ E_ => ?_)
          · replace E := E_; clear E_
            have h12 : (!((goF nodes (k : Int) 9 ref).2)) = true := hb_
            clear hb_
            refine c_true E rfl ?_
            refine wp_seq ?_
            refine wp_region_lit ?_
            refine vrun (w := w9) (lp := [(6, .slice none 0 0), (7, .int .i64 12)]) (φ := []) tbok 2 [] [6, 7] E (by kernel_rfl) trivial ?_
            clear E; intro a E
            refine wpList_nil ?_
            refine th_n ?_
            refine wp_ret ?_
            refine th_ret ?_
            refine bl_ret ?_
            refine th_ret ?_
            refine th_ret ?_
            refine bl_ret ?_
            refine th_ret ?_
            refine ret2 E rfl rfl rfl ?_
            have hq_ : tableV n nodes ref = ([], 12) := tableV_bad (by omega) (by omega) (k := k) (by omega) (by simpa using h12)
            rw [hq_]
            exact ⟨_, rfl, none, 0, rfl, HW.own, Row.nil _ _ _ _ _⟩
          · replace E := E_; clear E_
            have h13 : (!((goF nodes (k : Int) 9 ref).2)) = false := hb_
            clear hb_
            refine c_false E rfl ?_
            refine wp_skip ?_
            refine th_n ?_
            refine wp_region_lit ?_
            refine vrun (w := w9) (lp := [(0, .int .i64 n), (1, .slice A nodes.length c), (2, .int .i64 ref), (9, .int .i64 (k : Int)), (34, .slice A8 (List.length (tabL nodes ref k)) c8), (35, .int .i64 ((goF nodes (k : Int) 9 ref).1))]) (φ := []) tbok 2 [] [0, 1, 2, 9, 34, 35] E (by kernel_rfl) trivial ?_
            clear E; intro a E
            refine e_buildSlice (ps := [(0, .int .i64 ((goF nodes (k : Int) 9 ref).1))]) (cs := [.int .i64 ((goF nodes (k : Int) 9 ref).1)]) E rfl rfl tbok rfl rfl (by kernel_rfl) ?_
            intro w15 g14 a hc16 hg17 B18 E_
            replace E := E_ _ rfl; clear E_
            have hi_g14 : w0.heap.size ≤ g14 := Nat.le_trans HW.size hg17
            have sp_R8_g14 := R8.fresh hg17
            replace R8 := R8.keep hc16 (fun _ _ h_ => h_) (fun _ _ h_ => h_)
            replace HW := HW.trans hc16 (fun _ _ h_ => h_.elim)
            have hl_ := tabL_len nodes ref k
            have hi19 := R8.hi
            refine e_append (cInt .i64) (xs := (tabL nodes ref k)) (ys := [(goF nodes (k : Int) 9 ref).1]) E rfl rfl tbok rfl rfl rfl rfl rfl rfl R8 rfl rfl ⟨_, _, rfl, rfl, rfl⟩ B18.cells (by show List.length (tabL nodes ref k) + 1 ≤ 1000000000000; omega) (by show (List.length (tabL nodes ref k) + 1) * 8 ≤ 140737488355328; omega) HW.size (fun _ h_ => h_.elim) ?_
            intro w20 A21 c22 a hc23 R8n hn24 E_
            rw [show (tabL nodes ref k) ++ [(goF nodes (k : Int) 9 ref).1] = tabL nodes ref (k + 1) from tabL_step nodes ref k] at E_ R8n
            replace E := E_ _ rfl; clear E_
            have sp_R8_g14' := At.step hn24 sp_R8_g14 B18.lt
            replace B18 := B18.chg hc23 sp_R8_g14
            replace HW := HW.trans hc23 (fun _ _ h_ => hi19 _ h_)
            replace sp_R8_g14 := sp_R8_g14'; clear sp_R8_g14'
            replace R8 := R8n; clear R8n
            refine vrun (w := w20) (lp := [(0, .int .i64 n), (1, .slice A nodes.length c), (2, .int .i64 ref), (8, .slice A21 (List.length (tabL nodes ref (k + 1))) c22), (9, .int .i64 (k : Int))]) (φ := []) tbok 1 [] [0, 1, 2, 8, 9] E (by kernel_rfl) trivial ?_
            clear E; intro a E
            refine wpList_nil ?_
            refine bl_n ?_
            refine th_n ?_
            refine wp_region_lit ?_
            refine vrun (w := w20) (lp := [(0, .int .i64 n), (1, .slice A nodes.length c), (2, .int .i64 ref), (8, .slice A21 (List.length (tabL nodes ref (k + 1))) c22), (9, .int .i64 ((k : Int) + 1))]) (φ := [IntKind.i64.wrap ((k : Int) + 1) = (k : Int) + 1]) tbok 3 [.int .i64 ((k : Int) + 1)] [0, 1, 2, 8, 9] E (by kernel_rfl) (wrap_i64 (by omega) (by omega)) ?_
            clear E; intro a E
            refine wpList_nil ?_
            refine th_n ⟨pw n - (k + 1), by omega, ?_⟩
            exact ⟨k + 1, A21, c22, E.pick _ ⟨rfl, rfl, rfl, rfl, rfl, trivial⟩, HW, R8, (by omega), (tabS_step hS (by simpa using h13)), rfl⟩
        · replace E := E_; clear E_
          have h25 : ¬ ((k : Int) < ((pw n : Nat) : Int)) := of_decide_eq_false hb_
          clear hb_
          refine c_false E rfl ?_
          refine wp_exit ?_
          refine th_exit ?_
          refine th_exit ?_
          refine bl_hit ?_
          refine th_n ?_
          refine wp_seq ?_
          refine wp_region_lit ?_
          refine vrun (w := w5) (lp := [(6, .slice A8 (List.length (tabL nodes ref k)) c8), (7, .int .i64 0)]) (φ := []) tbok 3 [] [6, 7] E (by kernel_rfl) trivial ?_
          clear E; intro a E
          refine wpList_nil ?_
          refine th_n ?_
          refine wp_ret ?_
          refine ret2 E rfl rfl rfl ?_
          obtain rfl : k = pw n := by omega
          have hq_ := tableV_ok (nodes := nodes) (ref := ref) (by omega) (by omega) hS
          rw [hq_]
          exact ⟨_, rfl, A8, c8, rfl, HW.own, R8⟩

end Go.V
