/- Contracts of functions of the program: walks. -/
import Derived.Test.YtllkojpinpojiaaCx
import Derived.Test.YtllkojpinpojiaaTb
set_option linter.all false
set_option linter.unusedVariables false
set_option linter.unnecessarySimpa false
set_option linter.unusedSimpArgs false
namespace Go.V
open Go Go.Proofs

/-! rejoinder/rejoinderref14.bit -/
set_option maxRecDepth 100000 in
theorem bit_calls (l p : Int) (w0 : World) (hlt : 0 ≤ l ∧ l ≤ 255) (hp : 0 ≤ p ∧ p ≤ 8) :
    Calls Try.prog 62 #[.int .u8 l, .int .i64 p] w0 fun e w' => ∃ v, e = .returned v ∧ (v = .bool (bitB l p) ∧ Ext w0 w') := by
  have HW : Chg (Hi w0.heap.size) w0 w0 := Chg.refl _ _
  refine enterV (n := 19) Try.func62 rfl rfl rfl ?_
  intro a E
  replace E := E.pick [(0, .int .u8 l), (1, .int .i64 p)] ⟨rfl, rfl, trivial⟩
  refine wp_seq ?_
  refine wp_region_lit ?_
  refine vrun (w := w0) (lp := [(0, .int .u8 l), (1, .int .i64 p)]) (φ := []) tbok 1 [] [0, 1] E (by kernel_rfl) trivial ?_
  clear E; intro a E
  refine wpList_nil ?_
  refine th_n ?_
  refine wp_seq ?_
  refine wp_region_lit ?_
  refine vrun (w := w0) (lp := [(1, .int .i64 p), (5, .int .i64 l)]) (φ := [IntKind.i64.wrap l = l]) tbok 3 [.int .i64 l] [1, 5] E (by kernel_rfl) (wrap_i64 (by omega) (by omega)) ?_
  clear E; intro a E
  refine wpList_nil ?_
  refine th_n ?_
  refine wp_seq ?_
  refine wp_seq ?_
  refine wp_region_lit ?_
  refine vrun (w := w0) (lp := [(1, .int .i64 p), (5, .int .i64 l), (6, .int .i64 0)]) (φ := []) tbok 1 [] [1, 5, 6] E (by kernel_rfl) trivial ?_
  clear E; intro a E
  refine wpList_nil ?_
  refine th_n ?_
  refine wp_block ?_
  refine loopV (fun m2 a w1 => ∃ (k : Nat), Fr a 19 [(1, .int .i64 p), (5, .int .i64 (l / 2 ^ k)), (6, .int .i64 (k : Int))] ∧ Chg (Hi w0.heap.size) w0 w1 ∧ (k ≤ p.toNat) ∧ m2 = p.toNat - k) (p.toNat - (0)) ?_ ?_
  · skip
    replace E := E.same (t := 5) (u := .int .i64 (l / 2 ^ 0)) rfl (by simp)
    exact ⟨0, E.pick _ ⟨rfl, rfl, rfl, trivial⟩, HW, (by omega), rfl⟩
  · clear E HW; intro m2 a w1 hI_
    obtain ⟨k, hI_⟩ := hI_
    obtain ⟨E, HW, hk, hm_m2⟩ := hI_
    refine wp_seq ?_
    refine wp_seq ?_
    refine wp_region_lit ?_
    refine vrun (w := w1) (lp := [(1, .int .i64 p), (5, .int .i64 (l / 2 ^ k)), (6, .int .i64 (k : Int)), (11, .bool (decide ((k : Int) < p)))]) (φ := []) tbok 3 [] [1, 5, 6, 11] E (by kernel_rfl) trivial ?_
    clear E; intro a E
    refine wpList_nil ?_
    refine th_n ?_
    refine E.cases (t := 11) rfl (fun hb_ E_ => ?_) (fun hb_ E_ => ?_)
    · replace E := E_; clear E_
      have h3 : (k : Int) < p := of_decide_eq_true hb_
      clear hb_
      refine c_true E rfl ?_
      refine wp_skip ?_
      refine th_n ?_
      refine wp_seq ?_
      refine wp_block ?_
      refine wp_region_lit ?_
      refine vrun (w := w1) (lp := [(1, .int .i64 p), (5, .int .i64 (l / 2 ^ (k + 1))), (6, .int .i64 (k : Int))]) (φ := [(2 : Int) ≠ 0 ∧ IntKind.i64.wrap (Int.tdiv (l / 2 ^ k) 2) = l / 2 ^ (k + 1)]) tbok 3 [.int .i64 (l / 2 ^ (k + 1))] [1, 5, 6] E (by kernel_rfl) (⟨by omega, by rw [half_step hlt.1]; exact wrap_i64 (by have h_ := @half_bd l (k + 1) hlt.1 hlt.2; omega) (by have h_ := @half_bd l (k + 1) hlt.1 hlt.2; omega)⟩) ?_
      clear E; intro a E
      refine wpList_nil ?_
      refine bl_n ?_
      refine th_n ?_
      refine wp_region_lit ?_
      refine vrun (w := w1) (lp := [(1, .int .i64 p), (5, .int .i64 (l / 2 ^ (k + 1))), (6, .int .i64 ((k : Int) + 1))]) (φ := [IntKind.i64.wrap ((k : Int) + 1) = (k : Int) + 1]) tbok 3 [.int .i64 ((k : Int) + 1)] [1, 5, 6] E (by kernel_rfl) (wrap_i64 (by omega) (by omega)) ?_
      clear E; intro a E
      refine wpList_nil ?_
      refine th_n ⟨p.toNat - (k + 1), by omega, ?_⟩
      exact ⟨k + 1, E.pick _ ⟨rfl, rfl, rfl, trivial⟩, HW, (by omega), rfl⟩
    · replace E := E_; clear E_
      have h4 : ¬ ((k : Int) < p) := of_decide_eq_false hb_
      clear hb_
      refine c_false E rfl ?_
      refine wp_exit ?_
      refine th_exit ?_
      refine th_exit ?_
      refine bl_hit ?_
      refine th_n ?_
      refine wp_seq ?_
      refine wp_region_lit ?_
      refine vrun (w := w1) (lp := [(4, .bool (((l / 2 ^ k) % 2 : Int) == 1))]) (φ := [(2 : Int) ≠ 0 ∧ Int.tmod (l / 2 ^ k) 2 = (l / 2 ^ k) % 2]) tbok 4 [.int .i64 ((l / 2 ^ k) % 2)] [4] E (by kernel_rfl) (⟨by omega, Int.tmod_eq_emod_of_nonneg (half_bd hlt.1 hlt.2).1⟩) ?_
      clear E; intro a E
      refine wpList_nil ?_
      refine th_n ?_
      refine wp_ret ?_
      refine ret1 E rfl rfl ?_
      obtain rfl : k = p.toNat := by omega
      exact ⟨_, rfl, rfl, HW.own⟩

/-! rejoinder/guard.Go -/
set_option maxRecDepth 100000 in
theorem Go_calls (A : Option Addr) (c : Nat) (nodes : List Nd) (ref l : Int) (w0 : World) (hr : -9223372036854775808 ≤ ref ∧ ref ≤ 9223372036854775807) (hlt : 0 ≤ l ∧ l ≤ 255) (hl : nodes.length ≤ 140737488351232) (H : C cNode w0 (Lo w0.heap.size) A nodes) (hW : ∀ x ∈ nodes, x.wf) :
    Calls Try.prog 15 #[.slice A nodes.length c, .int .i64 ref, .int .u8 l] w0 fun e w' => ∃ v, e = .returned v ∧ (v = .tuple #[.int .i64 (goF nodes l 9 ref).1, .bool (goF nodes l 9 ref).2] ∧ Ext w0 w') := by
  have HW : Chg (Hi w0.heap.size) w0 w0 := Chg.refl _ _
  refine enterV (n := 50) Try.func15 rfl rfl rfl ?_
  intro a E
  replace E := E.pick [(0, .slice A nodes.length c), (1, .int .i64 ref), (2, .int .u8 l)] ⟨rfl, rfl, rfl, trivial⟩
  refine wp_seq ?_
  refine wp_region_lit ?_
  refine vrun (w := w0) (lp := [(0, .slice A nodes.length c), (1, .int .i64 ref), (2, .int .u8 l)]) (φ := []) tbok 2 [] [0, 1, 2] E (by kernel_rfl) trivial ?_
  clear E; intro a E
  refine wpList_nil ?_
  refine th_n ?_
  refine wp_seq ?_
  refine wp_seq ?_
  refine wp_region_lit ?_
  refine vrun (w := w0) (lp := [(0, .slice A nodes.length c), (1, .int .i64 ref), (2, .int .u8 l), (9, .int .i64 0)]) (φ := []) tbok 1 [] [0, 1, 2, 9] E (by kernel_rfl) trivial ?_
  clear E; intro a E
  refine wpList_nil ?_
  refine th_n ?_
  refine wp_block ?_
  refine loopV (fun m2 a w1 => ∃ (k : Nat) (r : Int), Fr a 50 [(0, .slice A nodes.length c), (1, .int .i64 r), (2, .int .u8 l), (9, .int .i64 (k : Int))] ∧ Chg (Hi w0.heap.size) w0 w1 ∧ (k ≤ 9) ∧ (-9223372036854775808 ≤ r ∧ r ≤ 9223372036854775807) ∧ (goF nodes l (9 - k) r = goF nodes l 9 ref) ∧ m2 = 9 - k) (9 - (0)) ?_ ?_
  · skip
    exact ⟨0, ref, E.pick _ ⟨rfl, rfl, rfl, rfl, trivial⟩, HW, (by omega), hr, rfl, rfl⟩
  · clear E HW; intro m2 a w1 hI_
    obtain ⟨k, hI_⟩ := hI_
    obtain ⟨r, hI_⟩ := hI_
    obtain ⟨E, HW, hk, hr, hI, hm_m2⟩ := hI_
    refine wp_seq ?_
    refine wp_region_lit ?_
    refine vrun (w := w1) (lp := [(0, .slice A nodes.length c), (1, .int .i64 r), (2, .int .u8 l), (9, .int .i64 (k : Int)), (10, .bool (decide ((k : Int) < 9)))]) (φ := []) tbok 1 [] [0, 1, 2, 9, 10] E (by kernel_rfl) trivial ?_
    clear E; intro a E
    refine wpList_nil ?_
    refine th_n ?_
    refine wp_seq ?_
    refine E.cases (t := 10) rfl (fun hb_ E_ => ?_) (fun hb_ E_ => ?_)
    · replace E := E_; clear E_
      have h3 : (k : Int) < 9 := of_decide_eq_true hb_
      clear hb_
      refine c_true E rfl ?_
      refine wp_skip ?_
      refine th_n ?_
      refine wp_seq ?_
      refine wp_block ?_
      refine wp_seq ?_
      refine wp_seq ?_
      refine wp_region_lit ?_
      refine vrun (w := w1) (lp := [(0, .slice A nodes.length c), (1, .int .i64 r), (2, .int .u8 l), (9, .int .i64 (k : Int)), (12, .bool (decide (r < 0)))]) (φ := []) tbok 2 [] [0, 1, 2, 9, 12] E (by kernel_rfl) trivial ?_
      clear E; intro a E
      refine wpList_nil ?_
      refine th_n ?_
      refine E.cases (t := 12) rfl (fun hb_ E_ => ?_) (fun hb_ E_ => ?_)
      · replace E := E_; clear E_
        have h4 : r < 0 := of_decide_eq_true hb_
        clear hb_
        refine c_true E rfl ?_
        refine wp_seq ?_
        refine wp_region_lit ?_
        refine vrun (w := w1) (lp := [(6, .int .i64 ((-1) - r)), (7, .bool true)]) (φ := [IntKind.i64.wrap ((-1) - r) = (-1) - r]) tbok 4 [.int .i64 ((-1) - r)] [6, 7] E (by kernel_rfl) (wrap_i64 (by omega) (by omega)) ?_
        clear E; intro a E
        refine wpList_nil ?_
        refine th_n ?_
        refine wp_ret ?_
        refine th_ret ?_
        refine bl_ret ?_
        refine th_ret ?_
        refine th_ret ?_
        refine bl_ret ?_
        refine th_ret ?_
        refine ret2 E rfl rfl rfl ?_
        exact ⟨_, rfl, by rw [← hI, goF_neg (by omega) (by omega)], HW.own⟩
      · replace E := E_; clear E_
        have h5 : ¬ (r < 0) := of_decide_eq_false hb_
        clear hb_
        refine c_false E rfl ?_
        refine wp_skip ?_
        refine th_n ?_
        refine wp_seq ?_
        refine wp_seq ?_
        refine wp_region_lit ?_
        refine vrun (w := w1) (lp := [(0, .slice A nodes.length c), (1, .int .i64 r), (2, .int .u8 l), (9, .int .i64 (k : Int)), (19, .bool (decide (((nodes.length : Nat) : Int) ≤ r)))]) (φ := []) tbok 5 [] [0, 1, 2, 9, 19] E (by kernel_rfl) trivial ?_
        clear E; intro a E
        refine E.cases (t := 19) rfl (fun hb_ E_ => ?_) (fun hb_ E_ => ?_)
        · replace E := E_; clear E_
          have h6 : ((nodes.length : Nat) : Int) ≤ r := of_decide_eq_true hb_
          clear hb_
          refine vrun (w := w1) (lp := [(0, .slice A nodes.length c), (1, .int .i64 r), (2, .int .u8 l), (9, .int .i64 (k : Int)), (20, .tuple #[]), (21, .tuple #[]), (22, .tuple #[]), (23, .tuple #[]), (24, .tuple #[]), (25, .tuple #[]), (28, .tuple #[]), (29, .tuple #[]), (30, .tuple #[]), (31, .tuple #[]), (32, .tuple #[]), (33, .tuple #[]), (34, .bool true)]) (φ := []) tbok 15 [] [0, 1, 2, 9, 20, 21, 22, 23, 24, 25, 28, 29, 30, 31, 32, 33, 34] E (by kernel_rfl) trivial ?_
          clear E; intro a E
          refine wpList_nil ?_
          refine th_n ?_
          refine c_true E rfl ?_
          refine wp_seq ?_
          refine wp_region_lit ?_
          refine vrun (w := w1) (lp := [(6, .int .i64 0), (7, .bool false)]) (φ := []) tbok 2 [] [6, 7] E (by kernel_rfl) trivial ?_
          clear E; intro a E
          refine wpList_nil ?_
          refine th_n ?_
          refine wp_ret ?_
          refine th_ret ?_
          refine bl_ret ?_
          refine th_ret ?_
          refine th_ret ?_
          refine bl_ret ?_
          refine th_ret ?_
          refine ret2 E rfl rfl rfl ?_
          exact ⟨_, rfl, by rw [← hI, goF_bad (by omega) (by omega)], HW.own⟩
        · replace E := E_; clear E_
          have h7 : ¬ (((nodes.length : Nat) : Int) ≤ r) := of_decide_eq_false hb_
          clear hb_
          have hx_22 : 0 ≤ r ∧ r < ((nodes.length : Nat) : Int) := ⟨by omega, by omega⟩
          obtain ⟨b8, o9, e_b8⟩ := H.addr (by omega)
          subst e_b8
          refine vrun (w := w1) (lp := [(0, .slice (some ⟨b8, o9, none⟩) nodes.length c), (1, .int .i64 r), (2, .int .u8 l), (9, .int .i64 (k : Int)), (20, .slice (some ⟨b8, o9, none⟩) nodes.length c), (21, .int .i64 r), (22, .pointer (some ⟨b8, o9 + (Int.toNat r) * 3, none⟩)), (23, .pointer (some ⟨b8, o9 + (Int.toNat r) * 3, none⟩)), (24, .int .i64 ((List.getD nodes (Int.toNat r) default).P)), (25, .bool (decide (((List.getD nodes (Int.toNat r) default).P) < 0))), (27, .bool (decide (((List.getD nodes (Int.toNat r) default).P) < 0)))]) (φ := [0 ≤ r ∧ r < ((nodes.length : Nat) : Int), World.cell? w1 ⟨b8, o9 + (Int.toNat r) * 3, none⟩ = some (.int .i64 ((List.getD nodes (Int.toNat r) default).P))]) tbok 8 [.int .i64 ((List.getD nodes (Int.toNat r) default).P)] [0, 1, 2, 9, 20, 21, 22, 23, 24, 25, 27] E (by kernel_rfl) ⟨hx_22, (C.atP (H.keep HW lo_hi) default hx_22.1 hx_22.2).1⟩ ?_
          clear E; intro a E
          refine E.cases (t := 27) rfl (fun hb_ E_ => ?_) (fun hb_ E_ => ?_)
          · replace E := E_; clear E_
            have h10 : ((List.getD nodes (Int.toNat r) default).P) < 0 := of_decide_eq_true hb_
            clear hb_
            refine vrun (w := w1) (lp := [(0, .slice (some ⟨b8, o9, none⟩) nodes.length c), (1, .int .i64 r), (2, .int .u8 l), (9, .int .i64 (k : Int)), (20, .slice (some ⟨b8, o9, none⟩) nodes.length c), (21, .int .i64 r), (22, .pointer (some ⟨b8, o9 + (Int.toNat r) * 3, none⟩)), (23, .pointer (some ⟨b8, o9 + (Int.toNat r) * 3, none⟩)), (24, .int .i64 ((List.getD nodes (Int.toNat r) default).P)), (25, .bool (decide (((List.getD nodes (Int.toNat r) default).P) < 0))), (28, .tuple #[]), (29, .tuple #[]), (30, .tuple #[]), (31, .tuple #[]), (32, .tuple #[]), (33, .tuple #[]), (34, .bool true)]) (φ := []) tbok 7 [] [0, 1, 2, 9, 20, 21, 22, 23, 24, 25, 28, 29, 30, 31, 32, 33, 34] E (by kernel_rfl) trivial ?_
            clear E; intro a E
            refine wpList_nil ?_
            refine th_n ?_
            refine c_true E rfl ?_
            refine wp_seq ?_
            refine wp_region_lit ?_
            refine vrun (w := w1) (lp := [(6, .int .i64 0), (7, .bool false)]) (φ := []) tbok 2 [] [6, 7] E (by kernel_rfl) trivial ?_
            clear E; intro a E
            refine wpList_nil ?_
            refine th_n ?_
            refine wp_ret ?_
            refine th_ret ?_
            refine bl_ret ?_
            refine th_ret ?_
            refine th_ret ?_
            refine bl_ret ?_
            refine th_ret ?_
            refine ret2 E rfl rfl rfl ?_
            exact ⟨_, rfl, by rw [← hI, goF_bad (by omega) (by omega)], HW.own⟩
          · replace E := E_; clear E_
            have h11 : ¬ (((List.getD nodes (Int.toNat r) default).P) < 0) := of_decide_eq_false hb_
            clear hb_
            have hx_30 : 0 ≤ r ∧ r < ((nodes.length : Nat) : Int) := ⟨by omega, by omega⟩
            refine vrun (w := w1) (lp := [(0, .slice (some ⟨b8, o9, none⟩) nodes.length c), (1, .int .i64 r), (2, .int .u8 l), (9, .int .i64 (k : Int)), (20, .slice (some ⟨b8, o9, none⟩) nodes.length c), (21, .int .i64 r), (22, .pointer (some ⟨b8, o9 + (Int.toNat r) * 3, none⟩)), (23, .pointer (some ⟨b8, o9 + (Int.toNat r) * 3, none⟩)), (24, .int .i64 ((List.getD nodes (Int.toNat r) default).P)), (25, .bool (decide (((List.getD nodes (Int.toNat r) default).P) < 0))), (28, .slice (some ⟨b8, o9, none⟩) nodes.length c), (29, .int .i64 r), (30, .pointer (some ⟨b8, o9 + (Int.toNat r) * 3, none⟩)), (31, .pointer (some ⟨b8, o9 + (Int.toNat r) * 3, none⟩)), (32, .int .i64 ((List.getD nodes (Int.toNat r) default).P)), (33, .bool (decide (8 ≤ ((List.getD nodes (Int.toNat r) default).P)))), (34, .bool (decide (8 ≤ ((List.getD nodes (Int.toNat r) default).P))))]) (φ := [0 ≤ r ∧ r < ((nodes.length : Nat) : Int), World.cell? w1 ⟨b8, o9 + (Int.toNat r) * 3, none⟩ = some (.int .i64 ((List.getD nodes (Int.toNat r) default).P))]) tbok 7 [.int .i64 ((List.getD nodes (Int.toNat r) default).P)] [0, 1, 2, 9, 20, 21, 22, 23, 24, 25, 28, 29, 30, 31, 32, 33, 34] E (by kernel_rfl) ⟨hx_30, (C.atP (H.keep HW lo_hi) default hx_30.1 hx_30.2).1⟩ ?_
            clear E; intro a E
            refine wpList_nil ?_
            refine th_n ?_
            refine E.cases (t := 34) rfl (fun hb_ E_ => ?_) (fun hb_ E_ => ?_)
            · replace E := E_; clear E_
              have h12 : 8 ≤ ((List.getD nodes (Int.toNat r) default).P) := of_decide_eq_true hb_
              clear hb_
              refine c_true E rfl ?_
              refine wp_seq ?_
              refine wp_region_lit ?_
              refine vrun (w := w1) (lp := [(6, .int .i64 0), (7, .bool false)]) (φ := []) tbok 2 [] [6, 7] E (by kernel_rfl) trivial ?_
              clear E; intro a E
              refine wpList_nil ?_
              refine th_n ?_
              refine wp_ret ?_
              refine th_ret ?_
              refine bl_ret ?_
              refine th_ret ?_
              refine th_ret ?_
              refine bl_ret ?_
              refine th_ret ?_
              refine ret2 E rfl rfl rfl ?_
              exact ⟨_, rfl, by rw [← hI, goF_bad (by omega) (by omega)], HW.own⟩
            · replace E := E_; clear E_
              have h13 : ¬ (8 ≤ ((List.getD nodes (Int.toNat r) default).P)) := of_decide_eq_false hb_
              clear hb_
              refine c_false E rfl ?_
              refine wp_skip ?_
              refine th_n ?_
              refine wp_seq ?_
              refine wp_region_lit ?_
              have hx_37 : 0 ≤ r ∧ r < ((nodes.length : Nat) : Int) := ⟨by omega, by omega⟩
              refine vrun (w := w1) (lp := [(0, .slice (some ⟨b8, o9, none⟩) nodes.length c), (2, .int .u8 l), (9, .int .i64 (k : Int)), (20, .slice (some ⟨b8, o9, none⟩) nodes.length c), (21, .int .i64 r), (22, .pointer (some ⟨b8, o9 + (Int.toNat r) * 3, none⟩)), (23, .pointer (some ⟨b8, o9 + (Int.toNat r) * 3, none⟩)), (24, .int .i64 ((List.getD nodes (Int.toNat r) default).P)), (25, .bool (decide (((List.getD nodes (Int.toNat r) default).P) < 0))), (28, .slice (some ⟨b8, o9, none⟩) nodes.length c), (29, .int .i64 r), (30, .pointer (some ⟨b8, o9 + (Int.toNat r) * 3, none⟩)), (31, .pointer (some ⟨b8, o9 + (Int.toNat r) * 3, none⟩)), (32, .int .i64 ((List.getD nodes (Int.toNat r) default).P)), (33, .bool (decide (8 ≤ ((List.getD nodes (Int.toNat r) default).P)))), (38, .agg #[.int .i64 ((List.getD nodes (Int.toNat r) default).P), .int .i64 ((List.getD nodes (Int.toNat r) default).Lo), .int .i64 ((List.getD nodes (Int.toNat r) default).Hi)])]) (φ := [0 ≤ r ∧ r < ((nodes.length : Nat) : Int), cellsAt w1 b8 (o9 + (Int.toNat r) * 3) [.int .i64 ((List.getD nodes (Int.toNat r) default).P), .int .i64 ((List.getD nodes (Int.toNat r) default).Lo), .int .i64 ((List.getD nodes (Int.toNat r) default).Hi)]]) tbok 4 [.agg #[.int .i64 ((List.getD nodes (Int.toNat r) default).P), .int .i64 ((List.getD nodes (Int.toNat r) default).Lo), .int .i64 ((List.getD nodes (Int.toNat r) default).Hi)]] [0, 2, 9, 20, 21, 22, 23, 24, 25, 28, 29, 30, 31, 32, 33, 38] E (by kernel_rfl) ⟨hx_37, C.atP (H.keep HW lo_hi) default hx_37.1 hx_37.2⟩ ?_
              clear E; intro a E
              refine e_alloc E rfl rfl tbok rfl ?_
              intro w15 g14 a hc16 hg17 B18 E_
              replace E := E_ _ rfl; clear E_
              replace B18 : Bx w15 g14 63 [.int .i64 0, .int .i64 0, .int .i64 0] := B18
              have hi_g14 : w0.heap.size ≤ g14 := Nat.le_trans HW.size hg17
              replace HW := HW.trans hc16 (fun _ _ h_ => h_.elim)
              refine e_store (g := g14) (off := 0) E rfl rfl rfl rfl tbok rfl B18 rfl rfl rfl rfl ?_
              clear E; intro w19 a hc20 B18 E
              replace B18 : Bx w19 g14 63 [.int .i64 ((List.getD nodes (Int.toNat r) default).P), .int .i64 ((List.getD nodes (Int.toNat r) default).Lo), .int .i64 ((List.getD nodes (Int.toNat r) default).Hi)] := B18
              replace HW := HW.trans hc20 (fun _ _ h_ => by subst h_; exact hi_g14)
              refine wpList_nil ?_
              refine th_n ?_
              refine wp_seq ?_
              refine wp_region_lit ?_
              refine vrun (w := w19) (lp := [(0, .slice (some ⟨b8, o9, none⟩) nodes.length c), (1, .int .i64 ((List.getD nodes (Int.toNat r) default).Lo)), (2, .int .u8 l), (8, .pointer (some ⟨g14, 0, none⟩)), (9, .int .i64 (k : Int)), (20, .slice (some ⟨b8, o9, none⟩) nodes.length c), (21, .int .i64 r), (22, .pointer (some ⟨b8, o9 + (Int.toNat r) * 3, none⟩)), (23, .pointer (some ⟨b8, o9 + (Int.toNat r) * 3, none⟩)), (24, .int .i64 ((List.getD nodes (Int.toNat r) default).P)), (25, .bool (decide (((List.getD nodes (Int.toNat r) default).P) < 0))), (28, .slice (some ⟨b8, o9, none⟩) nodes.length c), (29, .int .i64 r), (30, .pointer (some ⟨b8, o9 + (Int.toNat r) * 3, none⟩)), (31, .pointer (some ⟨b8, o9 + (Int.toNat r) * 3, none⟩)), (32, .int .i64 ((List.getD nodes (Int.toNat r) default).P)), (33, .bool (decide (8 ≤ ((List.getD nodes (Int.toNat r) default).P))))]) (φ := [World.cell? w19 ⟨g14, 1, none⟩ = some (.int .i64 ((List.getD nodes (Int.toNat r) default).Lo))]) tbok 3 [.int .i64 ((List.getD nodes (Int.toNat r) default).Lo)] [0, 1, 2, 8, 9, 20, 21, 22, 23, 24, 25, 28, 29, 30, 31, 32, 33] E (by kernel_rfl) (B18.cell (j := 1) rfl) ?_
              clear E; intro a E
              refine wpList_nil ?_
              refine th_n ?_
              refine wp_seq ?_
              refine wp_region_lit ?_
              refine vrun (w := w19) (lp := [(0, .slice (some ⟨b8, o9, none⟩) nodes.length c), (1, .int .i64 ((List.getD nodes (Int.toNat r) default).Lo)), (2, .int .u8 l), (8, .pointer (some ⟨g14, 0, none⟩)), (9, .int .i64 (k : Int)), (20, .slice (some ⟨b8, o9, none⟩) nodes.length c), (21, .int .i64 r), (22, .pointer (some ⟨b8, o9 + (Int.toNat r) * 3, none⟩)), (23, .pointer (some ⟨b8, o9 + (Int.toNat r) * 3, none⟩)), (24, .int .i64 ((List.getD nodes (Int.toNat r) default).P)), (25, .bool (decide (((List.getD nodes (Int.toNat r) default).P) < 0))), (28, .slice (some ⟨b8, o9, none⟩) nodes.length c), (29, .int .i64 r), (30, .pointer (some ⟨b8, o9 + (Int.toNat r) * 3, none⟩)), (31, .pointer (some ⟨b8, o9 + (Int.toNat r) * 3, none⟩)), (32, .int .i64 ((List.getD nodes (Int.toNat r) default).P)), (33, .bool (decide (8 ≤ ((List.getD nodes (Int.toNat r) default).P)))), (46, .bool (((l / 2 ^ Int.toNat ((List.getD nodes (Int.toNat r) default).P)) % 2 : Int) == 1))]) (φ := [World.cell? w19 ⟨g14, 0, none⟩ = some (.int .i64 ((List.getD nodes (Int.toNat r) default).P)), 0 ≤ ((List.getD nodes (Int.toNat r) default).P) ∧ Int.fdiv l (2 ^ (min (Int.toNat ((List.getD nodes (Int.toNat r) default).P)) (IntKind.bits .u8))) = l / 2 ^ Int.toNat ((List.getD nodes (Int.toNat r) default).P), IntKind.u8.wrap (BitVec.ofInt (IntKind.bits .u8) (l / 2 ^ Int.toNat ((List.getD nodes (Int.toNat r) default).P)) &&& BitVec.ofInt (IntKind.bits .u8) 1).toNat = (l / 2 ^ Int.toNat ((List.getD nodes (Int.toNat r) default).P)) % 2]) tbok 6 [.int .i64 ((List.getD nodes (Int.toNat r) default).P), .int .u8 (l / 2 ^ Int.toNat ((List.getD nodes (Int.toNat r) default).P)), .int .u8 ((l / 2 ^ Int.toNat ((List.getD nodes (Int.toNat r) default).P)) % 2)] [0, 1, 2, 8, 9, 20, 21, 22, 23, 24, 25, 28, 29, 30, 31, 32, 33, 46] E (by kernel_rfl) ⟨B18.cell (j := 0) rfl, shr_u8 hlt (by omega) (by omega), and1_u8 (half_bd hlt.1 hlt.2)⟩ ?_
              clear E; intro a E
              refine wpList_nil ?_
              refine th_n ?_
              refine E.cases (t := 46) rfl (fun hb_ E_ => ?_) (fun hb_ E_ => ?_)
              · replace E := E_; clear E_
                have h21 : ((l / 2 ^ Int.toNat ((List.getD nodes (Int.toNat r) default).P)) % 2 : Int) = 1 := eq_of_beq hb_
                clear hb_
                refine c_true E rfl ?_
                refine wp_region_lit ?_
                refine vrun (w := w19) (lp := [(0, .slice (some ⟨b8, o9, none⟩) nodes.length c), (1, .int .i64 ((List.getD nodes (Int.toNat r) default).Hi)), (2, .int .u8 l), (9, .int .i64 (k : Int)), (20, .slice (some ⟨b8, o9, none⟩) nodes.length c), (21, .int .i64 r), (22, .pointer (some ⟨b8, o9 + (Int.toNat r) * 3, none⟩)), (23, .pointer (some ⟨b8, o9 + (Int.toNat r) * 3, none⟩)), (24, .int .i64 ((List.getD nodes (Int.toNat r) default).P)), (25, .bool (decide (((List.getD nodes (Int.toNat r) default).P) < 0))), (28, .slice (some ⟨b8, o9, none⟩) nodes.length c), (29, .int .i64 r), (30, .pointer (some ⟨b8, o9 + (Int.toNat r) * 3, none⟩)), (31, .pointer (some ⟨b8, o9 + (Int.toNat r) * 3, none⟩)), (32, .int .i64 ((List.getD nodes (Int.toNat r) default).P)), (33, .bool (decide (8 ≤ ((List.getD nodes (Int.toNat r) default).P))))]) (φ := [World.cell? w19 ⟨g14, 2, none⟩ = some (.int .i64 ((List.getD nodes (Int.toNat r) default).Hi))]) tbok 3 [.int .i64 ((List.getD nodes (Int.toNat r) default).Hi)] [0, 1, 2, 9, 20, 21, 22, 23, 24, 25, 28, 29, 30, 31, 32, 33] E (by kernel_rfl) (B18.cell (j := 2) rfl) ?_
                clear E; intro a E
                refine wpList_nil ?_
                refine bl_n ?_
                refine th_n ?_
                refine wp_region_lit ?_
                refine vrun (w := w19) (lp := [(0, .slice (some ⟨b8, o9, none⟩) nodes.length c), (1, .int .i64 ((List.getD nodes (Int.toNat r) default).Hi)), (2, .int .u8 l), (9, .int .i64 ((k : Int) + 1)), (20, .slice (some ⟨b8, o9, none⟩) nodes.length c), (21, .int .i64 r), (22, .pointer (some ⟨b8, o9 + (Int.toNat r) * 3, none⟩)), (23, .pointer (some ⟨b8, o9 + (Int.toNat r) * 3, none⟩)), (24, .int .i64 ((List.getD nodes (Int.toNat r) default).P)), (25, .bool (decide (((List.getD nodes (Int.toNat r) default).P) < 0))), (28, .slice (some ⟨b8, o9, none⟩) nodes.length c), (29, .int .i64 r), (30, .pointer (some ⟨b8, o9 + (Int.toNat r) * 3, none⟩)), (31, .pointer (some ⟨b8, o9 + (Int.toNat r) * 3, none⟩)), (32, .int .i64 ((List.getD nodes (Int.toNat r) default).P)), (33, .bool (decide (8 ≤ ((List.getD nodes (Int.toNat r) default).P))))]) (φ := [IntKind.i64.wrap ((k : Int) + 1) = (k : Int) + 1]) tbok 2 [.int .i64 ((k : Int) + 1)] [0, 1, 2, 9, 20, 21, 22, 23, 24, 25, 28, 29, 30, 31, 32, 33] E (by kernel_rfl) (wrap_i64 (by omega) (by omega)) ?_
                clear E; intro a E
                refine wpList_nil ?_
                refine th_n ⟨9 - (k + 1), by omega, ?_⟩
                exact ⟨k + 1, (List.getD nodes (Int.toNat r) default).Hi, E.pick _ ⟨rfl, rfl, rfl, rfl, trivial⟩, HW, (by omega), (getD_wf hW _).2.2, ((goF_hi (by omega) (by omega) (by omega) (by omega) (by omega) (by simpa [bitB] using h21)).trans hI), rfl⟩
              · replace E := E_; clear E_
                have h22 : ¬ (((l / 2 ^ Int.toNat ((List.getD nodes (Int.toNat r) default).P)) % 2 : Int) = 1) := ne_of_beq_false hb_
                clear hb_
                refine c_false E rfl ?_
                refine wp_skip ?_
                refine bl_n ?_
                refine th_n ?_
                refine wp_region_lit ?_
                refine vrun (w := w19) (lp := [(0, .slice (some ⟨b8, o9, none⟩) nodes.length c), (1, .int .i64 ((List.getD nodes (Int.toNat r) default).Lo)), (2, .int .u8 l), (9, .int .i64 ((k : Int) + 1)), (20, .slice (some ⟨b8, o9, none⟩) nodes.length c), (21, .int .i64 r), (22, .pointer (some ⟨b8, o9 + (Int.toNat r) * 3, none⟩)), (23, .pointer (some ⟨b8, o9 + (Int.toNat r) * 3, none⟩)), (24, .int .i64 ((List.getD nodes (Int.toNat r) default).P)), (25, .bool (decide (((List.getD nodes (Int.toNat r) default).P) < 0))), (28, .slice (some ⟨b8, o9, none⟩) nodes.length c), (29, .int .i64 r), (30, .pointer (some ⟨b8, o9 + (Int.toNat r) * 3, none⟩)), (31, .pointer (some ⟨b8, o9 + (Int.toNat r) * 3, none⟩)), (32, .int .i64 ((List.getD nodes (Int.toNat r) default).P)), (33, .bool (decide (8 ≤ ((List.getD nodes (Int.toNat r) default).P))))]) (φ := [IntKind.i64.wrap ((k : Int) + 1) = (k : Int) + 1]) tbok 2 [.int .i64 ((k : Int) + 1)] [0, 1, 2, 9, 20, 21, 22, 23, 24, 25, 28, 29, 30, 31, 32, 33] E (by kernel_rfl) (wrap_i64 (by omega) (by omega)) ?_
                clear E; intro a E
                refine wpList_nil ?_
                refine th_n ⟨9 - (k + 1), by omega, ?_⟩
                exact ⟨k + 1, (List.getD nodes (Int.toNat r) default).Lo, E.pick _ ⟨rfl, rfl, rfl, rfl, trivial⟩, HW, (by omega), (getD_wf hW _).2.1, ((goF_lo (by omega) (by omega) (by omega) (by omega) (by omega) (by simpa [bitB] using h22)).trans hI), rfl⟩
    · replace E := E_; clear E_
      have h23 : ¬ ((k : Int) < 9) := of_decide_eq_false hb_
      clear hb_
      refine c_false E rfl ?_
      refine wp_exit ?_
      refine th_exit ?_
      refine th_exit ?_
      refine bl_hit ?_
      refine th_n ?_
      refine wp_seq ?_
      refine wp_region_lit ?_
      refine vrun (w := w1) (lp := [(6, .int .i64 0), (7, .bool false)]) (φ := []) tbok 2 [] [6, 7] E (by kernel_rfl) trivial ?_
      clear E; intro a E
      refine wpList_nil ?_
      refine th_n ?_
      refine wp_ret ?_
      refine ret2 E rfl rfl rfl ?_
      obtain rfl : k = 9 := by omega
      exact ⟨_, rfl, by rw [← hI]; rfl, HW.own⟩

/-! rejoinder/rejoinderref14.Go -/
set_option maxRecDepth 100000 in
theorem rGo_calls (A : Option Addr) (c : Nat) (nodes : List Nd) (ref l : Int) (w0 : World) (hr : -9223372036854775808 ≤ ref ∧ ref ≤ 9223372036854775807) (hlt : 0 ≤ l ∧ l ≤ 255) (hl : nodes.length ≤ 140737488351232) (H : C cNode w0 (Lo w0.heap.size) A nodes) (hW : ∀ x ∈ nodes, x.wf) :
    Calls Try.prog 59 #[.slice A nodes.length c, .int .i64 ref, .int .u8 l] w0 fun e w' => ∃ v, e = .returned v ∧ (v = .tuple #[.int .i64 (goF nodes l 9 ref).1, .bool (goF nodes l 9 ref).2] ∧ Ext w0 w') := by
  have HW : Chg (Hi w0.heap.size) w0 w0 := Chg.refl _ _
  refine enterV (n := 58) Try.func59 rfl rfl rfl ?_
  intro a E
  replace E := E.pick [(0, .slice A nodes.length c), (1, .int .i64 ref), (2, .int .u8 l)] ⟨rfl, rfl, rfl, trivial⟩
  refine wp_seq ?_
  refine wp_region_lit ?_
  refine vrun (w := w0) (lp := [(0, .slice A nodes.length c), (1, .int .i64 ref), (2, .int .u8 l)]) (φ := []) tbok 2 [] [0, 1, 2] E (by kernel_rfl) trivial ?_
  clear E; intro a E
  refine wpList_nil ?_
  refine th_n ?_
  refine wp_seq ?_
  refine wp_seq ?_
  refine wp_region_lit ?_
  refine vrun (w := w0) (lp := [(0, .slice A nodes.length c), (1, .int .i64 ref), (2, .int .u8 l), (8, .int .i64 0)]) (φ := []) tbok 1 [] [0, 1, 2, 8] E (by kernel_rfl) trivial ?_
  clear E; intro a E
  refine wpList_nil ?_
  refine th_n ?_
  refine wp_block ?_
  refine loopV (fun m2 a w1 => ∃ (k : Nat) (r : Int), Fr a 58 [(0, .slice A nodes.length c), (1, .int .i64 r), (2, .int .u8 l), (8, .int .i64 (k : Int))] ∧ Chg (Hi w0.heap.size) w0 w1 ∧ (k ≤ 9) ∧ (-9223372036854775808 ≤ r ∧ r ≤ 9223372036854775807) ∧ (goF nodes l (9 - k) r = goF nodes l 9 ref) ∧ m2 = 9 - k) (9 - (0)) ?_ ?_
  · skip
    exact ⟨0, ref, E.pick _ ⟨rfl, rfl, rfl, rfl, trivial⟩, HW, (by omega), hr, rfl, rfl⟩
  · clear E HW; intro m2 a w1 hI_
    obtain ⟨k, hI_⟩ := hI_
    obtain ⟨r, hI_⟩ := hI_
    obtain ⟨E, HW, hk, hr, hI, hm_m2⟩ := hI_
    refine wp_seq ?_
    refine wp_seq ?_
    refine wp_region_lit ?_
    refine vrun (w := w1) (lp := [(0, .slice A nodes.length c), (1, .int .i64 r), (2, .int .u8 l), (8, .int .i64 (k : Int)), (10, .bool (decide ((k : Int) < 9)))]) (φ := []) tbok 2 [] [0, 1, 2, 8, 10] E (by kernel_rfl) trivial ?_
    clear E; intro a E
    refine wpList_nil ?_
    refine th_n ?_
    refine E.cases (t := 10) rfl (fun hb_ E_ => ?_) (fun hb_ E_ => ?_)
    · replace E := E_; clear E_
      have h3 : (k : Int) < 9 := of_decide_eq_true hb_
      clear hb_
      refine c_true E rfl ?_
      refine wp_skip ?_
      refine th_n ?_
      refine wp_seq ?_
      refine wp_block ?_
      refine wp_seq ?_
      refine wp_seq ?_
      refine wp_region_lit ?_
      refine vrun (w := w1) (lp := [(0, .slice A nodes.length c), (1, .int .i64 r), (2, .int .u8 l), (8, .int .i64 (k : Int)), (14, .bool (decide (r < 0)))]) (φ := []) tbok 2 [] [0, 1, 2, 8, 14] E (by kernel_rfl) trivial ?_
      clear E; intro a E
      refine wpList_nil ?_
      refine th_n ?_
      refine E.cases (t := 14) rfl (fun hb_ E_ => ?_) (fun hb_ E_ => ?_)
      · replace E := E_; clear E_
        have h4 : r < 0 := of_decide_eq_true hb_
        clear hb_
        refine c_true E rfl ?_
        refine wp_seq ?_
        refine wp_region_lit ?_
        refine vrun (w := w1) (lp := [(6, .int .i64 ((-1) - r)), (7, .bool true)]) (φ := [IntKind.i64.wrap ((-1) - r) = (-1) - r]) tbok 4 [.int .i64 ((-1) - r)] [6, 7] E (by kernel_rfl) (wrap_i64 (by omega) (by omega)) ?_
        clear E; intro a E
        refine wpList_nil ?_
        refine th_n ?_
        refine wp_ret ?_
        refine th_ret ?_
        refine bl_ret ?_
        refine th_ret ?_
        refine th_ret ?_
        refine bl_ret ?_
        refine th_ret ?_
        refine ret2 E rfl rfl rfl ?_
        exact ⟨_, rfl, by rw [← hI, goF_neg (by omega) (by omega)], HW.own⟩
      · replace E := E_; clear E_
        have h5 : ¬ (r < 0) := of_decide_eq_false hb_
        clear hb_
        refine c_false E rfl ?_
        refine wp_skip ?_
        refine th_n ?_
        refine wp_seq ?_
        refine wp_seq ?_
        refine wp_region_lit ?_
        refine vrun (w := w1) (lp := [(0, .slice A nodes.length c), (1, .int .i64 r), (2, .int .u8 l), (8, .int .i64 (k : Int)), (21, .bool (decide (((nodes.length : Nat) : Int) ≤ r)))]) (φ := []) tbok 5 [] [0, 1, 2, 8, 21] E (by kernel_rfl) trivial ?_
        clear E; intro a E
        refine E.cases (t := 21) rfl (fun hb_ E_ => ?_) (fun hb_ E_ => ?_)
        · replace E := E_; clear E_
          have h6 : ((nodes.length : Nat) : Int) ≤ r := of_decide_eq_true hb_
          clear hb_
          refine vrun (w := w1) (lp := [(0, .slice A nodes.length c), (1, .int .i64 r), (2, .int .u8 l), (8, .int .i64 (k : Int)), (22, .tuple #[]), (23, .tuple #[]), (24, .tuple #[]), (25, .tuple #[]), (26, .tuple #[]), (27, .tuple #[]), (30, .tuple #[]), (31, .tuple #[]), (32, .tuple #[]), (33, .tuple #[]), (34, .tuple #[]), (35, .tuple #[]), (38, .tuple #[]), (39, .tuple #[]), (40, .bool true)]) (φ := []) tbok 19 [] [0, 1, 2, 8, 22, 23, 24, 25, 26, 27, 30, 31, 32, 33, 34, 35, 38, 39, 40] E (by kernel_rfl) trivial ?_
          clear E; intro a E
          refine wpList_nil ?_
          refine th_n ?_
          refine c_true E rfl ?_
          refine wp_seq ?_
          refine wp_region_lit ?_
          refine vrun (w := w1) (lp := [(6, .int .i64 0), (7, .bool false)]) (φ := []) tbok 2 [] [6, 7] E (by kernel_rfl) trivial ?_
          clear E; intro a E
          refine wpList_nil ?_
          refine th_n ?_
          refine wp_ret ?_
          refine th_ret ?_
          refine bl_ret ?_
          refine th_ret ?_
          refine th_ret ?_
          refine bl_ret ?_
          refine th_ret ?_
          refine ret2 E rfl rfl rfl ?_
          exact ⟨_, rfl, by rw [← hI, goF_bad (by omega) (by omega)], HW.own⟩
        · replace E := E_; clear E_
          have h7 : ¬ (((nodes.length : Nat) : Int) ≤ r) := of_decide_eq_false hb_
          clear hb_
          have hx_24 : 0 ≤ r ∧ r < ((nodes.length : Nat) : Int) := ⟨by omega, by omega⟩
          obtain ⟨b8, o9, e_b8⟩ := H.addr (by omega)
          subst e_b8
          refine vrun (w := w1) (lp := [(0, .slice (some ⟨b8, o9, none⟩) nodes.length c), (1, .int .i64 r), (2, .int .u8 l), (8, .int .i64 (k : Int)), (22, .slice (some ⟨b8, o9, none⟩) nodes.length c), (23, .int .i64 r), (24, .pointer (some ⟨b8, o9 + (Int.toNat r) * 3, none⟩)), (25, .pointer (some ⟨b8, o9 + (Int.toNat r) * 3, none⟩)), (26, .int .i64 ((List.getD nodes (Int.toNat r) default).P)), (27, .bool (decide (((List.getD nodes (Int.toNat r) default).P) < 0))), (29, .bool (decide (((List.getD nodes (Int.toNat r) default).P) < 0)))]) (φ := [0 ≤ r ∧ r < ((nodes.length : Nat) : Int), World.cell? w1 ⟨b8, o9 + (Int.toNat r) * 3, none⟩ = some (.int .i64 ((List.getD nodes (Int.toNat r) default).P))]) tbok 8 [.int .i64 ((List.getD nodes (Int.toNat r) default).P)] [0, 1, 2, 8, 22, 23, 24, 25, 26, 27, 29] E (by kernel_rfl) ⟨hx_24, (C.atP (H.keep HW lo_hi) default hx_24.1 hx_24.2).1⟩ ?_
          clear E; intro a E
          refine E.cases (t := 29) rfl (fun hb_ E_ => ?_) (fun hb_ E_ => ?_)
          · replace E := E_; clear E_
            have h10 : ((List.getD nodes (Int.toNat r) default).P) < 0 := of_decide_eq_true hb_
            clear hb_
            refine vrun (w := w1) (lp := [(0, .slice (some ⟨b8, o9, none⟩) nodes.length c), (1, .int .i64 r), (2, .int .u8 l), (8, .int .i64 (k : Int)), (22, .slice (some ⟨b8, o9, none⟩) nodes.length c), (23, .int .i64 r), (24, .pointer (some ⟨b8, o9 + (Int.toNat r) * 3, none⟩)), (25, .pointer (some ⟨b8, o9 + (Int.toNat r) * 3, none⟩)), (26, .int .i64 ((List.getD nodes (Int.toNat r) default).P)), (27, .bool (decide (((List.getD nodes (Int.toNat r) default).P) < 0))), (30, .tuple #[]), (31, .tuple #[]), (32, .tuple #[]), (33, .tuple #[]), (34, .tuple #[]), (35, .tuple #[]), (38, .tuple #[]), (39, .tuple #[]), (40, .bool true)]) (φ := []) tbok 11 [] [0, 1, 2, 8, 22, 23, 24, 25, 26, 27, 30, 31, 32, 33, 34, 35, 38, 39, 40] E (by kernel_rfl) trivial ?_
            clear E; intro a E
            refine wpList_nil ?_
            refine th_n ?_
            refine c_true E rfl ?_
            refine wp_seq ?_
            refine wp_region_lit ?_
            refine vrun (w := w1) (lp := [(6, .int .i64 0), (7, .bool false)]) (φ := []) tbok 2 [] [6, 7] E (by kernel_rfl) trivial ?_
            clear E; intro a E
            refine wpList_nil ?_
            refine th_n ?_
            refine wp_ret ?_
            refine th_ret ?_
            refine bl_ret ?_
            refine th_ret ?_
            refine th_ret ?_
            refine bl_ret ?_
            refine th_ret ?_
            refine ret2 E rfl rfl rfl ?_
            exact ⟨_, rfl, by rw [← hI, goF_bad (by omega) (by omega)], HW.own⟩
          · replace E := E_; clear E_
            have h11 : ¬ (((List.getD nodes (Int.toNat r) default).P) < 0) := of_decide_eq_false hb_
            clear hb_
            have hx_32 : 0 ≤ r ∧ r < ((nodes.length : Nat) : Int) := ⟨by omega, by omega⟩
            refine vrun (w := w1) (lp := [(0, .slice (some ⟨b8, o9, none⟩) nodes.length c), (1, .int .i64 r), (2, .int .u8 l), (8, .int .i64 (k : Int)), (22, .slice (some ⟨b8, o9, none⟩) nodes.length c), (23, .int .i64 r), (24, .pointer (some ⟨b8, o9 + (Int.toNat r) * 3, none⟩)), (25, .pointer (some ⟨b8, o9 + (Int.toNat r) * 3, none⟩)), (26, .int .i64 ((List.getD nodes (Int.toNat r) default).P)), (27, .bool (decide (((List.getD nodes (Int.toNat r) default).P) < 0))), (30, .slice (some ⟨b8, o9, none⟩) nodes.length c), (31, .int .i64 r), (32, .pointer (some ⟨b8, o9 + (Int.toNat r) * 3, none⟩)), (33, .pointer (some ⟨b8, o9 + (Int.toNat r) * 3, none⟩)), (34, .int .i64 ((List.getD nodes (Int.toNat r) default).P)), (35, .bool (decide (7 < ((List.getD nodes (Int.toNat r) default).P)))), (37, .bool (decide (7 < ((List.getD nodes (Int.toNat r) default).P))))]) (φ := [0 ≤ r ∧ r < ((nodes.length : Nat) : Int), World.cell? w1 ⟨b8, o9 + (Int.toNat r) * 3, none⟩ = some (.int .i64 ((List.getD nodes (Int.toNat r) default).P))]) tbok 8 [.int .i64 ((List.getD nodes (Int.toNat r) default).P)] [0, 1, 2, 8, 22, 23, 24, 25, 26, 27, 30, 31, 32, 33, 34, 35, 37] E (by kernel_rfl) ⟨hx_32, (C.atP (H.keep HW lo_hi) default hx_32.1 hx_32.2).1⟩ ?_
            clear E; intro a E
            refine E.cases (t := 37) rfl (fun hb_ E_ => ?_) (fun hb_ E_ => ?_)
            · replace E := E_; clear E_
              have h12 : 7 < ((List.getD nodes (Int.toNat r) default).P) := of_decide_eq_true hb_
              clear hb_
              refine vrun (w := w1) (lp := [(0, .slice (some ⟨b8, o9, none⟩) nodes.length c), (1, .int .i64 r), (2, .int .u8 l), (8, .int .i64 (k : Int)), (22, .slice (some ⟨b8, o9, none⟩) nodes.length c), (23, .int .i64 r), (24, .pointer (some ⟨b8, o9 + (Int.toNat r) * 3, none⟩)), (25, .pointer (some ⟨b8, o9 + (Int.toNat r) * 3, none⟩)), (26, .int .i64 ((List.getD nodes (Int.toNat r) default).P)), (27, .bool (decide (((List.getD nodes (Int.toNat r) default).P) < 0))), (30, .slice (some ⟨b8, o9, none⟩) nodes.length c), (31, .int .i64 r), (32, .pointer (some ⟨b8, o9 + (Int.toNat r) * 3, none⟩)), (33, .pointer (some ⟨b8, o9 + (Int.toNat r) * 3, none⟩)), (34, .int .i64 ((List.getD nodes (Int.toNat r) default).P)), (35, .bool (decide (7 < ((List.getD nodes (Int.toNat r) default).P)))), (38, .tuple #[]), (39, .tuple #[]), (40, .bool true)]) (φ := []) tbok 3 [] [0, 1, 2, 8, 22, 23, 24, 25, 26, 27, 30, 31, 32, 33, 34, 35, 38, 39, 40] E (by kernel_rfl) trivial ?_
              clear E; intro a E
              refine wpList_nil ?_
              refine th_n ?_
              refine c_true E rfl ?_
              refine wp_seq ?_
              refine wp_region_lit ?_
              refine vrun (w := w1) (lp := [(6, .int .i64 0), (7, .bool false)]) (φ := []) tbok 2 [] [6, 7] E (by kernel_rfl) trivial ?_
              clear E; intro a E
              refine wpList_nil ?_
              refine th_n ?_
              refine wp_ret ?_
              refine th_ret ?_
              refine bl_ret ?_
              refine th_ret ?_
              refine th_ret ?_
              refine bl_ret ?_
              refine th_ret ?_
              refine ret2 E rfl rfl rfl ?_
              exact ⟨_, rfl, by rw [← hI, goF_bad (by omega) (by omega)], HW.own⟩
            · replace E := E_; clear E_
              have h13 : ¬ (7 < ((List.getD nodes (Int.toNat r) default).P)) := of_decide_eq_false hb_
              clear hb_
              refine vrun (w := w1) (lp := [(0, .slice (some ⟨b8, o9, none⟩) nodes.length c), (1, .int .i64 r), (2, .int .u8 l), (8, .int .i64 (k : Int)), (22, .slice (some ⟨b8, o9, none⟩) nodes.length c), (23, .int .i64 r), (24, .pointer (some ⟨b8, o9 + (Int.toNat r) * 3, none⟩)), (25, .pointer (some ⟨b8, o9 + (Int.toNat r) * 3, none⟩)), (26, .int .i64 ((List.getD nodes (Int.toNat r) default).P)), (27, .bool (decide (((List.getD nodes (Int.toNat r) default).P) < 0))), (30, .slice (some ⟨b8, o9, none⟩) nodes.length c), (31, .int .i64 r), (32, .pointer (some ⟨b8, o9 + (Int.toNat r) * 3, none⟩)), (33, .pointer (some ⟨b8, o9 + (Int.toNat r) * 3, none⟩)), (34, .int .i64 ((List.getD nodes (Int.toNat r) default).P)), (35, .bool (decide (7 < ((List.getD nodes (Int.toNat r) default).P)))), (38, .int .i64 (k : Int)), (39, .bool (((k : Int) : Int) == 8)), (40, .bool (((k : Int) : Int) == 8))]) (φ := []) tbok 3 [] [0, 1, 2, 8, 22, 23, 24, 25, 26, 27, 30, 31, 32, 33, 34, 35, 38, 39, 40] E (by kernel_rfl) trivial ?_
              clear E; intro a E
              refine wpList_nil ?_
              refine th_n ?_
              refine E.cases (t := 40) rfl (fun hb_ E_ => ?_) (fun hb_ E_ => ?_)
              · replace E := E_; clear E_
                have h14 : ((k : Int) : Int) = 8 := eq_of_beq hb_
                clear hb_
                refine c_true E rfl ?_
                refine wp_seq ?_
                refine wp_region_lit ?_
                refine vrun (w := w1) (lp := [(6, .int .i64 0), (7, .bool false)]) (φ := []) tbok 2 [] [6, 7] E (by kernel_rfl) trivial ?_
                clear E; intro a E
                refine wpList_nil ?_
                refine th_n ?_
                refine wp_ret ?_
                refine th_ret ?_
                refine bl_ret ?_
                refine th_ret ?_
                refine th_ret ?_
                refine bl_ret ?_
                refine th_ret ?_
                refine ret2 E rfl rfl rfl ?_
                obtain rfl : k = 8 := by omega
                exact ⟨_, rfl, by rw [← hI, goF_one (by omega)], HW.own⟩
              · replace E := E_; clear E_
                have h15 : ¬ (((k : Int) : Int) = 8) := ne_of_beq_false hb_
                clear hb_
                refine c_false E rfl ?_
                refine wp_skip ?_
                refine th_n ?_
                refine wp_seq ?_
                refine wp_region_lit ?_
                have hx_44 : 0 ≤ r ∧ r < ((nodes.length : Nat) : Int) := ⟨by omega, by omega⟩
                refine vrun (w := w1) (lp := [(0, .slice (some ⟨b8, o9, none⟩) nodes.length c), (1, .int .i64 r), (2, .int .u8 l), (8, .int .i64 (k : Int)), (22, .slice (some ⟨b8, o9, none⟩) nodes.length c), (23, .int .i64 r), (24, .pointer (some ⟨b8, o9 + (Int.toNat r) * 3, none⟩)), (25, .pointer (some ⟨b8, o9 + (Int.toNat r) * 3, none⟩)), (26, .int .i64 ((List.getD nodes (Int.toNat r) default).P)), (27, .bool (decide (((List.getD nodes (Int.toNat r) default).P) < 0))), (30, .slice (some ⟨b8, o9, none⟩) nodes.length c), (31, .int .i64 r), (32, .pointer (some ⟨b8, o9 + (Int.toNat r) * 3, none⟩)), (33, .pointer (some ⟨b8, o9 + (Int.toNat r) * 3, none⟩)), (34, .int .i64 ((List.getD nodes (Int.toNat r) default).P)), (35, .bool (decide (7 < ((List.getD nodes (Int.toNat r) default).P)))), (38, .int .i64 (k : Int)), (39, .bool (((k : Int) : Int) == 8)), (41, .int .u8 l), (46, .int .i64 ((List.getD nodes (Int.toNat r) default).P))]) (φ := [0 ≤ r ∧ r < ((nodes.length : Nat) : Int), World.cell? w1 ⟨b8, o9 + (Int.toNat r) * 3, none⟩ = some (.int .i64 ((List.getD nodes (Int.toNat r) default).P))]) tbok 6 [.int .i64 ((List.getD nodes (Int.toNat r) default).P)] [0, 1, 2, 8, 22, 23, 24, 25, 26, 27, 30, 31, 32, 33, 34, 35, 38, 39, 41, 46] E (by kernel_rfl) ⟨hx_44, (C.atP (H.keep HW lo_hi) default hx_44.1 hx_44.2).1⟩ ?_
                clear E; intro a E
                refine e_call E rfl rfl Try.func62 rfl rfl rfl (bit_calls l ((List.getD nodes (Int.toNat r) default).P) _ hlt (by omega)) ?_
                intro v16 w17 a hR18 E_
                obtain ⟨rfl, hc19⟩ := hR18
                replace E := E_ _ rfl; clear E_
                replace HW := HW.trans hc19 (fun _ _ h_ => h_.elim)
                refine wpList_nil ?_
                refine th_n ?_
                refine E.cases (t := 47) rfl (fun hb_ E_ => ?_) (fun hb_ E_ => ?_)
                · replace E := E_; clear E_
                  have h20 : (bitB l ((List.getD nodes (Int.toNat r) default).P)) = true := hb_
                  clear hb_
                  refine c_true E rfl ?_
                  refine wp_region_lit ?_
                  have hx_50 : 0 ≤ r ∧ r < ((nodes.length : Nat) : Int) := ⟨by omega, by omega⟩
                  refine vrun (w := w17) (lp := [(0, .slice (some ⟨b8, o9, none⟩) nodes.length c), (1, .int .i64 ((List.getD nodes (Int.toNat r) default).Hi)), (2, .int .u8 l), (8, .int .i64 (k : Int)), (22, .slice (some ⟨b8, o9, none⟩) nodes.length c), (23, .int .i64 r), (24, .pointer (some ⟨b8, o9 + (Int.toNat r) * 3, none⟩)), (25, .pointer (some ⟨b8, o9 + (Int.toNat r) * 3, none⟩)), (26, .int .i64 ((List.getD nodes (Int.toNat r) default).P)), (27, .bool (decide (((List.getD nodes (Int.toNat r) default).P) < 0))), (30, .slice (some ⟨b8, o9, none⟩) nodes.length c), (31, .int .i64 r), (32, .pointer (some ⟨b8, o9 + (Int.toNat r) * 3, none⟩)), (33, .pointer (some ⟨b8, o9 + (Int.toNat r) * 3, none⟩)), (34, .int .i64 ((List.getD nodes (Int.toNat r) default).P)), (35, .bool (decide (7 < ((List.getD nodes (Int.toNat r) default).P)))), (38, .int .i64 (k : Int)), (39, .bool (((k : Int) : Int) == 8))]) (φ := [0 ≤ r ∧ r < ((nodes.length : Nat) : Int), World.cell? w17 ⟨b8, o9 + (Int.toNat r) * 3 + 2, none⟩ = some (.int .i64 ((List.getD nodes (Int.toNat r) default).Hi))]) tbok 6 [.int .i64 ((List.getD nodes (Int.toNat r) default).Hi)] [0, 1, 2, 8, 22, 23, 24, 25, 26, 27, 30, 31, 32, 33, 34, 35, 38, 39] E (by kernel_rfl) ⟨hx_50, C.atF (H.keep HW lo_hi) default hx_50.1 hx_50.2 2 rfl⟩ ?_
                  clear E; intro a E
                  refine wpList_nil ?_
                  refine bl_n ?_
                  refine th_n ?_
                  refine wp_region_lit ?_
                  refine vrun (w := w17) (lp := [(0, .slice (some ⟨b8, o9, none⟩) nodes.length c), (1, .int .i64 ((List.getD nodes (Int.toNat r) default).Hi)), (2, .int .u8 l), (8, .int .i64 ((k : Int) + 1)), (22, .slice (some ⟨b8, o9, none⟩) nodes.length c), (23, .int .i64 r), (24, .pointer (some ⟨b8, o9 + (Int.toNat r) * 3, none⟩)), (25, .pointer (some ⟨b8, o9 + (Int.toNat r) * 3, none⟩)), (26, .int .i64 ((List.getD nodes (Int.toNat r) default).P)), (27, .bool (decide (((List.getD nodes (Int.toNat r) default).P) < 0))), (30, .slice (some ⟨b8, o9, none⟩) nodes.length c), (31, .int .i64 r), (32, .pointer (some ⟨b8, o9 + (Int.toNat r) * 3, none⟩)), (33, .pointer (some ⟨b8, o9 + (Int.toNat r) * 3, none⟩)), (34, .int .i64 ((List.getD nodes (Int.toNat r) default).P)), (35, .bool (decide (7 < ((List.getD nodes (Int.toNat r) default).P)))), (38, .int .i64 (k : Int)), (39, .bool (((k : Int) : Int) == 8))]) (φ := [IntKind.i64.wrap ((k : Int) + 1) = (k : Int) + 1]) tbok 3 [.int .i64 ((k : Int) + 1)] [0, 1, 2, 8, 22, 23, 24, 25, 26, 27, 30, 31, 32, 33, 34, 35, 38, 39] E (by kernel_rfl) (wrap_i64 (by omega) (by omega)) ?_
                  clear E; intro a E
                  refine wpList_nil ?_
                  refine th_n ⟨9 - (k + 1), by omega, ?_⟩
                  exact ⟨k + 1, (List.getD nodes (Int.toNat r) default).Hi, E.pick _ ⟨rfl, rfl, rfl, rfl, trivial⟩, HW, (by omega), (getD_wf hW _).2.2, ((goF_hi (by omega) (by omega) (by omega) (by omega) (by omega) (by simpa [bitB] using h20)).trans hI), rfl⟩
                · replace E := E_; clear E_
                  have h21 : (bitB l ((List.getD nodes (Int.toNat r) default).P)) = false := hb_
                  clear hb_
                  refine c_false E rfl ?_
                  refine wp_region_lit ?_
                  have hx_55 : 0 ≤ r ∧ r < ((nodes.length : Nat) : Int) := ⟨by omega, by omega⟩
                  refine vrun (w := w17) (lp := [(0, .slice (some ⟨b8, o9, none⟩) nodes.length c), (1, .int .i64 ((List.getD nodes (Int.toNat r) default).Lo)), (2, .int .u8 l), (8, .int .i64 (k : Int)), (22, .slice (some ⟨b8, o9, none⟩) nodes.length c), (23, .int .i64 r), (24, .pointer (some ⟨b8, o9 + (Int.toNat r) * 3, none⟩)), (25, .pointer (some ⟨b8, o9 + (Int.toNat r) * 3, none⟩)), (26, .int .i64 ((List.getD nodes (Int.toNat r) default).P)), (27, .bool (decide (((List.getD nodes (Int.toNat r) default).P) < 0))), (30, .slice (some ⟨b8, o9, none⟩) nodes.length c), (31, .int .i64 r), (32, .pointer (some ⟨b8, o9 + (Int.toNat r) * 3, none⟩)), (33, .pointer (some ⟨b8, o9 + (Int.toNat r) * 3, none⟩)), (34, .int .i64 ((List.getD nodes (Int.toNat r) default).P)), (35, .bool (decide (7 < ((List.getD nodes (Int.toNat r) default).P)))), (38, .int .i64 (k : Int)), (39, .bool (((k : Int) : Int) == 8))]) (φ := [0 ≤ r ∧ r < ((nodes.length : Nat) : Int), World.cell? w17 ⟨b8, o9 + (Int.toNat r) * 3 + 1, none⟩ = some (.int .i64 ((List.getD nodes (Int.toNat r) default).Lo))]) tbok 6 [.int .i64 ((List.getD nodes (Int.toNat r) default).Lo)] [0, 1, 2, 8, 22, 23, 24, 25, 26, 27, 30, 31, 32, 33, 34, 35, 38, 39] E (by kernel_rfl) ⟨hx_55, C.atF (H.keep HW lo_hi) default hx_55.1 hx_55.2 1 rfl⟩ ?_
                  clear E; intro a E
                  refine wpList_nil ?_
                  refine bl_n ?_
                  refine th_n ?_
                  refine wp_region_lit ?_
                  refine vrun (w := w17) (lp := [(0, .slice (some ⟨b8, o9, none⟩) nodes.length c), (1, .int .i64 ((List.getD nodes (Int.toNat r) default).Lo)), (2, .int .u8 l), (8, .int .i64 ((k : Int) + 1)), (22, .slice (some ⟨b8, o9, none⟩) nodes.length c), (23, .int .i64 r), (24, .pointer (some ⟨b8, o9 + (Int.toNat r) * 3, none⟩)), (25, .pointer (some ⟨b8, o9 + (Int.toNat r) * 3, none⟩)), (26, .int .i64 ((List.getD nodes (Int.toNat r) default).P)), (27, .bool (decide (((List.getD nodes (Int.toNat r) default).P) < 0))), (30, .slice (some ⟨b8, o9, none⟩) nodes.length c), (31, .int .i64 r), (32, .pointer (some ⟨b8, o9 + (Int.toNat r) * 3, none⟩)), (33, .pointer (some ⟨b8, o9 + (Int.toNat r) * 3, none⟩)), (34, .int .i64 ((List.getD nodes (Int.toNat r) default).P)), (35, .bool (decide (7 < ((List.getD nodes (Int.toNat r) default).P)))), (38, .int .i64 (k : Int)), (39, .bool (((k : Int) : Int) == 8))]) (φ := [IntKind.i64.wrap ((k : Int) + 1) = (k : Int) + 1]) tbok 3 [.int .i64 ((k : Int) + 1)] [0, 1, 2, 8, 22, 23, 24, 25, 26, 27, 30, 31, 32, 33, 34, 35, 38, 39] E (by kernel_rfl) (wrap_i64 (by omega) (by omega)) ?_
                  clear E; intro a E
                  refine wpList_nil ?_
                  refine th_n ⟨9 - (k + 1), by omega, ?_⟩
                  exact ⟨k + 1, (List.getD nodes (Int.toNat r) default).Lo, E.pick _ ⟨rfl, rfl, rfl, rfl, trivial⟩, HW, (by omega), (getD_wf hW _).2.1, ((goF_lo (by omega) (by omega) (by omega) (by omega) (by omega) (by simpa [bitB] using h21)).trans hI), rfl⟩
    · replace E := E_; clear E_
      have h22 : ¬ ((k : Int) < 9) := of_decide_eq_false hb_
      clear hb_
      refine c_false E rfl ?_
      refine wp_exit ?_
      refine th_exit ?_
      refine th_exit ?_
      refine bl_hit ?_
      refine th_n ?_
      refine wp_seq ?_
      refine wp_region_lit ?_
      refine vrun (w := w1) (lp := [(6, .int .i64 0), (7, .bool false)]) (φ := []) tbok 2 [] [6, 7] E (by kernel_rfl) trivial ?_
      clear E; intro a E
      refine wpList_nil ?_
      refine th_n ?_
      refine wp_ret ?_
      refine ret2 E rfl rfl rfl ?_
      obtain rfl : k = 9 := by omega
      exact ⟨_, rfl, by rw [← hI]; rfl, HW.own⟩

end Go.V
