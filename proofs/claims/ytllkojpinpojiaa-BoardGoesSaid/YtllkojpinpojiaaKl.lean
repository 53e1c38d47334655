/- Contracts of functions of the program: walks. -/
import Derived.Test.YtllkojpinpojiaaCx
import Derived.Test.YtllkojpinpojiaaTb
set_option linter.all false
set_option linter.unusedVariables false
set_option linter.unnecessarySimpa false
set_option linter.unusedSimpArgs false
namespace Go.V
open Go Go.Proofs

/-! rejoinder/rejoinderkit.SameLetters -/
set_option maxRecDepth 100000 in
theorem SameLetters_calls (A1 A2 : Option Addr) (c1 c2 n1 n2 : Nat) (xs ys : List Int) (w0 : World) (hn1 : n1 = xs.length) (hn2 : n2 = ys.length) (hl1 : xs.length ≤ 140737488351232) (H1 : C (cInt .u8) w0 (Lo w0.heap.size) A1 xs) (H2 : C (cInt .u8) w0 (Lo w0.heap.size) A2 ys) :
    Calls Try.prog 25 #[.slice A1 n1 c1, .slice A2 n2 c2] w0 fun e w' => ∃ v, e = .returned v ∧ (v = .bool (decide (xs = ys)) ∧ Ext w0 w') := by
  have HW : Chg (Hi w0.heap.size) w0 w0 := Chg.refl _ _
  subst hn1 hn2
  refine enterV (n := 26) Try.func25 rfl rfl rfl ?_
  intro a E
  replace E := E.pick [(0, .slice A1 xs.length c1), (1, .slice A2 ys.length c2)] ⟨rfl, rfl, trivial⟩
  refine wp_seq ?_
  refine wp_region_lit ?_
  refine vrun (w := w0) (lp := [(0, .slice A1 xs.length c1), (1, .slice A2 ys.length c2)]) (φ := []) tbok 1 [] [0, 1] E (by kernel_rfl) trivial ?_
  clear E; intro a E
  refine wpList_nil ?_
  refine th_n ?_
  refine wp_seq ?_
  refine wp_seq ?_
  refine wp_region_lit ?_
  refine vrun (w := w0) (lp := [(0, .slice A1 xs.length c1), (1, .slice A2 ys.length c2), (10, .bool ((((xs.length : Nat) : Int) : Int) != ((ys.length : Nat) : Int)))]) (φ := []) tbok 5 [] [0, 1, 10] E (by kernel_rfl) trivial ?_
  clear E; intro a E
  refine wpList_nil ?_
  refine th_n ?_
  refine E.cases (t := 10) rfl (fun hb_ E_ => ?_) (fun hb_ E_ => ?_)
  · replace E := E_; clear E_
    have h1 : ¬ ((((xs.length : Nat) : Int) : Int) = ((ys.length : Nat) : Int)) := bne_iff_ne.1 hb_
    clear hb_
    refine c_true E rfl ?_
    refine wp_seq ?_
    refine wp_region_lit ?_
    refine vrun (w := w0) (lp := [(4, .bool false)]) (φ := []) tbok 1 [] [4] E (by kernel_rfl) trivial ?_
    clear E; intro a E
    refine wpList_nil ?_
    refine th_n ?_
    refine wp_ret ?_
    refine th_ret ?_
    refine ret1 E rfl rfl ?_
    refine ⟨_, rfl, ?_, HW.own⟩
    rw [decide_eq_false (fun e_ => h1 (by rw [e_]))]
  · replace E := E_; clear E_
    have h2 : (((xs.length : Nat) : Int) : Int) = ((ys.length : Nat) : Int) := bne_eq_false_iff_eq.1 hb_
    clear hb_
    refine c_false E rfl ?_
    refine wp_skip ?_
    refine th_n ?_
    refine wp_seq ?_
    refine wp_seq ?_
    refine wp_region_lit ?_
    refine vrun (w := w0) (lp := [(0, .slice A1 xs.length c1), (1, .slice A2 ys.length c2), (5, .int .i64 0)]) (φ := []) tbok 1 [] [0, 1, 5] E (by kernel_rfl) trivial ?_
    clear E; intro a E
    refine wpList_nil ?_
    refine th_n ?_
    refine wp_block ?_
    refine loopV (fun m4 a w3 => ∃ (k : Nat), Fr a 26 [(0, .slice A1 xs.length c1), (1, .slice A2 ys.length c2), (5, .int .i64 (k : Int))] ∧ Chg (Hi w0.heap.size) w0 w3 ∧ (k ≤ xs.length) ∧ (∀ i, i < k → xs.getD i 0 = ys.getD i 0) ∧ m4 = xs.length - k) (xs.length - (0)) ?_ ?_
    · skip
      exact ⟨0, E.pick _ ⟨rfl, rfl, rfl, trivial⟩, HW, (by omega), (fun i hi => absurd hi (by omega)), rfl⟩
    · clear E HW; intro m4 a w3 hI_
      obtain ⟨k, hI_⟩ := hI_
      obtain ⟨E, HW, hk, hI, hm_m4⟩ := hI_
      refine wp_seq ?_
      refine wp_seq ?_
      refine wp_region_lit ?_
      refine vrun (w := w3) (lp := [(0, .slice A1 xs.length c1), (1, .slice A2 ys.length c2), (5, .int .i64 (k : Int)), (14, .bool (decide ((k : Int) < ((xs.length : Nat) : Int))))]) (φ := []) tbok 4 [] [0, 1, 5, 14] E (by kernel_rfl) trivial ?_
      clear E; intro a E
      refine wpList_nil ?_
      refine th_n ?_
      refine E.cases (t := 14) rfl (fun hb_ E_ => ?_) (fun hb_ E_ => ?_)
      · replace E := E_; clear E_
        have h5 : (k : Int) < ((xs.length : Nat) : Int) := of_decide_eq_true hb_
        clear hb_
        refine c_true E rfl ?_
        refine wp_skip ?_
        refine th_n ?_
        refine wp_seq ?_
        refine wp_block ?_
        refine wp_seq ?_
        refine dr_start (S := fun w_ => Chg No w3 w_) (by kernel_rfl) ?_
        intro w6 hc7
        have HWs := HW
        have HS : Chg No w3 w6 := hc7.mono (fun _ _ h_ => h_.elim)
        replace HW := HW.trans hc7 (fun _ _ h_ => h_.elim)
        have hx_19 : 0 ≤ (k : Int) ∧ (k : Int) < ((xs.length : Nat) : Int) := ⟨by omega, by omega⟩
        obtain ⟨b8, o9, e_b8⟩ := H1.addr (by omega)
        subst e_b8
        have hx_23 : 0 ≤ (k : Int) ∧ (k : Int) < ((ys.length : Nat) : Int) := ⟨by omega, by omega⟩
        obtain ⟨b10, o11, e_b10⟩ := H2.addr (by omega)
        subst e_b10
        refine drun (lp := [(0, .slice (some ⟨b8, o9, none⟩) xs.length c1), (1, .slice (some ⟨b10, o11, none⟩) ys.length c2), (5, .int .i64 (k : Int)), (25, .bool (((List.getD xs (Int.toNat (k : Int)) 0) : Int) != (List.getD ys (Int.toNat (k : Int)) 0)))]) tbok (by kernel_rfl) [0, 1, 2, 3, 4, 5, 6, 7, 8] [.int .u8 (List.getD xs (Int.toNat (k : Int)) 0), .int .u8 (List.getD ys (Int.toNat (k : Int)) 0)] [0, 1, 5, 25] (fun w_ => [0 ≤ (k : Int) ∧ (k : Int) < ((xs.length : Nat) : Int), World.cell? w_ ⟨b8, o9 + (Int.toNat (k : Int)) * 1, none⟩ = some (.int .u8 (List.getD xs (Int.toNat (k : Int)) 0)), 0 ≤ (k : Int) ∧ (k : Int) < ((ys.length : Nat) : Int), World.cell? w_ ⟨b10, o11 + (Int.toNat (k : Int)) * 1, none⟩ = some (.int .u8 (List.getD ys (Int.toNat (k : Int)) 0))]) (fuel := 0) E (fun _ _ => by kernel_rfl) (fun w_ hS_ => ⟨hx_19, hS_.cell (C.at1 (H1.keep HWs lo_hi) 0 hx_19.1 hx_19.2) (fun h_ => h_), hx_23, hS_.cell (C.at1 (H2.keep HWs lo_hi) 0 hx_23.1 hx_23.2) (fun h_ => h_)⟩) (by kernel_rfl) HS ?_
        clear E; intro a E
        refine dr_done (by kernel_rfl) ?_
        clear HS HWs
        refine th_n ?_
        refine E.cases (t := 25) rfl (fun hb_ E_ => ?_) (fun hb_ E_ => ?_)
        · replace E := E_; clear E_
          have h12 : ¬ (((List.getD xs (Int.toNat (k : Int)) 0) : Int) = (List.getD ys (Int.toNat (k : Int)) 0)) := bne_iff_ne.1 hb_
          clear hb_
          refine c_true E rfl ?_
          refine wp_seq ?_
          refine wp_region_lit ?_
          refine vrun (w := w6) (lp := [(4, .bool false)]) (φ := []) tbok 1 [] [4] E (by kernel_rfl) trivial ?_
          clear E; intro a E
          refine wpList_nil ?_
          refine th_n ?_
          refine wp_ret ?_
          refine bl_ret ?_
          refine th_ret ?_
          refine th_ret ?_
          refine bl_ret ?_
          refine th_ret ?_
          refine ret1 E rfl rfl ?_
          refine ⟨_, rfl, ?_, HW.own⟩
          rw [decide_eq_false (same_ne h12)]
        · replace E := E_; clear E_
          have h13 : ((List.getD xs (Int.toNat (k : Int)) 0) : Int) = (List.getD ys (Int.toNat (k : Int)) 0) := bne_eq_false_iff_eq.1 hb_
          clear hb_
          refine c_false E rfl ?_
          refine wp_skip ?_
          refine bl_n ?_
          refine th_n ?_
          refine wp_region_lit ?_
          refine vrun (w := w6) (lp := [(0, .slice (some ⟨b8, o9, none⟩) xs.length c1), (1, .slice (some ⟨b10, o11, none⟩) ys.length c2), (5, .int .i64 ((k : Int) + 1))]) (φ := [IntKind.i64.wrap ((k : Int) + 1) = (k : Int) + 1]) tbok 3 [.int .i64 ((k : Int) + 1)] [0, 1, 5] E (by kernel_rfl) (wrap_i64 (by omega) (by omega)) ?_
          clear E; intro a E
          refine wpList_nil ?_
          refine th_n ⟨xs.length - (k + 1), by omega, ?_⟩
          exact ⟨k + 1, E.pick _ ⟨rfl, rfl, rfl, trivial⟩, HW, (by omega), (same_step hI h13), rfl⟩
      · replace E := E_; clear E_
        have h14 : ¬ ((k : Int) < ((xs.length : Nat) : Int)) := of_decide_eq_false hb_
        clear hb_
        refine c_false E rfl ?_
        refine wp_exit ?_
        refine th_exit ?_
        refine th_exit ?_
        refine bl_hit ?_
        refine th_n ?_
        refine wp_seq ?_
        refine wp_region_lit ?_
        refine vrun (w := w3) (lp := [(4, .bool true)]) (φ := []) tbok 1 [] [4] E (by kernel_rfl) trivial ?_
        clear E; intro a E
        refine wpList_nil ?_
        refine th_n ?_
        refine wp_ret ?_
        refine ret1 E rfl rfl ?_
        refine ⟨_, rfl, ?_, HW.own⟩
        rw [decide_eq_true (same_ext 0 (by omega) (fun i hi => hI i (by omega)))]

end Go.V
