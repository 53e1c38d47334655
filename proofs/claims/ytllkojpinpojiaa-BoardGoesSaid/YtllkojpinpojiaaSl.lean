/- Contracts of functions of the program: walks. -/
import Derived.Test.YtllkojpinpojiaaCx
import Derived.Test.YtllkojpinpojiaaTb
set_option linter.all false
set_option linter.unusedVariables false
set_option linter.unnecessarySimpa false
set_option linter.unusedSimpArgs false
namespace Go.V
open Go Go.Proofs

/-! slices.Reverse[[]rejoinder/api.Letter,rejoinder/api.Letter] -/
set_option maxRecDepth 100000 in
theorem Reverse_u8_calls (b0 c : Nat) (A : Option Addr) (xs : List Int) (w0 : World) (hl : xs.length ≤ 1000000) (R : Row (cInt .u8) 27 w0 b0 No A c xs) :
    Calls Try.prog 33 #[.slice A (List.length xs) c] w0 fun e w' => ∃ v, e = .returned v ∧ (v = .tuple #[] ∧ Chg (At A) w0 w' ∧ Row (cInt .u8) 27 w' b0 No A c xs.reverse) := by
  have HW : Chg (fun q => Hi w0.heap.size q ∨ At A q) w0 w0 := Chg.refl _ _
  refine enterV (n := 28) Try.func33 rfl rfl rfl ?_
  intro a E
  replace E := E.pick [(0, .slice A (List.length xs) c)] ⟨rfl, trivial⟩
  refine wp_seq ?_
  refine wp_region_lit ?_
  refine vrun (w := w0) (lp := [(0, .slice A (List.length xs) c), (2, .int .i64 0), (3, .int .i64 ((((List.length xs) : Nat) : Int) - 1))]) (φ := [IntKind.i64.wrap ((((List.length xs) : Nat) : Int) - 1) = (((List.length xs) : Nat) : Int) - 1]) tbok 5 [.int .i64 ((((List.length xs) : Nat) : Int) - 1)] [0, 2, 3] E (by kernel_rfl) (wrap_i64 (by omega) (by omega)) ?_
  clear E; intro a E
  refine wpList_nil ?_
  refine th_n ?_
  refine wp_block ?_
  refine loopV (fun m2 a w1 => ∃ (i : Nat) (j : Int) (ys : List Int), Fr a 28 [(0, .slice A (List.length ys) c), (2, .int .i64 (i : Int)), (3, .int .i64 j)] ∧ Chg (fun q => Hi w0.heap.size q ∨ At A q) w0 w1 ∧ Row (cInt .u8) 27 w1 b0 No A c (ys) ∧ (i ≤ xs.length) ∧ (j = (xs.length : Int) - 1 - i) ∧ (RevI xs ys i) ∧ m2 = xs.length - i) (xs.length - (0)) ?_ ?_
  · skip
    exact ⟨0, ((xs.length : Nat) : Int) - 1, xs, E.pick _ ⟨rfl, rfl, rfl, trivial⟩, HW, R, (by omega), (by omega), (RevI.start xs), rfl⟩
  · clear E HW; intro m2 a w1 hI_
    obtain ⟨i, hI_⟩ := hI_
    obtain ⟨j, hI_⟩ := hI_
    obtain ⟨ys, hI_⟩ := hI_
    clear R
    obtain ⟨E, HW, R, hi, hj, hV, hm_m2⟩ := hI_
    have hq_ := hV.len
    refine wp_seq ?_
    refine wp_seq ?_
    refine wp_region_lit ?_
    refine vrun (w := w1) (lp := [(0, .slice A (List.length ys) c), (2, .int .i64 (i : Int)), (3, .int .i64 j), (9, .bool (decide ((i : Int) < j)))]) (φ := []) tbok 3 [] [0, 2, 3, 9] E (by kernel_rfl) trivial ?_
    clear E; intro a E
    refine wpList_nil ?_
    refine th_n ?_
    refine E.cases (t := 9) rfl (fun hb_ E_ => ?_) (fun hb_ E_ => ?_)
    · replace E := E_; clear E_
      have h3 : (i : Int) < j := of_decide_eq_true hb_
      clear hb_
      refine c_true E rfl ?_
      refine wp_skip ?_
      refine th_n ?_
      refine wp_seq ?_
      refine wp_block ?_
      refine dr_start (S := fun w_ => Chg (fun b_ => At A b_ ∨ At A b_) w1 w_) (by kernel_rfl) ?_
      intro w4 hc5
      have HWs := HW
      have Rs := R
      have HS : Chg (fun b_ => At A b_ ∨ At A b_) w1 w4 := hc5.mono (fun _ _ h_ => h_.elim)
      replace R := R.keep hc5 (fun _ _ h_ => h_) (fun _ _ h_ => h_)
      replace HW := HW.trans hc5 (fun _ _ h_ => h_.elim)
      have hx_20 : 0 ≤ j ∧ j < (((List.length ys) : Nat) : Int) := ⟨by omega, by omega⟩
      obtain ⟨b6, e_b6⟩ := Rs.addr' (by omega)
      subst e_b6
      have hx_24 : 0 ≤ (i : Int) ∧ (i : Int) < (((List.length ys) : Nat) : Int) := ⟨by omega, by omega⟩
      refine drun (lp := [(0, .slice (some ⟨b6, 0, none⟩) (List.length ys) c), (2, .int .i64 (i : Int)), (3, .int .i64 j), (14, .slice (some ⟨b6, 0, none⟩) (List.length ys) c), (15, .int .i64 (i : Int)), (16, .slice (some ⟨b6, 0, none⟩) (List.length ys) c), (17, .int .i64 j), (20, .pointer (some ⟨b6, 0 + (Int.toNat j) * 1, none⟩)), (24, .pointer (some ⟨b6, 0 + (Int.toNat (i : Int)) * 1, none⟩))]) tbok (by kernel_rfl) [0, 1, 2, 3, 4, 5, 6, 8, 9, 10] [] [0, 2, 3, 14, 15, 16, 17, 20, 24] (fun w_ => [0 ≤ j ∧ j < (((List.length ys) : Nat) : Int), 0 ≤ (i : Int) ∧ (i : Int) < (((List.length ys) : Nat) : Int)]) (fuel := 6) E (fun _ _ => by kernel_rfl) (fun w_ hS_ => ⟨hx_20, hx_24⟩) (by kernel_rfl) HS ?_
      clear E; intro a E
      refine wpAnyH_all (rs := [7, 11]) (by kernel_rfl) (by simp) ?_
      refine all2 ?_ ?_
      · refine wpOp_of_list rfl ?_
        refine vrun (w := w4) (lp := [(0, .slice (some ⟨b6, 0, none⟩) (List.length ys) c), (2, .int .i64 (i : Int)), (3, .int .i64 j), (14, .slice (some ⟨b6, 0, none⟩) (List.length ys) c), (15, .int .i64 (i : Int)), (16, .slice (some ⟨b6, 0, none⟩) (List.length ys) c), (17, .int .i64 j), (20, .pointer (some ⟨b6, 0 + (Int.toNat j) * 1, none⟩)), (21, .int .u8 (List.getD ys (Int.toNat j) 0)), (24, .pointer (some ⟨b6, 0 + (Int.toNat (i : Int)) * 1, none⟩))]) (φ := [World.cell? w4 ⟨b6, 0 + (Int.toNat j) * 1, none⟩ = some (.int .u8 (List.getD ys (Int.toNat j) 0))]) tbok 1 [.int .u8 (List.getD ys (Int.toNat j) 0)] [0, 2, 3, 14, 15, 16, 17, 20, 21, 24] E (by kernel_rfl) (C.at1 R.C 0 hx_20.1 hx_20.2) ?_
        clear E; intro a E
        refine wpList_nil ?_
        refine th_n ⟨HS, ?_⟩
        refine wpAnyH_all (rs := [11]) (by kernel_rfl) (by simp) ?_
        refine all1 ?_
        · refine wpOp_of_list rfl ?_
          refine vrun (w := w4) (lp := [(0, .slice (some ⟨b6, 0, none⟩) (List.length ys) c), (2, .int .i64 (i : Int)), (3, .int .i64 j), (14, .slice (some ⟨b6, 0, none⟩) (List.length ys) c), (15, .int .i64 (i : Int)), (16, .slice (some ⟨b6, 0, none⟩) (List.length ys) c), (17, .int .i64 j), (21, .int .u8 (List.getD ys (Int.toNat j) 0)), (24, .pointer (some ⟨b6, 0 + (Int.toNat (i : Int)) * 1, none⟩)), (25, .int .u8 (List.getD ys (Int.toNat (i : Int)) 0))]) (φ := [World.cell? w4 ⟨b6, 0 + (Int.toNat (i : Int)) * 1, none⟩ = some (.int .u8 (List.getD ys (Int.toNat (i : Int)) 0))]) tbok 1 [.int .u8 (List.getD ys (Int.toNat (i : Int)) 0)] [0, 2, 3, 14, 15, 16, 17, 21, 24, 25] E (by kernel_rfl) (C.at1 R.C 0 hx_24.1 hx_24.2) ?_
          clear E; intro a E
          refine wpList_nil ?_
          refine th_n ⟨HS, ?_⟩
          have hx_26 : 0 ≤ (i : Int) ∧ (i : Int) < (((List.length ys) : Nat) : Int) := ⟨by omega, by omega⟩
          refine drun (lp := [(0, .slice (some ⟨b6, 0, none⟩) (List.length ys) c), (2, .int .i64 (i : Int)), (3, .int .i64 j), (16, .slice (some ⟨b6, 0, none⟩) (List.length ys) c), (17, .int .i64 j), (21, .int .u8 (List.getD ys (Int.toNat j) 0)), (25, .int .u8 (List.getD ys (Int.toNat (i : Int)) 0)), (26, .pointer (some ⟨b6, 0 + (Int.toNat (i : Int)) * 1, none⟩))]) tbok (by kernel_rfl) [12] [] [0, 2, 3, 16, 17, 21, 25, 26] (fun w_ => [0 ≤ (i : Int) ∧ (i : Int) < (((List.length ys) : Nat) : Int)]) (fuel := 3) E (fun _ _ => by kernel_rfl) (fun w_ hS_ => (hx_26)) (by kernel_rfl) HS ?_
          clear E; intro a E
          refine wpAnyH_all (rs := [13]) (by kernel_rfl) (by simp) ?_
          refine all1 ?_
          · refine wpOp_of_list rfl ?_
            have hi10 := R.hi
            refine e_setR (g := b6) (i := (i : Int)) (List.getD ys (Int.toNat j) 0) E rfl rfl rfl rfl tbok rfl R rfl rfl hx_26 rfl ?_
            clear E; intro w8 a hc9 Rn E
            replace HS := HS.trans hc9 (fun k_ hk_ h_ => by first | exact h_ | exact Or.inl h_ | exact Or.inr h_ | (exfalso; have i_ := hi10 _ h_; omega))
            replace HW := HW.trans hc9 (fun _ _ h_ => Or.inr h_)
            replace R := Rn; clear Rn
            refine wpList_nil ?_
            refine th_n ⟨HS, ?_⟩
            have hx_27 : 0 ≤ j ∧ j < (((List.length ys) : Nat) : Int) := ⟨by omega, by omega⟩
            refine drun (lp := [(0, .slice (some ⟨b6, 0, none⟩) (List.length ys) c), (2, .int .i64 (i : Int)), (3, .int .i64 j), (25, .int .u8 (List.getD ys (Int.toNat (i : Int)) 0)), (27, .pointer (some ⟨b6, 0 + (Int.toNat j) * 1, none⟩))]) tbok (by kernel_rfl) [14] [] [0, 2, 3, 25, 27] (fun w_ => [0 ≤ j ∧ j < (((List.length ys) : Nat) : Int)]) (fuel := 1) E (fun _ _ => by kernel_rfl) (fun w_ hS_ => (hx_27)) (by kernel_rfl) HS ?_
            clear E; intro a E
            refine wpAnyH_all (rs := [15]) (by kernel_rfl) (by simp) ?_
            refine all1 ?_
            · refine wpOp_of_list rfl ?_
              have hi13 := R.hi
              refine e_setR (g := b6) (i := j) (List.getD ys (Int.toNat (i : Int)) 0) E rfl rfl rfl rfl tbok rfl R rfl rfl (by simp only [List.length_set]; exact hx_27) rfl ?_
              clear E; intro w11 a hc12 Rn E
              replace HS := HS.trans hc12 (fun k_ hk_ h_ => by first | exact h_ | exact Or.inl h_ | exact Or.inr h_ | (exfalso; have i_ := hi13 _ h_; omega))
              replace HW := HW.trans hc12 (fun _ _ h_ => Or.inr h_)
              replace R := Rn; clear Rn
              refine wpList_nil ?_
              refine th_n ⟨HS, ?_⟩
              refine dr_done (by kernel_rfl) ?_
              clear HS HWs
              refine bl_n ?_
              refine th_n ?_
              refine wp_region_lit ?_
              refine vrun (w := w11) (lp := [(0, .slice (some ⟨b6, 0, none⟩) (List.length ys) c), (2, .int .i64 ((i : Int) + 1)), (3, .int .i64 (j - 1))]) (φ := [IntKind.i64.wrap ((i : Int) + 1) = (i : Int) + 1, IntKind.i64.wrap (j - 1) = j - 1]) tbok 6 [.int .i64 ((i : Int) + 1), .int .i64 (j - 1)] [0, 2, 3] E (by kernel_rfl) ⟨wrap_i64 (by omega) (by omega), wrap_i64 (by omega) (by omega)⟩ ?_
              clear E; intro a E
              refine wpList_nil ?_
              have hq_ := hV.len
              replace E := E.same (t := 0) (u := .slice (some ⟨b6, 0, none⟩) (List.length (List.set (List.set ys (Int.toNat (i : Int)) (List.getD ys (Int.toNat j) 0)) (Int.toNat j) (List.getD ys (Int.toNat (i : Int)) 0))) c) rfl (by simp only [List.length_set])
              refine th_n ⟨xs.length - (i + 1), by omega, ?_⟩
              exact ⟨i + 1, j - 1, List.set (List.set ys (Int.toNat (i : Int)) (List.getD ys (Int.toNat j) 0)) (Int.toNat j) (List.getD ys (Int.toNat (i : Int)) 0), E.pick _ ⟨rfl, rfl, rfl, trivial⟩, HW, R, (by omega), (by omega), (by first | exact rev_step hV hj (by omega) | exact rev_step2 hV hj (by omega)), rfl⟩
      · refine wpOp_of_list rfl ?_
        refine vrun (w := w4) (lp := [(0, .slice (some ⟨b6, 0, none⟩) (List.length ys) c), (2, .int .i64 (i : Int)), (3, .int .i64 j), (14, .slice (some ⟨b6, 0, none⟩) (List.length ys) c), (15, .int .i64 (i : Int)), (16, .slice (some ⟨b6, 0, none⟩) (List.length ys) c), (17, .int .i64 j), (20, .pointer (some ⟨b6, 0 + (Int.toNat j) * 1, none⟩)), (24, .pointer (some ⟨b6, 0 + (Int.toNat (i : Int)) * 1, none⟩)), (25, .int .u8 (List.getD ys (Int.toNat (i : Int)) 0))]) (φ := [World.cell? w4 ⟨b6, 0 + (Int.toNat (i : Int)) * 1, none⟩ = some (.int .u8 (List.getD ys (Int.toNat (i : Int)) 0))]) tbok 1 [.int .u8 (List.getD ys (Int.toNat (i : Int)) 0)] [0, 2, 3, 14, 15, 16, 17, 20, 24, 25] E (by kernel_rfl) (C.at1 R.C 0 hx_24.1 hx_24.2) ?_
        clear E; intro a E
        refine wpList_nil ?_
        refine th_n ⟨HS, ?_⟩
        refine wpAnyH_all (rs := [7]) (by kernel_rfl) (by simp) ?_
        refine all1 ?_
        · refine wpOp_of_list rfl ?_
          refine vrun (w := w4) (lp := [(0, .slice (some ⟨b6, 0, none⟩) (List.length ys) c), (2, .int .i64 (i : Int)), (3, .int .i64 j), (14, .slice (some ⟨b6, 0, none⟩) (List.length ys) c), (15, .int .i64 (i : Int)), (16, .slice (some ⟨b6, 0, none⟩) (List.length ys) c), (17, .int .i64 j), (20, .pointer (some ⟨b6, 0 + (Int.toNat j) * 1, none⟩)), (21, .int .u8 (List.getD ys (Int.toNat j) 0)), (25, .int .u8 (List.getD ys (Int.toNat (i : Int)) 0))]) (φ := [World.cell? w4 ⟨b6, 0 + (Int.toNat j) * 1, none⟩ = some (.int .u8 (List.getD ys (Int.toNat j) 0))]) tbok 1 [.int .u8 (List.getD ys (Int.toNat j) 0)] [0, 2, 3, 14, 15, 16, 17, 20, 21, 25] E (by kernel_rfl) (C.at1 R.C 0 hx_20.1 hx_20.2) ?_
          clear E; intro a E
          refine wpList_nil ?_
          refine th_n ⟨HS, ?_⟩
          have hx_26 : 0 ≤ (i : Int) ∧ (i : Int) < (((List.length ys) : Nat) : Int) := ⟨by omega, by omega⟩
          refine drun (lp := [(0, .slice (some ⟨b6, 0, none⟩) (List.length ys) c), (2, .int .i64 (i : Int)), (3, .int .i64 j), (16, .slice (some ⟨b6, 0, none⟩) (List.length ys) c), (17, .int .i64 j), (21, .int .u8 (List.getD ys (Int.toNat j) 0)), (25, .int .u8 (List.getD ys (Int.toNat (i : Int)) 0)), (26, .pointer (some ⟨b6, 0 + (Int.toNat (i : Int)) * 1, none⟩))]) tbok (by kernel_rfl) [12] [] [0, 2, 3, 16, 17, 21, 25, 26] (fun w_ => [0 ≤ (i : Int) ∧ (i : Int) < (((List.length ys) : Nat) : Int)]) (fuel := 3) E (fun _ _ => by kernel_rfl) (fun w_ hS_ => (hx_26)) (by kernel_rfl) HS ?_
          clear E; intro a E
          refine wpAnyH_all (rs := [13]) (by kernel_rfl) (by simp) ?_
          refine all1 ?_
          · refine wpOp_of_list rfl ?_
            have hi16 := R.hi
            refine e_setR (g := b6) (i := (i : Int)) (List.getD ys (Int.toNat j) 0) E rfl rfl rfl rfl tbok rfl R rfl rfl hx_26 rfl ?_
            clear E; intro w14 a hc15 Rn E
            replace HS := HS.trans hc15 (fun k_ hk_ h_ => by first | exact h_ | exact Or.inl h_ | exact Or.inr h_ | (exfalso; have i_ := hi16 _ h_; omega))
            replace HW := HW.trans hc15 (fun _ _ h_ => Or.inr h_)
            replace R := Rn; clear Rn
            refine wpList_nil ?_
            refine th_n ⟨HS, ?_⟩
            have hx_27 : 0 ≤ j ∧ j < (((List.length ys) : Nat) : Int) := ⟨by omega, by omega⟩
            refine drun (lp := [(0, .slice (some ⟨b6, 0, none⟩) (List.length ys) c), (2, .int .i64 (i : Int)), (3, .int .i64 j), (25, .int .u8 (List.getD ys (Int.toNat (i : Int)) 0)), (27, .pointer (some ⟨b6, 0 + (Int.toNat j) * 1, none⟩))]) tbok (by kernel_rfl) [14] [] [0, 2, 3, 25, 27] (fun w_ => [0 ≤ j ∧ j < (((List.length ys) : Nat) : Int)]) (fuel := 1) E (fun _ _ => by kernel_rfl) (fun w_ hS_ => (hx_27)) (by kernel_rfl) HS ?_
            clear E; intro a E
            refine wpAnyH_all (rs := [15]) (by kernel_rfl) (by simp) ?_
            refine all1 ?_
            · refine wpOp_of_list rfl ?_
              have hi19 := R.hi
              refine e_setR (g := b6) (i := j) (List.getD ys (Int.toNat (i : Int)) 0) E rfl rfl rfl rfl tbok rfl R rfl rfl (by simp only [List.length_set]; exact hx_27) rfl ?_
              clear E; intro w17 a hc18 Rn E
              replace HS := HS.trans hc18 (fun k_ hk_ h_ => by first | exact h_ | exact Or.inl h_ | exact Or.inr h_ | (exfalso; have i_ := hi19 _ h_; omega))
              replace HW := HW.trans hc18 (fun _ _ h_ => Or.inr h_)
              replace R := Rn; clear Rn
              refine wpList_nil ?_
              refine th_n ⟨HS, ?_⟩
              refine dr_done (by kernel_rfl) ?_
              clear HS HWs
              refine bl_n ?_
              refine th_n ?_
              refine wp_region_lit ?_
              refine vrun (w := w17) (lp := [(0, .slice (some ⟨b6, 0, none⟩) (List.length ys) c), (2, .int .i64 ((i : Int) + 1)), (3, .int .i64 (j - 1))]) (φ := [IntKind.i64.wrap ((i : Int) + 1) = (i : Int) + 1, IntKind.i64.wrap (j - 1) = j - 1]) tbok 6 [.int .i64 ((i : Int) + 1), .int .i64 (j - 1)] [0, 2, 3] E (by kernel_rfl) ⟨wrap_i64 (by omega) (by omega), wrap_i64 (by omega) (by omega)⟩ ?_
              clear E; intro a E
              refine wpList_nil ?_
              have hq_ := hV.len
              replace E := E.same (t := 0) (u := .slice (some ⟨b6, 0, none⟩) (List.length (List.set (List.set ys (Int.toNat (i : Int)) (List.getD ys (Int.toNat j) 0)) (Int.toNat j) (List.getD ys (Int.toNat (i : Int)) 0))) c) rfl (by simp only [List.length_set])
              refine th_n ⟨xs.length - (i + 1), by omega, ?_⟩
              exact ⟨i + 1, j - 1, List.set (List.set ys (Int.toNat (i : Int)) (List.getD ys (Int.toNat j) 0)) (Int.toNat j) (List.getD ys (Int.toNat (i : Int)) 0), E.pick _ ⟨rfl, rfl, rfl, trivial⟩, HW, R, (by omega), (by omega), (by first | exact rev_step hV hj (by omega) | exact rev_step2 hV hj (by omega)), rfl⟩
    · replace E := E_; clear E_
      have h20 : ¬ ((i : Int) < j) := of_decide_eq_false hb_
      clear hb_
      refine c_false E rfl ?_
      refine wp_exit ?_
      refine th_exit ?_
      refine th_exit ?_
      refine bl_hit ?_
      refine bodyPost_end (v := .tuple #[]) (by simp [results, Try.f33]) E.nodef ?_
      exact ⟨_, rfl, rfl, HW.mono (fun q hq h_ => h_.elim (fun h2 => by unfold Hi at h2; omega) id), R.eq (hV.done (by omega))⟩

/-! slices.Index[[]rejoinder/api.Letter,rejoinder/api.Letter] -/
set_option maxRecDepth 100000 in
theorem Index_u8_calls (A : Option Addr) (c : Nat) (xs : List Int) (x : Int) (w0 : World) (hl : xs.length ≤ 140737488351232) (H : C (cInt .u8) w0 (Lo w0.heap.size) A xs) :
    Calls Try.prog 34 #[.slice A xs.length c, .int .u8 x] w0 fun e w' => ∃ v, e = .returned v ∧ (v = .int .i64 (indexV xs x) ∧ Ext w0 w') := by
  have HW : Chg (Hi w0.heap.size) w0 w0 := Chg.refl _ _
  refine enterV (n := 19) Try.func34 rfl rfl rfl ?_
  intro a E
  replace E := E.pick [(0, .slice A xs.length c), (1, .int .u8 x)] ⟨rfl, rfl, trivial⟩
  refine wp_seq ?_
  refine wp_region_lit ?_
  refine vrun (w := w0) (lp := [(0, .slice A xs.length c), (1, .int .u8 x)]) (φ := []) tbok 1 [] [0, 1] E (by kernel_rfl) trivial ?_
  clear E; intro a E
  refine wpList_nil ?_
  refine th_n ?_
  refine wp_seq ?_
  refine wp_seq ?_
  refine wp_region_lit ?_
  refine vrun (w := w0) (lp := [(0, .slice A xs.length c), (1, .int .u8 x), (7, .int .i64 ((xs.length : Nat) : Int)), (8, .int .i64 0)]) (φ := []) tbok 3 [] [0, 1, 7, 8] E (by kernel_rfl) trivial ?_
  clear E; intro a E
  refine wpList_nil ?_
  refine th_n ?_
  refine wp_block ?_
  refine loopV (fun m2 a w1 => ∃ (k : Nat), Fr a 19 [(0, .slice A xs.length c), (1, .int .u8 x), (7, .int .i64 ((xs.length : Nat) : Int)), (8, .int .i64 (k : Int))] ∧ Chg (Hi w0.heap.size) w0 w1 ∧ (k ≤ xs.length) ∧ (∀ i, i < k → ¬ x = xs.getD i 0) ∧ m2 = xs.length - k) (xs.length - (0)) ?_ ?_
  · skip
    exact ⟨0, E.pick _ ⟨rfl, rfl, rfl, rfl, trivial⟩, HW, (by omega), (fun i hi => absurd hi (by omega)), rfl⟩
  · clear E HW; intro m2 a w1 hI_
    obtain ⟨k, hI_⟩ := hI_
    obtain ⟨E, HW, hk, hI, hm_m2⟩ := hI_
    refine wp_seq ?_
    refine wp_region_lit ?_
    refine vrun (w := w1) (lp := [(0, .slice A xs.length c), (1, .int .u8 x), (7, .int .i64 ((xs.length : Nat) : Int)), (8, .int .i64 (k : Int)), (9, .bool (decide ((k : Int) < ((xs.length : Nat) : Int))))]) (φ := []) tbok 1 [] [0, 1, 7, 8, 9] E (by kernel_rfl) trivial ?_
    clear E; intro a E
    refine wpList_nil ?_
    refine th_n ?_
    refine wp_seq ?_
    refine E.cases (t := 9) rfl (fun hb_ E_ => ?_) (fun hb_ E_ => ?_)
    · replace E := E_; clear E_
      have h3 : (k : Int) < ((xs.length : Nat) : Int) := of_decide_eq_true hb_
      clear hb_
      refine c_true E rfl ?_
      refine wp_skip ?_
      refine th_n ?_
      refine wp_seq ?_
      refine wp_block ?_
      refine wp_seq ?_
      refine wp_region_lit ?_
      refine vrun (w := w1) (lp := [(0, .slice A xs.length c), (1, .int .u8 x), (5, .int .i64 (k : Int)), (7, .int .i64 ((xs.length : Nat) : Int)), (8, .int .i64 (k : Int))]) (φ := []) tbok 2 [] [0, 1, 5, 7, 8] E (by kernel_rfl) trivial ?_
      clear E; intro a E
      refine wpList_nil ?_
      refine th_n ?_
      refine wp_seq ?_
      refine wp_region_lit ?_
      have hx_14 : 0 ≤ (k : Int) ∧ (k : Int) < ((xs.length : Nat) : Int) := ⟨by omega, by omega⟩
      obtain ⟨b4, o5, e_b4⟩ := H.addr (by omega)
      subst e_b4
      refine vrun (w := w1) (lp := [(0, .slice (some ⟨b4, o5, none⟩) xs.length c), (1, .int .u8 x), (5, .int .i64 (k : Int)), (7, .int .i64 ((xs.length : Nat) : Int)), (8, .int .i64 (k : Int)), (16, .bool ((x : Int) == (List.getD xs (Int.toNat (k : Int)) 0)))]) (φ := [0 ≤ (k : Int) ∧ (k : Int) < ((xs.length : Nat) : Int), World.cell? w1 ⟨b4, o5 + (Int.toNat (k : Int)) * 1, none⟩ = some (.int .u8 (List.getD xs (Int.toNat (k : Int)) 0))]) tbok 6 [.int .u8 (List.getD xs (Int.toNat (k : Int)) 0)] [0, 1, 5, 7, 8, 16] E (by kernel_rfl) ⟨hx_14, C.at1 (H.keep HW lo_hi) 0 hx_14.1 hx_14.2⟩ ?_
      clear E; intro a E
      refine wpList_nil ?_
      refine th_n ?_
      refine E.cases (t := 16) rfl (fun hb_ E_ => ?_) (fun hb_ E_ => ?_)
      · replace E := E_; clear E_
        have h6 : (x : Int) = (List.getD xs (Int.toNat (k : Int)) 0) := eq_of_beq hb_
        clear hb_
        refine c_true E rfl ?_
        refine wp_seq ?_
        refine wp_region_lit ?_
        refine vrun (w := w1) (lp := [(4, .int .i64 (k : Int))]) (φ := []) tbok 2 [] [4] E (by kernel_rfl) trivial ?_
        clear E; intro a E
        refine wpList_nil ?_
        refine th_n ?_
        refine wp_ret ?_
        refine bl_ret ?_
        refine th_ret ?_
        refine th_ret ?_
        refine bl_ret ?_
        refine th_ret ?_
        refine ret1 E rfl rfl ?_
        exact ⟨_, rfl, by rw [index_yes hI (by omega) (by assumption)], HW.own⟩
      · replace E := E_; clear E_
        have h7 : ¬ ((x : Int) = (List.getD xs (Int.toNat (k : Int)) 0)) := ne_of_beq_false hb_
        clear hb_
        refine c_false E rfl ?_
        refine wp_skip ?_
        refine bl_n ?_
        refine th_n ?_
        refine wp_region_lit ?_
        refine vrun (w := w1) (lp := [(0, .slice (some ⟨b4, o5, none⟩) xs.length c), (1, .int .u8 x), (7, .int .i64 ((xs.length : Nat) : Int)), (8, .int .i64 ((k : Int) + 1))]) (φ := [IntKind.i64.wrap ((k : Int) + 1) = (k : Int) + 1]) tbok 2 [.int .i64 ((k : Int) + 1)] [0, 1, 7, 8] E (by kernel_rfl) (wrap_i64 (by omega) (by omega)) ?_
        clear E; intro a E
        refine wpList_nil ?_
        refine th_n ⟨xs.length - (k + 1), by omega, ?_⟩
        exact ⟨k + 1, E.pick _ ⟨rfl, rfl, rfl, rfl, trivial⟩, HW, (by omega), (index_step hI (by assumption)), rfl⟩
    · replace E := E_; clear E_
      have h8 : ¬ ((k : Int) < ((xs.length : Nat) : Int)) := of_decide_eq_false hb_
      clear hb_
      refine c_false E rfl ?_
      refine wp_exit ?_
      refine th_exit ?_
      refine th_exit ?_
      refine bl_hit ?_
      refine th_n ?_
      refine wp_seq ?_
      refine wp_region_lit ?_
      refine vrun (w := w1) (lp := [(4, .int .i64 (-1))]) (φ := []) tbok 1 [] [4] E (by kernel_rfl) trivial ?_
      clear E; intro a E
      refine wpList_nil ?_
      refine th_n ?_
      refine wp_ret ?_
      refine ret1 E rfl rfl ?_
      obtain rfl : k = xs.length := by omega
      exact ⟨_, rfl, by rw [index_no hI], HW.own⟩

end Go.V
