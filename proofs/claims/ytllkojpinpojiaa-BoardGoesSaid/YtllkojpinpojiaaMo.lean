/- Contracts of functions of the program: walks. -/
import Derived.Test.YtllkojpinpojiaaSl
set_option linter.all false
set_option linter.unusedVariables false
set_option linter.unnecessarySimpa false
set_option linter.unusedSimpArgs false
namespace Go.V
open Go Go.Proofs

/-! rejoinder/board.Moves -/
set_option maxRecDepth 100000 in
theorem Moves_calls (mask : Int) (w0 : World) (hm : 0 ≤ mask ∧ mask ≤ 255) :
    Calls Try.prog 13 #[.int .u8 mask] w0 fun e w' => ∃ v, e = .returned v ∧ ∃ A c, v = .slice A (movesV mask).length c ∧ Ext w0 w' ∧ Row (cInt .u8) 27 w' w0.heap.size No A c (movesV mask) := by
  have HW : Chg (Hi w0.heap.size) w0 w0 := Chg.refl _ _
  refine enterV (n := 19) Try.func13 rfl rfl rfl ?_
  intro a E
  replace E := E.pick [(0, .int .u8 mask)] ⟨rfl, trivial⟩
  refine wp_seq ?_
  refine wp_region_lit ?_
  refine vrun (w := w0) (lp := [(0, .int .u8 mask)]) (φ := []) tbok 1 [] [0] E (by kernel_rfl) trivial ?_
  clear E; intro a E
  refine wpList_nil ?_
  refine th_n ?_
  refine wp_seq ?_
  refine wp_region_lit ?_
  have R3 := Row.nil (cInt .u8) 27 w0 w0.heap.size No
  refine vrun (w := w0) (lp := [(0, .int .u8 mask), (3, .slice none 0 0)]) (φ := []) tbok 1 [] [0, 3] E (by kernel_rfl) trivial ?_
  clear E; intro a E
  refine wpList_nil ?_
  refine th_n ?_
  refine wp_seq ?_
  refine wp_seq ?_
  refine wp_region_lit ?_
  refine vrun (w := w0) (lp := [(0, .int .u8 mask), (3, .slice none 0 0), (4, .int .u8 mask)]) (φ := []) tbok 2 [] [0, 3, 4] E (by kernel_rfl) trivial ?_
  clear E; intro a E
  refine wpList_nil ?_
  refine th_n ?_
  refine wp_block ?_
  refine loopV (fun m2 a w1 => ∃ (s : Nat) (f : Nat) (A3 : Option Addr) (c3 : Nat) (ys : List Int), Fr a 19 [(0, .int .u8 mask), (3, .slice A3 (List.length ys) c3), (4, .int .u8 (s : Int))] ∧ Chg (Hi w0.heap.size) w0 w1 ∧ Row (cInt .u8) 27 w1 w0.heap.size No A3 c3 (ys) ∧ (GenI mask.toNat ys s f) ∧ m2 = f) ((256)) ?_ ?_
  · skip
    replace E := E.same (t := 4) (u := .int .u8 ((mask.toNat : Nat) : Int)) rfl (by rw [Int.toNat_of_nonneg hm.1])
    exact ⟨mask.toNat, 256, none, 0, [], E.pick _ ⟨rfl, rfl, rfl, trivial⟩, HW, R3, (GenI.start (by omega)), rfl⟩
  · clear E HW; intro m2 a w1 hI_
    obtain ⟨s, hI_⟩ := hI_
    obtain ⟨f, hI_⟩ := hI_
    obtain ⟨A3, hI_⟩ := hI_
    obtain ⟨c3, hI_⟩ := hI_
    obtain ⟨ys, hI_⟩ := hI_
    clear R3
    obtain ⟨E, HW, R3, hV, hm_m2⟩ := hI_
    refine wp_seq ?_
    refine wp_block ?_
    refine wp_seq ?_
    refine wp_region_lit ?_
    refine vrun (w := w1) (lp := [(0, .int .u8 mask), (4, .int .u8 (s : Int)), (10, .slice A3 (List.length ys) c3), (11, .int .u8 (s : Int))]) (φ := []) tbok 2 [] [0, 4, 10, 11] E (by kernel_rfl) trivial ?_
    clear E; intro a E
    refine e_buildSlice (ps := [(0, .int .u8 (s : Int))]) (cs := [.int .u8 (s : Int)]) E rfl rfl tbok rfl rfl (by kernel_rfl) ?_
    intro w4 g3 a hc5 hg6 B7 E_
    replace E := E_ _ rfl; clear E_
    have hi_g3 : w0.heap.size ≤ g3 := Nat.le_trans HW.size hg6
    have sp_R3_g3 := R3.fresh hg6
    replace R3 := R3.keep hc5 (fun _ _ h_ => h_) (fun _ _ h_ => h_)
    replace HW := HW.trans hc5 (fun _ _ h_ => h_.elim)
    have hn_ := hV.n
    have hi8 := R3.hi
    refine e_append (cInt .u8) (xs := ys) (ys := [(s : Int)]) E rfl rfl tbok rfl rfl rfl rfl rfl rfl R3 rfl rfl ⟨_, _, rfl, rfl, rfl⟩ B7.cells (by show List.length ys + 1 ≤ 1000000000000; omega) (by show (List.length ys + 1) * 1 ≤ 140737488355328; omega) HW.size (fun _ h_ => h_.elim) ?_
    intro w9 A10 c11 a hc12 R3n hn13 E_
    replace E := E_ _ rfl; clear E_
    have sp_R3_g3' := At.step hn13 sp_R3_g3 B7.lt
    replace B7 := B7.chg hc12 sp_R3_g3
    replace HW := HW.trans hc12 (fun _ _ h_ => hi8 _ h_)
    replace sp_R3_g3 := sp_R3_g3'; clear sp_R3_g3'
    replace R3 := R3n; clear R3n
    refine vrun (w := w9) (lp := [(0, .int .u8 mask), (3, .slice A10 (List.length (ys ++ [(s : Int)])) c11), (4, .int .u8 (s : Int))]) (φ := []) tbok 1 [] [0, 3, 4] E (by kernel_rfl) trivial ?_
    clear E; intro a E
    refine wpList_nil ?_
    refine th_n ?_
    refine wp_seq ?_
    refine wp_region_lit ?_
    refine vrun (w := w9) (lp := [(0, .int .u8 mask), (3, .slice A10 (List.length (ys ++ [(s : Int)])) c11), (4, .int .u8 (s : Int)), (15, .bool (((s : Int) : Int) == 0))]) (φ := []) tbok 2 [] [0, 3, 4, 15] E (by kernel_rfl) trivial ?_
    clear E; intro a E
    refine wpList_nil ?_
    refine th_n ?_
    refine E.cases (t := 15) rfl (fun hb_ E_ => ?_) (fun hb_ E_ => ?_)
    · replace E := E_; clear E_
      have h14 : ((s : Int) : Int) = 0 := eq_of_beq hb_
      clear hb_
      refine c_true E rfl ?_
      refine wp_exit ?_
      refine bl_miss rfl ?_
      refine th_exit ?_
      refine th_exit ?_
      refine bl_hit ?_
      refine th_n ?_
      refine wp_seq ?_
      refine wp_region_lit ?_
      refine vrun (w := w9) (lp := [(3, .slice A10 (List.length (ys ++ [(s : Int)])) c11), (16, .slice A10 (List.length (ys ++ [(s : Int)])) c11)]) (φ := []) tbok 1 [] [3, 16] E (by kernel_rfl) trivial ?_
      clear E; intro a E
      have hi15 := R3.hi
      refine e_call E rfl rfl Try.func33 rfl rfl rfl (Reverse_u8_calls _ c11 A10 (ys ++ [(s : Int)]) _ (by have h_ := hV.n; simp only [List.length_append, List.length_cons, List.length_nil]; omega) R3) ?_
      intro v16 w17 a hR18 E_
      obtain ⟨rfl, hc19, R3n⟩ := hR18
      replace E := E_ _ rfl; clear E_
      replace B7 := B7.chg hc19 sp_R3_g3
      replace HW := HW.trans hc19 (fun _ _ h_ => hi15 _ h_)
      replace R3 := R3n; clear R3n
      replace E := E.same (t := 3) (u := .slice A10 (List.length (List.reverse (ys ++ [(s : Int)]))) c11) rfl (by simp only [List.length_reverse, List.length_set])
      replace E := E.same (t := 16) (u := .slice A10 (List.length (List.reverse (ys ++ [(s : Int)]))) c11) rfl (by simp only [List.length_reverse, List.length_set])
      refine wpList_nil ?_
      refine th_n ?_
      refine wp_seq ?_
      refine wp_region_lit ?_
      refine vrun (w := w17) (lp := [(2, .slice A10 (List.length (List.reverse (ys ++ [(s : Int)]))) c11)]) (φ := []) tbok 2 [] [2] E (by kernel_rfl) trivial ?_
      clear E; intro a E
      refine wpList_nil ?_
      refine th_n ?_
      refine wp_ret ?_
      refine ret1 E rfl rfl ?_
      have he_ : (List.reverse (ys ++ [(s : Int)])) = movesV mask := by unfold movesV; rw [← hV.done (by assumption)]
      rw [he_] at R3
      exact ⟨_, rfl, A10, c11, by rw [he_], HW.own, R3⟩
    · replace E := E_; clear E_
      have h20 : ¬ (((s : Int) : Int) = 0) := ne_of_beq_false hb_
      clear hb_
      refine c_false E rfl ?_
      refine wp_skip ?_
      refine bl_n ?_
      refine th_n ?_
      refine wp_region_lit ?_
      refine vrun (w := w9) (lp := [(0, .int .u8 mask), (3, .slice A10 (List.length (ys ++ [(s : Int)])) c11), (4, .int .u8 ((Nat.land (Int.toNat ((s : Int) - 1)) (Int.toNat mask) : Nat) : Int))]) (φ := [IntKind.u8.wrap ((s : Int) - 1) = (s : Int) - 1, IntKind.u8.wrap (BitVec.ofInt (IntKind.bits .u8) ((s : Int) - 1) &&& BitVec.ofInt (IntKind.bits .u8) mask).toNat = ((Nat.land (Int.toNat ((s : Int) - 1)) (Int.toNat mask) : Nat) : Int)]) tbok 5 [.int .u8 ((s : Int) - 1), .int .u8 ((Nat.land (Int.toNat ((s : Int) - 1)) (Int.toNat mask) : Nat) : Int)] [0, 3, 4] E (by kernel_rfl) ⟨wrap_u8 (by omega) (by omega), and_u8 ⟨by omega, by have h_ := hV.sm; omega⟩ hm⟩ ?_
      clear E; intro a E
      refine wpList_nil ?_
      refine th_n ⟨(f - 1), by have h_ := hV.sf; omega, ?_⟩
      exact ⟨Nat.land (Int.toNat ((s : Int) - 1)) (Int.toNat mask), f - 1, A10, c11, ys ++ [(s : Int)], E.pick _ ⟨rfl, rfl, rfl, trivial⟩, HW, R3, (hV.step (by assumption)), rfl⟩

/-! rejoinder/board.Number -/
set_option maxRecDepth 100000 in
theorem Number_calls (mask move : Int) (w0 : World) (hm : 0 ≤ mask ∧ mask ≤ 255) :
    Calls Try.prog 16 #[.int .u8 mask, .int .u8 move] w0 fun e w' => ∃ v, e = .returned v ∧ (v = .tuple #[.int .i64 (numberV mask move).1, .int .i64 (numberV mask move).2] ∧ Ext w0 w') := by
  have HW : Chg (Hi w0.heap.size) w0 w0 := Chg.refl _ _
  refine enterV (n := 14) Try.func16 rfl rfl rfl ?_
  intro a E
  replace E := E.pick [(0, .int .u8 mask), (1, .int .u8 move)] ⟨rfl, rfl, trivial⟩
  refine wp_seq ?_
  refine wp_region_lit ?_
  refine vrun (w := w0) (lp := [(0, .int .u8 mask), (1, .int .u8 move)]) (φ := []) tbok 2 [] [0, 1] E (by kernel_rfl) trivial ?_
  clear E; intro a E
  refine wpList_nil ?_
  refine th_n ?_
  refine wp_seq ?_
  refine wp_region_lit ?_
  refine vrun (w := w0) (lp := [(1, .int .u8 move), (7, .int .u8 mask)]) (φ := []) tbok 1 [] [1, 7] E (by kernel_rfl) trivial ?_
  clear E; intro a E
  refine e_call E rfl rfl Try.func13 rfl rfl rfl (Moves_calls mask _ hm) ?_
  intro v4 w5 a hR6 E_
  obtain ⟨A1, c2, rfl, hc7, R3⟩ := hR6
  replace E := E_ _ rfl; clear E_
  replace R3 := R3.from_ HW.size
  have hl_R3 := movesV_len mask
  replace HW := HW.trans hc7 (fun _ _ h_ => h_.elim)
  refine vrun (w := w5) (lp := [(8, .slice A1 (List.length (movesV mask)) c2), (9, .int .u8 move)]) (φ := []) tbok 1 [] [8, 9] E (by kernel_rfl) trivial ?_
  clear E; intro a E
  refine e_call E rfl rfl Try.func34 rfl rfl rfl (Index_u8_calls A1 c2 (movesV mask) move _ (by omega) R3.now) ?_
  intro v8 w9 a hR10 E_
  obtain ⟨rfl, hc11⟩ := hR10
  replace E := E_ _ rfl; clear E_
  replace R3 := R3.keep hc11 (fun _ _ h_ => h_) (fun _ _ h_ => h_)
  replace HW := HW.trans hc11 (fun _ _ h_ => h_.elim)
  refine vrun (w := w9) (lp := [(6, .int .i64 (indexV (movesV mask) move))]) (φ := []) tbok 1 [] [6] E (by kernel_rfl) trivial ?_
  clear E; intro a E
  refine wpList_nil ?_
  refine th_n ?_
  refine wp_seq ?_
  refine wp_seq ?_
  refine wp_region_lit ?_
  refine vrun (w := w9) (lp := [(6, .int .i64 (indexV (movesV mask) move)), (12, .bool (decide ((indexV (movesV mask) move) < 0)))]) (φ := []) tbok 2 [] [6, 12] E (by kernel_rfl) trivial ?_
  clear E; intro a E
  refine wpList_nil ?_
  refine th_n ?_
  refine E.cases (t := 12) rfl (fun hb_ E_ => ?_) (fun hb_ E_ => ?_)
  · replace E := E_; clear E_
    have h12 : (indexV (movesV mask) move) < 0 := of_decide_eq_true hb_
    clear hb_
    refine c_true E rfl ?_
    refine wp_seq ?_
    refine wp_region_lit ?_
    refine vrun (w := w9) (lp := [(4, .int .i64 0), (5, .int .i64 14)]) (φ := []) tbok 2 [] [4, 5] E (by kernel_rfl) trivial ?_
    clear E; intro a E
    refine wpList_nil ?_
    refine th_n ?_
    refine wp_ret ?_
    refine th_ret ?_
    refine ret2 E rfl rfl rfl ?_
    exact ⟨_, rfl, by rw [numberV_no (by assumption)], HW.own⟩
  · replace E := E_; clear E_
    have h13 : ¬ ((indexV (movesV mask) move) < 0) := of_decide_eq_false hb_
    clear hb_
    refine c_false E rfl ?_
    refine wp_skip ?_
    refine th_n ?_
    refine wp_seq ?_
    refine wp_region_lit ?_
    refine vrun (w := w9) (lp := [(4, .int .i64 (indexV (movesV mask) move)), (5, .int .i64 0)]) (φ := []) tbok 3 [] [4, 5] E (by kernel_rfl) trivial ?_
    clear E; intro a E
    refine wpList_nil ?_
    refine th_n ?_
    refine wp_ret ?_
    refine ret2 E rfl rfl rfl ?_
    exact ⟨_, rfl, by rw [numberV_yes (by assumption)], HW.own⟩

end Go.V
