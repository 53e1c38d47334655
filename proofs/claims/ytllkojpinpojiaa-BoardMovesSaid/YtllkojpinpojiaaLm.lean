/- Contracts of functions of the program: walks. -/
import Derived.Test.YtllkojpinpojiaaAw
set_option linter.all false
set_option linter.unusedVariables false
set_option linter.unnecessarySimpa false
set_option linter.unusedSimpArgs false
namespace Go.V
open Go Go.Proofs

/-! rejoinder/rejoinderlaw22.BoardMoves -/
set_option maxRecDepth 100000 in
theorem lawMoves_calls (mask move : Int) (w0 : World) (hm : 0 ≤ mask ∧ mask ≤ 255) (hx : 0 ≤ move ∧ move ≤ 255) :
    Calls Try.prog 4 #[.int .u8 mask, .int .u8 move] w0 fun e w' => ∃ v, e = .returned v ∧ (v = .bool true ∧ Ext w0 w') := by
  have HW : Chg (Hi w0.heap.size) w0 w0 := Chg.refl _ _
  refine enterV (n := 104) Try.func4 rfl rfl rfl ?_
  intro a E
  replace E := E.pick [(0, .int .u8 mask), (1, .int .u8 move)] ⟨rfl, rfl, trivial⟩
  refine wp_seq ?_
  refine wp_region_lit ?_
  refine vrun (w := w0) (lp := [(0, .int .u8 mask), (1, .int .u8 move)]) (φ := []) tbok 1 [] [0, 1] E (by kernel_rfl) trivial ?_
  clear E; intro a E
  refine wpList_nil ?_
  refine th_n ?_
  refine wp_seq ?_
  refine wp_region_lit ?_
  refine e_call E rfl rfl Try.func7 rfl rfl rfl (awake_calls _) ?_
  intro v1 w2 a hR3 E_
  obtain ⟨rfl, hc4⟩ := hR3
  replace E := E_ _ rfl; clear E_
  replace HW := HW.trans hc4 (fun _ _ h_ => h_.elim)
  refine vrun (w := w2) (lp := [(0, .int .u8 mask), (1, .int .u8 move), (5, .bool true)]) (φ := []) tbok 1 [] [0, 1, 5] E (by kernel_rfl) trivial ?_
  clear E; intro a E
  refine wpList_nil ?_
  refine th_n ?_
  refine wp_seq ?_
  refine wp_region_lit ?_
  refine vrun (w := w2) (lp := [(0, .int .u8 mask), (1, .int .u8 move), (5, .bool true), (15, .int .u8 mask)]) (φ := []) tbok 1 [] [0, 1, 5, 15] E (by kernel_rfl) trivial ?_
  clear E; intro a E
  refine e_call E rfl rfl Try.func13 rfl rfl rfl (Moves_calls mask _ hm) ?_
  intro v8 w9 a hR10 E_
  obtain ⟨A5, c6, rfl, hc11, R7⟩ := hR10
  replace E := E_ _ rfl; clear E_
  replace R7 := R7.from_ HW.size
  have hl_R7 := movesV_len mask
  replace HW := HW.trans hc11 (fun _ _ h_ => h_.elim)
  refine vrun (w := w9) (lp := [(0, .int .u8 mask), (1, .int .u8 move), (5, .bool true), (6, .slice A5 (List.length (movesV mask)) c6)]) (φ := []) tbok 1 [] [0, 1, 5, 6] E (by kernel_rfl) trivial ?_
  clear E; intro a E
  refine wpList_nil ?_
  refine th_n ?_
  refine wp_seq ?_
  refine wp_region_lit ?_
  refine vrun (w := w9) (lp := [(0, .int .u8 mask), (1, .int .u8 move), (5, .bool true), (6, .slice A5 (List.length (movesV mask)) c6), (7, .int .i64 0)]) (φ := []) tbok 1 [] [0, 1, 5, 6, 7] E (by kernel_rfl) trivial ?_
  clear E; intro a E
  refine wpList_nil ?_
  refine th_n ?_
  refine wp_seq ?_
  refine wp_seq ?_
  refine wp_region_lit ?_
  refine vrun (w := w9) (lp := [(0, .int .u8 mask), (1, .int .u8 move), (5, .bool true), (6, .slice A5 (List.length (movesV mask)) c6), (7, .int .i64 0), (8, .int .i64 0)]) (φ := []) tbok 1 [] [0, 1, 5, 6, 7, 8] E (by kernel_rfl) trivial ?_
  clear E; intro a E
  refine wpList_nil ?_
  refine th_n ?_
  refine wp_block ?_
  refine loopV (fun m13 a w12 => ∃ (k : Nat), Fr a 104 [(0, .int .u8 mask), (1, .int .u8 move), (5, .bool true), (6, .slice A5 (List.length (movesV mask)) c6), (7, .int .i64 ((popK mask.toNat k : Nat) : Int)), (8, .int .i64 (k : Int))] ∧ Chg (Hi w0.heap.size) w0 w12 ∧ Row (cInt .u8) 27 w12 w0.heap.size No A5 c6 (movesV mask) ∧ (k ≤ 8) ∧ m13 = 8 - k) (8 - (0)) ?_ ?_
  · skip
    exact ⟨0, E.pick _ ⟨rfl, rfl, rfl, rfl, rfl, rfl, trivial⟩, HW, R7, (by omega), rfl⟩
  · clear E HW; intro m13 a w12 hI_
    obtain ⟨k, hI_⟩ := hI_
    clear R7
    obtain ⟨E, HW, R7, hk, hm_m13⟩ := hI_
    refine wp_seq ?_
    refine wp_seq ?_
    refine wp_region_lit ?_
    refine vrun (w := w12) (lp := [(0, .int .u8 mask), (1, .int .u8 move), (5, .bool true), (6, .slice A5 (List.length (movesV mask)) c6), (7, .int .i64 ((popK mask.toNat k : Nat) : Int)), (8, .int .i64 (k : Int)), (18, .bool (decide ((k : Int) < 8)))]) (φ := []) tbok 2 [] [0, 1, 5, 6, 7, 8, 18] E (by kernel_rfl) trivial ?_
    clear E; intro a E
    refine wpList_nil ?_
    refine th_n ?_
    refine E.cases (t := 18) rfl (fun hb_ E_ => ?_) (fun hb_ E_ => ?_)
    · replace E := E_; clear E_
      have h14 : (k : Int) < 8 := of_decide_eq_true hb_
      clear hb_
      refine c_true E rfl ?_
      refine wp_skip ?_
      refine th_n ?_
      refine wp_seq ?_
      refine wp_block ?_
      refine wp_region_lit ?_
      refine vrun (w := w12) (lp := [(0, .int .u8 mask), (1, .int .u8 move), (5, .bool true), (6, .slice A5 (List.length (movesV mask)) c6), (7, .int .i64 ((popK mask.toNat (k + 1) : Nat) : Int)), (8, .int .i64 (k : Int))]) (φ := [0 ≤ (k : Int) ∧ Int.fdiv mask (2 ^ (min (Int.toNat (k : Int)) (IntKind.bits .u8))) = mask / 2 ^ Int.toNat (k : Int), IntKind.u8.wrap (BitVec.ofInt (IntKind.bits .u8) (mask / 2 ^ Int.toNat (k : Int)) &&& BitVec.ofInt (IntKind.bits .u8) 1).toNat = (mask / 2 ^ Int.toNat (k : Int)) % 2, IntKind.i64.wrap ((mask / 2 ^ Int.toNat (k : Int)) % 2) = (mask / 2 ^ Int.toNat (k : Int)) % 2, IntKind.i64.wrap (((popK mask.toNat k : Nat) : Int) + ((mask / 2 ^ Int.toNat (k : Int)) % 2)) = ((popK mask.toNat (k + 1) : Nat) : Int)]) tbok 8 [.int .u8 (mask / 2 ^ Int.toNat (k : Int)), .int .u8 ((mask / 2 ^ Int.toNat (k : Int)) % 2), .int .i64 ((mask / 2 ^ Int.toNat (k : Int)) % 2), .int .i64 ((popK mask.toNat (k + 1) : Nat) : Int)] [0, 1, 5, 6, 7, 8] E (by kernel_rfl) ⟨shr_u8 hm (by omega) (by omega), and1_u8 (half_bd hm.1 hm.2), wrap_i64 (by omega) (by omega), pop_add hm (by omega)⟩ ?_
      clear E; intro a E
      refine wpList_nil ?_
      refine bl_n ?_
      refine th_n ?_
      refine wp_region_lit ?_
      refine vrun (w := w12) (lp := [(0, .int .u8 mask), (1, .int .u8 move), (5, .bool true), (6, .slice A5 (List.length (movesV mask)) c6), (7, .int .i64 ((popK mask.toNat (k + 1) : Nat) : Int)), (8, .int .i64 ((k : Int) + 1))]) (φ := [IntKind.i64.wrap ((k : Int) + 1) = (k : Int) + 1]) tbok 3 [.int .i64 ((k : Int) + 1)] [0, 1, 5, 6, 7, 8] E (by kernel_rfl) (wrap_i64 (by omega) (by omega)) ?_
      clear E; intro a E
      refine wpList_nil ?_
      refine th_n ⟨8 - (k + 1), by omega, ?_⟩
      exact ⟨k + 1, E.pick _ ⟨rfl, rfl, rfl, rfl, rfl, rfl, trivial⟩, HW, R7, (by omega), rfl⟩
    · replace E := E_; clear E_
      have h15 : ¬ ((k : Int) < 8) := of_decide_eq_false hb_
      clear hb_
      refine c_false E rfl ?_
      refine wp_exit ?_
      refine th_exit ?_
      refine th_exit ?_
      refine bl_hit ?_
      refine th_n ?_
      refine wp_seq ?_
      refine wp_seq ?_
      refine wp_region_lit ?_
      refine vrun (w := w12) (lp := [(0, .int .u8 mask), (1, .int .u8 move), (5, .bool true), (6, .slice A5 (List.length (movesV mask)) c6), (32, .bool (((((List.length (movesV mask)) : Nat) : Int) : Int) != ((2 ^ popK mask.toNat 8 : Nat) : Int)))]) (φ := [0 ≤ ((popK mask.toNat k : Nat) : Int) ∧ IntKind.i64.wrap (1 * 2 ^ (min (Int.toNat ((popK mask.toNat k : Nat) : Int)) (IntKind.bits .i64))) = ((2 ^ popK mask.toNat 8 : Nat) : Int)]) tbok 5 [.int .i64 ((2 ^ popK mask.toNat 8 : Nat) : Int)] [0, 1, 5, 6, 32] E (by kernel_rfl) (pop_shl (by omega)) ?_
      clear E; intro a E
      refine wpList_nil ?_
      refine th_n ?_
      refine E.cases (t := 32) rfl (fun hb_ E_ => ?_) (fun hb_ E_ => ?_)
      · replace E := E_; clear E_
        have h16 : ¬ (((((List.length (movesV mask)) : Nat) : Int) : Int) = ((2 ^ popK mask.toNat 8 : Nat) : Int)) := bne_iff_ne.1 hb_
        clear hb_
        exact absurd (by exact_mod_cast movesV_count hm) h16
      · replace E := E_; clear E_
        have h17 : ((((List.length (movesV mask)) : Nat) : Int) : Int) = ((2 ^ popK mask.toNat 8 : Nat) : Int) := bne_eq_false_iff_eq.1 hb_
        clear hb_
        refine c_false E rfl ?_
        refine wp_skip ?_
        refine th_n ?_
        refine wp_seq ?_
        refine wp_seq ?_
        refine wp_region_lit ?_
        refine vrun (w := w12) (lp := [(0, .int .u8 mask), (1, .int .u8 move), (5, .bool true), (6, .slice A5 (List.length (movesV mask)) c6), (9, .int .i64 0)]) (φ := []) tbok 1 [] [0, 1, 5, 6, 9] E (by kernel_rfl) trivial ?_
        clear E; intro a E
        refine wpList_nil ?_
        refine th_n ?_
        refine wp_block ?_
        refine loopV (fun m19 a w18 => ∃ (k : Nat), Fr a 104 [(0, .int .u8 mask), (1, .int .u8 move), (5, .bool true), (6, .slice A5 (List.length (movesV mask)) c6), (9, .int .i64 (k : Int))] ∧ Chg (Hi w0.heap.size) w0 w18 ∧ Row (cInt .u8) 27 w18 w0.heap.size No A5 c6 (movesV mask) ∧ (k ≤ (movesV mask).length) ∧ m19 = (movesV mask).length - k) ((movesV mask).length - (0)) ?_ ?_
        · skip
          exact ⟨0, E.pick _ ⟨rfl, rfl, rfl, rfl, rfl, trivial⟩, HW, R7, (by omega), rfl⟩
        · clear E HW; intro m19 a w18 hI_
          obtain ⟨k, hI_⟩ := hI_
          clear R7
          obtain ⟨E, HW, R7, hk, hm_m19⟩ := hI_
          refine wp_seq ?_
          refine wp_seq ?_
          refine wp_region_lit ?_
          refine vrun (w := w18) (lp := [(0, .int .u8 mask), (1, .int .u8 move), (5, .bool true), (6, .slice A5 (List.length (movesV mask)) c6), (9, .int .i64 (k : Int)), (36, .bool (decide ((k : Int) < (((List.length (movesV mask)) : Nat) : Int))))]) (φ := []) tbok 4 [] [0, 1, 5, 6, 9, 36] E (by kernel_rfl) trivial ?_
          clear E; intro a E
          refine wpList_nil ?_
          refine th_n ?_
          refine E.cases (t := 36) rfl (fun hb_ E_ => ?_) (fun hb_ E_ => ?_)
          · replace E := E_; clear E_
            have h20 : (k : Int) < (((List.length (movesV mask)) : Nat) : Int) := of_decide_eq_true hb_
            clear hb_
            refine c_true E rfl ?_
            refine wp_skip ?_
            refine th_n ?_
            refine wp_seq ?_
            refine wp_block ?_
            refine wp_seq ?_
            refine wp_region_lit ?_
            have hx_43 : 0 ≤ (k : Int) ∧ (k : Int) < (((List.length (movesV mask)) : Nat) : Int) := ⟨by omega, by omega⟩
            obtain ⟨b21, e_b21⟩ := R7.addr' (by omega)
            subst e_b21
            refine vrun (w := w18) (lp := [(0, .int .u8 mask), (1, .int .u8 move), (5, .bool true), (6, .slice (some ⟨b21, 0, none⟩) (List.length (movesV mask)) c6), (9, .int .i64 (k : Int)), (40, .int .u8 mask), (44, .int .u8 (List.getD (movesV mask) (Int.toNat (k : Int)) 0))]) (φ := [0 ≤ (k : Int) ∧ (k : Int) < (((List.length (movesV mask)) : Nat) : Int), World.cell? w18 ⟨b21, 0 + (Int.toNat (k : Int)) * 1, none⟩ = some (.int .u8 (List.getD (movesV mask) (Int.toNat (k : Int)) 0))]) tbok 5 [.int .u8 (List.getD (movesV mask) (Int.toNat (k : Int)) 0)] [0, 1, 5, 6, 9, 40, 44] E (by kernel_rfl) ⟨hx_43, C.at1 R7.C 0 hx_43.1 hx_43.2⟩ ?_
            clear E; intro a E
            refine e_call E rfl rfl Try.func16 rfl rfl rfl (Number_calls mask (List.getD (movesV mask) (Int.toNat (k : Int)) 0) _ hm) ?_
            intro v23 w24 a hR25 E_
            obtain ⟨rfl, hc26⟩ := hR25
            rw [number_at hm (by omega)] at E_
            replace E := E_ _ rfl; clear E_
            replace R7 := R7.keep hc26 (fun _ _ h_ => h_) (fun _ _ h_ => h_)
            replace HW := HW.trans hc26 (fun _ _ h_ => h_.elim)
            refine vrun (w := w24) (lp := [(0, .int .u8 mask), (1, .int .u8 move), (5, .bool true), (6, .slice (some ⟨b21, 0, none⟩) (List.length (movesV mask)) c6), (9, .int .i64 (k : Int)), (10, .int .i64 (k : Int)), (11, .int .i64 0)]) (φ := []) tbok 5 [] [0, 1, 5, 6, 9, 10, 11] E (by kernel_rfl) trivial ?_
            clear E; intro a E
            refine wpList_nil ?_
            refine th_n ?_
            refine wp_seq ?_
            refine dr_start (S := fun w_ => Chg No w24 w_) (by kernel_rfl) ?_
            intro w27 hc28
            have HWs := HW
            have R7s := R7
            have HS : Chg No w24 w27 := hc28.mono (fun _ _ h_ => h_.elim)
            replace R7 := R7.keep hc28 (fun _ _ h_ => h_) (fun _ _ h_ => h_)
            replace HW := HW.trans hc28 (fun _ _ h_ => h_.elim)
            have hx_50 : 0 ≤ (k : Int) ∧ (k : Int) < (((List.length (movesV mask)) : Nat) : Int) := ⟨by omega, by omega⟩
            refine drun (lp := [(0, .int .u8 mask), (1, .int .u8 move), (5, .bool true), (6, .slice (some ⟨b21, 0, none⟩) (List.length (movesV mask)) c6), (9, .int .i64 (k : Int)), (10, .int .i64 (k : Int)), (11, .int .i64 0), (55, .bool ((((Nat.land (Int.toNat (List.getD (movesV mask) (Int.toNat (k : Int)) 0)) (255 - Int.toNat mask) : Nat) : Int) : Int) != 0))]) tbok (by kernel_rfl) [0, 1, 2, 3, 4, 5, 6, 7] [.int .u8 (List.getD (movesV mask) (Int.toNat (k : Int)) 0), .int .u8 ((Nat.land (Int.toNat (List.getD (movesV mask) (Int.toNat (k : Int)) 0)) (255 - Int.toNat mask) : Nat) : Int)] [0, 1, 5, 6, 9, 10, 11, 55] (fun w_ => [0 ≤ (k : Int) ∧ (k : Int) < (((List.length (movesV mask)) : Nat) : Int), World.cell? w_ ⟨b21, 0 + (Int.toNat (k : Int)) * 1, none⟩ = some (.int .u8 (List.getD (movesV mask) (Int.toNat (k : Int)) 0)), IntKind.u8.wrap (BitVec.ofInt (IntKind.bits .u8) (List.getD (movesV mask) (Int.toNat (k : Int)) 0) &&& ~~~ BitVec.ofInt (IntKind.bits .u8) mask).toNat = ((Nat.land (Int.toNat (List.getD (movesV mask) (Int.toNat (k : Int)) 0)) (255 - Int.toNat mask) : Nat) : Int)]) (fuel := 24) E (fun _ _ => by kernel_rfl) (fun w_ hS_ => ⟨hx_50, hS_.cell (C.at1 R7s.C 0 hx_50.1 hx_50.2) (fun h_ => h_), andNot_u8 (getD_u8 (movesV_u8 hm) _) hm⟩) (by kernel_rfl) HS ?_
            clear E; intro a E
            refine E.cases (t := 55) rfl (fun hb_ E_ => ?_) (fun hb_ E_ => ?_)
            · replace E := E_; clear E_
              have h29 : ¬ ((((Nat.land (Int.toNat (List.getD (movesV mask) (Int.toNat (k : Int)) 0)) (255 - Int.toNat mask) : Nat) : Int) : Int) = 0) := bne_iff_ne.1 hb_
              clear hb_
              exact absurd (mv_fit hm (by omega)) h29
            · replace E := E_; clear E_
              have h30 : (((Nat.land (Int.toNat (List.getD (movesV mask) (Int.toNat (k : Int)) 0)) (255 - Int.toNat mask) : Nat) : Int) : Int) = 0 := bne_eq_false_iff_eq.1 hb_
              clear hb_
              refine drun (lp := [(0, .int .u8 mask), (1, .int .u8 move), (5, .bool true), (6, .slice (some ⟨b21, 0, none⟩) (List.length (movesV mask)) c6), (9, .int .i64 (k : Int)), (10, .int .i64 (k : Int)), (11, .int .i64 0), (55, .bool false), (56, .int .i64 (k : Int)), (57, .bool (decide (0 < (k : Int)))), (58, .bool (decide (0 < (k : Int))))]) tbok (by kernel_rfl) [8, 9, 10] [] [0, 1, 5, 6, 9, 10, 11, 55, 56, 57, 58] (fun w_ => []) (fuel := 21) E (fun _ _ => by kernel_rfl) (fun w_ hS_ => trivial) (by kernel_rfl) HS ?_
              clear E; intro a E
              refine E.cases (t := 58) rfl (fun hb_ E_ => ?_) (fun hb_ E_ => ?_)
              · replace E := E_; clear E_
                have h31 : 0 < (k : Int) := of_decide_eq_true hb_
                clear hb_
                have hx_61 : 0 ≤ (k : Int) ∧ (k : Int) < (((List.length (movesV mask)) : Nat) : Int) := ⟨by omega, by omega⟩
                have hx_66 : 0 ≤ ((k : Int) - 1) ∧ ((k : Int) - 1) < (((List.length (movesV mask)) : Nat) : Int) := ⟨by omega, by omega⟩
                refine drun (lp := [(0, .int .u8 mask), (1, .int .u8 move), (5, .bool true), (6, .slice (some ⟨b21, 0, none⟩) (List.length (movesV mask)) c6), (9, .int .i64 (k : Int)), (10, .int .i64 (k : Int)), (11, .int .i64 0), (56, .int .i64 (k : Int)), (57, .bool (decide (0 < (k : Int)))), (58, .bool true), (59, .slice (some ⟨b21, 0, none⟩) (List.length (movesV mask)) c6), (60, .int .i64 (k : Int)), (61, .pointer (some ⟨b21, 0 + (Int.toNat (k : Int)) * 1, none⟩)), (62, .int .u8 (List.getD (movesV mask) (Int.toNat (k : Int)) 0)), (63, .slice (some ⟨b21, 0, none⟩) (List.length (movesV mask)) c6), (64, .int .i64 (k : Int)), (65, .int .i64 ((k : Int) - 1)), (66, .pointer (some ⟨b21, 0 + (Int.toNat ((k : Int) - 1)) * 1, none⟩)), (67, .int .u8 (List.getD (movesV mask) (Int.toNat ((k : Int) - 1)) 0)), (68, .bool (decide ((List.getD (movesV mask) (Int.toNat (k : Int)) 0) ≤ (List.getD (movesV mask) (Int.toNat ((k : Int) - 1)) 0)))), (69, .bool (decide ((List.getD (movesV mask) (Int.toNat (k : Int)) 0) ≤ (List.getD (movesV mask) (Int.toNat ((k : Int) - 1)) 0)))), (71, .bool (decide ((List.getD (movesV mask) (Int.toNat (k : Int)) 0) ≤ (List.getD (movesV mask) (Int.toNat ((k : Int) - 1)) 0))))]) tbok (by kernel_rfl) [11, 12, 13, 14, 15, 16, 17, 18, 19, 20, 21, 22, 23] [.int .u8 (List.getD (movesV mask) (Int.toNat (k : Int)) 0), .int .i64 ((k : Int) - 1), .int .u8 (List.getD (movesV mask) (Int.toNat ((k : Int) - 1)) 0)] [0, 1, 5, 6, 9, 10, 11, 56, 57, 58, 59, 60, 61, 62, 63, 64, 65, 66, 67, 68, 69, 71] (fun w_ => [0 ≤ (k : Int) ∧ (k : Int) < (((List.length (movesV mask)) : Nat) : Int), World.cell? w_ ⟨b21, 0 + (Int.toNat (k : Int)) * 1, none⟩ = some (.int .u8 (List.getD (movesV mask) (Int.toNat (k : Int)) 0)), IntKind.i64.wrap ((k : Int) - 1) = (k : Int) - 1, 0 ≤ ((k : Int) - 1) ∧ ((k : Int) - 1) < (((List.length (movesV mask)) : Nat) : Int), World.cell? w_ ⟨b21, 0 + (Int.toNat ((k : Int) - 1)) * 1, none⟩ = some (.int .u8 (List.getD (movesV mask) (Int.toNat ((k : Int) - 1)) 0))]) (fuel := 8) E (fun _ _ => by kernel_rfl) (fun w_ hS_ => ⟨hx_61, hS_.cell (C.at1 R7s.C 0 hx_61.1 hx_61.2) (fun h_ => h_), wrap_i64 (by omega) (by omega), hx_66, hS_.cell (C.at1 R7s.C 0 hx_66.1 hx_66.2) (fun h_ => h_)⟩) (by kernel_rfl) HS ?_
                clear E; intro a E
                refine E.cases (t := 71) rfl (fun hb_ E_ => ?_) (fun hb_ E_ => ?_)
                · replace E := E_; clear E_
                  have h32 : (List.getD (movesV mask) (Int.toNat (k : Int)) 0) ≤ (List.getD (movesV mask) (Int.toNat ((k : Int) - 1)) 0) := of_decide_eq_true hb_
                  clear hb_
                  exact absurd h32 (mv_rise hm (by omega) (by omega))
                · replace E := E_; clear E_
                  have h33 : ¬ ((List.getD (movesV mask) (Int.toNat (k : Int)) 0) ≤ (List.getD (movesV mask) (Int.toNat ((k : Int) - 1)) 0)) := of_decide_eq_false hb_
                  clear hb_
                  refine drun (lp := [(0, .int .u8 mask), (1, .int .u8 move), (5, .bool true), (6, .slice (some ⟨b21, 0, none⟩) (List.length (movesV mask)) c6), (9, .int .i64 (k : Int)), (11, .int .i64 0), (56, .int .i64 (k : Int)), (57, .bool (decide (0 < (k : Int)))), (58, .bool true), (59, .slice (some ⟨b21, 0, none⟩) (List.length (movesV mask)) c6), (60, .int .i64 (k : Int)), (61, .pointer (some ⟨b21, 0 + (Int.toNat (k : Int)) * 1, none⟩)), (62, .int .u8 (List.getD (movesV mask) (Int.toNat (k : Int)) 0)), (63, .slice (some ⟨b21, 0, none⟩) (List.length (movesV mask)) c6), (64, .int .i64 (k : Int)), (65, .int .i64 ((k : Int) - 1)), (66, .pointer (some ⟨b21, 0 + (Int.toNat ((k : Int) - 1)) * 1, none⟩)), (67, .int .u8 (List.getD (movesV mask) (Int.toNat ((k : Int) - 1)) 0)), (68, .bool (decide ((List.getD (movesV mask) (Int.toNat (k : Int)) 0) ≤ (List.getD (movesV mask) (Int.toNat ((k : Int) - 1)) 0)))), (69, .bool (decide ((List.getD (movesV mask) (Int.toNat (k : Int)) 0) ≤ (List.getD (movesV mask) (Int.toNat ((k : Int) - 1)) 0)))), (72, .int .i64 (k : Int)), (73, .int .i64 (k : Int)), (74, .bool (((k : Int) : Int) != (k : Int))), (76, .bool (((k : Int) : Int) != (k : Int)))]) tbok (by kernel_rfl) [24, 25, 26, 27, 28] [] [0, 1, 5, 6, 9, 11, 56, 57, 58, 59, 60, 61, 62, 63, 64, 65, 66, 67, 68, 69, 72, 73, 74, 76] (fun w_ => []) (fuel := 3) E (fun _ _ => by kernel_rfl) (fun w_ hS_ => trivial) (by kernel_rfl) HS ?_
                  clear E; intro a E
                  refine E.cases (t := 76) rfl (fun hb_ E_ => ?_) (fun hb_ E_ => ?_)
                  · replace E := E_; clear E_
                    have h34 : ¬ (((k : Int) : Int) = (k : Int)) := bne_iff_ne.1 hb_
                    clear hb_
                    exact absurd rfl h34
                  · replace E := E_; clear E_
                    have h35 : ((k : Int) : Int) = (k : Int) := bne_eq_false_iff_eq.1 hb_
                    clear hb_
                    refine drun (lp := [(0, .int .u8 mask), (1, .int .u8 move), (5, .bool true), (6, .slice (some ⟨b21, 0, none⟩) (List.length (movesV mask)) c6), (9, .int .i64 (k : Int)), (56, .int .i64 (k : Int)), (57, .bool (decide (0 < (k : Int)))), (58, .bool true), (59, .slice (some ⟨b21, 0, none⟩) (List.length (movesV mask)) c6), (60, .int .i64 (k : Int)), (61, .pointer (some ⟨b21, 0 + (Int.toNat (k : Int)) * 1, none⟩)), (62, .int .u8 (List.getD (movesV mask) (Int.toNat (k : Int)) 0)), (63, .slice (some ⟨b21, 0, none⟩) (List.length (movesV mask)) c6), (64, .int .i64 (k : Int)), (65, .int .i64 ((k : Int) - 1)), (66, .pointer (some ⟨b21, 0 + (Int.toNat ((k : Int) - 1)) * 1, none⟩)), (67, .int .u8 (List.getD (movesV mask) (Int.toNat ((k : Int) - 1)) 0)), (68, .bool (decide ((List.getD (movesV mask) (Int.toNat (k : Int)) 0) ≤ (List.getD (movesV mask) (Int.toNat ((k : Int) - 1)) 0)))), (69, .bool (decide ((List.getD (movesV mask) (Int.toNat (k : Int)) 0) ≤ (List.getD (movesV mask) (Int.toNat ((k : Int) - 1)) 0)))), (72, .int .i64 (k : Int)), (73, .int .i64 (k : Int)), (74, .bool (((k : Int) : Int) != (k : Int))), (77, .int .i64 0), (78, .bool false), (79, .bool false)]) tbok (by kernel_rfl) [29, 30, 31] [] [0, 1, 5, 6, 9, 56, 57, 58, 59, 60, 61, 62, 63, 64, 65, 66, 67, 68, 69, 72, 73, 74, 77, 78, 79] (fun w_ => []) (fuel := 0) E (fun _ _ => by kernel_rfl) (fun w_ hS_ => trivial) (by kernel_rfl) HS ?_
                    clear E; intro a E
                    refine dr_done (by kernel_rfl) ?_
                    clear HS HWs
                    refine th_n ?_
                    refine c_false E rfl ?_
                    refine wp_skip ?_
                    refine bl_n ?_
                    refine th_n ?_
                    refine wp_region_lit ?_
                    refine vrun (w := w27) (lp := [(0, .int .u8 mask), (1, .int .u8 move), (5, .bool true), (6, .slice (some ⟨b21, 0, none⟩) (List.length (movesV mask)) c6), (9, .int .i64 ((k : Int) + 1)), (56, .int .i64 (k : Int)), (57, .bool (decide (0 < (k : Int)))), (58, .bool true), (59, .slice (some ⟨b21, 0, none⟩) (List.length (movesV mask)) c6), (60, .int .i64 (k : Int)), (61, .pointer (some ⟨b21, 0 + (Int.toNat (k : Int)) * 1, none⟩)), (62, .int .u8 (List.getD (movesV mask) (Int.toNat (k : Int)) 0)), (63, .slice (some ⟨b21, 0, none⟩) (List.length (movesV mask)) c6), (64, .int .i64 (k : Int)), (65, .int .i64 ((k : Int) - 1)), (66, .pointer (some ⟨b21, 0 + (Int.toNat ((k : Int) - 1)) * 1, none⟩)), (67, .int .u8 (List.getD (movesV mask) (Int.toNat ((k : Int) - 1)) 0)), (68, .bool (decide ((List.getD (movesV mask) (Int.toNat (k : Int)) 0) ≤ (List.getD (movesV mask) (Int.toNat ((k : Int) - 1)) 0)))), (69, .bool (decide ((List.getD (movesV mask) (Int.toNat (k : Int)) 0) ≤ (List.getD (movesV mask) (Int.toNat ((k : Int) - 1)) 0)))), (72, .int .i64 (k : Int)), (73, .int .i64 (k : Int)), (74, .bool (((k : Int) : Int) != (k : Int))), (77, .int .i64 0), (78, .bool false)]) (φ := [IntKind.i64.wrap ((k : Int) + 1) = (k : Int) + 1]) tbok 3 [.int .i64 ((k : Int) + 1)] [0, 1, 5, 6, 9, 56, 57, 58, 59, 60, 61, 62, 63, 64, 65, 66, 67, 68, 69, 72, 73, 74, 77, 78] E (by kernel_rfl) (wrap_i64 (by omega) (by omega)) ?_
                    clear E; intro a E
                    refine wpList_nil ?_
                    refine th_n ⟨(movesV mask).length - (k + 1), by omega, ?_⟩
                    exact ⟨k + 1, E.pick _ ⟨rfl, rfl, rfl, rfl, rfl, trivial⟩, HW, R7, (by omega), rfl⟩
              · replace E := E_; clear E_
                have h36 : ¬ (0 < (k : Int)) := of_decide_eq_false hb_
                clear hb_
                refine drun (lp := [(0, .int .u8 mask), (1, .int .u8 move), (5, .bool true), (6, .slice (some ⟨b21, 0, none⟩) (List.length (movesV mask)) c6), (9, .int .i64 (k : Int)), (11, .int .i64 0), (56, .int .i64 (k : Int)), (57, .bool (decide (0 < (k : Int)))), (58, .bool false), (59, .tuple #[]), (60, .tuple #[]), (61, .tuple #[]), (62, .tuple #[]), (63, .tuple #[]), (64, .tuple #[]), (65, .tuple #[]), (66, .tuple #[]), (67, .tuple #[]), (68, .tuple #[]), (69, .bool false), (72, .int .i64 (k : Int)), (73, .int .i64 (k : Int)), (74, .bool (((k : Int) : Int) != (k : Int))), (76, .bool (((k : Int) : Int) != (k : Int)))]) tbok (by kernel_rfl) [11, 12, 13, 14, 15, 16, 17, 18, 19, 20, 21, 22, 23, 24, 25, 26, 27, 28] [] [0, 1, 5, 6, 9, 11, 56, 57, 58, 59, 60, 61, 62, 63, 64, 65, 66, 67, 68, 69, 72, 73, 74, 76] (fun w_ => []) (fuel := 3) E (fun _ _ => by kernel_rfl) (fun w_ hS_ => trivial) (by kernel_rfl) HS ?_
                clear E; intro a E
                refine E.cases (t := 76) rfl (fun hb_ E_ => ?_) (fun hb_ E_ => ?_)
                · replace E := E_; clear E_
                  have h37 : ¬ (((k : Int) : Int) = (k : Int)) := bne_iff_ne.1 hb_
                  clear hb_
                  exact absurd rfl h37
                · replace E := E_; clear E_
                  have h38 : ((k : Int) : Int) = (k : Int) := bne_eq_false_iff_eq.1 hb_
                  clear hb_
                  refine drun (lp := [(0, .int .u8 mask), (1, .int .u8 move), (5, .bool true), (6, .slice (some ⟨b21, 0, none⟩) (List.length (movesV mask)) c6), (9, .int .i64 (k : Int)), (56, .int .i64 (k : Int)), (57, .bool (decide (0 < (k : Int)))), (58, .bool false), (59, .tuple #[]), (60, .tuple #[]), (61, .tuple #[]), (62, .tuple #[]), (63, .tuple #[]), (64, .tuple #[]), (65, .tuple #[]), (66, .tuple #[]), (67, .tuple #[]), (68, .tuple #[]), (69, .bool false), (72, .int .i64 (k : Int)), (73, .int .i64 (k : Int)), (74, .bool (((k : Int) : Int) != (k : Int))), (77, .int .i64 0), (78, .bool false), (79, .bool false)]) tbok (by kernel_rfl) [29, 30, 31] [] [0, 1, 5, 6, 9, 56, 57, 58, 59, 60, 61, 62, 63, 64, 65, 66, 67, 68, 69, 72, 73, 74, 77, 78, 79] (fun w_ => []) (fuel := 0) E (fun _ _ => by kernel_rfl) (fun w_ hS_ => trivial) (by kernel_rfl) HS ?_
                  clear E; intro a E
                  refine dr_done (by kernel_rfl) ?_
                  clear HS HWs
                  refine th_n ?_
                  refine c_false E rfl ?_
                  refine wp_skip ?_
                  refine bl_n ?_
                  refine th_n ?_
                  refine wp_region_lit ?_
                  refine vrun (w := w27) (lp := [(0, .int .u8 mask), (1, .int .u8 move), (5, .bool true), (6, .slice (some ⟨b21, 0, none⟩) (List.length (movesV mask)) c6), (9, .int .i64 ((k : Int) + 1)), (56, .int .i64 (k : Int)), (57, .bool (decide (0 < (k : Int)))), (58, .bool false), (59, .tuple #[]), (60, .tuple #[]), (61, .tuple #[]), (62, .tuple #[]), (63, .tuple #[]), (64, .tuple #[]), (65, .tuple #[]), (66, .tuple #[]), (67, .tuple #[]), (68, .tuple #[]), (69, .bool false), (72, .int .i64 (k : Int)), (73, .int .i64 (k : Int)), (74, .bool (((k : Int) : Int) != (k : Int))), (77, .int .i64 0), (78, .bool false)]) (φ := [IntKind.i64.wrap ((k : Int) + 1) = (k : Int) + 1]) tbok 3 [.int .i64 ((k : Int) + 1)] [0, 1, 5, 6, 9, 56, 57, 58, 59, 60, 61, 62, 63, 64, 65, 66, 67, 68, 69, 72, 73, 74, 77, 78] E (by kernel_rfl) (wrap_i64 (by omega) (by omega)) ?_
                  clear E; intro a E
                  refine wpList_nil ?_
                  refine th_n ⟨(movesV mask).length - (k + 1), by omega, ?_⟩
                  exact ⟨k + 1, E.pick _ ⟨rfl, rfl, rfl, rfl, rfl, trivial⟩, HW, R7, (by omega), rfl⟩
          · replace E := E_; clear E_
            have h39 : ¬ ((k : Int) < (((List.length (movesV mask)) : Nat) : Int)) := of_decide_eq_false hb_
            clear hb_
            refine c_false E rfl ?_
            refine wp_exit ?_
            refine th_exit ?_
            refine th_exit ?_
            refine bl_hit ?_
            refine th_n ?_
            refine wp_seq ?_
            refine wp_region_lit ?_
            refine vrun (w := w18) (lp := [(0, .int .u8 mask), (1, .int .u8 move), (5, .bool true), (81, .int .u8 mask), (82, .int .u8 move)]) (φ := []) tbok 2 [] [0, 1, 5, 81, 82] E (by kernel_rfl) trivial ?_
            clear E; intro a E
            refine e_call E rfl rfl Try.func16 rfl rfl rfl (Number_calls mask move _ hm) ?_
            intro v40 w41 a hR42 E_
            obtain ⟨rfl, hc43⟩ := hR42
            replace E := E_ _ rfl; clear E_
            replace R7 := R7.keep hc43 (fun _ _ h_ => h_) (fun _ _ h_ => h_)
            replace HW := HW.trans hc43 (fun _ _ h_ => h_.elim)
            refine vrun (w := w41) (lp := [(0, .int .u8 mask), (1, .int .u8 move), (5, .bool true), (13, .int .i64 ((numberV mask move).2))]) (φ := []) tbok 5 [] [0, 1, 5, 13] E (by kernel_rfl) trivial ?_
            clear E; intro a E
            refine wpList_nil ?_
            refine th_n ?_
            refine wp_seq ?_
            refine wp_region_lit ?_
            refine vrun (w := w41) (lp := [(13, .int .i64 ((numberV mask move).2)), (96, .bool ((((numberV mask move).2 : Int) == 0) == ((((Nat.land (Int.toNat move) (255 - Int.toNat mask) : Nat) : Int) : Int) == 0)))]) (φ := [IntKind.u8.wrap (BitVec.ofInt (IntKind.bits .u8) move &&& ~~~ BitVec.ofInt (IntKind.bits .u8) mask).toNat = ((Nat.land (Int.toNat move) (255 - Int.toNat mask) : Nat) : Int)]) tbok 11 [.int .u8 ((Nat.land (Int.toNat move) (255 - Int.toNat mask) : Nat) : Int)] [13, 96] E (by kernel_rfl) (andNot_u8 hx hm) ?_
            clear E; intro a E
            refine E.cases (t := 96) rfl (fun hb_ E_ => ?_) (fun hb_ E_ => ?_)
            · replace E := E_; clear E_
              have h44 : (((numberV mask move).2 : Int) == 0) = ((((Nat.land (Int.toNat move) (255 - Int.toNat mask) : Nat) : Int) : Int) == 0) := by simpa using hb_
              clear hb_
              refine vrun (w := w41) (lp := [(13, .int .i64 ((numberV mask move).2)), (96, .bool true), (99, .bool (((numberV mask move).2 : Int) == 0))]) (φ := []) tbok 3 [] [13, 96, 99] E (by kernel_rfl) trivial ?_
              clear E; intro a E
              refine E.cases (t := 99) rfl (fun hb_ E_ => ?_) (fun hb_ E_ => ?_)
              · replace E := E_; clear E_
                have h45 : ((numberV mask move).2 : Int) = 0 := eq_of_beq hb_
                clear hb_
                refine vrun (w := w41) (lp := [(4, .bool true)]) (φ := []) tbok 5 [] [4] E (by kernel_rfl) trivial ?_
                clear E; intro a E
                refine wpList_nil ?_
                refine th_n ?_
                refine wp_ret ?_
                refine ret1 E rfl rfl ?_
                exact ⟨_, rfl, rfl, HW.own⟩
              · replace E := E_; clear E_
                have h46 : ¬ (((numberV mask move).2 : Int) = 0) := ne_of_beq_false hb_
                clear hb_
                refine vrun (w := w41) (lp := [(4, .bool (((numberV mask move).2 : Int) == 14))]) (φ := []) tbok 5 [] [4] E (by kernel_rfl) trivial ?_
                clear E; intro a E
                refine wpList_nil ?_
                refine th_n ?_
                refine wp_ret ?_
                refine ret1 E rfl rfl ?_
                exact ⟨_, rfl, congrArg Value.bool (num_err (by assumption)), HW.own⟩
            · replace E := E_; clear E_
              have h47 : ¬ ((((numberV mask move).2 : Int) == 0) = ((((Nat.land (Int.toNat move) (255 - Int.toNat mask) : Nat) : Int) : Int) == 0)) := by simpa using hb_
              clear hb_
              exact absurd (num_fit hm hx) h47

end Go.V
