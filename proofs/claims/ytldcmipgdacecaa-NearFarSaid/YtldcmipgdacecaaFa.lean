/- Contracts of functions of the program: walks. -/
import Derived.Test.YtldcmipgdacecaaLt
set_option linter.all false
set_option linter.unusedVariables false
set_option linter.unnecessarySimpa false
set_option linter.unusedSimpArgs false
namespace Go.V
open Go Go.Proofs

/-! math/bits.OnesCount8 -/
set_option maxRecDepth 100000 in
theorem OnesCount8_calls (x : Int) (w0 : World) (hx : 0 ≤ x ∧ x ≤ 255) :
    Calls Try.prog 46 #[.int .u8 x] w0 fun e w' => ∃ v, e = .returned v ∧ (v = .int .i64 ((popK x.toNat 8 : Nat) : Int) ∧ Ext w0 w') := by
  have HW : Chg (Hi w0.heap.size) w0 w0 := Chg.refl _ _
  have hp_ := popK_le x.toNat 8
  refine enterV (n := 6) Try.func46 rfl rfl rfl ?_
  intro a E
  replace E := E.pick [(0, .int .u8 x)] ⟨rfl, trivial⟩
  refine wp_seq ?_
  refine wp_region_lit ?_
  refine vrun (w := w0) (lp := [(0, .int .u8 x)]) (φ := []) tbok 1 [] [0] E (by kernel_rfl) trivial ?_
  clear E; intro a E
  refine wpList_nil ?_
  refine th_n ?_
  refine wp_seq ?_
  refine wp_region_lit ?_
  refine vrun (w := w0) (lp := [(3, .int .u8 x)]) (φ := []) tbok 1 [] [3] E (by kernel_rfl) trivial ?_
  clear E; intro a E
  refine e_indexS (b := UInt8.ofNat (popK x.toNat 8)) (r := ((popK x.toNat 8 : Nat) : Int)) E rfl rfl tbok rfl rfl rfl hx.1 (pop_get (by omega)) (pop_nat _) rfl ?_
  clear E; intro a E
  refine vrun (w := w0) (lp := [(2, .int .i64 ((popK x.toNat 8 : Nat) : Int))]) (φ := [IntKind.i64.wrap ((popK x.toNat 8 : Nat) : Int) = ((popK x.toNat 8 : Nat) : Int)]) tbok 2 [.int .i64 ((popK x.toNat 8 : Nat) : Int)] [2] E (by kernel_rfl) (wrap_i64 (by omega) (by omega)) ?_
  clear E; intro a E
  refine wpList_nil ?_
  refine th_n ?_
  refine wp_ret ?_
  refine ret1 E rfl rfl ?_
  exact ⟨_, rfl, rfl, HW.own⟩

/-! rejoinder/near.unlike -/
set_option maxRecDepth 100000 in
theorem unlike_calls (a1 b1 : Int) (w0 : World) (ha : 0 ≤ a1 ∧ a1 ≤ 255) (hb : 0 ≤ b1 ∧ b1 ≤ 255) :
    Calls Try.prog 27 #[.int .u8 a1, .int .u8 b1] w0 fun e w' => ∃ v, e = .returned v ∧ (v = .int .i64 ((apartN a1 b1 8 : Nat) : Int) ∧ Ext w0 w') := by
  have HW : Chg (Hi w0.heap.size) w0 w0 := Chg.refl _ _
  refine enterV (n := 9) Try.func27 rfl rfl rfl ?_
  intro a E
  replace E := E.pick [(0, .int .u8 a1), (1, .int .u8 b1)] ⟨rfl, rfl, trivial⟩
  refine wp_seq ?_
  refine wp_region_lit ?_
  refine vrun (w := w0) (lp := [(0, .int .u8 a1), (1, .int .u8 b1)]) (φ := []) tbok 1 [] [0, 1] E (by kernel_rfl) trivial ?_
  clear E; intro a E
  refine wpList_nil ?_
  refine th_n ?_
  refine wp_seq ?_
  refine wp_region_lit ?_
  refine vrun (w := w0) (lp := [(7, .int .u8 ((Nat.xor a1.toNat b1.toNat : Nat) : Int))]) (φ := [IntKind.u8.wrap (BitVec.ofInt (IntKind.bits .u8) a1 ^^^ BitVec.ofInt (IntKind.bits .u8) b1).toNat = ((Nat.xor a1.toNat b1.toNat : Nat) : Int)]) tbok 3 [.int .u8 ((Nat.xor a1.toNat b1.toNat : Nat) : Int)] [7] E (by kernel_rfl) (xor_u8 ha hb) ?_
  clear E; intro a E
  refine e_call E rfl rfl Try.func46 rfl rfl rfl (OnesCount8_calls ((Nat.xor a1.toNat b1.toNat : Nat) : Int) _ (xor_lt ha hb)) ?_
  intro v1 w2 a hR3 E_
  obtain ⟨rfl, hc4⟩ := hR3
  replace E := E_ _ rfl; clear E_
  replace HW := HW.trans hc4 (fun _ _ h_ => h_.elim)
  refine vrun (w := w2) (lp := [(4, .int .i64 ((popK (Int.toNat ((Nat.xor a1.toNat b1.toNat : Nat) : Int)) 8 : Nat) : Int))]) (φ := []) tbok 1 [] [4] E (by kernel_rfl) trivial ?_
  clear E; intro a E
  refine wpList_nil ?_
  refine th_n ?_
  refine wp_ret ?_
  refine ret1 E rfl rfl ?_
  exact ⟨_, rfl, by rw [apartN_int ha.1 hb.1]; simp only [Int.toNat_natCast], HW.own⟩

/-! rejoinder/rejoinderref28.apart -/
set_option maxRecDepth 100000 in
theorem apart_calls (a1 b1 : Int) (w0 : World) (ha : 0 ≤ a1 ∧ a1 ≤ 255) (hb : 0 ≤ b1 ∧ b1 ≤ 255) :
    Calls Try.prog 29 #[.int .u8 a1, .int .u8 b1] w0 fun e w' => ∃ v, e = .returned v ∧ (v = .int .i64 ((apartN a1 b1 8 : Nat) : Int) ∧ Ext w0 w') := by
  have HW : Chg (Hi w0.heap.size) w0 w0 := Chg.refl _ _
  refine enterV (n := 21) Try.func29 rfl rfl rfl ?_
  intro a E
  replace E := E.pick [(0, .int .u8 a1), (1, .int .u8 b1)] ⟨rfl, rfl, trivial⟩
  refine wp_seq ?_
  refine wp_region_lit ?_
  refine vrun (w := w0) (lp := [(0, .int .u8 a1), (1, .int .u8 b1)]) (φ := []) tbok 1 [] [0, 1] E (by kernel_rfl) trivial ?_
  clear E; intro a E
  refine wpList_nil ?_
  refine th_n ?_
  refine wp_seq ?_
  refine wp_region_lit ?_
  refine vrun (w := w0) (lp := [(0, .int .u8 a1), (1, .int .u8 b1), (5, .int .i64 0)]) (φ := []) tbok 1 [] [0, 1, 5] E (by kernel_rfl) trivial ?_
  clear E; intro a E
  refine wpList_nil ?_
  refine th_n ?_
  refine wp_seq ?_
  refine wp_seq ?_
  refine wp_region_lit ?_
  refine vrun (w := w0) (lp := [(0, .int .u8 a1), (1, .int .u8 b1), (5, .int .i64 0), (6, .int .i64 0)]) (φ := []) tbok 1 [] [0, 1, 5, 6] E (by kernel_rfl) trivial ?_
  clear E; intro a E
  refine wpList_nil ?_
  refine th_n ?_
  refine wp_block ?_
  refine loopV (fun m2 a w1 => ∃ (k : Nat), Fr a 21 [(0, .int .u8 a1), (1, .int .u8 b1), (5, .int .i64 ((apartN a1 b1 k : Nat) : Int)), (6, .int .i64 (k : Int))] ∧ Chg (Hi w0.heap.size) w0 w1 ∧ (k ≤ 8) ∧ m2 = 8 - k) (8 - (0)) ?_ ?_
  · skip
    exact ⟨0, E.pick _ ⟨rfl, rfl, rfl, rfl, trivial⟩, HW, (by omega), rfl⟩
  · clear E HW; intro m2 a w1 hI_
    obtain ⟨k, hI_⟩ := hI_
    obtain ⟨E, HW, hk, hm_m2⟩ := hI_
    have hp_ := apartN_le a1 b1 k
    refine wp_seq ?_
    refine wp_seq ?_
    refine wp_region_lit ?_
    refine vrun (w := w1) (lp := [(0, .int .u8 a1), (1, .int .u8 b1), (5, .int .i64 ((apartN a1 b1 k : Nat) : Int)), (6, .int .i64 (k : Int)), (8, .bool (decide ((k : Int) < 8)))]) (φ := []) tbok 2 [] [0, 1, 5, 6, 8] E (by kernel_rfl) trivial ?_
    clear E; intro a E
    refine wpList_nil ?_
    refine th_n ?_
    refine E.cases (t := 8) rfl (fun hb_ E_ => ?_) (fun hb_ E_ => ?_)
    · replace E := E_; clear E_
      have h3 : (k : Int) < 8 := of_decide_eq_true hb_
      clear hb_
      refine c_true E rfl ?_
      refine wp_skip ?_
      refine th_n ?_
      refine wp_seq ?_
      refine wp_block ?_
      refine wp_seq ?_
      refine wp_region_lit ?_
      refine vrun (w := w1) (lp := [(0, .int .u8 a1), (1, .int .u8 b1), (5, .int .i64 ((apartN a1 b1 k : Nat) : Int)), (6, .int .i64 (k : Int)), (11, .int .u8 a1), (12, .int .i64 (k : Int))]) (φ := []) tbok 2 [] [0, 1, 5, 6, 11, 12] E (by kernel_rfl) trivial ?_
      clear E; intro a E
      refine e_call E rfl rfl Try.func48 rfl rfl rfl (rBit8_calls a1 (k : Int) _ ha (by omega)) ?_
      intro v4 w5 a hR6 E_
      obtain ⟨rfl, hc7⟩ := hR6
      replace E := E_ _ rfl; clear E_
      replace HW := HW.trans hc7 (fun _ _ h_ => h_.elim)
      refine vrun (w := w5) (lp := [(0, .int .u8 a1), (1, .int .u8 b1), (5, .int .i64 ((apartN a1 b1 k : Nat) : Int)), (6, .int .i64 (k : Int)), (13, .bool (bitB a1 (k : Int))), (14, .int .u8 b1), (15, .int .i64 (k : Int))]) (φ := []) tbok 2 [] [0, 1, 5, 6, 13, 14, 15] E (by kernel_rfl) trivial ?_
      clear E; intro a E
      refine e_call E rfl rfl Try.func48 rfl rfl rfl (rBit8_calls b1 (k : Int) _ hb (by omega)) ?_
      intro v8 w9 a hR10 E_
      obtain ⟨rfl, hc11⟩ := hR10
      replace E := E_ _ rfl; clear E_
      replace HW := HW.trans hc11 (fun _ _ h_ => h_.elim)
      refine vrun (w := w9) (lp := [(0, .int .u8 a1), (1, .int .u8 b1), (5, .int .i64 ((apartN a1 b1 k : Nat) : Int)), (6, .int .i64 (k : Int)), (17, .bool (!((bitB a1 (k : Int)) == (bitB b1 (k : Int)))))]) (φ := []) tbok 1 [] [0, 1, 5, 6, 17] E (by kernel_rfl) trivial ?_
      clear E; intro a E
      refine wpList_nil ?_
      refine th_n ?_
      refine E.cases (t := 17) rfl (fun hb_ E_ => ?_) (fun hb_ E_ => ?_)
      · replace E := E_; clear E_
        have h12 : ¬ ((bitB a1 (k : Int)) = (bitB b1 (k : Int))) := by simpa using hb_
        clear hb_
        refine c_true E rfl ?_
        refine wp_region_lit ?_
        refine vrun (w := w9) (lp := [(0, .int .u8 a1), (1, .int .u8 b1), (5, .int .i64 (((apartN a1 b1 k : Nat) : Int) + 1)), (6, .int .i64 (k : Int))]) (φ := [IntKind.i64.wrap (((apartN a1 b1 k : Nat) : Int) + 1) = ((apartN a1 b1 k : Nat) : Int) + 1]) tbok 3 [.int .i64 (((apartN a1 b1 k : Nat) : Int) + 1)] [0, 1, 5, 6] E (by kernel_rfl) (wrap_i64 (by omega) (by omega)) ?_
        clear E; intro a E
        refine wpList_nil ?_
        refine bl_n ?_
        refine th_n ?_
        refine wp_region_lit ?_
        refine vrun (w := w9) (lp := [(0, .int .u8 a1), (1, .int .u8 b1), (5, .int .i64 (((apartN a1 b1 k : Nat) : Int) + 1)), (6, .int .i64 ((k : Int) + 1))]) (φ := [IntKind.i64.wrap ((k : Int) + 1) = (k : Int) + 1]) tbok 3 [.int .i64 ((k : Int) + 1)] [0, 1, 5, 6] E (by kernel_rfl) (wrap_i64 (by omega) (by omega)) ?_
        clear E; intro a E
        refine wpList_nil ?_
        replace E := E.same (t := 5) (u := .int .i64 ((apartN a1 b1 (k + 1) : Nat) : Int)) rfl (congrArg (Value.int .i64) (apart_yes h12))
        refine th_n ⟨8 - (k + 1), by omega, ?_⟩
        exact ⟨k + 1, E.pick _ ⟨rfl, rfl, rfl, rfl, trivial⟩, HW, (by omega), rfl⟩
      · replace E := E_; clear E_
        have h13 : (bitB a1 (k : Int)) = (bitB b1 (k : Int)) := by simpa using hb_
        clear hb_
        refine c_false E rfl ?_
        refine wp_skip ?_
        refine bl_n ?_
        refine th_n ?_
        refine wp_region_lit ?_
        refine vrun (w := w9) (lp := [(0, .int .u8 a1), (1, .int .u8 b1), (5, .int .i64 ((apartN a1 b1 k : Nat) : Int)), (6, .int .i64 ((k : Int) + 1))]) (φ := [IntKind.i64.wrap ((k : Int) + 1) = (k : Int) + 1]) tbok 3 [.int .i64 ((k : Int) + 1)] [0, 1, 5, 6] E (by kernel_rfl) (wrap_i64 (by omega) (by omega)) ?_
        clear E; intro a E
        refine wpList_nil ?_
        replace E := E.same (t := 5) (u := .int .i64 ((apartN a1 b1 (k + 1) : Nat) : Int)) rfl (congrArg (Value.int .i64) (apart_no h13))
        refine th_n ⟨8 - (k + 1), by omega, ?_⟩
        exact ⟨k + 1, E.pick _ ⟨rfl, rfl, rfl, rfl, trivial⟩, HW, (by omega), rfl⟩
    · replace E := E_; clear E_
      have h14 : ¬ ((k : Int) < 8) := of_decide_eq_false hb_
      clear hb_
      refine c_false E rfl ?_
      refine wp_exit ?_
      refine th_exit ?_
      refine th_exit ?_
      refine bl_hit ?_
      refine th_n ?_
      refine wp_seq ?_
      refine wp_region_lit ?_
      refine vrun (w := w1) (lp := [(4, .int .i64 ((apartN a1 b1 k : Nat) : Int))]) (φ := []) tbok 2 [] [4] E (by kernel_rfl) trivial ?_
      clear E; intro a E
      refine wpList_nil ?_
      refine th_n ?_
      refine wp_ret ?_
      refine ret1 E rfl rfl ?_
      obtain rfl : k = 8 := by omega
      exact ⟨_, rfl, rfl, HW.own⟩

/-! rejoinder/near.Far -/
set_option maxRecDepth 100000 in
theorem Far_calls (A B : Option Addr) (c d : Nat) (xs ys : List Int) (w0 : World) (hl : xs.length ≤ 9223372036854775807) (hm : ys.length ≤ 9223372036854775807) (H : C (cInt .u8) w0 (Lo w0.heap.size) A xs) (J : C (cInt .u8) w0 (Lo w0.heap.size) B ys) (hX : ∀ x ∈ xs, 0 ≤ x ∧ x ≤ 255) (hY : ∀ x ∈ ys, 0 ≤ x ∧ x ≤ 255) :
    Calls Try.prog 9 #[.slice A xs.length c, .slice B ys.length d] w0 fun e w' => ∃ v, e = .returned v ∧ (v = .tuple #[.int .i64 (farV xs ys).1, .int .i64 (farV xs ys).2] ∧ Ext w0 w') := by
  have HW : Chg (Hi w0.heap.size) w0 w0 := Chg.refl _ _
  refine enterV (n := 46) Try.func9 rfl rfl rfl ?_
  intro a E
  replace E := E.pick [(0, .slice A xs.length c), (1, .slice B ys.length d)] ⟨rfl, rfl, trivial⟩
  refine wp_seq ?_
  refine wp_region_lit ?_
  refine vrun (w := w0) (lp := [(0, .slice A xs.length c), (1, .slice B ys.length d)]) (φ := []) tbok 2 [] [0, 1] E (by kernel_rfl) trivial ?_
  clear E; intro a E
  refine wpList_nil ?_
  refine th_n ?_
  refine wp_seq ?_
  refine wp_seq ?_
  refine wp_region_lit ?_
  refine vrun (w := w0) (lp := [(0, .slice A xs.length c), (1, .slice B ys.length d), (11, .slice A xs.length c), (12, .slice B ys.length d)]) (φ := []) tbok 2 [] [0, 1, 11, 12] E (by kernel_rfl) trivial ?_
  clear E; intro a E
  refine e_build (ps := [(0, .slice A xs.length c), (1, .slice B ys.length d)]) (v := .agg #[.slice A xs.length c, .slice B ys.length d]) E rfl rfl tbok rfl (by kernel_rfl) rfl ?_
  clear E; intro a E
  refine vrun (w := w0) (lp := [(0, .slice A xs.length c), (1, .slice B ys.length d), (13, .agg #[.slice A xs.length c, .slice B ys.length d]), (14, .int .i64 0)]) (φ := []) tbok 1 [] [0, 1, 13, 14] E (by kernel_rfl) trivial ?_
  clear E; intro a E
  refine wpList_nil ?_
  refine th_n ?_
  refine wp_block ?_
  refine wp_loop_rounds 3 ?_
  refine unr (m := 2) ?_
  refine wp_seq ?_
  refine wp_region_lit ?_
  refine vrun (w := w0) (lp := [(0, .slice A xs.length c), (1, .slice B ys.length d), (13, .agg #[.slice A xs.length c, .slice B ys.length d]), (14, .int .i64 0), (15, .bool true)]) (φ := []) tbok 1 [] [0, 1, 13, 14, 15] E (by kernel_rfl) trivial ?_
  clear E; intro a E
  refine wpList_nil ?_
  refine th_n ?_
  refine wp_seq ?_
  refine c_true E rfl ?_
  refine wp_skip ?_
  refine th_n ?_
  refine wp_seq ?_
  refine wp_block ?_
  refine wp_seq ?_
  refine wp_region_lit ?_
  refine e_indexA (v := .slice A xs.length c) E rfl rfl tbok rfl rfl rfl rfl rfl rfl ⟨by decide, by decide⟩ rfl rfl ?_
  clear E; intro a E
  refine vrun (w := w0) (lp := [(0, .slice A xs.length c), (1, .slice B ys.length d), (7, .slice A xs.length c), (13, .agg #[.slice A xs.length c, .slice B ys.length d]), (14, .int .i64 0)]) (φ := []) tbok 1 [] [0, 1, 7, 13, 14] E (by kernel_rfl) trivial ?_
  clear E; intro a E
  refine wpList_nil ?_
  refine th_n ?_
  refine wp_seq ?_
  refine wp_region_lit ?_
  refine vrun (w := w0) (lp := [(0, .slice A xs.length c), (1, .slice B ys.length d), (13, .agg #[.slice A xs.length c, .slice B ys.length d]), (14, .int .i64 0), (17, .slice A xs.length c)]) (φ := []) tbok 1 [] [0, 1, 13, 14, 17] E (by kernel_rfl) trivial ?_
  clear E; intro a E
  refine e_call E rfl rfl Try.func26 rfl rfl rfl (Trace_calls 8 A c xs _ (by omega) (H.now HW) hX) ?_
  intro v1 w2 a hR3 E_
  obtain ⟨rfl, hc4⟩ := hR3
  replace E := E_ _ rfl; clear E_
  replace HW := HW.trans hc4 (fun _ _ h_ => h_.elim)
  refine vrun (w := w2) (lp := [(0, .slice A xs.length c), (1, .slice B ys.length d), (8, .int .i64 (traceV 8 xs)), (13, .agg #[.slice A xs.length c, .slice B ys.length d]), (14, .int .i64 0)]) (φ := []) tbok 1 [] [0, 1, 8, 13, 14] E (by kernel_rfl) trivial ?_
  clear E; intro a E
  refine wpList_nil ?_
  refine th_n ?_
  refine wp_seq ?_
  refine wp_region_lit ?_
  refine vrun (w := w2) (lp := [(0, .slice A xs.length c), (1, .slice B ys.length d), (8, .int .i64 (traceV 8 xs)), (13, .agg #[.slice A xs.length c, .slice B ys.length d]), (14, .int .i64 0), (20, .bool ((traceV 8 xs : Int) != 0))]) (φ := []) tbok 2 [] [0, 1, 8, 13, 14, 20] E (by kernel_rfl) trivial ?_
  clear E; intro a E
  refine wpList_nil ?_
  refine th_n ?_
  refine E.cases (t := 20) rfl (fun hb_ E_ => ?_) (fun hb_ E_ => ?_)
  · replace E := E_; clear E_
    have h5 : ¬ ((traceV 8 xs : Int) = 0) := bne_iff_ne.1 hb_
    clear hb_
    refine c_true E rfl ?_
    refine wp_seq ?_
    refine wp_region_lit ?_
    refine vrun (w := w2) (lp := [(4, .int .i64 0), (5, .int .i64 (traceV 8 xs))]) (φ := []) tbok 3 [] [4, 5] E (by kernel_rfl) trivial ?_
    clear E; intro a E
    refine wpList_nil ?_
    refine th_n ?_
    refine wp_ret ?_
    refine bl_ret ?_
    refine th_ret ?_
    refine th_ret ?_
    refine bl_ret ?_
    refine th_ret ?_
    refine ret2 E rfl rfl rfl ?_
    exact ⟨_, rfl, by rw [farV_a (by assumption)], HW.own⟩
  · replace E := E_; clear E_
    have h6 : (traceV 8 xs : Int) = 0 := bne_eq_false_iff_eq.1 hb_
    clear hb_
    refine c_false E rfl ?_
    refine wp_skip ?_
    refine bl_n ?_
    refine th_n ?_
    refine wp_region_lit ?_
    refine vrun (w := w2) (lp := [(0, .slice A xs.length c), (1, .slice B ys.length d), (13, .agg #[.slice A xs.length c, .slice B ys.length d]), (14, .int .i64 1)]) (φ := [IntKind.i64.wrap (0 + 1) = 1]) tbok 2 [.int .i64 1] [0, 1, 13, 14] E (by kernel_rfl) (wrap_i64 (by omega) (by omega)) ?_
    clear E; intro a E
    refine wpList_nil ?_
    refine th_n ?_
    refine unr (m := 1) ?_
    refine wp_seq ?_
    refine wp_region_lit ?_
    refine vrun (w := w2) (lp := [(0, .slice A xs.length c), (1, .slice B ys.length d), (13, .agg #[.slice A xs.length c, .slice B ys.length d]), (14, .int .i64 1), (15, .bool true)]) (φ := []) tbok 1 [] [0, 1, 13, 14, 15] E (by kernel_rfl) trivial ?_
    clear E; intro a E
    refine wpList_nil ?_
    refine th_n ?_
    refine wp_seq ?_
    refine c_true E rfl ?_
    refine wp_skip ?_
    refine th_n ?_
    refine wp_seq ?_
    refine wp_block ?_
    refine wp_seq ?_
    refine wp_region_lit ?_
    refine e_indexA (v := .slice B ys.length d) E rfl rfl tbok rfl rfl rfl rfl rfl rfl ⟨by decide, by decide⟩ rfl rfl ?_
    clear E; intro a E
    refine vrun (w := w2) (lp := [(0, .slice A xs.length c), (1, .slice B ys.length d), (7, .slice B ys.length d), (13, .agg #[.slice A xs.length c, .slice B ys.length d]), (14, .int .i64 1)]) (φ := []) tbok 1 [] [0, 1, 7, 13, 14] E (by kernel_rfl) trivial ?_
    clear E; intro a E
    refine wpList_nil ?_
    refine th_n ?_
    refine wp_seq ?_
    refine wp_region_lit ?_
    refine vrun (w := w2) (lp := [(0, .slice A xs.length c), (1, .slice B ys.length d), (13, .agg #[.slice A xs.length c, .slice B ys.length d]), (14, .int .i64 1), (17, .slice B ys.length d)]) (φ := []) tbok 1 [] [0, 1, 13, 14, 17] E (by kernel_rfl) trivial ?_
    clear E; intro a E
    refine e_call E rfl rfl Try.func26 rfl rfl rfl (Trace_calls 8 B d ys _ (by omega) (J.now HW) hY) ?_
    intro v7 w8 a hR9 E_
    obtain ⟨rfl, hc10⟩ := hR9
    replace E := E_ _ rfl; clear E_
    replace HW := HW.trans hc10 (fun _ _ h_ => h_.elim)
    refine vrun (w := w8) (lp := [(0, .slice A xs.length c), (1, .slice B ys.length d), (8, .int .i64 (traceV 8 ys)), (13, .agg #[.slice A xs.length c, .slice B ys.length d]), (14, .int .i64 1)]) (φ := []) tbok 1 [] [0, 1, 8, 13, 14] E (by kernel_rfl) trivial ?_
    clear E; intro a E
    refine wpList_nil ?_
    refine th_n ?_
    refine wp_seq ?_
    refine wp_region_lit ?_
    refine vrun (w := w8) (lp := [(0, .slice A xs.length c), (1, .slice B ys.length d), (8, .int .i64 (traceV 8 ys)), (13, .agg #[.slice A xs.length c, .slice B ys.length d]), (14, .int .i64 1), (20, .bool ((traceV 8 ys : Int) != 0))]) (φ := []) tbok 2 [] [0, 1, 8, 13, 14, 20] E (by kernel_rfl) trivial ?_
    clear E; intro a E
    refine wpList_nil ?_
    refine th_n ?_
    refine E.cases (t := 20) rfl (fun hb_ E_ => ?_) (fun hb_ E_ => ?_)
    · replace E := E_; clear E_
      have h11 : ¬ ((traceV 8 ys : Int) = 0) := bne_iff_ne.1 hb_
      clear hb_
      refine c_true E rfl ?_
      refine wp_seq ?_
      refine wp_region_lit ?_
      refine vrun (w := w8) (lp := [(4, .int .i64 0), (5, .int .i64 (traceV 8 ys))]) (φ := []) tbok 3 [] [4, 5] E (by kernel_rfl) trivial ?_
      clear E; intro a E
      refine wpList_nil ?_
      refine th_n ?_
      refine wp_ret ?_
      refine bl_ret ?_
      refine th_ret ?_
      refine th_ret ?_
      refine bl_ret ?_
      refine th_ret ?_
      refine ret2 E rfl rfl rfl ?_
      exact ⟨_, rfl, by rw [farV_b (by assumption) (by assumption)], HW.own⟩
    · replace E := E_; clear E_
      have h12 : (traceV 8 ys : Int) = 0 := bne_eq_false_iff_eq.1 hb_
      clear hb_
      refine c_false E rfl ?_
      refine wp_skip ?_
      refine bl_n ?_
      refine th_n ?_
      refine wp_region_lit ?_
      refine vrun (w := w8) (lp := [(0, .slice A xs.length c), (1, .slice B ys.length d), (13, .agg #[.slice A xs.length c, .slice B ys.length d]), (14, .int .i64 2)]) (φ := [IntKind.i64.wrap (1 + 1) = 2]) tbok 2 [.int .i64 2] [0, 1, 13, 14] E (by kernel_rfl) (wrap_i64 (by omega) (by omega)) ?_
      clear E; intro a E
      refine wpList_nil ?_
      refine th_n ?_
      refine unr (m := 0) ?_
      refine wp_seq ?_
      refine wp_region_lit ?_
      refine vrun (w := w8) (lp := [(0, .slice A xs.length c), (1, .slice B ys.length d), (13, .agg #[.slice A xs.length c, .slice B ys.length d]), (14, .int .i64 2), (15, .bool false)]) (φ := []) tbok 1 [] [0, 1, 13, 14, 15] E (by kernel_rfl) trivial ?_
      clear E; intro a E
      refine wpList_nil ?_
      refine th_n ?_
      refine wp_seq ?_
      refine c_false E rfl ?_
      refine wp_exit ?_
      refine th_exit ?_
      refine th_exit ?_
      refine bl_hit ?_
      refine th_n ?_
      refine wp_seq ?_
      refine wp_seq ?_
      refine wp_region_lit ?_
      refine vrun (w := w8) (lp := [(0, .slice A xs.length c), (1, .slice B ys.length d), (27, .bool ((((xs.length : Nat) : Int) : Int) != ((ys.length : Nat) : Int)))]) (φ := []) tbok 5 [] [0, 1, 27] E (by kernel_rfl) trivial ?_
      clear E; intro a E
      refine wpList_nil ?_
      refine th_n ?_
      refine E.cases (t := 27) rfl (fun hb_ E_ => ?_) (fun hb_ E_ => ?_)
      · replace E := E_; clear E_
        have h13 : ¬ ((((xs.length : Nat) : Int) : Int) = ((ys.length : Nat) : Int)) := bne_iff_ne.1 hb_
        clear hb_
        refine c_true E rfl ?_
        refine wp_seq ?_
        refine wp_region_lit ?_
        refine vrun (w := w8) (lp := [(4, .int .i64 0), (5, .int .i64 2)]) (φ := []) tbok 2 [] [4, 5] E (by kernel_rfl) trivial ?_
        clear E; intro a E
        refine wpList_nil ?_
        refine th_n ?_
        refine wp_ret ?_
        refine th_ret ?_
        refine ret2 E rfl rfl rfl ?_
        exact ⟨_, rfl, by rw [farV_len (by assumption) (by assumption) (by omega)], HW.own⟩
      · replace E := E_; clear E_
        have h14 : (((xs.length : Nat) : Int) : Int) = ((ys.length : Nat) : Int) := bne_eq_false_iff_eq.1 hb_
        clear hb_
        refine c_false E rfl ?_
        refine wp_skip ?_
        refine th_n ?_
        refine wp_seq ?_
        refine wp_region_lit ?_
        refine vrun (w := w8) (lp := [(0, .slice A xs.length c), (1, .slice B ys.length d), (9, .int .i64 0)]) (φ := []) tbok 1 [] [0, 1, 9] E (by kernel_rfl) trivial ?_
        clear E; intro a E
        refine wpList_nil ?_
        refine th_n ?_
        refine wp_seq ?_
        refine wp_seq ?_
        refine wp_region_lit ?_
        refine vrun (w := w8) (lp := [(0, .slice A xs.length c), (1, .slice B ys.length d), (9, .int .i64 0), (29, .int .i64 ((xs.length : Nat) : Int)), (30, .int .i64 0)]) (φ := []) tbok 3 [] [0, 1, 9, 29, 30] E (by kernel_rfl) trivial ?_
        clear E; intro a E
        refine wpList_nil ?_
        refine th_n ?_
        refine wp_block ?_
        refine loopV (fun m16 a w15 => ∃ (k : Nat), Fr a 46 [(0, .slice A xs.length c), (1, .slice B ys.length d), (9, .int .i64 ((farN xs ys k : Nat) : Int)), (29, .int .i64 ((xs.length : Nat) : Int)), (30, .int .i64 (k : Int))] ∧ Chg (Hi w0.heap.size) w0 w15 ∧ (k ≤ xs.length) ∧ m16 = xs.length - k) (xs.length - (0)) ?_ ?_
        · skip
          exact ⟨0, E.pick _ ⟨rfl, rfl, rfl, rfl, rfl, trivial⟩, HW, (by omega), rfl⟩
        · clear E HW; intro m16 a w15 hI_
          obtain ⟨k, hI_⟩ := hI_
          obtain ⟨E, HW, hk, hm_m16⟩ := hI_
          have hq_ := traceV_len (n := 8) (t := xs) (by assumption)
          refine wp_seq ?_
          refine wp_region_lit ?_
          refine vrun (w := w15) (lp := [(0, .slice A xs.length c), (1, .slice B ys.length d), (9, .int .i64 ((farN xs ys k : Nat) : Int)), (29, .int .i64 ((xs.length : Nat) : Int)), (30, .int .i64 (k : Int)), (31, .bool (decide ((k : Int) < ((xs.length : Nat) : Int))))]) (φ := []) tbok 1 [] [0, 1, 9, 29, 30, 31] E (by kernel_rfl) trivial ?_
          clear E; intro a E
          refine wpList_nil ?_
          refine th_n ?_
          refine wp_seq ?_
          refine E.cases (t := 31) rfl (fun hb_ E_ => ?_) (fun hb_ E_ => ?_)
          · replace E := E_; clear E_
            have h17 : (k : Int) < ((xs.length : Nat) : Int) := of_decide_eq_true hb_
            clear hb_
            refine c_true E rfl ?_
            refine wp_skip ?_
            refine th_n ?_
            refine wp_seq ?_
            refine wp_block ?_
            refine wp_seq ?_
            refine wp_region_lit ?_
            refine vrun (w := w15) (lp := [(0, .slice A xs.length c), (1, .slice B ys.length d), (9, .int .i64 ((farN xs ys k : Nat) : Int)), (10, .int .i64 (k : Int)), (29, .int .i64 ((xs.length : Nat) : Int)), (30, .int .i64 (k : Int))]) (φ := []) tbok 2 [] [0, 1, 9, 10, 29, 30] E (by kernel_rfl) trivial ?_
            clear E; intro a E
            refine wpList_nil ?_
            refine th_n ?_
            refine dr_start (S := fun w_ => Chg No w15 w_) (by kernel_rfl) ?_
            intro w18 hc19
            have HWs := HW
            have HS : Chg No w15 w18 := hc19.mono (fun _ _ h_ => h_.elim)
            replace HW := HW.trans hc19 (fun _ _ h_ => h_.elim)
            have hx_36 : 0 ≤ (k : Int) ∧ (k : Int) < ((xs.length : Nat) : Int) := ⟨by omega, by omega⟩
            obtain ⟨b20, o21, e_b20⟩ := H.addr (by omega)
            subst e_b20
            have hx_40 : 0 ≤ (k : Int) ∧ (k : Int) < ((ys.length : Nat) : Int) := ⟨by omega, by omega⟩
            obtain ⟨b22, o23, e_b22⟩ := J.addr (by omega)
            subst e_b22
            refine drun (lp := [(0, .slice (some ⟨b20, o21, none⟩) xs.length c), (1, .slice (some ⟨b22, o23, none⟩) ys.length d), (9, .int .i64 ((farN xs ys k : Nat) : Int)), (29, .int .i64 ((xs.length : Nat) : Int)), (30, .int .i64 (k : Int)), (33, .int .i64 ((farN xs ys k : Nat) : Int)), (37, .int .u8 (List.getD xs (Int.toNat (k : Int)) 0)), (41, .int .u8 (List.getD ys (Int.toNat (k : Int)) 0))]) tbok (by kernel_rfl) [0, 1, 2, 3, 4, 5, 6, 7, 8] [.int .u8 (List.getD xs (Int.toNat (k : Int)) 0), .int .u8 (List.getD ys (Int.toNat (k : Int)) 0)] [0, 1, 9, 29, 30, 33, 37, 41] (fun w_ => [0 ≤ (k : Int) ∧ (k : Int) < ((xs.length : Nat) : Int), World.cell? w_ ⟨b20, o21 + (Int.toNat (k : Int)) * 1, none⟩ = some (.int .u8 (List.getD xs (Int.toNat (k : Int)) 0)), 0 ≤ (k : Int) ∧ (k : Int) < ((ys.length : Nat) : Int), World.cell? w_ ⟨b22, o23 + (Int.toNat (k : Int)) * 1, none⟩ = some (.int .u8 (List.getD ys (Int.toNat (k : Int)) 0))]) (fuel := 3) E (fun _ _ => by kernel_rfl) (fun w_ hS_ => ⟨hx_36, hS_.cell (C.at1 (H.keep HWs lo_hi) 0 hx_36.1 hx_36.2) (fun h_ => h_), hx_40, hS_.cell (C.at1 (J.keep HWs lo_hi) 0 hx_40.1 hx_40.2) (fun h_ => h_)⟩) (by kernel_rfl) HS ?_
            clear E; intro a E
            refine wpAnyH_all (rs := [9]) (by kernel_rfl) (by simp) ?_
            refine all1 ?_
            · refine wpOp_of_list rfl ?_
              refine e_call E rfl rfl Try.func27 rfl rfl rfl (unlike_calls (List.getD xs (Int.toNat (k : Int)) 0) (List.getD ys (Int.toNat (k : Int)) 0) _ (getD_u8 hX _) (getD_u8 hY _)) ?_
              intro v24 w25 a hR26 E_
              obtain ⟨rfl, hc27⟩ := hR26
              replace E := E_ _ rfl; clear E_
              replace HS := HS.trans hc27 (fun _ _ h_ => h_.elim)
              replace HW := HW.trans hc27 (fun _ _ h_ => h_.elim)
              refine wpList_nil ?_
              refine th_n ⟨HS, ?_⟩
              refine drun (lp := [(0, .slice (some ⟨b20, o21, none⟩) xs.length c), (1, .slice (some ⟨b22, o23, none⟩) ys.length d), (9, .int .i64 ((farN xs ys (k + 1) : Nat) : Int)), (29, .int .i64 ((xs.length : Nat) : Int)), (30, .int .i64 (k : Int))]) tbok (by kernel_rfl) [10, 11] [.int .i64 ((farN xs ys (k + 1) : Nat) : Int)] [0, 1, 9, 29, 30] (fun w_ => [IntKind.i64.wrap (((farN xs ys k : Nat) : Int) + ((apartN (List.getD xs (Int.toNat (k : Int)) 0) (List.getD ys (Int.toNat (k : Int)) 0) 8 : Nat) : Int)) = ((farN xs ys (k + 1) : Nat) : Int)]) (fuel := 0) E (fun _ _ => by kernel_rfl) (fun w_ hS_ => (far_add (by omega))) (by kernel_rfl) HS ?_
              clear E; intro a E
              refine dr_done (by kernel_rfl) ?_
              clear HS HWs
              refine bl_n ?_
              refine th_n ?_
              refine wp_region_lit ?_
              refine vrun (w := w25) (lp := [(0, .slice (some ⟨b20, o21, none⟩) xs.length c), (1, .slice (some ⟨b22, o23, none⟩) ys.length d), (9, .int .i64 ((farN xs ys (k + 1) : Nat) : Int)), (29, .int .i64 ((xs.length : Nat) : Int)), (30, .int .i64 ((k : Int) + 1))]) (φ := [IntKind.i64.wrap ((k : Int) + 1) = (k : Int) + 1]) tbok 2 [.int .i64 ((k : Int) + 1)] [0, 1, 9, 29, 30] E (by kernel_rfl) (wrap_i64 (by omega) (by omega)) ?_
              clear E; intro a E
              refine wpList_nil ?_
              refine th_n ⟨xs.length - (k + 1), by omega, ?_⟩
              exact ⟨k + 1, E.pick _ ⟨rfl, rfl, rfl, rfl, rfl, trivial⟩, HW, (by omega), rfl⟩
          · replace E := E_; clear E_
            have h28 : ¬ ((k : Int) < ((xs.length : Nat) : Int)) := of_decide_eq_false hb_
            clear hb_
            refine c_false E rfl ?_
            refine wp_exit ?_
            refine th_exit ?_
            refine th_exit ?_
            refine bl_hit ?_
            refine th_n ?_
            refine wp_seq ?_
            refine wp_region_lit ?_
            refine vrun (w := w15) (lp := [(4, .int .i64 ((farN xs ys k : Nat) : Int)), (5, .int .i64 0)]) (φ := []) tbok 3 [] [4, 5] E (by kernel_rfl) trivial ?_
            clear E; intro a E
            refine wpList_nil ?_
            refine th_n ?_
            refine wp_ret ?_
            refine ret2 E rfl rfl rfl ?_
            obtain rfl : k = xs.length := by omega
            exact ⟨_, rfl, by rw [farV_ok (by assumption) (by assumption) (by omega)], HW.own⟩

/-! rejoinder/rejoinderref28.Far -/
set_option maxRecDepth 100000 in
theorem rFar_calls (A B : Option Addr) (c d : Nat) (xs ys : List Int) (w0 : World) (hl : xs.length ≤ 9223372036854775807) (hm : ys.length ≤ 9223372036854775807) (H : C (cInt .u8) w0 (Lo w0.heap.size) A xs) (J : C (cInt .u8) w0 (Lo w0.heap.size) B ys) (hX : ∀ x ∈ xs, 0 ≤ x ∧ x ≤ 255) (hY : ∀ x ∈ ys, 0 ≤ x ∧ x ≤ 255) :
    Calls Try.prog 10 #[.slice A xs.length c, .slice B ys.length d] w0 fun e w' => ∃ v, e = .returned v ∧ (v = .tuple #[.int .i64 (farV xs ys).1, .int .i64 (farV xs ys).2] ∧ Ext w0 w') := by
  have HW : Chg (Hi w0.heap.size) w0 w0 := Chg.refl _ _
  refine enterV (n := 41) Try.func10 rfl rfl rfl ?_
  intro a E
  replace E := E.pick [(0, .slice A xs.length c), (1, .slice B ys.length d)] ⟨rfl, rfl, trivial⟩
  refine wp_seq ?_
  refine wp_region_lit ?_
  refine vrun (w := w0) (lp := [(0, .slice A xs.length c), (1, .slice B ys.length d)]) (φ := []) tbok 2 [] [0, 1] E (by kernel_rfl) trivial ?_
  clear E; intro a E
  refine wpList_nil ?_
  refine th_n ?_
  refine wp_seq ?_
  refine wp_region_lit ?_
  refine vrun (w := w0) (lp := [(0, .slice A xs.length c), (1, .slice B ys.length d), (9, .slice A xs.length c)]) (φ := []) tbok 1 [] [0, 1, 9] E (by kernel_rfl) trivial ?_
  clear E; intro a E
  refine e_call E rfl rfl Try.func28 rfl rfl rfl (rTrace_calls 8 A c xs _ (by omega) (H.now HW) hX) ?_
  intro v1 w2 a hR3 E_
  obtain ⟨rfl, hc4⟩ := hR3
  replace E := E_ _ rfl; clear E_
  replace HW := HW.trans hc4 (fun _ _ h_ => h_.elim)
  refine vrun (w := w2) (lp := [(0, .slice A xs.length c), (1, .slice B ys.length d), (6, .int .i64 (traceV 8 xs))]) (φ := []) tbok 1 [] [0, 1, 6] E (by kernel_rfl) trivial ?_
  clear E; intro a E
  refine wpList_nil ?_
  refine th_n ?_
  refine wp_seq ?_
  refine wp_seq ?_
  refine wp_region_lit ?_
  refine vrun (w := w2) (lp := [(0, .slice A xs.length c), (1, .slice B ys.length d), (6, .int .i64 (traceV 8 xs)), (12, .bool ((traceV 8 xs : Int) == 0))]) (φ := []) tbok 2 [] [0, 1, 6, 12] E (by kernel_rfl) trivial ?_
  clear E; intro a E
  refine wpList_nil ?_
  refine th_n ?_
  refine E.cases (t := 12) rfl (fun hb_ E_ => ?_) (fun hb_ E_ => ?_)
  · replace E := E_; clear E_
    have h5 : (traceV 8 xs : Int) = 0 := eq_of_beq hb_
    clear hb_
    refine c_true E rfl ?_
    refine wp_region_lit ?_
    refine vrun (w := w2) (lp := [(0, .slice A xs.length c), (1, .slice B ys.length d), (13, .slice B ys.length d)]) (φ := []) tbok 1 [] [0, 1, 13] E (by kernel_rfl) trivial ?_
    clear E; intro a E
    refine e_call E rfl rfl Try.func28 rfl rfl rfl (rTrace_calls 8 B d ys _ (by omega) (J.now HW) hY) ?_
    intro v6 w7 a hR8 E_
    obtain ⟨rfl, hc9⟩ := hR8
    replace E := E_ _ rfl; clear E_
    replace HW := HW.trans hc9 (fun _ _ h_ => h_.elim)
    refine vrun (w := w7) (lp := [(0, .slice A xs.length c), (1, .slice B ys.length d), (6, .int .i64 (traceV 8 ys))]) (φ := []) tbok 1 [] [0, 1, 6] E (by kernel_rfl) trivial ?_
    clear E; intro a E
    refine wpList_nil ?_
    refine th_n ?_
    refine wp_seq ?_
    refine wp_seq ?_
    refine wp_region_lit ?_
    refine vrun (w := w7) (lp := [(0, .slice A xs.length c), (1, .slice B ys.length d), (6, .int .i64 (traceV 8 ys)), (16, .bool ((traceV 8 ys : Int) != 0))]) (φ := []) tbok 2 [] [0, 1, 6, 16] E (by kernel_rfl) trivial ?_
    clear E; intro a E
    refine wpList_nil ?_
    refine th_n ?_
    refine E.cases (t := 16) rfl (fun hb_ E_ => ?_) (fun hb_ E_ => ?_)
    · replace E := E_; clear E_
      have h10 : ¬ ((traceV 8 ys : Int) = 0) := bne_iff_ne.1 hb_
      clear hb_
      refine c_true E rfl ?_
      refine wp_seq ?_
      refine wp_region_lit ?_
      refine vrun (w := w7) (lp := [(4, .int .i64 0), (5, .int .i64 (traceV 8 ys))]) (φ := []) tbok 3 [] [4, 5] E (by kernel_rfl) trivial ?_
      clear E; intro a E
      refine wpList_nil ?_
      refine th_n ?_
      refine wp_ret ?_
      refine th_ret ?_
      refine ret2 E rfl rfl rfl ?_
      exact ⟨_, rfl, by rw [farV_b (by assumption) (by assumption)], HW.own⟩
    · replace E := E_; clear E_
      have h11 : (traceV 8 ys : Int) = 0 := bne_eq_false_iff_eq.1 hb_
      clear hb_
      refine c_false E rfl ?_
      refine wp_skip ?_
      refine th_n ?_
      refine wp_seq ?_
      refine wp_seq ?_
      refine wp_region_lit ?_
      refine vrun (w := w7) (lp := [(0, .slice A xs.length c), (1, .slice B ys.length d), (22, .bool ((((xs.length : Nat) : Int) : Int) != ((ys.length : Nat) : Int)))]) (φ := []) tbok 5 [] [0, 1, 22] E (by kernel_rfl) trivial ?_
      clear E; intro a E
      refine wpList_nil ?_
      refine th_n ?_
      refine E.cases (t := 22) rfl (fun hb_ E_ => ?_) (fun hb_ E_ => ?_)
      · replace E := E_; clear E_
        have h12 : ¬ ((((xs.length : Nat) : Int) : Int) = ((ys.length : Nat) : Int)) := bne_iff_ne.1 hb_
        clear hb_
        refine c_true E rfl ?_
        refine wp_seq ?_
        refine wp_region_lit ?_
        refine vrun (w := w7) (lp := [(4, .int .i64 0), (5, .int .i64 2)]) (φ := []) tbok 2 [] [4, 5] E (by kernel_rfl) trivial ?_
        clear E; intro a E
        refine wpList_nil ?_
        refine th_n ?_
        refine wp_ret ?_
        refine th_ret ?_
        refine ret2 E rfl rfl rfl ?_
        exact ⟨_, rfl, by rw [farV_len (by assumption) (by assumption) (by omega)], HW.own⟩
      · replace E := E_; clear E_
        have h13 : (((xs.length : Nat) : Int) : Int) = ((ys.length : Nat) : Int) := bne_eq_false_iff_eq.1 hb_
        clear hb_
        refine c_false E rfl ?_
        refine wp_skip ?_
        refine th_n ?_
        refine wp_seq ?_
        refine wp_region_lit ?_
        refine vrun (w := w7) (lp := [(0, .slice A xs.length c), (1, .slice B ys.length d), (7, .int .i64 0)]) (φ := []) tbok 1 [] [0, 1, 7] E (by kernel_rfl) trivial ?_
        clear E; intro a E
        refine wpList_nil ?_
        refine th_n ?_
        refine wp_seq ?_
        refine wp_seq ?_
        refine wp_region_lit ?_
        refine vrun (w := w7) (lp := [(0, .slice A xs.length c), (1, .slice B ys.length d), (7, .int .i64 0), (8, .int .i64 0)]) (φ := []) tbok 1 [] [0, 1, 7, 8] E (by kernel_rfl) trivial ?_
        clear E; intro a E
        refine wpList_nil ?_
        refine th_n ?_
        refine wp_block ?_
        refine loopV (fun m15 a w14 => ∃ (k : Nat), Fr a 41 [(0, .slice A xs.length c), (1, .slice B ys.length d), (7, .int .i64 ((farN xs ys k : Nat) : Int)), (8, .int .i64 (k : Int))] ∧ Chg (Hi w0.heap.size) w0 w14 ∧ (k ≤ xs.length) ∧ m15 = xs.length - k) (xs.length - (0)) ?_ ?_
        · skip
          exact ⟨0, E.pick _ ⟨rfl, rfl, rfl, rfl, trivial⟩, HW, (by omega), rfl⟩
        · clear E HW; intro m15 a w14 hI_
          obtain ⟨k, hI_⟩ := hI_
          obtain ⟨E, HW, hk, hm_m15⟩ := hI_
          have hq_ := traceV_len (n := 8) (t := xs) (by assumption)
          refine wp_seq ?_
          refine wp_seq ?_
          refine wp_region_lit ?_
          refine vrun (w := w14) (lp := [(0, .slice A xs.length c), (1, .slice B ys.length d), (7, .int .i64 ((farN xs ys k : Nat) : Int)), (8, .int .i64 (k : Int)), (26, .bool (decide ((k : Int) < ((xs.length : Nat) : Int))))]) (φ := []) tbok 4 [] [0, 1, 7, 8, 26] E (by kernel_rfl) trivial ?_
          clear E; intro a E
          refine wpList_nil ?_
          refine th_n ?_
          refine E.cases (t := 26) rfl (fun hb_ E_ => ?_) (fun hb_ E_ => ?_)
          · replace E := E_; clear E_
            have h16 : (k : Int) < ((xs.length : Nat) : Int) := of_decide_eq_true hb_
            clear hb_
            refine c_true E rfl ?_
            refine wp_skip ?_
            refine th_n ?_
            refine wp_seq ?_
            refine wp_block ?_
            refine dr_start (S := fun w_ => Chg No w14 w_) (by kernel_rfl) ?_
            intro w17 hc18
            have HWs := HW
            have HS : Chg No w14 w17 := hc18.mono (fun _ _ h_ => h_.elim)
            replace HW := HW.trans hc18 (fun _ _ h_ => h_.elim)
            have hx_32 : 0 ≤ (k : Int) ∧ (k : Int) < ((xs.length : Nat) : Int) := ⟨by omega, by omega⟩
            obtain ⟨b19, o20, e_b19⟩ := H.addr (by omega)
            subst e_b19
            have hx_36 : 0 ≤ (k : Int) ∧ (k : Int) < ((ys.length : Nat) : Int) := ⟨by omega, by omega⟩
            obtain ⟨b21, o22, e_b21⟩ := J.addr (by omega)
            subst e_b21
            refine drun (lp := [(0, .slice (some ⟨b19, o20, none⟩) xs.length c), (1, .slice (some ⟨b21, o22, none⟩) ys.length d), (7, .int .i64 ((farN xs ys k : Nat) : Int)), (8, .int .i64 (k : Int)), (29, .int .i64 ((farN xs ys k : Nat) : Int)), (33, .int .u8 (List.getD xs (Int.toNat (k : Int)) 0)), (37, .int .u8 (List.getD ys (Int.toNat (k : Int)) 0))]) tbok (by kernel_rfl) [0, 1, 2, 3, 4, 5, 6, 7, 8] [.int .u8 (List.getD xs (Int.toNat (k : Int)) 0), .int .u8 (List.getD ys (Int.toNat (k : Int)) 0)] [0, 1, 7, 8, 29, 33, 37] (fun w_ => [0 ≤ (k : Int) ∧ (k : Int) < ((xs.length : Nat) : Int), World.cell? w_ ⟨b19, o20 + (Int.toNat (k : Int)) * 1, none⟩ = some (.int .u8 (List.getD xs (Int.toNat (k : Int)) 0)), 0 ≤ (k : Int) ∧ (k : Int) < ((ys.length : Nat) : Int), World.cell? w_ ⟨b21, o22 + (Int.toNat (k : Int)) * 1, none⟩ = some (.int .u8 (List.getD ys (Int.toNat (k : Int)) 0))]) (fuel := 3) E (fun _ _ => by kernel_rfl) (fun w_ hS_ => ⟨hx_32, hS_.cell (C.at1 (H.keep HWs lo_hi) 0 hx_32.1 hx_32.2) (fun h_ => h_), hx_36, hS_.cell (C.at1 (J.keep HWs lo_hi) 0 hx_36.1 hx_36.2) (fun h_ => h_)⟩) (by kernel_rfl) HS ?_
            clear E; intro a E
            refine wpAnyH_all (rs := [9]) (by kernel_rfl) (by simp) ?_
            refine all1 ?_
            · refine wpOp_of_list rfl ?_
              refine e_call E rfl rfl Try.func29 rfl rfl rfl (apart_calls (List.getD xs (Int.toNat (k : Int)) 0) (List.getD ys (Int.toNat (k : Int)) 0) _ (getD_u8 hX _) (getD_u8 hY _)) ?_
              intro v23 w24 a hR25 E_
              obtain ⟨rfl, hc26⟩ := hR25
              replace E := E_ _ rfl; clear E_
              replace HS := HS.trans hc26 (fun _ _ h_ => h_.elim)
              replace HW := HW.trans hc26 (fun _ _ h_ => h_.elim)
              refine wpList_nil ?_
              refine th_n ⟨HS, ?_⟩
              refine drun (lp := [(0, .slice (some ⟨b19, o20, none⟩) xs.length c), (1, .slice (some ⟨b21, o22, none⟩) ys.length d), (7, .int .i64 ((farN xs ys (k + 1) : Nat) : Int)), (8, .int .i64 (k : Int))]) tbok (by kernel_rfl) [10, 11] [.int .i64 ((farN xs ys (k + 1) : Nat) : Int)] [0, 1, 7, 8] (fun w_ => [IntKind.i64.wrap (((farN xs ys k : Nat) : Int) + ((apartN (List.getD xs (Int.toNat (k : Int)) 0) (List.getD ys (Int.toNat (k : Int)) 0) 8 : Nat) : Int)) = ((farN xs ys (k + 1) : Nat) : Int)]) (fuel := 0) E (fun _ _ => by kernel_rfl) (fun w_ hS_ => (far_add (by omega))) (by kernel_rfl) HS ?_
              clear E; intro a E
              refine dr_done (by kernel_rfl) ?_
              clear HS HWs
              refine bl_n ?_
              refine th_n ?_
              refine wp_region_lit ?_
              refine vrun (w := w24) (lp := [(0, .slice (some ⟨b19, o20, none⟩) xs.length c), (1, .slice (some ⟨b21, o22, none⟩) ys.length d), (7, .int .i64 ((farN xs ys (k + 1) : Nat) : Int)), (8, .int .i64 ((k : Int) + 1))]) (φ := [IntKind.i64.wrap ((k : Int) + 1) = (k : Int) + 1]) tbok 3 [.int .i64 ((k : Int) + 1)] [0, 1, 7, 8] E (by kernel_rfl) (wrap_i64 (by omega) (by omega)) ?_
              clear E; intro a E
              refine wpList_nil ?_
              refine th_n ⟨xs.length - (k + 1), by omega, ?_⟩
              exact ⟨k + 1, E.pick _ ⟨rfl, rfl, rfl, rfl, trivial⟩, HW, (by omega), rfl⟩
          · replace E := E_; clear E_
            have h27 : ¬ ((k : Int) < ((xs.length : Nat) : Int)) := of_decide_eq_false hb_
            clear hb_
            refine c_false E rfl ?_
            refine wp_exit ?_
            refine th_exit ?_
            refine th_exit ?_
            refine bl_hit ?_
            refine th_n ?_
            refine wp_seq ?_
            refine wp_region_lit ?_
            refine vrun (w := w14) (lp := [(4, .int .i64 ((farN xs ys k : Nat) : Int)), (5, .int .i64 0)]) (φ := []) tbok 3 [] [4, 5] E (by kernel_rfl) trivial ?_
            clear E; intro a E
            refine wpList_nil ?_
            refine th_n ?_
            refine wp_ret ?_
            refine ret2 E rfl rfl rfl ?_
            obtain rfl : k = xs.length := by omega
            exact ⟨_, rfl, by rw [farV_ok (by assumption) (by assumption) (by omega)], HW.own⟩
  · replace E := E_; clear E_
    have h28 : ¬ ((traceV 8 xs : Int) = 0) := ne_of_beq_false hb_
    clear hb_
    refine c_false E rfl ?_
    refine wp_skip ?_
    refine th_n ?_
    refine wp_seq ?_
    refine wp_seq ?_
    refine wp_region_lit ?_
    refine vrun (w := w2) (lp := [(0, .slice A xs.length c), (1, .slice B ys.length d), (6, .int .i64 (traceV 8 xs)), (16, .bool ((traceV 8 xs : Int) != 0))]) (φ := []) tbok 2 [] [0, 1, 6, 16] E (by kernel_rfl) trivial ?_
    clear E; intro a E
    refine wpList_nil ?_
    refine th_n ?_
    refine E.cases (t := 16) rfl (fun hb_ E_ => ?_) (fun hb_ E_ => ?_)
    · replace E := E_; clear E_
      have h29 : ¬ ((traceV 8 xs : Int) = 0) := bne_iff_ne.1 hb_
      clear hb_
      refine c_true E rfl ?_
      refine wp_seq ?_
      refine wp_region_lit ?_
      refine vrun (w := w2) (lp := [(4, .int .i64 0), (5, .int .i64 (traceV 8 xs))]) (φ := []) tbok 3 [] [4, 5] E (by kernel_rfl) trivial ?_
      clear E; intro a E
      refine wpList_nil ?_
      refine th_n ?_
      refine wp_ret ?_
      refine th_ret ?_
      refine ret2 E rfl rfl rfl ?_
      exact ⟨_, rfl, by rw [farV_a (by assumption)], HW.own⟩
    · replace E := E_; clear E_
      have h30 : (traceV 8 xs : Int) = 0 := bne_eq_false_iff_eq.1 hb_
      clear hb_
      exact absurd h30 h28

end Go.V
