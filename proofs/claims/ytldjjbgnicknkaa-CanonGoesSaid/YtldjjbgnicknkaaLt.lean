/- Contracts of functions of the program: walks. -/
import Derived.Test.YtldjjbgnicknkaaCx
import Derived.Test.YtldjjbgnicknkaaTb
set_option linter.all false
set_option linter.unusedVariables false
set_option linter.unnecessarySimpa false
set_option linter.unusedSimpArgs false
namespace Go.V
open Go Go.Proofs

/-! rejoinder/letter.number -/
set_option maxRecDepth 100000 in
theorem number_calls (n : Int) (w0 : World) :
    Calls Try.prog 56 #[.int .i64 n] w0 fun e w' => ∃ v, e = .returned v ∧ (v = .bool (numB n) ∧ Ext w0 w') := by
  have HW : Chg (Hi w0.heap.size) w0 w0 := Chg.refl _ _
  refine enterV (n := 9) Try.func56 rfl rfl rfl ?_
  intro a E
  replace E := E.pick [(0, .int .i64 n)] ⟨rfl, trivial⟩
  refine wp_seq ?_
  refine wp_region_lit ?_
  refine vrun (w := w0) (lp := [(0, .int .i64 n)]) (φ := []) tbok 1 [] [0] E (by kernel_rfl) trivial ?_
  clear E; intro a E
  refine wpList_nil ?_
  refine th_n ?_
  refine wp_seq ?_
  refine wp_region_lit ?_
  refine vrun (w := w0) (lp := [(0, .int .i64 n), (5, .bool (decide (0 ≤ n)))]) (φ := []) tbok 3 [] [0, 5] E (by kernel_rfl) trivial ?_
  clear E; intro a E
  refine E.cases (t := 5) rfl (fun hb_ E_ => ?_) (fun hb_ E_ => ?_)
  · replace E := E_; clear E_
    have h1 : 0 ≤ n := of_decide_eq_true hb_
    clear hb_
    refine vrun (w := w0) (lp := [(2, .bool (decide (n ≤ 8)))]) (φ := []) tbok 4 [] [2] E (by kernel_rfl) trivial ?_
    clear E; intro a E
    refine wpList_nil ?_
    refine th_n ?_
    refine wp_ret ?_
    refine ret1 E rfl rfl ?_
    exact ⟨_, rfl, by simp [numB, *], HW.own⟩
  · replace E := E_; clear E_
    have h2 : ¬ (0 ≤ n) := of_decide_eq_false hb_
    clear hb_
    refine vrun (w := w0) (lp := [(2, .bool false)]) (φ := []) tbok 4 [] [2] E (by kernel_rfl) trivial ?_
    clear E; intro a E
    refine wpList_nil ?_
    refine th_n ?_
    refine wp_ret ?_
    refine ret1 E rfl rfl ?_
    exact ⟨_, rfl, by simp [numB, *], HW.own⟩

/-! rejoinder/letter.Fits -/
set_option maxRecDepth 100000 in
theorem Fits_calls (n l : Int) (w0 : World) (hlt : 0 ≤ l ∧ l ≤ 255) :
    Calls Try.prog 29 #[.int .i64 n, .int .u8 l] w0 fun e w' => ∃ v, e = .returned v ∧ (v = .bool (fitsB n l) ∧ Ext w0 w') := by
  have HW : Chg (Hi w0.heap.size) w0 w0 := Chg.refl _ _
  refine enterV (n := 14) Try.func29 rfl rfl rfl ?_
  intro a E
  replace E := E.pick [(0, .int .i64 n), (1, .int .u8 l)] ⟨rfl, rfl, trivial⟩
  refine wp_seq ?_
  refine wp_region_lit ?_
  refine vrun (w := w0) (lp := [(0, .int .i64 n), (1, .int .u8 l)]) (φ := []) tbok 1 [] [0, 1] E (by kernel_rfl) trivial ?_
  clear E; intro a E
  refine wpList_nil ?_
  refine th_n ?_
  refine wp_seq ?_
  refine wp_region_lit ?_
  refine vrun (w := w0) (lp := [(0, .int .i64 n), (1, .int .u8 l), (5, .int .i64 n)]) (φ := []) tbok 1 [] [0, 1, 5] E (by kernel_rfl) trivial ?_
  clear E; intro a E
  refine e_call E rfl rfl Try.func56 rfl rfl rfl (number_calls n _ ) ?_
  intro v1 w2 a hR3 E_
  obtain ⟨rfl, hc4⟩ := hR3
  replace E := E_ _ rfl; clear E_
  replace HW := HW.trans hc4 (fun _ _ h_ => h_.elim)
  refine vrun (w := w2) (lp := [(0, .int .i64 n), (1, .int .u8 l), (7, .bool (numB n))]) (φ := []) tbok 1 [] [0, 1, 7] E (by kernel_rfl) trivial ?_
  clear E; intro a E
  refine E.cases (t := 7) rfl (fun hb_ E_ => ?_) (fun hb_ E_ => ?_)
  · replace E := E_; clear E_
    have h5 : (numB n) = true := hb_
    clear hb_
    refine vrun (w := w2) (lp := [(4, .bool ((l / 2 ^ n.toNat : Int) == 0))]) (φ := [IntKind.i64.wrap l = l, 0 ≤ n ∧ Int.fdiv l (2 ^ (min (Int.toNat n) (IntKind.bits .i64))) = l / 2 ^ n.toNat]) tbok 7 [.int .i64 l, .int .i64 (l / 2 ^ n.toNat)] [4] E (by kernel_rfl) ⟨wrap_i64 (by omega) (by omega), shr_i64 (by assumption) hlt.1⟩ ?_
    clear E; intro a E
    refine wpList_nil ?_
    refine th_n ?_
    refine wp_ret ?_
    refine ret1 E rfl rfl ?_
    exact ⟨_, rfl, by simp [fitsB, ibeq, *], HW.own⟩
  · replace E := E_; clear E_
    have h6 : (numB n) = false := hb_
    clear hb_
    refine vrun (w := w2) (lp := [(4, .bool false)]) (φ := []) tbok 7 [] [4] E (by kernel_rfl) trivial ?_
    clear E; intro a E
    refine wpList_nil ?_
    refine th_n ?_
    refine wp_ret ?_
    refine ret1 E rfl rfl ?_
    exact ⟨_, rfl, by simp [fitsB, ibeq, *], HW.own⟩

/-! rejoinder/letter.Trace -/
set_option maxRecDepth 100000 in
theorem Trace_calls (n : Int) (A : Option Addr) (c : Nat) (t : List Int) (w0 : World) (hl : t.length ≤ 9223372036854775807) (H : C (cInt .u8) w0 (Lo w0.heap.size) A t) (hW : ∀ x ∈ t, 0 ≤ x ∧ x ≤ 255) :
    Calls Try.prog 34 #[.int .i64 n, .slice A t.length c] w0 fun e w' => ∃ v, e = .returned v ∧ (v = .int .i64 (traceV n t) ∧ Ext w0 w') := by
  have HW : Chg (Hi w0.heap.size) w0 w0 := Chg.refl _ _
  refine enterV (n := 24) Try.func34 rfl rfl rfl ?_
  intro a E
  replace E := E.pick [(0, .int .i64 n), (1, .slice A t.length c)] ⟨rfl, rfl, trivial⟩
  refine wp_seq ?_
  refine wp_region_lit ?_
  refine vrun (w := w0) (lp := [(0, .int .i64 n), (1, .slice A t.length c)]) (φ := []) tbok 1 [] [0, 1] E (by kernel_rfl) trivial ?_
  clear E; intro a E
  refine wpList_nil ?_
  refine th_n ?_
  refine wp_seq ?_
  refine wp_seq ?_
  refine wp_region_lit ?_
  refine vrun (w := w0) (lp := [(0, .int .i64 n), (1, .slice A t.length c), (7, .int .i64 n)]) (φ := []) tbok 1 [] [0, 1, 7] E (by kernel_rfl) trivial ?_
  clear E; intro a E
  refine e_call E rfl rfl Try.func56 rfl rfl rfl (number_calls n _ ) ?_
  intro v1 w2 a hR3 E_
  obtain ⟨rfl, hc4⟩ := hR3
  replace E := E_ _ rfl; clear E_
  replace HW := HW.trans hc4 (fun _ _ h_ => h_.elim)
  refine vrun (w := w2) (lp := [(0, .int .i64 n), (1, .slice A t.length c), (9, .bool (!(numB n)))]) (φ := []) tbok 1 [] [0, 1, 9] E (by kernel_rfl) trivial ?_
  clear E; intro a E
  refine wpList_nil ?_
  refine th_n ?_
  refine E.cases (t := 9) rfl (fun hb_ E_ => ?_) (fun hb_ E_ => ?_)
  · replace E := E_; clear E_
    have h5 : numB n = false := not_t hb_
    clear hb_
    refine c_true E rfl ?_
    refine wp_seq ?_
    refine wp_region_lit ?_
    refine vrun (w := w2) (lp := [(4, .int .i64 2)]) (φ := []) tbok 1 [] [4] E (by kernel_rfl) trivial ?_
    clear E; intro a E
    refine wpList_nil ?_
    refine th_n ?_
    refine wp_ret ?_
    refine th_ret ?_
    refine ret1 E rfl rfl ?_
    exact ⟨_, rfl, by rw [traceV_num (by first | assumption | exact numB_no.2 (by omega))], HW.own⟩
  · replace E := E_; clear E_
    have h6 : numB n = true := not_f hb_
    clear hb_
    refine c_false E rfl ?_
    refine wp_skip ?_
    refine th_n ?_
    refine wp_seq ?_
    refine wp_seq ?_
    refine wp_region_lit ?_
    refine vrun (w := w2) (lp := [(0, .int .i64 n), (1, .slice A t.length c), (12, .bool (decide (1024 < ((t.length : Nat) : Int))))]) (φ := []) tbok 3 [] [0, 1, 12] E (by kernel_rfl) trivial ?_
    clear E; intro a E
    refine wpList_nil ?_
    refine th_n ?_
    refine E.cases (t := 12) rfl (fun hb_ E_ => ?_) (fun hb_ E_ => ?_)
    · replace E := E_; clear E_
      have h7 : 1024 < ((t.length : Nat) : Int) := of_decide_eq_true hb_
      clear hb_
      refine c_true E rfl ?_
      refine wp_seq ?_
      refine wp_region_lit ?_
      refine vrun (w := w2) (lp := [(4, .int .i64 3)]) (φ := []) tbok 1 [] [4] E (by kernel_rfl) trivial ?_
      clear E; intro a E
      refine wpList_nil ?_
      refine th_n ?_
      refine wp_ret ?_
      refine th_ret ?_
      refine ret1 E rfl rfl ?_
      exact ⟨_, rfl, by rw [traceV_long (by first | assumption | exact numB_iff.2 ⟨by omega, by omega⟩) (by omega)], HW.own⟩
    · replace E := E_; clear E_
      have h8 : ¬ (1024 < ((t.length : Nat) : Int)) := of_decide_eq_false hb_
      clear hb_
      refine c_false E rfl ?_
      refine wp_skip ?_
      refine th_n ?_
      refine wp_seq ?_
      refine wp_seq ?_
      refine wp_region_lit ?_
      refine vrun (w := w2) (lp := [(0, .int .i64 n), (13, .slice A t.length c), (14, .int .i64 ((t.length : Nat) : Int)), (15, .int .i64 0)]) (φ := []) tbok 3 [] [0, 13, 14, 15] E (by kernel_rfl) trivial ?_
      clear E; intro a E
      refine wpList_nil ?_
      refine th_n ?_
      refine wp_block ?_
      refine loopV (fun m10 a w9 => ∃ (k : Nat), Fr a 24 [(0, .int .i64 n), (13, .slice A t.length c), (14, .int .i64 ((t.length : Nat) : Int)), (15, .int .i64 (k : Int))] ∧ Chg (Hi w0.heap.size) w0 w9 ∧ (k ≤ t.length) ∧ (∀ i, i < k → fitsB n (t.getD i 0) = true) ∧ m10 = t.length - k) (t.length - (0)) ?_ ?_
      · skip
        exact ⟨0, E.pick _ ⟨rfl, rfl, rfl, rfl, trivial⟩, HW, (by omega), (fun i hi => absurd hi (by omega)), rfl⟩
      · clear E HW; intro m10 a w9 hI_
        obtain ⟨k, hI_⟩ := hI_
        obtain ⟨E, HW, hk, hI, hm_m10⟩ := hI_
        refine wp_seq ?_
        refine wp_region_lit ?_
        refine vrun (w := w9) (lp := [(0, .int .i64 n), (13, .slice A t.length c), (14, .int .i64 ((t.length : Nat) : Int)), (15, .int .i64 (k : Int)), (16, .bool (decide ((k : Int) < ((t.length : Nat) : Int))))]) (φ := []) tbok 1 [] [0, 13, 14, 15, 16] E (by kernel_rfl) trivial ?_
        clear E; intro a E
        refine wpList_nil ?_
        refine th_n ?_
        refine wp_seq ?_
        refine E.cases (t := 16) rfl (fun hb_ E_ => ?_) (fun hb_ E_ => ?_)
        · replace E := E_; clear E_
          have h11 : (k : Int) < ((t.length : Nat) : Int) := of_decide_eq_true hb_
          clear hb_
          refine c_true E rfl ?_
          refine wp_skip ?_
          refine th_n ?_
          refine wp_seq ?_
          refine wp_block ?_
          refine wp_seq ?_
          refine wp_region_lit ?_
          have hx_17 : 0 ≤ (k : Int) ∧ (k : Int) < ((t.length : Nat) : Int) := ⟨by omega, by omega⟩
          obtain ⟨b12, o13, e_b12⟩ := H.addr (by omega)
          subst e_b12
          refine vrun (w := w9) (lp := [(0, .int .i64 n), (6, .int .u8 (List.getD t (Int.toNat (k : Int)) 0)), (13, .slice (some ⟨b12, o13, none⟩) t.length c), (14, .int .i64 ((t.length : Nat) : Int)), (15, .int .i64 (k : Int))]) (φ := [0 ≤ (k : Int) ∧ (k : Int) < ((t.length : Nat) : Int), World.cell? w9 ⟨b12, o13 + (Int.toNat (k : Int)) * 1, none⟩ = some (.int .u8 (List.getD t (Int.toNat (k : Int)) 0))]) tbok 3 [.int .u8 (List.getD t (Int.toNat (k : Int)) 0)] [0, 6, 13, 14, 15] E (by kernel_rfl) ⟨hx_17, C.at1 (H.keep HW lo_hi) 0 hx_17.1 hx_17.2⟩ ?_
          clear E; intro a E
          refine wpList_nil ?_
          refine th_n ?_
          refine wp_seq ?_
          refine wp_region_lit ?_
          refine vrun (w := w9) (lp := [(0, .int .i64 n), (13, .slice (some ⟨b12, o13, none⟩) t.length c), (14, .int .i64 ((t.length : Nat) : Int)), (15, .int .i64 (k : Int)), (19, .int .i64 n), (20, .int .u8 (List.getD t (Int.toNat (k : Int)) 0))]) (φ := []) tbok 2 [] [0, 13, 14, 15, 19, 20] E (by kernel_rfl) trivial ?_
          clear E; intro a E
          refine e_call E rfl rfl Try.func29 rfl rfl rfl (Fits_calls n (List.getD t (Int.toNat (k : Int)) 0) _ (getD_u8 hW _)) ?_
          intro v14 w15 a hR16 E_
          obtain ⟨rfl, hc17⟩ := hR16
          replace E := E_ _ rfl; clear E_
          replace HW := HW.trans hc17 (fun _ _ h_ => h_.elim)
          refine vrun (w := w15) (lp := [(0, .int .i64 n), (13, .slice (some ⟨b12, o13, none⟩) t.length c), (14, .int .i64 ((t.length : Nat) : Int)), (15, .int .i64 (k : Int)), (22, .bool (!(fitsB n (List.getD t (Int.toNat (k : Int)) 0))))]) (φ := []) tbok 1 [] [0, 13, 14, 15, 22] E (by kernel_rfl) trivial ?_
          clear E; intro a E
          refine wpList_nil ?_
          refine th_n ?_
          refine E.cases (t := 22) rfl (fun hb_ E_ => ?_) (fun hb_ E_ => ?_)
          · replace E := E_; clear E_
            have h18 : fitsB n (List.getD t (Int.toNat (k : Int)) 0) = false := not_t hb_
            clear hb_
            refine c_true E rfl ?_
            refine wp_seq ?_
            refine wp_region_lit ?_
            refine vrun (w := w15) (lp := [(4, .int .i64 2)]) (φ := []) tbok 1 [] [4] E (by kernel_rfl) trivial ?_
            clear E; intro a E
            refine wpList_nil ?_
            refine th_n ?_
            refine wp_ret ?_
            refine bl_ret ?_
            refine th_ret ?_
            refine th_ret ?_
            refine bl_ret ?_
            refine th_ret ?_
            refine ret1 E rfl rfl ?_
            exact ⟨_, rfl, by rw [traceV_bad (i := k) (by first | assumption | exact numB_iff.2 ⟨by omega, by omega⟩) (by omega) (by omega) (by simpa using h18)], HW.own⟩
          · replace E := E_; clear E_
            have h19 : fitsB n (List.getD t (Int.toNat (k : Int)) 0) = true := not_f hb_
            clear hb_
            refine c_false E rfl ?_
            refine wp_skip ?_
            refine bl_n ?_
            refine th_n ?_
            refine wp_region_lit ?_
            refine vrun (w := w15) (lp := [(0, .int .i64 n), (13, .slice (some ⟨b12, o13, none⟩) t.length c), (14, .int .i64 ((t.length : Nat) : Int)), (15, .int .i64 ((k : Int) + 1))]) (φ := [IntKind.i64.wrap ((k : Int) + 1) = (k : Int) + 1]) tbok 2 [.int .i64 ((k : Int) + 1)] [0, 13, 14, 15] E (by kernel_rfl) (wrap_i64 (by omega) (by omega)) ?_
            clear E; intro a E
            refine wpList_nil ?_
            refine th_n ⟨t.length - (k + 1), by omega, ?_⟩
            exact ⟨k + 1, E.pick _ ⟨rfl, rfl, rfl, rfl, trivial⟩, HW, (by omega), (fits_step hI (by simpa using h19)), rfl⟩
        · replace E := E_; clear E_
          have h20 : ¬ ((k : Int) < ((t.length : Nat) : Int)) := of_decide_eq_false hb_
          clear hb_
          refine c_false E rfl ?_
          refine wp_exit ?_
          refine th_exit ?_
          refine th_exit ?_
          refine bl_hit ?_
          refine th_n ?_
          refine wp_seq ?_
          refine wp_region_lit ?_
          refine vrun (w := w9) (lp := [(4, .int .i64 0)]) (φ := []) tbok 1 [] [4] E (by kernel_rfl) trivial ?_
          clear E; intro a E
          refine wpList_nil ?_
          refine th_n ?_
          refine wp_ret ?_
          refine ret1 E rfl rfl ?_
          exact ⟨_, rfl, by rw [traceV_ok (by first | assumption | exact numB_iff.2 ⟨by omega, by omega⟩) (by omega) (fun i hi => hI i (by omega))], HW.own⟩

/-! rejoinder/rejoinderref01.Bit -/
set_option maxRecDepth 100000 in
theorem rBit_calls (l p : Int) (w0 : World) (hlt : 0 ≤ l ∧ l ≤ 255) :
    Calls Try.prog 58 #[.int .u8 l, .int .i64 p] w0 fun e w' => ∃ v, e = .returned v ∧ (v = .bool (decide (0 ≤ p) && (decide (p < 8) && bitB l p)) ∧ Ext w0 w') := by
  have HW : Chg (Hi w0.heap.size) w0 w0 := Chg.refl _ _
  refine enterV (n := 18) Try.func58 rfl rfl rfl ?_
  intro a E
  replace E := E.pick [(0, .int .u8 l), (1, .int .i64 p)] ⟨rfl, rfl, trivial⟩
  refine wp_seq ?_
  refine wp_region_lit ?_
  refine vrun (w := w0) (lp := [(0, .int .u8 l), (1, .int .i64 p)]) (φ := []) tbok 1 [] [0, 1] E (by kernel_rfl) trivial ?_
  clear E; intro a E
  refine wpList_nil ?_
  refine th_n ?_
  refine wp_seq ?_
  refine wp_region_lit ?_
  refine vrun (w := w0) (lp := [(0, .int .u8 l), (1, .int .i64 p), (7, .bool (decide (0 ≤ p)))]) (φ := []) tbok 3 [] [0, 1, 7] E (by kernel_rfl) trivial ?_
  clear E; intro a E
  refine E.cases (t := 7) rfl (fun hb_ E_ => ?_) (fun hb_ E_ => ?_)
  · replace E := E_; clear E_
    have h1 : 0 ≤ p := of_decide_eq_true hb_
    clear hb_
    refine vrun (w := w0) (lp := [(0, .int .u8 l), (1, .int .i64 p), (11, .bool (decide (p < 8)))]) (φ := []) tbok 4 [] [0, 1, 11] E (by kernel_rfl) trivial ?_
    clear E; intro a E
    refine E.cases (t := 11) rfl (fun hb_ E_ => ?_) (fun hb_ E_ => ?_)
    · replace E := E_; clear E_
      have h2 : p < 8 := of_decide_eq_true hb_
      clear hb_
      refine vrun (w := w0) (lp := [(4, .bool (((l / 2 ^ Int.toNat p) % 2 : Int) == 1))]) (φ := [0 ≤ p ∧ Int.fdiv l (2 ^ (min (Int.toNat p) (IntKind.bits .u8))) = l / 2 ^ Int.toNat p, IntKind.u8.wrap (BitVec.ofInt (IntKind.bits .u8) (l / 2 ^ Int.toNat p) &&& BitVec.ofInt (IntKind.bits .u8) 1).toNat = (l / 2 ^ Int.toNat p) % 2]) tbok 7 [.int .u8 (l / 2 ^ Int.toNat p), .int .u8 ((l / 2 ^ Int.toNat p) % 2)] [4] E (by kernel_rfl) ⟨shr_u8 hlt (by omega) (by omega), and1_u8 (half_bd hlt.1 hlt.2)⟩ ?_
      clear E; intro a E
      refine wpList_nil ?_
      refine th_n ?_
      refine wp_ret ?_
      refine ret1 E rfl rfl ?_
      exact ⟨_, rfl, by simp [bitB, ibeq, *], HW.own⟩
    · replace E := E_; clear E_
      have h3 : ¬ (p < 8) := of_decide_eq_false hb_
      clear hb_
      refine vrun (w := w0) (lp := [(4, .bool false)]) (φ := []) tbok 7 [] [4] E (by kernel_rfl) trivial ?_
      clear E; intro a E
      refine wpList_nil ?_
      refine th_n ?_
      refine wp_ret ?_
      refine ret1 E rfl rfl ?_
      exact ⟨_, rfl, by simp [bitB, ibeq, *], HW.own⟩
  · replace E := E_; clear E_
    have h4 : ¬ (0 ≤ p) := of_decide_eq_false hb_
    clear hb_
    refine vrun (w := w0) (lp := [(4, .bool false)]) (φ := []) tbok 11 [] [4] E (by kernel_rfl) trivial ?_
    clear E; intro a E
    refine wpList_nil ?_
    refine th_n ?_
    refine wp_ret ?_
    refine ret1 E rfl rfl ?_
    exact ⟨_, rfl, by simp [bitB, ibeq, *], HW.own⟩
theorem rBit8_calls (l p : Int) (w0 : World) (hlt : 0 ≤ l ∧ l ≤ 255) (hp : 0 ≤ p ∧ p < 8) : Calls Try.prog 58 #[.int .u8 l, .int .i64 p] w0 fun e w' => ∃ v, e = .returned v ∧ (v = .bool (bitB l p) ∧ Ext w0 w') :=
  (rBit_calls l p w0 hlt).mono fun e w' ⟨v, he, hv, hx⟩ => ⟨v, he, by rw [hv, decide_eq_true hp.1, decide_eq_true hp.2]; rfl, hx⟩

/-! rejoinder/rejoinderref01.Fits -/
set_option maxRecDepth 100000 in
theorem rFits_calls (n l : Int) (w0 : World) (hlt : 0 ≤ l ∧ l ≤ 255) :
    Calls Try.prog 32 #[.int .i64 n, .int .u8 l] w0 fun e w' => ∃ v, e = .returned v ∧ (v = .bool (fitsB n l) ∧ Ext w0 w') := by
  have HW : Chg (Hi w0.heap.size) w0 w0 := Chg.refl _ _
  refine enterV (n := 20) Try.func32 rfl rfl rfl ?_
  intro a E
  replace E := E.pick [(0, .int .i64 n), (1, .int .u8 l)] ⟨rfl, rfl, trivial⟩
  refine wp_seq ?_
  refine wp_region_lit ?_
  refine vrun (w := w0) (lp := [(0, .int .i64 n), (1, .int .u8 l)]) (φ := []) tbok 1 [] [0, 1] E (by kernel_rfl) trivial ?_
  clear E; intro a E
  refine wpList_nil ?_
  refine th_n ?_
  refine wp_seq ?_
  refine wp_seq ?_
  refine wp_region_lit ?_
  refine vrun (w := w0) (lp := [(0, .int .i64 n), (1, .int .u8 l), (8, .bool (decide (n < 0)))]) (φ := []) tbok 3 [] [0, 1, 8] E (by kernel_rfl) trivial ?_
  clear E; intro a E
  refine E.cases (t := 8) rfl (fun hb_ E_ => ?_) (fun hb_ E_ => ?_)
  · replace E := E_; clear E_
    have h1 : n < 0 := of_decide_eq_true hb_
    clear hb_
    refine vrun (w := w0) (lp := [(0, .int .i64 n), (1, .int .u8 l), (11, .bool true)]) (φ := []) tbok 3 [] [0, 1, 11] E (by kernel_rfl) trivial ?_
    clear E; intro a E
    refine wpList_nil ?_
    refine th_n ?_
    refine c_true E rfl ?_
    refine wp_seq ?_
    refine wp_region_lit ?_
    refine vrun (w := w0) (lp := [(4, .bool false)]) (φ := []) tbok 1 [] [4] E (by kernel_rfl) trivial ?_
    clear E; intro a E
    refine wpList_nil ?_
    refine th_n ?_
    refine wp_ret ?_
    refine th_ret ?_
    refine ret1 E rfl rfl ?_
    exact ⟨_, rfl, by unfold fitsB; rw [numB_no.2 (by omega)]; rfl, HW.own⟩
  · replace E := E_; clear E_
    have h2 : ¬ (n < 0) := of_decide_eq_false hb_
    clear hb_
    refine vrun (w := w0) (lp := [(0, .int .i64 n), (1, .int .u8 l), (11, .bool (decide (8 < n)))]) (φ := []) tbok 3 [] [0, 1, 11] E (by kernel_rfl) trivial ?_
    clear E; intro a E
    refine wpList_nil ?_
    refine th_n ?_
    refine E.cases (t := 11) rfl (fun hb_ E_ => ?_) (fun hb_ E_ => ?_)
    · replace E := E_; clear E_
      have h3 : 8 < n := of_decide_eq_true hb_
      clear hb_
      refine c_true E rfl ?_
      refine wp_seq ?_
      refine wp_region_lit ?_
      refine vrun (w := w0) (lp := [(4, .bool false)]) (φ := []) tbok 1 [] [4] E (by kernel_rfl) trivial ?_
      clear E; intro a E
      refine wpList_nil ?_
      refine th_n ?_
      refine wp_ret ?_
      refine th_ret ?_
      refine ret1 E rfl rfl ?_
      exact ⟨_, rfl, by unfold fitsB; rw [numB_no.2 (by omega)]; rfl, HW.own⟩
    · replace E := E_; clear E_
      have h4 : ¬ (8 < n) := of_decide_eq_false hb_
      clear hb_
      refine c_false E rfl ?_
      refine wp_skip ?_
      refine th_n ?_
      refine wp_seq ?_
      refine wp_seq ?_
      refine wp_region_lit ?_
      refine vrun (w := w0) (lp := [(1, .int .u8 l), (5, .int .i64 n)]) (φ := []) tbok 2 [] [1, 5] E (by kernel_rfl) trivial ?_
      clear E; intro a E
      refine wpList_nil ?_
      refine th_n ?_
      refine wp_block ?_
      refine loopV (fun m6 a w5 => ∃ (p : Int), Fr a 20 [(1, .int .u8 l), (5, .int .i64 p)] ∧ Chg (Hi w0.heap.size) w0 w5 ∧ (n ≤ p ∧ p ≤ 8) ∧ (∀ q, n ≤ q → q < p → bitB l q = false) ∧ m6 = (8 - p).toNat) ((8 - (n)).toNat) ?_ ?_
      · skip
        exact ⟨n, E.pick _ ⟨rfl, rfl, trivial⟩, HW, ⟨by omega, by omega⟩, (fun q h1 h2 => absurd h2 (by omega)), rfl⟩
      · clear E HW; intro m6 a w5 hI_
        obtain ⟨p, hI_⟩ := hI_
        obtain ⟨E, HW, hp, hI, hm_m6⟩ := hI_
        refine wp_seq ?_
        refine wp_seq ?_
        refine wp_region_lit ?_
        refine vrun (w := w5) (lp := [(1, .int .u8 l), (5, .int .i64 p), (14, .bool (decide (p < 8)))]) (φ := []) tbok 2 [] [1, 5, 14] E (by kernel_rfl) trivial ?_
        clear E; intro a E
        refine wpList_nil ?_
        refine th_n ?_
        refine E.cases (t := 14) rfl (fun hb_ E_ => ?_) (fun hb_ E_ => ?_)
        · replace E := E_; clear E_
          have h7 : p < 8 := of_decide_eq_true hb_
          clear hb_
          refine c_true E rfl ?_
          refine wp_skip ?_
          refine th_n ?_
          refine wp_seq ?_
          refine wp_block ?_
          refine wp_seq ?_
          refine wp_region_lit ?_
          refine vrun (w := w5) (lp := [(1, .int .u8 l), (5, .int .i64 p), (17, .int .u8 l), (18, .int .i64 p)]) (φ := []) tbok 2 [] [1, 5, 17, 18] E (by kernel_rfl) trivial ?_
          clear E; intro a E
          refine e_call E rfl rfl Try.func58 rfl rfl rfl ((rBit_calls l p _ hlt)) ?_
          intro v8 w9 a hR10 E_
          obtain ⟨rfl, hc11⟩ := hR10
          replace E := E_ _ rfl; clear E_
          replace HW := HW.trans hc11 (fun _ _ h_ => h_.elim)
          refine wpList_nil ?_
          refine th_n ?_
          refine E.cases (t := 19) rfl (fun hb_ E_ => ?_) (fun hb_ E_ => ?_)
          · replace E := E_; clear E_
            have h12 : ((decide (0 ≤ p) && (decide (p < 8) && bitB l p))) = true := hb_
            clear hb_
            refine c_true E rfl ?_
            refine wp_seq ?_
            refine wp_region_lit ?_
            refine vrun (w := w9) (lp := [(4, .bool false)]) (φ := []) tbok 1 [] [4] E (by kernel_rfl) trivial ?_
            clear E; intro a E
            refine wpList_nil ?_
            refine th_n ?_
            refine wp_ret ?_
            refine bl_ret ?_
            refine th_ret ?_
            refine th_ret ?_
            refine bl_ret ?_
            refine th_ret ?_
            refine ret1 E rfl rfl ?_
            exact ⟨_, rfl, by rw [fits_not (q := p) (by omega) (by omega) hlt (by omega) (by simp_all)], HW.own⟩
          · replace E := E_; clear E_
            have h13 : ((decide (0 ≤ p) && (decide (p < 8) && bitB l p))) = false := hb_
            clear hb_
            refine c_false E rfl ?_
            refine wp_skip ?_
            refine bl_n ?_
            refine th_n ?_
            refine wp_region_lit ?_
            refine vrun (w := w9) (lp := [(1, .int .u8 l), (5, .int .i64 (p + 1))]) (φ := [IntKind.i64.wrap (p + 1) = p + 1]) tbok 3 [.int .i64 (p + 1)] [1, 5] E (by kernel_rfl) (wrap_i64 (by omega) (by omega)) ?_
            clear E; intro a E
            refine wpList_nil ?_
            refine th_n ⟨(8 - (p + 1)).toNat, by omega, ?_⟩
            exact ⟨p + 1, E.pick _ ⟨rfl, rfl, trivial⟩, HW, ⟨by omega, by omega⟩, (bits_step hI (by rw [show decide (0 ≤ p) = true from decide_eq_true (by omega), show decide (p < 8) = true from decide_eq_true (by omega)] at h13; simpa using h13)), rfl⟩
        · replace E := E_; clear E_
          have h14 : ¬ (p < 8) := of_decide_eq_false hb_
          clear hb_
          refine c_false E rfl ?_
          refine wp_exit ?_
          refine th_exit ?_
          refine th_exit ?_
          refine bl_hit ?_
          refine th_n ?_
          refine wp_seq ?_
          refine wp_region_lit ?_
          refine vrun (w := w5) (lp := [(4, .bool true)]) (φ := []) tbok 1 [] [4] E (by kernel_rfl) trivial ?_
          clear E; intro a E
          refine wpList_nil ?_
          refine th_n ?_
          refine wp_ret ?_
          refine ret1 E rfl rfl ?_
          exact ⟨_, rfl, by rw [fits_bits (by omega) (by omega) hlt (fun q h1 h2 => hI q h1 (by omega))], HW.own⟩

/-! rejoinder/rejoinderref01.Trace -/
set_option maxRecDepth 100000 in
theorem rTrace_calls (n : Int) (A : Option Addr) (c : Nat) (t : List Int) (w0 : World) (hl : t.length ≤ 9223372036854775807) (H : C (cInt .u8) w0 (Lo w0.heap.size) A t) (hW : ∀ x ∈ t, 0 ≤ x ∧ x ≤ 255) :
    Calls Try.prog 35 #[.int .i64 n, .slice A t.length c] w0 fun e w' => ∃ v, e = .returned v ∧ (v = .int .i64 (traceV n t) ∧ Ext w0 w') := by
  have HW : Chg (Hi w0.heap.size) w0 w0 := Chg.refl _ _
  refine enterV (n := 28) Try.func35 rfl rfl rfl ?_
  intro a E
  replace E := E.pick [(0, .int .i64 n), (1, .slice A t.length c)] ⟨rfl, rfl, trivial⟩
  refine wp_seq ?_
  refine wp_region_lit ?_
  refine vrun (w := w0) (lp := [(0, .int .i64 n), (1, .slice A t.length c)]) (φ := []) tbok 1 [] [0, 1] E (by kernel_rfl) trivial ?_
  clear E; intro a E
  refine wpList_nil ?_
  refine th_n ?_
  refine wp_seq ?_
  refine wp_seq ?_
  refine wp_region_lit ?_
  refine vrun (w := w0) (lp := [(0, .int .i64 n), (1, .slice A t.length c), (8, .bool (decide (n < 0)))]) (φ := []) tbok 3 [] [0, 1, 8] E (by kernel_rfl) trivial ?_
  clear E; intro a E
  refine E.cases (t := 8) rfl (fun hb_ E_ => ?_) (fun hb_ E_ => ?_)
  · replace E := E_; clear E_
    have h1 : n < 0 := of_decide_eq_true hb_
    clear hb_
    refine vrun (w := w0) (lp := [(0, .int .i64 n), (1, .slice A t.length c), (11, .bool true)]) (φ := []) tbok 3 [] [0, 1, 11] E (by kernel_rfl) trivial ?_
    clear E; intro a E
    refine wpList_nil ?_
    refine th_n ?_
    refine c_true E rfl ?_
    refine wp_seq ?_
    refine wp_region_lit ?_
    refine vrun (w := w0) (lp := [(4, .int .i64 2)]) (φ := []) tbok 1 [] [4] E (by kernel_rfl) trivial ?_
    clear E; intro a E
    refine wpList_nil ?_
    refine th_n ?_
    refine wp_ret ?_
    refine th_ret ?_
    refine ret1 E rfl rfl ?_
    exact ⟨_, rfl, by rw [traceV_num (by first | assumption | exact numB_no.2 (by omega))], HW.own⟩
  · replace E := E_; clear E_
    have h2 : ¬ (n < 0) := of_decide_eq_false hb_
    clear hb_
    refine vrun (w := w0) (lp := [(0, .int .i64 n), (1, .slice A t.length c), (11, .bool (decide (8 < n)))]) (φ := []) tbok 3 [] [0, 1, 11] E (by kernel_rfl) trivial ?_
    clear E; intro a E
    refine wpList_nil ?_
    refine th_n ?_
    refine E.cases (t := 11) rfl (fun hb_ E_ => ?_) (fun hb_ E_ => ?_)
    · replace E := E_; clear E_
      have h3 : 8 < n := of_decide_eq_true hb_
      clear hb_
      refine c_true E rfl ?_
      refine wp_seq ?_
      refine wp_region_lit ?_
      refine vrun (w := w0) (lp := [(4, .int .i64 2)]) (φ := []) tbok 1 [] [4] E (by kernel_rfl) trivial ?_
      clear E; intro a E
      refine wpList_nil ?_
      refine th_n ?_
      refine wp_ret ?_
      refine th_ret ?_
      refine ret1 E rfl rfl ?_
      exact ⟨_, rfl, by rw [traceV_num (by first | assumption | exact numB_no.2 (by omega))], HW.own⟩
    · replace E := E_; clear E_
      have h4 : ¬ (8 < n) := of_decide_eq_false hb_
      clear hb_
      refine c_false E rfl ?_
      refine wp_skip ?_
      refine th_n ?_
      refine wp_seq ?_
      refine wp_seq ?_
      refine wp_region_lit ?_
      refine vrun (w := w0) (lp := [(0, .int .i64 n), (1, .slice A t.length c), (14, .bool (decide (1024 < ((t.length : Nat) : Int))))]) (φ := []) tbok 3 [] [0, 1, 14] E (by kernel_rfl) trivial ?_
      clear E; intro a E
      refine wpList_nil ?_
      refine th_n ?_
      refine E.cases (t := 14) rfl (fun hb_ E_ => ?_) (fun hb_ E_ => ?_)
      · replace E := E_; clear E_
        have h5 : 1024 < ((t.length : Nat) : Int) := of_decide_eq_true hb_
        clear hb_
        refine c_true E rfl ?_
        refine wp_seq ?_
        refine wp_region_lit ?_
        refine vrun (w := w0) (lp := [(4, .int .i64 3)]) (φ := []) tbok 1 [] [4] E (by kernel_rfl) trivial ?_
        clear E; intro a E
        refine wpList_nil ?_
        refine th_n ?_
        refine wp_ret ?_
        refine th_ret ?_
        refine ret1 E rfl rfl ?_
        exact ⟨_, rfl, by rw [traceV_long (by first | assumption | exact numB_iff.2 ⟨by omega, by omega⟩) (by omega)], HW.own⟩
      · replace E := E_; clear E_
        have h6 : ¬ (1024 < ((t.length : Nat) : Int)) := of_decide_eq_false hb_
        clear hb_
        refine c_false E rfl ?_
        refine wp_skip ?_
        refine th_n ?_
        refine wp_seq ?_
        refine wp_seq ?_
        refine wp_region_lit ?_
        refine vrun (w := w0) (lp := [(0, .int .i64 n), (1, .slice A t.length c), (5, .int .i64 0)]) (φ := []) tbok 1 [] [0, 1, 5] E (by kernel_rfl) trivial ?_
        clear E; intro a E
        refine wpList_nil ?_
        refine th_n ?_
        refine wp_block ?_
        refine loopV (fun m8 a w7 => ∃ (k : Nat), Fr a 28 [(0, .int .i64 n), (1, .slice A t.length c), (5, .int .i64 (k : Int))] ∧ Chg (Hi w0.heap.size) w0 w7 ∧ (k ≤ t.length) ∧ (∀ i, i < k → fitsB n (t.getD i 0) = true) ∧ m8 = t.length - k) (t.length - (0)) ?_ ?_
        · skip
          exact ⟨0, E.pick _ ⟨rfl, rfl, rfl, trivial⟩, HW, (by omega), (fun i hi => absurd hi (by omega)), rfl⟩
        · clear E HW; intro m8 a w7 hI_
          obtain ⟨k, hI_⟩ := hI_
          obtain ⟨E, HW, hk, hI, hm_m8⟩ := hI_
          refine wp_seq ?_
          refine wp_seq ?_
          refine wp_region_lit ?_
          refine vrun (w := w7) (lp := [(0, .int .i64 n), (1, .slice A t.length c), (5, .int .i64 (k : Int)), (18, .bool (decide ((k : Int) < ((t.length : Nat) : Int))))]) (φ := []) tbok 4 [] [0, 1, 5, 18] E (by kernel_rfl) trivial ?_
          clear E; intro a E
          refine wpList_nil ?_
          refine th_n ?_
          refine E.cases (t := 18) rfl (fun hb_ E_ => ?_) (fun hb_ E_ => ?_)
          · replace E := E_; clear E_
            have h9 : (k : Int) < ((t.length : Nat) : Int) := of_decide_eq_true hb_
            clear hb_
            refine c_true E rfl ?_
            refine wp_skip ?_
            refine th_n ?_
            refine wp_seq ?_
            refine wp_block ?_
            refine wp_seq ?_
            refine wp_region_lit ?_
            have hx_24 : 0 ≤ (k : Int) ∧ (k : Int) < ((t.length : Nat) : Int) := ⟨by omega, by omega⟩
            obtain ⟨b10, o11, e_b10⟩ := H.addr (by omega)
            subst e_b10
            refine vrun (w := w7) (lp := [(0, .int .i64 n), (1, .slice (some ⟨b10, o11, none⟩) t.length c), (5, .int .i64 (k : Int)), (21, .int .i64 n), (25, .int .u8 (List.getD t (Int.toNat (k : Int)) 0))]) (φ := [0 ≤ (k : Int) ∧ (k : Int) < ((t.length : Nat) : Int), World.cell? w7 ⟨b10, o11 + (Int.toNat (k : Int)) * 1, none⟩ = some (.int .u8 (List.getD t (Int.toNat (k : Int)) 0))]) tbok 5 [.int .u8 (List.getD t (Int.toNat (k : Int)) 0)] [0, 1, 5, 21, 25] E (by kernel_rfl) ⟨hx_24, C.at1 (H.keep HW lo_hi) 0 hx_24.1 hx_24.2⟩ ?_
            clear E; intro a E
            refine e_call E rfl rfl Try.func32 rfl rfl rfl (rFits_calls n (List.getD t (Int.toNat (k : Int)) 0) _ (getD_u8 hW _)) ?_
            intro v12 w13 a hR14 E_
            obtain ⟨rfl, hc15⟩ := hR14
            replace E := E_ _ rfl; clear E_
            replace HW := HW.trans hc15 (fun _ _ h_ => h_.elim)
            refine vrun (w := w13) (lp := [(0, .int .i64 n), (1, .slice (some ⟨b10, o11, none⟩) t.length c), (5, .int .i64 (k : Int)), (27, .bool (!(fitsB n (List.getD t (Int.toNat (k : Int)) 0))))]) (φ := []) tbok 1 [] [0, 1, 5, 27] E (by kernel_rfl) trivial ?_
            clear E; intro a E
            refine wpList_nil ?_
            refine th_n ?_
            refine E.cases (t := 27) rfl (fun hb_ E_ => ?_) (fun hb_ E_ => ?_)
            · replace E := E_; clear E_
              have h16 : fitsB n (List.getD t (Int.toNat (k : Int)) 0) = false := not_t hb_
              clear hb_
              refine c_true E rfl ?_
              refine wp_seq ?_
              refine wp_region_lit ?_
              refine vrun (w := w13) (lp := [(4, .int .i64 2)]) (φ := []) tbok 1 [] [4] E (by kernel_rfl) trivial ?_
              clear E; intro a E
              refine wpList_nil ?_
              refine th_n ?_
              refine wp_ret ?_
              refine bl_ret ?_
              refine th_ret ?_
              refine th_ret ?_
              refine bl_ret ?_
              refine th_ret ?_
              refine ret1 E rfl rfl ?_
              exact ⟨_, rfl, by rw [traceV_bad (i := k) (by first | assumption | exact numB_iff.2 ⟨by omega, by omega⟩) (by omega) (by omega) (by simpa using h16)], HW.own⟩
            · replace E := E_; clear E_
              have h17 : fitsB n (List.getD t (Int.toNat (k : Int)) 0) = true := not_f hb_
              clear hb_
              refine c_false E rfl ?_
              refine wp_skip ?_
              refine bl_n ?_
              refine th_n ?_
              refine wp_region_lit ?_
              refine vrun (w := w13) (lp := [(0, .int .i64 n), (1, .slice (some ⟨b10, o11, none⟩) t.length c), (5, .int .i64 ((k : Int) + 1))]) (φ := [IntKind.i64.wrap ((k : Int) + 1) = (k : Int) + 1]) tbok 3 [.int .i64 ((k : Int) + 1)] [0, 1, 5] E (by kernel_rfl) (wrap_i64 (by omega) (by omega)) ?_
              clear E; intro a E
              refine wpList_nil ?_
              refine th_n ⟨t.length - (k + 1), by omega, ?_⟩
              exact ⟨k + 1, E.pick _ ⟨rfl, rfl, rfl, trivial⟩, HW, (by omega), (fits_step hI (by simpa using h17)), rfl⟩
          · replace E := E_; clear E_
            have h18 : ¬ ((k : Int) < ((t.length : Nat) : Int)) := of_decide_eq_false hb_
            clear hb_
            refine c_false E rfl ?_
            refine wp_exit ?_
            refine th_exit ?_
            refine th_exit ?_
            refine bl_hit ?_
            refine th_n ?_
            refine wp_seq ?_
            refine wp_region_lit ?_
            refine vrun (w := w7) (lp := [(4, .int .i64 0)]) (φ := []) tbok 1 [] [4] E (by kernel_rfl) trivial ?_
            clear E; intro a E
            refine wpList_nil ?_
            refine th_n ?_
            refine wp_ret ?_
            refine ret1 E rfl rfl ?_
            exact ⟨_, rfl, by rw [traceV_ok (by first | assumption | exact numB_iff.2 ⟨by omega, by omega⟩) (by omega) (fun i hi => hI i (by omega))], HW.own⟩

end Go.V
