/- Contracts of functions of the program: walks. -/
import Derived.Test.YtldcmipgdacecaaKN
import Derived.Test.YtldcmipgdacecaaKt
set_option linter.all false
set_option linter.unusedVariables false
set_option linter.unnecessarySimpa false
set_option linter.unusedSimpArgs false
namespace Go.V
open Go Go.Proofs

def madeK (R K i : Nat) : List (List Int) := List.replicate i (List.replicate K 0) ++ List.replicate (R - i) []
theorem madeK_len {R K i : Nat} (h : i ≤ R) : (madeK R K i).length = R := by simp [madeK]; omega
theorem made_start (R K : Nat) : List.replicate R ([] : List Int) = madeK R K 0 := by simp [madeK]
theorem made_step {R K i : Nat} (h : i < R) : List.set (madeK R K i) (Int.toNat (i : Int)) (List.replicate K 0) = madeK R K (i + 1) := by
  unfold madeK
  rw [Int.toNat_natCast, List.set_append_right _ _ (by simp), List.length_replicate, Nat.sub_self, show R - i = (R - (i + 1)) + 1 by omega, List.replicate_succ, List.set_cons_zero, List.replicate_succ']
  simp
theorem made_end (R K : Nat) : madeK R K R = List.replicate R (List.replicate K 0) := by simp [madeK]
theorem made_cut {R K i : Nat} (h : (i + 1) * K ≤ R * K) : List.take K (List.drop (Int.toNat ((i * K : Nat) : Int)) (List.replicate (R * K) (0 : Int))) = List.replicate K 0 := by
  rw [Int.toNat_natCast, List.drop_replicate, List.take_replicate]
  congr 1
  rw [Nat.add_mul, Nat.one_mul] at h
  omega
/-! rejoinder/near.made[int] -/
set_option maxRecDepth 100000 in
theorem made_callsRK (R K : Nat) (w0 : World) (hR : R ≤ 100000) (hK : K ≤ 100000) (hRK : R * K ≤ 10000000) :
    Calls Try.prog 51 #[.int .i64 ((R : Nat) : Int), .int .i64 ((K : Nat) : Int)] w0 fun e w' => ∃ v, e = .returned v ∧ ∃ g G, v = .slice (some ⟨g, 0, none⟩) R R ∧ w0.heap.size ≤ g ∧ Ext w0 w' ∧ Mat (cInt .i64) 3 31 w' w0.heap.size G g (List.replicate R (List.replicate K 0)) := by
  have HW : Chg (Hi w0.heap.size) w0 w0 := Chg.refl _ _
  refine enterV (n := 34) Try.func51 rfl rfl rfl ?_
  intro a E
  replace E := E.pick [(0, .int .i64 ((R : Nat) : Int)), (1, .int .i64 ((K : Nat) : Int))] ⟨rfl, rfl, trivial⟩
  refine wp_seq ?_
  refine wp_region_lit ?_
  refine vrun (w := w0) (lp := [(0, .int .i64 ((R : Nat) : Int)), (1, .int .i64 ((K : Nat) : Int))]) (φ := []) tbok 1 [] [0, 1] E (by kernel_rfl) trivial ?_
  clear E; intro a E
  refine wpList_nil ?_
  refine th_n ?_
  refine wp_seq ?_
  refine dr_start (S := fun w_ => Chg No w0 w_) (by kernel_rfl) ?_
  intro w1 hc2
  have HWs := HW
  have HS : Chg No w0 w1 := hc2.mono (fun _ _ h_ => h_.elim)
  replace HW := HW.trans hc2 (fun _ _ h_ => h_.elim)
  refine drun (lp := [(1, .int .i64 ((K : Nat) : Int)), (10, .int .i64 ((R * K : Nat) : Int)), (12, .int .i64 ((R : Nat) : Int))]) tbok (by kernel_rfl) [0, 1, 2, 4] [.int .i64 ((R * K : Nat) : Int)] [1, 10, 12] (fun w_ => [IntKind.i64.wrap (((R : Nat) : Int) * ((K : Nat) : Int)) = ((R * K : Nat) : Int)]) (fuel := 4) E (fun _ _ => by kernel_rfl) (fun w_ hS_ => ((by rw [← Int.natCast_mul]; exact wrap_i64 (by omega) (by omega)))) (by kernel_rfl) HS ?_
  clear E; intro a E
  refine wpAnyH_all (rs := [3, 5]) (by kernel_rfl) (by simp) ?_
  refine all2 ?_ ?_
  · refine wpOp_of_list rfl ?_
    refine e_makeL (cInt .i64) (z := 0) (R * K) (R * K) No E rfl rfl tbok rfl rfl rfl rfl (by omega) (by omega) (by omega) (by show 8 * (R * K) ≤ 281474976710656; omega) (by omega) rfl rfl (fun _ _ => rfl) (fun _ h_ => h_.elim) ?_
    intro w4 g3 a hc5 hg6 L7 E_
    replace E := E_ _ rfl; clear E_
    have hi_g3 : w0.heap.size ≤ g3 := Nat.le_trans HW.size hg6
    have hw_g3 : w0.heap.size ≤ g3 := Nat.le_trans HS.size hg6
    replace HS := HS.trans hc5 (fun _ _ h_ => h_.elim)
    replace HW := HW.trans hc5 (fun _ _ h_ => h_.elim)
    refine wpList_nil ?_
    refine th_n ⟨HS, ?_⟩
    refine drun (lp := [(1, .int .i64 ((K : Nat) : Int)), (5, .slice (some ⟨g3, 0, none⟩) (R * K) (R * K)), (12, .int .i64 ((R : Nat) : Int))]) tbok (by kernel_rfl) [6] [] [1, 5, 12] (fun w_ => []) (fuel := 2) E (fun _ _ => by kernel_rfl) (fun w_ hS_ => trivial) (by kernel_rfl) HS ?_
    clear E; intro a E
    refine wpAnyH_all (rs := [5]) (by kernel_rfl) (by simp) ?_
    refine all1 ?_
    · refine wpOp_of_list rfl ?_
      refine e_makeL cRaw (z := (none, 0, 0)) R R No E rfl rfl tbok rfl rfl rfl rfl (by omega) (by omega) (by omega) (by show 24 * R ≤ 281474976710656; omega) (by omega) rfl rfl (fun _ _ => rfl) (fun _ h_ => h_.elim) ?_
      intro w9 g8 a hc10 hg11 M13 E_
      replace E := E_ _ rfl; clear E_
      have hi_g8 : w0.heap.size ≤ g8 := Nat.le_trans HW.size hg11
      have hw_g8 : w0.heap.size ≤ g8 := Nat.le_trans HS.size hg11
      have ne_g3_g8 : g3 ≠ g8 := by have h_ := L7.lt; omega
      replace L7 := L7.chg hc10 (fun h_ => h_) (fun _ _ h_ => h_)
      replace HS := HS.trans hc10 (fun _ _ h_ => h_.elim)
      replace HW := HW.trans hc10 (fun _ _ h_ => h_.elim)
      replace M13 := Mat.nil (d := (cInt .i64)) (e1 := 3) (base := w0.heap.size) M13 hi_g8
      replace M13 : Mat (cInt .i64) 3 31 w9 w0.heap.size (fun q_ => q_ = g8) g8 (List.replicate R []) := M13
      have sp_M13_g3 : ¬ (fun q_ => q_ = g8) g3 := fun h_ => ne_g3_g8 h_
      refine wpList_nil ?_
      refine th_n ⟨HS, ?_⟩
      refine drun (lp := [(1, .int .i64 ((K : Nat) : Int)), (5, .slice (some ⟨g3, 0, none⟩) (R * K) (R * K)), (6, .slice (some ⟨g8, 0, none⟩) R R)]) tbok (by kernel_rfl) [7] [] [1, 5, 6] (fun w_ => []) (fuel := 0) E (fun _ _ => by kernel_rfl) (fun w_ hS_ => trivial) (by kernel_rfl) HS ?_
      clear E; intro a E
      refine dr_done (by kernel_rfl) ?_
      clear HS HWs
      refine th_n ?_
      refine wp_seq ?_
      refine wp_seq ?_
      refine wp_region_lit ?_
      refine vrun (w := w9) (lp := [(1, .int .i64 ((K : Nat) : Int)), (5, .slice (some ⟨g3, 0, none⟩) (R * K) (R * K)), (6, .slice (some ⟨g8, 0, none⟩) R R), (15, .int .i64 ((R : Nat) : Int)), (16, .int .i64 0)]) (φ := []) tbok 3 [] [1, 5, 6, 15, 16] E (by kernel_rfl) trivial ?_
      clear E; intro a E
      refine wpList_nil ?_
      refine th_n ?_
      refine wp_block ?_
      refine loopV (fun m13 a w12 => ∃ (i : Nat) (Gm : Nat → Prop), Fr a 34 [(1, .int .i64 ((K : Nat) : Int)), (5, .slice (some ⟨g3, 0, none⟩) (R * K) (R * K)), (6, .slice (some ⟨g8, 0, none⟩) R R), (15, .int .i64 ((R : Nat) : Int)), (16, .int .i64 (i : Int))] ∧ Chg (Hi w0.heap.size) w0 w12 ∧ BL (cInt .i64) w12 No g3 3 (R * K) (List.replicate (R * K) 0) ∧ Mat (cInt .i64) 3 31 w12 w0.heap.size Gm g8 (madeK R K i) ∧ (¬ Gm g3) ∧ (i ≤ R) ∧ m13 = R - i) (R - (0)) ?_ ?_
      · skip
        exact ⟨0, (fun q_ => q_ = g8), E.pick _ ⟨rfl, rfl, rfl, rfl, rfl, trivial⟩, HW, L7, (M13.eq (made_start R K)), sp_M13_g3, (by omega), rfl⟩
      · clear E HW; intro m13 a w12 hI_
        obtain ⟨i, hI_⟩ := hI_
        obtain ⟨Gm, hI_⟩ := hI_
        clear L7
        clear M13
        clear sp_M13_g3
        obtain ⟨E, HW, L7, M13, sp_M13_g3, hi, hm_m13⟩ := hI_
        have hm1_ : i < R → (i + 1) * K ≤ R * K := fun h_ => Nat.mul_le_mul_right _ h_
        have hm2_ : (i + 1) * K = i * K + K := by rw [Nat.add_mul, Nat.one_mul]
        have hml_ := @madeK_len R K i hi
        refine wp_seq ?_
        refine wp_region_lit ?_
        refine vrun (w := w12) (lp := [(1, .int .i64 ((K : Nat) : Int)), (5, .slice (some ⟨g3, 0, none⟩) (R * K) (R * K)), (6, .slice (some ⟨g8, 0, none⟩) R R), (15, .int .i64 ((R : Nat) : Int)), (16, .int .i64 (i : Int)), (17, .bool (decide ((i : Int) < ((R : Nat) : Int))))]) (φ := []) tbok 1 [] [1, 5, 6, 15, 16, 17] E (by kernel_rfl) trivial ?_
        clear E; intro a E
        refine wpList_nil ?_
        refine th_n ?_
        refine wp_seq ?_
        refine E.cases (t := 17) rfl (fun hb_ E_ => ?_) (fun hb_ E_ => ?_)
        · replace E := E_; clear E_
          have h14 : (i : Int) < ((R : Nat) : Int) := of_decide_eq_true hb_
          clear hb_
          refine c_true E rfl ?_
          refine wp_skip ?_
          refine th_n ?_
          refine wp_seq ?_
          refine wp_block ?_
          refine wp_seq ?_
          refine wp_region_lit ?_
          refine vrun (w := w12) (lp := [(1, .int .i64 ((K : Nat) : Int)), (5, .slice (some ⟨g3, 0, none⟩) (R * K) (R * K)), (6, .slice (some ⟨g8, 0, none⟩) R R), (7, .int .i64 (i : Int)), (15, .int .i64 ((R : Nat) : Int)), (16, .int .i64 (i : Int))]) (φ := []) tbok 2 [] [1, 5, 6, 7, 15, 16] E (by kernel_rfl) trivial ?_
          clear E; intro a E
          refine wpList_nil ?_
          refine th_n ?_
          refine wp_region_lit ?_
          refine vrun (w := w12) (lp := [(1, .int .i64 ((K : Nat) : Int)), (5, .slice (some ⟨g3, 0, none⟩) (R * K) (R * K)), (6, .slice (some ⟨g8, 0, none⟩) R R), (15, .int .i64 ((R : Nat) : Int)), (16, .int .i64 (i : Int)), (19, .slice (some ⟨g8, 0, none⟩) R R), (20, .int .i64 (i : Int)), (21, .slice (some ⟨g3, 0, none⟩) (R * K) (R * K)), (24, .int .i64 ((i * K : Nat) : Int)), (28, .int .i64 (((i + 1) * K : Nat) : Int))]) (φ := [IntKind.i64.wrap ((i : Int) * ((K : Nat) : Int)) = ((i * K : Nat) : Int), IntKind.i64.wrap ((i : Int) + 1) = (i : Int) + 1, IntKind.i64.wrap (((i : Int) + 1) * ((K : Nat) : Int)) = (((i + 1) * K : Nat) : Int)]) tbok 10 [.int .i64 ((i * K : Nat) : Int), .int .i64 ((i : Int) + 1), .int .i64 (((i + 1) * K : Nat) : Int)] [1, 5, 6, 15, 16, 19, 20, 21, 24, 28] E (by kernel_rfl) ⟨(by rw [← Int.natCast_mul]; exact wrap_i64 (by omega) (by have h_ := hm1_ (by omega); omega)), wrap_i64 (by omega) (by omega), (by rw [show ((i : Int) + 1) = ((i + 1 : Nat) : Int) by omega, ← Int.natCast_mul]; exact wrap_i64 (by omega) (by have h_ := hm1_ (by omega); omega))⟩ ?_
          clear E; intro a E
          refine e_cut (g := g3) K E rfl rfl tbok rfl rfl rfl rfl rfl ⟨by omega, by have h_ := hm1_ (by omega); omega, by omega, by omega⟩ (by omega) rfl ?_
          clear E; intro a E
          have R30 := Row.nil (cInt .i64) 3 w12 w0.heap.size No
          have sp_R30_g3 := At.nil g3
          have sp_R30_M13 : ∀ q, At none q → ¬ Gm q := fun q h_ => absurd h_ (At.nil q)
          obtain ⟨cells_, hy_, hcc_⟩ := BL.cut L7 (l := (Int.toNat ((i * K : Nat) : Int))) (N := K) (by rw [Int.toNat_natCast]; have h_ := hm1_ (by omega); omega)
          rw [show ((List.take K (List.drop (Int.toNat ((i * K : Nat) : Int)) (List.replicate (R * K) 0))) : List Int) = List.replicate K (0 : Int) from made_cut (hm1_ (by omega))] at hy_
          have hi15 := R30.hi
          refine e_append (cInt .i64) (xs := []) (ys := (List.replicate K (0 : Int))) E rfl rfl tbok rfl rfl rfl rfl rfl rfl R30 rfl (by simp) hy_ hcc_ (by simp; omega) (by show (List.length [] + List.length (List.replicate K (0 : Int))) * 8 ≤ 140737488355328; simp; omega) HW.size (fun _ h_ => h_.elim) ?_
          intro w16 A17 c18 a hc19 R30n hn20 E_
          rw [List.nil_append] at E_ R30n
          replace E := E_ _ rfl; clear E_
          have sp_R30_g3' := At.step hn20 sp_R30_g3 L7.lt
          have sp_R30_M13' := At.stepF hn20 sp_R30_M13 M13.own
          replace L7 := L7.chg hc19 sp_R30_g3 (fun _ h_ => h_.elim)
          replace M13 := M13.keep hc19 (fun q_ h_ a_ => sp_R30_M13 q_ a_ h_)
          replace HW := HW.trans hc19 (fun _ _ h_ => hi15 _ h_)
          replace sp_R30_g3 := sp_R30_g3'; clear sp_R30_g3'
          replace sp_R30_M13 := sp_R30_M13'; clear sp_R30_M13'
          replace R30 := R30n; clear R30n
          have hx_31 : 0 ≤ (i : Int) ∧ (i : Int) < ((R : Nat) : Int) := ⟨by omega, by omega⟩
          refine vrun (w := w16) (lp := [(1, .int .i64 ((K : Nat) : Int)), (5, .slice (some ⟨g3, 0, none⟩) (R * K) (R * K)), (6, .slice (some ⟨g8, 0, none⟩) R R), (15, .int .i64 ((R : Nat) : Int)), (16, .int .i64 (i : Int)), (30, .slice A17 (List.length (List.replicate K (0 : Int))) c18), (31, .pointer (some ⟨g8, 0 + (Int.toNat (i : Int)) * 1, none⟩))]) (φ := [0 ≤ (i : Int) ∧ (i : Int) < ((R : Nat) : Int)]) tbok 1 [] [1, 5, 6, 15, 16, 30, 31] E (by kernel_rfl) (hx_31) ?_
          clear E; intro a E
          obtain ⟨hs21, Bh22, put23⟩ := M13.raw hx_31.1 (by have h1_ := hx_31.2; omega)
          have hbs_ : 0 ≤ (i : Int) ∧ (i : Int) < ((List.length (madeK R K i) : Nat) : Int) := ⟨hx_31.1, (by have h1_ := hx_31.2; omega)⟩
          refine e_setL (g := g8) (i := (i : Int)) (A17, List.length (List.replicate K (0 : Int)), c18) E rfl rfl rfl rfl tbok rfl Bh22 rfl rfl hbs_ rfl ?_
          clear E; intro w24 a hc25 Bh22n E
          have hg_ := M13.1
          have sp_R30_g8 : ¬ At A17 g8 := fun h_ => sp_R30_M13 _ h_ hg_
          replace L7 := L7.chg hc25 (fun h_ => sp_M13_g3 (by rw [h_]; exact M13.1)) (fun _ h_ => h_.elim)
          replace R30 := R30.keep hc25 (fun _ h_ => h_.elim) (fun g_ e_ h_ => by subst h_; exact sp_R30_g8 ⟨_, _, e_⟩)
          replace HW := HW.trans hc25 (fun _ _ h_ => by subst h_; exact hi_g8)
          replace M13 := put23 _ _ _ _ hc25 Bh22n R30 sp_R30_M13
          replace sp_M13_g3 : ¬ (FzA Gm A17) g3 := FzA.no sp_M13_g3 sp_R30_g3
          refine wpList_nil ?_
          refine bl_n ?_
          refine th_n ?_
          refine wp_region_lit ?_
          refine vrun (w := w24) (lp := [(1, .int .i64 ((K : Nat) : Int)), (5, .slice (some ⟨g3, 0, none⟩) (R * K) (R * K)), (6, .slice (some ⟨g8, 0, none⟩) R R), (15, .int .i64 ((R : Nat) : Int)), (16, .int .i64 ((i : Int) + 1))]) (φ := [IntKind.i64.wrap ((i : Int) + 1) = (i : Int) + 1]) tbok 2 [.int .i64 ((i : Int) + 1)] [1, 5, 6, 15, 16] E (by kernel_rfl) (wrap_i64 (by omega) (by omega)) ?_
          clear E; intro a E
          refine wpList_nil ?_
          refine th_n ⟨R - (i + 1), by omega, ?_⟩
          exact ⟨i + 1, (FzA Gm A17), E.pick _ ⟨rfl, rfl, rfl, rfl, rfl, trivial⟩, HW, L7, (M13.eq (made_step (by omega))), sp_M13_g3, (by omega), rfl⟩
        · replace E := E_; clear E_
          have h26 : ¬ ((i : Int) < ((R : Nat) : Int)) := of_decide_eq_false hb_
          clear hb_
          refine c_false E rfl ?_
          refine wp_exit ?_
          refine th_exit ?_
          refine th_exit ?_
          refine bl_hit ?_
          refine th_n ?_
          refine wp_seq ?_
          refine wp_region_lit ?_
          refine vrun (w := w12) (lp := [(4, .slice (some ⟨g8, 0, none⟩) R R)]) (φ := []) tbok 2 [] [4] E (by kernel_rfl) trivial ?_
          clear E; intro a E
          refine wpList_nil ?_
          refine th_n ?_
          refine wp_ret ?_
          refine ret1 E rfl rfl ?_
          obtain rfl : R = i := by omega
          exact ⟨_, rfl, g8, _, rfl, hi_g8, HW.own, M13.eq (made_end R K)⟩
  · refine wpOp_of_list rfl ?_
    refine e_makeL cRaw (z := (none, 0, 0)) R R No E rfl rfl tbok rfl rfl rfl rfl (by omega) (by omega) (by omega) (by show 24 * R ≤ 281474976710656; omega) (by omega) rfl rfl (fun _ _ => rfl) (fun _ h_ => h_.elim) ?_
    intro w28 g27 a hc29 hg30 M13 E_
    replace E := E_ _ rfl; clear E_
    have hi_g27 : w0.heap.size ≤ g27 := Nat.le_trans HW.size hg30
    have hw_g27 : w0.heap.size ≤ g27 := Nat.le_trans HS.size hg30
    replace HS := HS.trans hc29 (fun _ _ h_ => h_.elim)
    replace HW := HW.trans hc29 (fun _ _ h_ => h_.elim)
    replace M13 := Mat.nil (d := (cInt .i64)) (e1 := 3) (base := w0.heap.size) M13 hi_g27
    replace M13 : Mat (cInt .i64) 3 31 w28 w0.heap.size (fun q_ => q_ = g27) g27 (List.replicate R []) := M13
    refine wpList_nil ?_
    refine th_n ⟨HS, ?_⟩
    refine wpAnyH_all (rs := [3]) (by kernel_rfl) (by simp) ?_
    refine all1 ?_
    · refine wpOp_of_list rfl ?_
      refine e_makeL (cInt .i64) (z := 0) (R * K) (R * K) No E rfl rfl tbok rfl rfl rfl rfl (by omega) (by omega) (by omega) (by show 8 * (R * K) ≤ 281474976710656; omega) (by omega) rfl rfl (fun _ _ => rfl) (fun _ h_ => h_.elim) ?_
      intro w32 g31 a hc33 hg34 L35 E_
      replace E := E_ _ rfl; clear E_
      have hi_g31 : w0.heap.size ≤ g31 := Nat.le_trans HW.size hg34
      have hw_g31 : w0.heap.size ≤ g31 := Nat.le_trans HS.size hg34
      have sp_M13_g31 := M13.new hg34
      replace M13 := M13.keep hc33 (fun _ _ h_ => h_)
      replace HS := HS.trans hc33 (fun _ _ h_ => h_.elim)
      replace HW := HW.trans hc33 (fun _ _ h_ => h_.elim)
      refine wpList_nil ?_
      refine th_n ⟨HS, ?_⟩
      refine drun (lp := [(1, .int .i64 ((K : Nat) : Int)), (5, .slice (some ⟨g31, 0, none⟩) (R * K) (R * K)), (6, .slice (some ⟨g27, 0, none⟩) R R)]) tbok (by kernel_rfl) [6, 7] [] [1, 5, 6] (fun w_ => []) (fuel := 0) E (fun _ _ => by kernel_rfl) (fun w_ hS_ => trivial) (by kernel_rfl) HS ?_
      clear E; intro a E
      refine dr_done (by kernel_rfl) ?_
      clear HS HWs
      refine th_n ?_
      refine wp_seq ?_
      refine wp_seq ?_
      refine wp_region_lit ?_
      refine vrun (w := w32) (lp := [(1, .int .i64 ((K : Nat) : Int)), (5, .slice (some ⟨g31, 0, none⟩) (R * K) (R * K)), (6, .slice (some ⟨g27, 0, none⟩) R R), (15, .int .i64 ((R : Nat) : Int)), (16, .int .i64 0)]) (φ := []) tbok 3 [] [1, 5, 6, 15, 16] E (by kernel_rfl) trivial ?_
      clear E; intro a E
      refine wpList_nil ?_
      refine th_n ?_
      refine wp_block ?_
      refine loopV (fun m37 a w36 => ∃ (i : Nat) (Gm : Nat → Prop), Fr a 34 [(1, .int .i64 ((K : Nat) : Int)), (5, .slice (some ⟨g31, 0, none⟩) (R * K) (R * K)), (6, .slice (some ⟨g27, 0, none⟩) R R), (15, .int .i64 ((R : Nat) : Int)), (16, .int .i64 (i : Int))] ∧ Chg (Hi w0.heap.size) w0 w36 ∧ Mat (cInt .i64) 3 31 w36 w0.heap.size Gm g27 (madeK R K i) ∧ BL (cInt .i64) w36 No g31 3 (R * K) (List.replicate (R * K) 0) ∧ (¬ Gm g31) ∧ (i ≤ R) ∧ m37 = R - i) (R - (0)) ?_ ?_
      · skip
        exact ⟨0, (fun q_ => q_ = g27), E.pick _ ⟨rfl, rfl, rfl, rfl, rfl, trivial⟩, HW, (M13.eq (made_start R K)), L35, sp_M13_g31, (by omega), rfl⟩
      · clear E HW; intro m37 a w36 hI_
        obtain ⟨i, hI_⟩ := hI_
        obtain ⟨Gm, hI_⟩ := hI_
        clear M13
        clear L35
        clear sp_M13_g31
        obtain ⟨E, HW, M13, L35, sp_M13_g31, hi, hm_m37⟩ := hI_
        have hm1_ : i < R → (i + 1) * K ≤ R * K := fun h_ => Nat.mul_le_mul_right _ h_
        have hm2_ : (i + 1) * K = i * K + K := by rw [Nat.add_mul, Nat.one_mul]
        have hml_ := @madeK_len R K i hi
        refine wp_seq ?_
        refine wp_region_lit ?_
        refine vrun (w := w36) (lp := [(1, .int .i64 ((K : Nat) : Int)), (5, .slice (some ⟨g31, 0, none⟩) (R * K) (R * K)), (6, .slice (some ⟨g27, 0, none⟩) R R), (15, .int .i64 ((R : Nat) : Int)), (16, .int .i64 (i : Int)), (17, .bool (decide ((i : Int) < ((R : Nat) : Int))))]) (φ := []) tbok 1 [] [1, 5, 6, 15, 16, 17] E (by kernel_rfl) trivial ?_
        clear E; intro a E
        refine wpList_nil ?_
        refine th_n ?_
        refine wp_seq ?_
        refine E.cases (t := 17) rfl (fun hb_ E_ => ?_) (fun hb_ E_ => ?_)
        · replace E := E_; clear E_
          have h38 : (i : Int) < ((R : Nat) : Int) := of_decide_eq_true hb_
          clear hb_
          refine c_true E rfl ?_
          refine wp_skip ?_
          refine th_n ?_
          refine wp_seq ?_
          refine wp_block ?_
          refine wp_seq ?_
          refine wp_region_lit ?_
          refine vrun (w := w36) (lp := [(1, .int .i64 ((K : Nat) : Int)), (5, .slice (some ⟨g31, 0, none⟩) (R * K) (R * K)), (6, .slice (some ⟨g27, 0, none⟩) R R), (7, .int .i64 (i : Int)), (15, .int .i64 ((R : Nat) : Int)), (16, .int .i64 (i : Int))]) (φ := []) tbok 2 [] [1, 5, 6, 7, 15, 16] E (by kernel_rfl) trivial ?_
          clear E; intro a E
          refine wpList_nil ?_
          refine th_n ?_
          refine wp_region_lit ?_
          refine vrun (w := w36) (lp := [(1, .int .i64 ((K : Nat) : Int)), (5, .slice (some ⟨g31, 0, none⟩) (R * K) (R * K)), (6, .slice (some ⟨g27, 0, none⟩) R R), (15, .int .i64 ((R : Nat) : Int)), (16, .int .i64 (i : Int)), (19, .slice (some ⟨g27, 0, none⟩) R R), (20, .int .i64 (i : Int)), (21, .slice (some ⟨g31, 0, none⟩) (R * K) (R * K)), (24, .int .i64 ((i * K : Nat) : Int)), (28, .int .i64 (((i + 1) * K : Nat) : Int))]) (φ := [IntKind.i64.wrap ((i : Int) * ((K : Nat) : Int)) = ((i * K : Nat) : Int), IntKind.i64.wrap ((i : Int) + 1) = (i : Int) + 1, IntKind.i64.wrap (((i : Int) + 1) * ((K : Nat) : Int)) = (((i + 1) * K : Nat) : Int)]) tbok 10 [.int .i64 ((i * K : Nat) : Int), .int .i64 ((i : Int) + 1), .int .i64 (((i + 1) * K : Nat) : Int)] [1, 5, 6, 15, 16, 19, 20, 21, 24, 28] E (by kernel_rfl) ⟨(by rw [← Int.natCast_mul]; exact wrap_i64 (by omega) (by have h_ := hm1_ (by omega); omega)), wrap_i64 (by omega) (by omega), (by rw [show ((i : Int) + 1) = ((i + 1 : Nat) : Int) by omega, ← Int.natCast_mul]; exact wrap_i64 (by omega) (by have h_ := hm1_ (by omega); omega))⟩ ?_
          clear E; intro a E
          refine e_cut (g := g31) K E rfl rfl tbok rfl rfl rfl rfl rfl ⟨by omega, by have h_ := hm1_ (by omega); omega, by omega, by omega⟩ (by omega) rfl ?_
          clear E; intro a E
          have R30 := Row.nil (cInt .i64) 3 w36 w0.heap.size No
          have sp_R30_M13 : ∀ q, At none q → ¬ Gm q := fun q h_ => absurd h_ (At.nil q)
          have sp_R30_g31 := At.nil g31
          obtain ⟨cells_, hy_, hcc_⟩ := BL.cut L35 (l := (Int.toNat ((i * K : Nat) : Int))) (N := K) (by rw [Int.toNat_natCast]; have h_ := hm1_ (by omega); omega)
          rw [show ((List.take K (List.drop (Int.toNat ((i * K : Nat) : Int)) (List.replicate (R * K) 0))) : List Int) = List.replicate K (0 : Int) from made_cut (hm1_ (by omega))] at hy_
          have hi39 := R30.hi
          refine e_append (cInt .i64) (xs := []) (ys := (List.replicate K (0 : Int))) E rfl rfl tbok rfl rfl rfl rfl rfl rfl R30 rfl (by simp) hy_ hcc_ (by simp; omega) (by show (List.length [] + List.length (List.replicate K (0 : Int))) * 8 ≤ 140737488355328; simp; omega) HW.size (fun _ h_ => h_.elim) ?_
          intro w40 A41 c42 a hc43 R30n hn44 E_
          rw [List.nil_append] at E_ R30n
          replace E := E_ _ rfl; clear E_
          have sp_R30_M13' := At.stepF hn44 sp_R30_M13 M13.own
          have sp_R30_g31' := At.step hn44 sp_R30_g31 L35.lt
          replace M13 := M13.keep hc43 (fun q_ h_ a_ => sp_R30_M13 q_ a_ h_)
          replace L35 := L35.chg hc43 sp_R30_g31 (fun _ h_ => h_.elim)
          replace HW := HW.trans hc43 (fun _ _ h_ => hi39 _ h_)
          replace sp_R30_M13 := sp_R30_M13'; clear sp_R30_M13'
          replace sp_R30_g31 := sp_R30_g31'; clear sp_R30_g31'
          replace R30 := R30n; clear R30n
          have hx_31 : 0 ≤ (i : Int) ∧ (i : Int) < ((R : Nat) : Int) := ⟨by omega, by omega⟩
          refine vrun (w := w40) (lp := [(1, .int .i64 ((K : Nat) : Int)), (5, .slice (some ⟨g31, 0, none⟩) (R * K) (R * K)), (6, .slice (some ⟨g27, 0, none⟩) R R), (15, .int .i64 ((R : Nat) : Int)), (16, .int .i64 (i : Int)), (30, .slice A41 (List.length (List.replicate K (0 : Int))) c42), (31, .pointer (some ⟨g27, 0 + (Int.toNat (i : Int)) * 1, none⟩))]) (φ := [0 ≤ (i : Int) ∧ (i : Int) < ((R : Nat) : Int)]) tbok 1 [] [1, 5, 6, 15, 16, 30, 31] E (by kernel_rfl) (hx_31) ?_
          clear E; intro a E
          obtain ⟨hs45, Bh46, put47⟩ := M13.raw hx_31.1 (by have h1_ := hx_31.2; omega)
          have hbs_ : 0 ≤ (i : Int) ∧ (i : Int) < ((List.length (madeK R K i) : Nat) : Int) := ⟨hx_31.1, (by have h1_ := hx_31.2; omega)⟩
          refine e_setL (g := g27) (i := (i : Int)) (A41, List.length (List.replicate K (0 : Int)), c42) E rfl rfl rfl rfl tbok rfl Bh46 rfl rfl hbs_ rfl ?_
          clear E; intro w48 a hc49 Bh46n E
          have hg_ := M13.1
          have sp_R30_g27 : ¬ At A41 g27 := fun h_ => sp_R30_M13 _ h_ hg_
          replace L35 := L35.chg hc49 (fun h_ => sp_M13_g31 (by rw [h_]; exact M13.1)) (fun _ h_ => h_.elim)
          replace R30 := R30.keep hc49 (fun _ h_ => h_.elim) (fun g_ e_ h_ => by subst h_; exact sp_R30_g27 ⟨_, _, e_⟩)
          replace HW := HW.trans hc49 (fun _ _ h_ => by subst h_; exact hi_g27)
          replace M13 := put47 _ _ _ _ hc49 Bh46n R30 sp_R30_M13
          replace sp_M13_g31 : ¬ (FzA Gm A41) g31 := FzA.no sp_M13_g31 sp_R30_g31
          refine wpList_nil ?_
          refine bl_n ?_
          refine th_n ?_
          refine wp_region_lit ?_
          refine vrun (w := w48) (lp := [(1, .int .i64 ((K : Nat) : Int)), (5, .slice (some ⟨g31, 0, none⟩) (R * K) (R * K)), (6, .slice (some ⟨g27, 0, none⟩) R R), (15, .int .i64 ((R : Nat) : Int)), (16, .int .i64 ((i : Int) + 1))]) (φ := [IntKind.i64.wrap ((i : Int) + 1) = (i : Int) + 1]) tbok 2 [.int .i64 ((i : Int) + 1)] [1, 5, 6, 15, 16] E (by kernel_rfl) (wrap_i64 (by omega) (by omega)) ?_
          clear E; intro a E
          refine wpList_nil ?_
          refine th_n ⟨R - (i + 1), by omega, ?_⟩
          exact ⟨i + 1, (FzA Gm A41), E.pick _ ⟨rfl, rfl, rfl, rfl, rfl, trivial⟩, HW, (M13.eq (made_step (by omega))), L35, sp_M13_g31, (by omega), rfl⟩
        · replace E := E_; clear E_
          have h50 : ¬ ((i : Int) < ((R : Nat) : Int)) := of_decide_eq_false hb_
          clear hb_
          refine c_false E rfl ?_
          refine wp_exit ?_
          refine th_exit ?_
          refine th_exit ?_
          refine bl_hit ?_
          refine th_n ?_
          refine wp_seq ?_
          refine wp_region_lit ?_
          refine vrun (w := w36) (lp := [(4, .slice (some ⟨g27, 0, none⟩) R R)]) (φ := []) tbok 2 [] [4] E (by kernel_rfl) trivial ?_
          clear E; intro a E
          refine wpList_nil ?_
          refine th_n ?_
          refine wp_ret ?_
          refine ret1 E rfl rfl ?_
          obtain rfl : R = i := by omega
          exact ⟨_, rfl, g27, _, rfl, hi_g27, HW.own, M13.eq (made_end R K)⟩

def near_made_int (N : Nat) (rows columns : Int) : Option (List (List Int)) :=
  ask ((0 ≤ rows ∧ rows ≤ 100000) ∧ (0 ≤ columns ∧ columns ≤ 100000) ∧ rows * columns ≤ 10000000) <|
  some (List.replicate (Int.toNat rows) (List.replicate (Int.toNat columns) 0))
theorem near_made_int_calls {N : Nat} {S Fa : Nat → Prop} {w0 : World} {r : List (List Int)} (rows columns : Int) (H : Hp S Fa w0 w0 []) (hP : near_made_int N rows columns = some r) :
    Calls Try.prog 51 #[.int .i64 rows, .int .i64 columns] w0 fun e w' => ∃ v, e = .returned v ∧ ∃ (g : Nat) (G : Nat → Prop) (c : Nat), v = .slice (some ⟨g, 0, none⟩) (List.length r) c ∧ Hp S Fa w0 w' [.mat (cInt .i64) 3 31 G g c r] := by
  rw [near_made_int] at hP
  obtain ⟨h, hP⟩ := ask_inv hP
  obtain rfl := Option.some.inj hP
  obtain ⟨⟨h1, h2⟩, ⟨h3, h4⟩, h5⟩ := h
  obtain ⟨R, rfl⟩ : ∃ R : Nat, rows = (R : Int) := ⟨rows.toNat, by omega⟩
  obtain ⟨K, rfl⟩ : ∃ K : Nat, columns = (K : Int) := ⟨columns.toNat, by omega⟩
  have h6 : R * K ≤ 10000000 := by
    rw [← Int.natCast_mul] at h5
    omega
  refine (made_callsRK R K w0 (by omega) (by omega) h6).mono fun e w' h => ?_
  obtain ⟨v, he, g, G, hv, hg, hx, hM⟩ := h
  refine ⟨v, he, g, G, R, ?_, ?_⟩
  · rw [hv, List.length_replicate, Int.toNat_natCast]
  · rw [Int.toNat_natCast, Int.toNat_natCast]
    exact H.newM hx hM (by rw [List.length_replicate]; exact Nat.le_refl _)
end Go.V
