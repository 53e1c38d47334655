/- Contracts of functions of the program: walks. -/
import Derived.Test.YtllkojpinpojiaaCx
import Derived.Test.YtllkojpinpojiaaTb
set_option linter.all false
set_option linter.unusedVariables false
set_option linter.unnecessarySimpa false
set_option linter.unusedSimpArgs false
namespace Go.V
open Go Go.Proofs

/-! rejoinder/guard.good -/
set_option maxRecDepth 100000 in
theorem good_calls (p0 : Int) (A1 A2 A3 : Option Addr) (c1 c2 c3 : Nat) (acc : List Bool) (gd : List Int) (nodes : List Nd) (ref below above : Int) (w0 : World) (hn : acc.length ≤ 1000) (hb : below ≤ nodes.length) (H3 : C cNode w0 (Lo w0.heap.size) A3 nodes) :
    Calls Try.prog 32 #[.agg #[.int .i64 p0, .slice A1 acc.length c1, .slice A2 gd.length c2, .slice A3 nodes.length c3], .int .i64 ref, .int .i64 below, .int .i64 above] w0 fun e w' => ∃ v, e = .returned v ∧ (v = .bool (goodB acc.length nodes ref below above) ∧ Ext w0 w') := by
  have HW : Chg (Hi w0.heap.size) w0 w0 := Chg.refl _ _
  refine enterV (n := 30) Try.func32 rfl rfl rfl ?_
  intro a E
  replace E := E.pick [(0, .agg #[.int .i64 p0, .slice A1 acc.length c1, .slice A2 gd.length c2, .slice A3 nodes.length c3]), (1, .int .i64 ref), (2, .int .i64 below), (3, .int .i64 above)] ⟨rfl, rfl, rfl, rfl, trivial⟩
  refine wp_seq ?_
  refine wp_region_lit ?_
  refine e_box E rfl rfl rfl ?_
  intro w2 g1 a hc3 hg4 B5 E_
  replace E := E_ _ rfl; clear E_
  replace B5 : Bx w2 g1 26 [.int .i64 p0, .slice A1 acc.length c1, .slice A2 gd.length c2, .slice A3 nodes.length c3] := B5
  have hi_g1 : w0.heap.size ≤ g1 := Nat.le_trans HW.size hg4
  replace HW := HW.trans hc3 (fun _ _ h_ => h_.elim)
  refine vrun (w := w2) (lp := [(1, .int .i64 ref), (2, .int .i64 below), (3, .int .i64 above), (4, .pointer (some ⟨g1, 0, none⟩))]) (φ := []) tbok 1 [] [1, 2, 3, 4] E (by kernel_rfl) trivial ?_
  clear E; intro a E
  refine wpList_nil ?_
  refine th_n ?_
  refine wp_seq ?_
  refine wp_seq ?_
  refine wp_region_lit ?_
  refine vrun (w := w2) (lp := [(1, .int .i64 ref), (2, .int .i64 below), (3, .int .i64 above), (4, .pointer (some ⟨g1, 0, none⟩)), (10, .bool (decide (ref < 0)))]) (φ := []) tbok 2 [] [1, 2, 3, 4, 10] E (by kernel_rfl) trivial ?_
  clear E; intro a E
  refine wpList_nil ?_
  refine th_n ?_
  refine E.cases (t := 10) rfl (fun hb_ E_ => ?_) (fun hb_ E_ => ?_)
  · replace E := E_; clear E_
    have h6 : ref < 0 := of_decide_eq_true hb_
    clear hb_
    refine c_true E rfl ?_
    refine wp_seq ?_
    refine wp_region_lit ?_
    refine vrun (w := w2) (lp := [(8, .bool (decide ((-((acc.length : Nat) : Int)) ≤ ref)))]) (φ := [World.cell? w2 ⟨g1, 1, none⟩ = some (.slice A1 acc.length c1), IntKind.i64.wrap (0 - ((acc.length : Nat) : Int)) = -((acc.length : Nat) : Int)]) tbok 7 [.slice A1 acc.length c1, .int .i64 (-((acc.length : Nat) : Int))] [8] E (by kernel_rfl) ⟨B5.cell (j := 1) rfl, wrap_neg (by omega) (by omega)⟩ ?_
    clear E; intro a E
    refine wpList_nil ?_
    refine th_n ?_
    refine wp_ret ?_
    refine th_ret ?_
    refine ret1 E rfl rfl ?_
    exact ⟨_, rfl, by simp [goodB, *], HW.own⟩
  · replace E := E_; clear E_
    have h7 : ¬ (ref < 0) := of_decide_eq_false hb_
    clear hb_
    refine c_false E rfl ?_
    refine wp_skip ?_
    refine th_n ?_
    refine wp_seq ?_
    refine wp_region_lit ?_
    refine vrun (w := w2) (lp := [(1, .int .i64 ref), (3, .int .i64 above), (4, .pointer (some ⟨g1, 0, none⟩)), (20, .bool (decide (ref < below)))]) (φ := []) tbok 4 [] [1, 3, 4, 20] E (by kernel_rfl) trivial ?_
    clear E; intro a E
    refine E.cases (t := 20) rfl (fun hb_ E_ => ?_) (fun hb_ E_ => ?_)
    · replace E := E_; clear E_
      have h8 : ref < below := of_decide_eq_true hb_
      clear hb_
      have hx_24 : 0 ≤ ref ∧ ref < ((nodes.length : Nat) : Int) := ⟨by omega, by omega⟩
      obtain ⟨b9, o10, e_b9⟩ := H3.addr (by omega)
      subst e_b9
      refine vrun (w := w2) (lp := [(8, .bool (decide (above < ((List.getD nodes (Int.toNat ref) default).P))))]) (φ := [World.cell? w2 ⟨g1, 3, none⟩ = some (.slice (some ⟨b9, o10, none⟩) nodes.length c3), 0 ≤ ref ∧ ref < ((nodes.length : Nat) : Int), World.cell? w2 ⟨b9, o10 + (Int.toNat ref) * 3, none⟩ = some (.int .i64 ((List.getD nodes (Int.toNat ref) default).P))]) tbok 10 [.slice (some ⟨b9, o10, none⟩) nodes.length c3, .int .i64 ((List.getD nodes (Int.toNat ref) default).P)] [8] E (by kernel_rfl) ⟨B5.cell (j := 3) rfl, hx_24, (C.atP (H3.keep HW lo_hi) default hx_24.1 hx_24.2).1⟩ ?_
      clear E; intro a E
      refine wpList_nil ?_
      refine th_n ?_
      refine wp_ret ?_
      refine ret1 E rfl rfl ?_
      exact ⟨_, rfl, by simp [goodB, *], HW.own⟩
    · replace E := E_; clear E_
      have h11 : ¬ (ref < below) := of_decide_eq_false hb_
      clear hb_
      refine vrun (w := w2) (lp := [(8, .bool false)]) (φ := []) tbok 10 [] [8] E (by kernel_rfl) trivial ?_
      clear E; intro a E
      refine wpList_nil ?_
      refine th_n ?_
      refine wp_ret ?_
      refine ret1 E rfl rfl ?_
      exact ⟨_, rfl, by simp [goodB, *], HW.own⟩

end Go.V
