/- Contracts of functions of the program: walks. -/
import Derived.Test.YtllkojpinpojiaaAw
import Derived.Test.YtllkojpinpojiaaLl
set_option linter.all false
set_option linter.unusedVariables false
set_option linter.unnecessarySimpa false
set_option linter.unusedSimpArgs false
namespace Go.V
open Go Go.Proofs

/-! rejoinder/rejoinderlaw22.BoardGoes -/
set_option maxRecDepth 100000 in
theorem lawGoes_calls (p0 : Int) (A1 A2 A3 : Option Addr) (c1 c2 c3 : Nat) (acc : List Bool) (gd : List Int) (nodes : List Nd) (env q : Int) (w0 : World) (hl1 : acc.length ≤ 9223372036854775807) (hl2 : gd.length ≤ 9223372036854775807) (hl3 : nodes.length ≤ 9223372036854775807) (H1 : C cBool w0 (Lo w0.heap.size) A1 acc) (H2 : C (cInt .i64) w0 (Lo w0.heap.size) A2 gd) (H3 : C cNode w0 (Lo w0.heap.size) A3 nodes) (he : 0 ≤ env ∧ env ≤ 255) (hq : -9223372036854775808 ≤ q ∧ q ≤ 9223372036854775807) (hW : ∀ x ∈ nodes, x.wf) (hG : ∀ x ∈ gd, -9223372036854775808 ≤ x ∧ x ≤ 9223372036854775807) :
    Calls Try.prog 3 #[.agg #[.int .i64 p0, .slice A1 acc.length c1, .slice A2 gd.length c2, .slice A3 nodes.length c3], .int .u8 env, .int .i64 q] w0 fun e w' => ∃ v, e = .returned v ∧ (v = .bool true ∧ Ext w0 w') := by
  have HW : Chg (Hi w0.heap.size) w0 w0 := Chg.refl _ _
  refine enterV (n := 150) Try.func3 rfl rfl rfl ?_
  intro a E
  replace E := E.pick [(0, .agg #[.int .i64 p0, .slice A1 acc.length c1, .slice A2 gd.length c2, .slice A3 nodes.length c3]), (1, .int .u8 env), (2, .int .i64 q)] ⟨rfl, rfl, rfl, trivial⟩
  refine wp_seq ?_
  refine wp_region_lit ?_
  refine e_box E rfl rfl rfl ?_
  intro w2 g1 a hc3 hg4 B5 E_
  replace E := E_ _ rfl; clear E_
  replace B5 : Bx w2 g1 26 [.int .i64 p0, .slice A1 acc.length c1, .slice A2 gd.length c2, .slice A3 nodes.length c3] := B5
  have hi_g1 : w0.heap.size ≤ g1 := Nat.le_trans HW.size hg4
  replace HW := HW.trans hc3 (fun _ _ h_ => h_.elim)
  refine vrun (w := w2) (lp := [(1, .int .u8 env), (2, .int .i64 q), (3, .pointer (some ⟨g1, 0, none⟩))]) (φ := []) tbok 1 [] [1, 2, 3] E (by kernel_rfl) trivial ?_
  clear E; intro a E
  refine wpList_nil ?_
  refine th_n ?_
  refine wp_seq ?_
  refine wp_region_lit ?_
  refine e_call E rfl rfl Try.func7 rfl rfl rfl (awake_calls _) ?_
  intro v6 w7 a hR8 E_
  obtain ⟨rfl, hc9⟩ := hR8
  replace E := E_ _ rfl; clear E_
  replace B5 := B5.chg hc9 (fun h_ => h_)
  replace HW := HW.trans hc9 (fun _ _ h_ => h_.elim)
  refine vrun (w := w7) (lp := [(1, .int .u8 env), (2, .int .i64 q), (3, .pointer (some ⟨g1, 0, none⟩)), (7, .bool true)]) (φ := []) tbok 1 [] [1, 2, 3, 7] E (by kernel_rfl) trivial ?_
  clear E; intro a E
  refine wpList_nil ?_
  refine th_n ?_
  refine wp_seq ?_
  refine wp_seq ?_
  refine wp_region_lit ?_
  refine vrun (w := w7) (lp := [(1, .int .u8 env), (2, .int .i64 q), (3, .pointer (some ⟨g1, 0, none⟩)), (7, .bool true), (20, .agg #[.int .i64 p0, .slice A1 acc.length c1, .slice A2 gd.length c2, .slice A3 nodes.length c3])]) (φ := [cellsAt w7 g1 (0) [.int .i64 p0, .slice A1 acc.length c1, .slice A2 gd.length c2, .slice A3 nodes.length c3]]) tbok 1 [.agg #[.int .i64 p0, .slice A1 acc.length c1, .slice A2 gd.length c2, .slice A3 nodes.length c3]] [1, 2, 3, 7, 20] E (by kernel_rfl) (B5.sub 0 _ rfl) ?_
  clear E; intro a E
  refine e_call E rfl rfl Try.func8 rfl rfl rfl (Large_calls p0 A1 A2 A3 c1 c2 c3 acc gd nodes _ ) ?_
  intro v10 w11 a hR12 E_
  obtain ⟨rfl, hc13⟩ := hR12
  replace E := E_ _ rfl; clear E_
  replace B5 := B5.chg hc13 (fun h_ => h_)
  replace HW := HW.trans hc13 (fun _ _ h_ => h_.elim)
  refine vrun (w := w11) (lp := [(1, .int .u8 env), (2, .int .i64 q), (3, .pointer (some ⟨g1, 0, none⟩)), (7, .bool true), (22, .bool (largeB p0 (List.length acc) (List.length gd) (List.length nodes)))]) (φ := []) tbok 1 [] [1, 2, 3, 7, 22] E (by kernel_rfl) trivial ?_
  clear E; intro a E
  refine E.cases (t := 22) rfl (fun hb_ E_ => ?_) (fun hb_ E_ => ?_)
  · replace E := E_; clear E_
    have h14 : (largeB p0 (List.length acc) (List.length gd) (List.length nodes)) = true := hb_
    clear hb_
    refine vrun (w := w11) (lp := [(1, .int .u8 env), (2, .int .i64 q), (3, .pointer (some ⟨g1, 0, none⟩)), (7, .bool true), (26, .bool true)]) (φ := []) tbok 4 [] [1, 2, 3, 7, 26] E (by kernel_rfl) trivial ?_
    clear E; intro a E
    refine wpList_nil ?_
    refine th_n ?_
    refine c_true E rfl ?_
    refine wp_seq ?_
    refine wp_region_lit ?_
    refine vrun (w := w11) (lp := [(6, .bool true)]) (φ := []) tbok 2 [] [6] E (by kernel_rfl) trivial ?_
    clear E; intro a E
    refine wpList_nil ?_
    refine th_n ?_
    refine wp_ret ?_
    refine th_ret ?_
    refine ret1 E rfl rfl ?_
    exact ⟨_, rfl, rfl, HW.own⟩
  · replace E := E_; clear E_
    have h15 : (largeB p0 (List.length acc) (List.length gd) (List.length nodes)) = false := hb_
    clear hb_
    refine vrun (w := w11) (lp := [(1, .int .u8 env), (2, .int .i64 q), (3, .pointer (some ⟨g1, 0, none⟩)), (7, .bool true), (22, .bool false), (23, .agg #[.int .i64 p0, .slice A1 acc.length c1, .slice A2 gd.length c2, .slice A3 nodes.length c3])]) (φ := [cellsAt w11 g1 (0) [.int .i64 p0, .slice A1 acc.length c1, .slice A2 gd.length c2, .slice A3 nodes.length c3]]) tbok 1 [.agg #[.int .i64 p0, .slice A1 acc.length c1, .slice A2 gd.length c2, .slice A3 nodes.length c3]] [1, 2, 3, 7, 22, 23] E (by kernel_rfl) (B5.sub 0 _ rfl) ?_
    clear E; intro a E
    obtain ⟨hb1_, hb2_, hb3_, hb4_, hb5_⟩ := largeB_no (by assumption)
    refine e_call E rfl rfl Try.func9 rfl rfl rfl (Check_calls p0 A1 A2 A3 c1 c2 c3 acc gd nodes  _ (by omega) (by omega) (by omega) (H1.now HW) (H2.now HW) (H3.now HW) hW) ?_
    intro v16 w17 a hR18 E_
    obtain ⟨rfl, hc19⟩ := hR18
    replace E := E_ _ rfl; clear E_
    replace B5 := B5.chg hc19 (fun h_ => h_)
    replace HW := HW.trans hc19 (fun _ _ h_ => h_.elim)
    refine vrun (w := w17) (lp := [(1, .int .u8 env), (2, .int .i64 q), (3, .pointer (some ⟨g1, 0, none⟩)), (7, .bool true), (26, .bool ((checkV p0 (List.length acc) gd nodes : Int) != 0))]) (φ := []) tbok 2 [] [1, 2, 3, 7, 26] E (by kernel_rfl) trivial ?_
    clear E; intro a E
    refine wpList_nil ?_
    refine th_n ?_
    refine E.cases (t := 26) rfl (fun hb_ E_ => ?_) (fun hb_ E_ => ?_)
    · replace E := E_; clear E_
      have h20 : ¬ ((checkV p0 (List.length acc) gd nodes : Int) = 0) := bne_iff_ne.1 hb_
      clear hb_
      refine c_true E rfl ?_
      refine wp_seq ?_
      refine wp_region_lit ?_
      refine vrun (w := w17) (lp := [(6, .bool true)]) (φ := []) tbok 2 [] [6] E (by kernel_rfl) trivial ?_
      clear E; intro a E
      refine wpList_nil ?_
      refine th_n ?_
      refine wp_ret ?_
      refine th_ret ?_
      refine ret1 E rfl rfl ?_
      exact ⟨_, rfl, rfl, HW.own⟩
    · replace E := E_; clear E_
      have h21 : (checkV p0 (List.length acc) gd nodes : Int) = 0 := bne_eq_false_iff_eq.1 hb_
      clear hb_
      refine c_false E rfl ?_
      refine wp_skip ?_
      refine th_n ?_
      refine wp_seq ?_
      refine wp_seq ?_
      refine wp_region_lit ?_
      refine vrun (w := w17) (lp := [(1, .int .u8 env), (2, .int .i64 q), (3, .pointer (some ⟨g1, 0, none⟩)), (7, .bool true), (28, .agg #[.int .i64 p0, .slice A1 acc.length c1, .slice A2 gd.length c2, .slice A3 nodes.length c3])]) (φ := [cellsAt w17 g1 (0) [.int .i64 p0, .slice A1 acc.length c1, .slice A2 gd.length c2, .slice A3 nodes.length c3]]) tbok 1 [.agg #[.int .i64 p0, .slice A1 acc.length c1, .slice A2 gd.length c2, .slice A3 nodes.length c3]] [1, 2, 3, 7, 28] E (by kernel_rfl) (B5.sub 0 _ rfl) ?_
      clear E; intro a E
      refine e_call E rfl rfl Try.func10 rfl rfl rfl (Real_calls p0 A1 A2 A3 c1 c2 c3 acc gd nodes _ ) ?_
      intro v22 w23 a hR24 E_
      obtain ⟨rfl, hc25⟩ := hR24
      replace E := E_ _ rfl; clear E_
      replace B5 := B5.chg hc25 (fun h_ => h_)
      replace HW := HW.trans hc25 (fun _ _ h_ => h_.elim)
      refine vrun (w := w23) (lp := [(1, .int .u8 env), (2, .int .i64 q), (3, .pointer (some ⟨g1, 0, none⟩)), (7, .bool true), (31, .bool (!(realB (List.length acc) (List.length gd))))]) (φ := []) tbok 2 [] [1, 2, 3, 7, 31] E (by kernel_rfl) trivial ?_
      clear E; intro a E
      refine E.cases (t := 31) rfl (fun hb_ E_ => ?_) (fun hb_ E_ => ?_)
      · replace E := E_; clear E_
        have h26 : realB (List.length acc) (List.length gd) = false := not_t hb_
        clear hb_
        exact absurd (real_ok (checkV_yes (by assumption : checkV p0 acc.length gd nodes = 0))) (by rw [h26]; exact Bool.false_ne_true)
      · replace E := E_; clear E_
        have h27 : realB (List.length acc) (List.length gd) = true := not_f hb_
        clear hb_
        refine vrun (w := w23) (lp := [(1, .int .u8 env), (2, .int .i64 q), (3, .pointer (some ⟨g1, 0, none⟩)), (7, .bool true), (35, .bool (decide (p0 < 0)))]) (φ := [World.cell? w23 ⟨g1, 0, none⟩ = some (.int .i64 p0)]) tbok 4 [.int .i64 p0] [1, 2, 3, 7, 35] E (by kernel_rfl) (B5.cell (j := 0) rfl) ?_
        clear E; intro a E
        refine wpList_nil ?_
        refine th_n ?_
        refine E.cases (t := 35) rfl (fun hb_ E_ => ?_) (fun hb_ E_ => ?_)
        · replace E := E_; clear E_
          have h28 : p0 < 0 := of_decide_eq_true hb_
          clear hb_
          exact absurd h28 (by have h_ := (checkV_yes (by assumption : checkV p0 acc.length gd nodes = 0)).p0; omega)
        · replace E := E_; clear E_
          have h29 : ¬ (p0 < 0) := of_decide_eq_false hb_
          clear hb_
          refine c_false E rfl ?_
          refine wp_skip ?_
          refine th_n ?_
          refine wp_seq ?_
          refine wp_seq ?_
          refine wp_region_lit ?_
          have hx_38 : 0 ≤ (0 : Int) ∧ (0 : Int) < ((acc.length : Nat) : Int) := ⟨by omega, by have h_ := (checkV_yes (by assumption : checkV p0 acc.length gd nodes = 0)).n1; omega⟩
          obtain ⟨b30, o31, e_b30⟩ := H1.addr (by omega)
          subst e_b30
          refine vrun (w := w23) (lp := [(1, .int .u8 env), (2, .int .i64 q), (3, .pointer (some ⟨g1, 0, none⟩)), (7, .bool true), (39, .bool (List.getD acc (Int.toNat (0 : Int)) false))]) (φ := [World.cell? w23 ⟨g1, 1, none⟩ = some (.slice (some ⟨b30, o31, none⟩) acc.length c1), 0 ≤ (0 : Int) ∧ (0 : Int) < ((acc.length : Nat) : Int), World.cell? w23 ⟨b30, o31 + (Int.toNat (0 : Int)) * 1, none⟩ = some (.bool (List.getD acc (Int.toNat (0 : Int)) false))]) tbok 4 [.slice (some ⟨b30, o31, none⟩) acc.length c1, .bool (List.getD acc (Int.toNat (0 : Int)) false)] [1, 2, 3, 7, 39] E (by kernel_rfl) ⟨B5.cell (j := 1) rfl, hx_38, C.at1 (H1.keep HW lo_hi) false hx_38.1 hx_38.2⟩ ?_
          clear E; intro a E
          refine wpList_nil ?_
          refine th_n ?_
          refine E.cases (t := 39) rfl (fun hb_ E_ => ?_) (fun hb_ E_ => ?_)
          · replace E := E_; clear E_
            have h32 : ((List.getD acc (Int.toNat (0 : Int)) false)) = true := hb_
            clear hb_
            refine c_true E rfl ?_
            refine wp_seq ?_
            refine wp_region_lit ?_
            refine vrun (w := w23) (lp := [(6, .bool true)]) (φ := []) tbok 2 [] [6] E (by kernel_rfl) trivial ?_
            clear E; intro a E
            refine wpList_nil ?_
            refine th_n ?_
            refine wp_ret ?_
            refine th_ret ?_
            refine ret1 E rfl rfl ?_
            exact ⟨_, rfl, rfl, HW.own⟩
          · replace E := E_; clear E_
            have h33 : ((List.getD acc (Int.toNat (0 : Int)) false)) = false := hb_
            clear hb_
            refine c_false E rfl ?_
            refine wp_skip ?_
            refine th_n ?_
            refine wp_seq ?_
            refine wp_region_lit ?_
            refine vrun (w := w23) (lp := [(1, .int .u8 env), (2, .int .i64 q), (3, .pointer (some ⟨g1, 0, none⟩)), (7, .bool true), (8, .int .u8 ((pw p0 - 1 : Nat) : Int))]) (φ := [World.cell? w23 ⟨g1, 0, none⟩ = some (.int .i64 p0), 0 ≤ p0 ∧ IntKind.u8.wrap (1 * 2 ^ (min (Int.toNat p0) (IntKind.bits .u8))) = ((pw p0 % 256 : Nat) : Int), IntKind.u8.wrap (((pw p0 % 256 : Nat) : Int) - 1) = ((pw p0 - 1 : Nat) : Int)]) tbok 5 [.int .i64 p0, .int .u8 ((pw p0 % 256 : Nat) : Int), .int .u8 ((pw p0 - 1 : Nat) : Int)] [1, 2, 3, 7, 8] E (by kernel_rfl) ⟨B5.cell (j := 0) rfl, shl_u8 (checkV_yes (by assumption : checkV p0 acc.length gd nodes = 0)).p0 (checkV_yes (by assumption : checkV p0 acc.length gd nodes = 0)).p8, all_u8 (checkV_yes (by assumption : checkV p0 acc.length gd nodes = 0)).p0 (checkV_yes (by assumption : checkV p0 acc.length gd nodes = 0)).p8⟩ ?_
            clear E; intro a E
            refine wpList_nil ?_
            refine th_n ?_
            refine wp_seq ?_
            refine wp_region_lit ?_
            refine vrun (w := w23) (lp := [(2, .int .i64 q), (3, .pointer (some ⟨g1, 0, none⟩)), (7, .bool true), (47, .int .u8 ((partE env p0 : Nat) : Int)), (50, .int .u8 ((partS env p0 : Nat) : Int))]) (φ := [IntKind.u8.wrap (BitVec.ofInt (IntKind.bits .u8) env &&& BitVec.ofInt (IntKind.bits .u8) ((pw p0 - 1 : Nat) : Int)).toNat = ((partE env p0 : Nat) : Int), IntKind.u8.wrap (BitVec.ofInt (IntKind.bits .u8) ((pw p0 - 1 : Nat) : Int) &&& ~~~ BitVec.ofInt (IntKind.bits .u8) env).toNat = ((partS env p0 : Nat) : Int)]) tbok 6 [.int .u8 ((partE env p0 : Nat) : Int), .int .u8 ((partS env p0 : Nat) : Int)] [2, 3, 7, 47, 50] E (by kernel_rfl) ⟨and_u8 he (all_lt (checkV_yes (by assumption : checkV p0 acc.length gd nodes = 0)).p0 (checkV_yes (by assumption : checkV p0 acc.length gd nodes = 0)).p8), andNot_u8 (all_lt (checkV_yes (by assumption : checkV p0 acc.length gd nodes = 0)).p0 (checkV_yes (by assumption : checkV p0 acc.length gd nodes = 0)).p8) he⟩ ?_
            clear E; intro a E
            refine e_build (ps := [(0, .int .u8 ((partE env p0 : Nat) : Int)), (1, .int .u8 ((partS env p0 : Nat) : Int))]) (v := .agg #[.int .u8 ((partE env p0 : Nat) : Int), .int .u8 ((partS env p0 : Nat) : Int)]) E rfl rfl tbok rfl (by kernel_rfl) rfl ?_
            clear E; intro a E
            refine e_alloc E rfl rfl tbok rfl ?_
            intro w35 g34 a hc36 hg37 B38 E_
            replace E := E_ _ rfl; clear E_
            replace B38 : Bx w35 g34 33 [.int .u8 0, .int .u8 0] := B38
            have hi_g34 : w0.heap.size ≤ g34 := Nat.le_trans HW.size hg37
            have ne_g1_g34 : g1 ≠ g34 := by have h_ := B5.lt; omega
            replace B5 := B5.chg hc36 (fun h_ => h_)
            replace HW := HW.trans hc36 (fun _ _ h_ => h_.elim)
            refine e_store (g := g34) (off := 0) E rfl rfl rfl rfl tbok rfl B38 rfl rfl rfl rfl ?_
            clear E; intro w39 a hc40 B38 E
            replace B38 : Bx w39 g34 33 [.int .u8 ((partE env p0 : Nat) : Int), .int .u8 ((partS env p0 : Nat) : Int)] := B38
            replace B5 := B5.chg hc40 (fun h_ => ne_g1_g34 h_)
            replace HW := HW.trans hc40 (fun _ _ h_ => by subst h_; exact hi_g34)
            refine wpList_nil ?_
            refine th_n ?_
            refine wp_seq ?_
            refine wp_region_lit ?_
            refine vrun (w := w39) (lp := [(3, .pointer (some ⟨g1, 0, none⟩)), (7, .bool true), (9, .pointer (some ⟨g34, 0, none⟩)), (52, .int .i64 q), (55, .int .i64 ((acc.length : Nat) : Int))]) (φ := [World.cell? w39 ⟨g1, 1, none⟩ = some (.slice (some ⟨b30, o31, none⟩) acc.length c1)]) tbok 4 [.slice (some ⟨b30, o31, none⟩) acc.length c1] [3, 7, 9, 52, 55] E (by kernel_rfl) (B5.cell (j := 1) rfl) ?_
            clear E; intro a E
            refine e_call E rfl rfl Try.func11 rfl rfl rfl (Pick_calls q ((acc.length : Nat) : Int) _ hq (by omega)) ?_
            intro v41 w42 a hR43 E_
            obtain ⟨rfl, hc44⟩ := hR43
            replace E := E_ _ rfl; clear E_
            replace B5 := B5.chg hc44 (fun h_ => h_)
            replace B38 := B38.chg hc44 (fun h_ => h_)
            replace HW := HW.trans hc44 (fun _ _ h_ => h_.elim)
            refine vrun (w := w42) (lp := [(3, .pointer (some ⟨g1, 0, none⟩)), (7, .bool true), (9, .pointer (some ⟨g34, 0, none⟩)), (10, .int .i64 (pickV q ((acc.length : Nat) : Int)))]) (φ := []) tbok 1 [] [3, 7, 9, 10] E (by kernel_rfl) trivial ?_
            clear E; intro a E
            refine wpList_nil ?_
            refine th_n ?_
            refine wp_seq ?_
            refine wp_region_lit ?_
            refine vrun (w := w42) (lp := [(3, .pointer (some ⟨g1, 0, none⟩)), (7, .bool true), (9, .pointer (some ⟨g34, 0, none⟩)), (10, .int .i64 (pickV q ((acc.length : Nat) : Int))), (58, .agg #[.int .i64 p0, .slice (some ⟨b30, o31, none⟩) acc.length c1, .slice A2 gd.length c2, .slice A3 nodes.length c3]), (59, .agg #[.int .u8 ((partE env p0 : Nat) : Int), .int .u8 ((partS env p0 : Nat) : Int)]), (60, .int .i64 (pickV q ((acc.length : Nat) : Int)))]) (φ := [cellsAt w42 g1 (0) [.int .i64 p0, .slice (some ⟨b30, o31, none⟩) acc.length c1, .slice A2 gd.length c2, .slice A3 nodes.length c3], cellsAt w42 g34 (0) [.int .u8 ((partE env p0 : Nat) : Int), .int .u8 ((partS env p0 : Nat) : Int)]]) tbok 3 [.agg #[.int .i64 p0, .slice (some ⟨b30, o31, none⟩) acc.length c1, .slice A2 gd.length c2, .slice A3 nodes.length c3], .agg #[.int .u8 ((partE env p0 : Nat) : Int), .int .u8 ((partS env p0 : Nat) : Int)]] [3, 7, 9, 10, 58, 59, 60] E (by kernel_rfl) ⟨B5.sub 0 _ rfl, B38.sub 0 _ rfl⟩ ?_
            clear E; intro a E
            have hpk_ : 0 ≤ (pickV q ((acc.length : Nat) : Int)) ∧ (pickV q ((acc.length : Nat) : Int)) < ((acc.length : Nat) : Int) := pickV_in (by have h_ := (checkV_yes (by assumption : checkV p0 acc.length gd nodes = 0)).n1; omega)
            refine e_call E rfl rfl Try.func12 rfl rfl rfl (Goes_calls p0 (some ⟨b30, o31, none⟩) A2 A3 c1 c2 c3 acc gd nodes ((partE env p0 : Nat) : Int) ((partS env p0 : Nat) : Int) (pickV q ((acc.length : Nat) : Int)) _ (by first | omega | decide) (by first | omega | decide) (by first | omega | decide) (H1.now HW) (H2.now HW) (H3.now HW) hW hG (part_u8 he (checkV_yes (by assumption : checkV p0 acc.length gd nodes = 0)).p0 (checkV_yes (by assumption : checkV p0 acc.length gd nodes = 0)).p8).1 (part_u8 he (checkV_yes (by assumption : checkV p0 acc.length gd nodes = 0)).p0 (checkV_yes (by assumption : checkV p0 acc.length gd nodes = 0)).p8).2) ?_
            intro v50 w51 a hR52 E_
            obtain ⟨A45, c46, Fq47, rfl, hc53, hO48, R49⟩ := hR52
            rw [part_goes he (by assumption) (by assumption) hpk_] at E_ R49
            replace E := E_ _ rfl; clear E_
            have hOwn := Own.no w0.heap.size w42
            have fz_g1 : ¬ No g1 := fun h_ => h_
            have fz_g34 : ¬ No g34 := fun h_ => h_
            have sp_R49_g1 : ¬ At A45 g1 := fun h_ => by have i_ := R49.hi _ h_; have j_ := B5.lt; unfold Hi at i_; omega
            have sp_R49_g34 : ¬ At A45 g34 := fun h_ => by have i_ := R49.hi _ h_; have j_ := B38.lt; unfold Hi at i_; omega
            have fz_R49 : ∀ q, At A45 q → ¬ No q := fun q_ h_ f_ => by have i_ := R49.hi q_ h_; have j_ := (hOwn q_ f_).2; unfold Hi at i_; omega
            replace R49 := R49.from_ HW.size
            have hb_ := HW.size
            replace fz_g1 : ¬ (FzF No Fq47) g1 := FzF.no fz_g1 (fun f_ => by have i_ := (hO48 _ f_).1; have j_ := B5.lt; omega)
            replace fz_g34 : ¬ (FzF No Fq47) g34 := FzF.no fz_g34 (fun f_ => by have i_ := (hO48 _ f_).1; have j_ := B38.lt; omega)
            replace fz_R49 : ∀ q, At A45 q → ¬ (FzF No Fq47) q := FzF.noA fz_R49 (fun q_ h_ => (R49.inv h_).2.2)
            replace R49 := R49.monoF (G := (FzF No Fq47)) (fun _ h_ => Or.inr h_) fz_R49
            replace hOwn := hOwn.step hc53
            replace B5 := B5.chg hc53 (fun h_ => h_)
            replace B38 := B38.chg hc53 (fun h_ => h_)
            replace HW := HW.trans hc53 (fun _ _ h_ => h_.elim)
            replace hOwn := hOwn.addF hO48 hb_ (Nat.le_refl _); clear hb_
            refine vrun (w := w51) (lp := [(3, .pointer (some ⟨g1, 0, none⟩)), (7, .bool true), (9, .pointer (some ⟨g34, 0, none⟩)), (10, .int .i64 (pickV q ((acc.length : Nat) : Int))), (11, .slice A45 (List.length (goesK gd nodes (pickV q ((acc.length : Nat) : Int)) (movesV ((partE env p0 : Nat) : Int)) (movesV ((partS env p0 : Nat) : Int)) (movesV ((partE env p0 : Nat) : Int)).length)) c46), (12, .int .i64 0)]) (φ := []) tbok 5 [] [3, 7, 9, 10, 11, 12] E (by kernel_rfl) trivial ?_
            clear E; intro a E
            refine wpList_nil ?_
            refine th_n ?_
            refine wp_seq ?_
            refine dr_start (S := fun w_ => Chg No w51 w_) (by kernel_rfl) ?_
            intro w54 hc55
            have HWs := HW
            have B5s := B5
            have B38s := B38
            have R49s := R49
            have HS : Chg No w51 w54 := hc55.mono (fun _ _ h_ => h_.elim)
            replace hOwn := hOwn.step hc55
            replace B5 := B5.chg hc55 (fun h_ => h_)
            replace B38 := B38.chg hc55 (fun h_ => h_)
            replace R49 := R49.keep hc55 (fun _ _ h_ => h_) (fun _ _ h_ => h_)
            replace HW := HW.trans hc55 (fun _ _ h_ => h_.elim)
            refine drun (lp := [(3, .pointer (some ⟨g1, 0, none⟩)), (7, .bool true), (9, .pointer (some ⟨g34, 0, none⟩)), (10, .int .i64 (pickV q ((acc.length : Nat) : Int))), (11, .slice A45 (List.length (goesK gd nodes (pickV q ((acc.length : Nat) : Int)) (movesV ((partE env p0 : Nat) : Int)) (movesV ((partS env p0 : Nat) : Int)) (movesV ((partE env p0 : Nat) : Int)).length)) c46), (12, .int .i64 0), (65, .int .u8 ((partE env p0 : Nat) : Int)), (68, .int .u8 ((partS env p0 : Nat) : Int))]) tbok (by kernel_rfl) [0, 1, 3, 4] [.int .u8 ((partE env p0 : Nat) : Int), .int .u8 ((partS env p0 : Nat) : Int)] [3, 7, 9, 10, 11, 12, 65, 68] (fun w_ => [World.cell? w_ ⟨g34, 0, none⟩ = some (.int .u8 ((partE env p0 : Nat) : Int)), World.cell? w_ ⟨g34, 1, none⟩ = some (.int .u8 ((partS env p0 : Nat) : Int))]) (fuel := 4) E (fun _ _ => by kernel_rfl) (fun w_ hS_ => ⟨hS_.cell (B38s.cell (j := 0) rfl) (fun h_ => h_), hS_.cell (B38s.cell (j := 1) rfl) (fun h_ => h_)⟩) (by kernel_rfl) HS ?_
            clear E; intro a E
            refine wpAnyH_all (rs := [2]) (by kernel_rfl) (by simp) ?_
            refine all1 ?_
            · refine wpOp_of_list rfl ?_
              refine e_call E rfl rfl Try.func13 rfl rfl rfl (Moves_calls ((partE env p0 : Nat) : Int) _ (part_u8 he (checkV_yes (by assumption : checkV p0 acc.length gd nodes = 0)).p0 (checkV_yes (by assumption : checkV p0 acc.length gd nodes = 0)).p8).1) ?_
              intro v59 w60 a hR61 E_
              obtain ⟨A56, c57, rfl, hc62, R58⟩ := hR61
              replace E := E_ _ rfl; clear E_
              have sp_R58_g1 : ¬ At A56 g1 := fun h_ => by have i_ := R58.hi _ h_; have j_ := B5.lt; unfold Hi at i_; omega
              have sp_R58_g34 : ¬ At A56 g34 := fun h_ => by have i_ := R58.hi _ h_; have j_ := B38.lt; unfold Hi at i_; omega
              have sp_R49_R58 := R49.fresh2 R58.hi
              have sp_R58_R49 := At.comm sp_R49_R58
              have fz_R58 : ∀ q, At A56 q → ¬ (FzF No Fq47) q := fun q_ h_ f_ => by have i_ := R58.hi q_ h_; have j_ := (hOwn q_ f_).2; unfold Hi at i_; omega
              replace R58 := R58.from_ HW.size
              have hl_R58 := movesV_len ((partE env p0 : Nat) : Int)
              replace hOwn := hOwn.step hc62
              replace B5 := B5.chg hc62 (fun h_ => h_)
              replace B38 := B38.chg hc62 (fun h_ => h_)
              replace R49 := R49.keep hc62 (fun _ _ h_ => h_) (fun _ _ h_ => h_)
              replace HS := HS.trans hc62 (fun _ _ h_ => h_.elim)
              replace HW := HW.trans hc62 (fun _ _ h_ => h_.elim)
              refine wpList_nil ?_
              refine th_n ⟨HS, ?_⟩
              refine wpAnyH_all (rs := [5]) (by kernel_rfl) (by simp) ?_
              refine all1 ?_
              · refine wpOp_of_list rfl ?_
                refine e_call E rfl rfl Try.func13 rfl rfl rfl (Moves_calls ((partS env p0 : Nat) : Int) _ (part_u8 he (checkV_yes (by assumption : checkV p0 acc.length gd nodes = 0)).p0 (checkV_yes (by assumption : checkV p0 acc.length gd nodes = 0)).p8).2) ?_
                intro v66 w67 a hR68 E_
                obtain ⟨A63, c64, rfl, hc69, R65⟩ := hR68
                replace E := E_ _ rfl; clear E_
                have sp_R65_g1 : ¬ At A63 g1 := fun h_ => by have i_ := R65.hi _ h_; have j_ := B5.lt; unfold Hi at i_; omega
                have sp_R65_g34 : ¬ At A63 g34 := fun h_ => by have i_ := R65.hi _ h_; have j_ := B38.lt; unfold Hi at i_; omega
                have sp_R49_R65 := R49.fresh2 R65.hi
                have sp_R65_R49 := At.comm sp_R49_R65
                have sp_R58_R65 := R58.fresh2 R65.hi
                have sp_R65_R58 := At.comm sp_R58_R65
                have fz_R65 : ∀ q, At A63 q → ¬ (FzF No Fq47) q := fun q_ h_ f_ => by have i_ := R65.hi q_ h_; have j_ := (hOwn q_ f_).2; unfold Hi at i_; omega
                replace R65 := R65.from_ HW.size
                have hl_R65 := movesV_len ((partS env p0 : Nat) : Int)
                replace hOwn := hOwn.step hc69
                replace B5 := B5.chg hc69 (fun h_ => h_)
                replace B38 := B38.chg hc69 (fun h_ => h_)
                replace R49 := R49.keep hc69 (fun _ _ h_ => h_) (fun _ _ h_ => h_)
                replace R58 := R58.keep hc69 (fun _ _ h_ => h_) (fun _ _ h_ => h_)
                replace HS := HS.trans hc69 (fun _ _ h_ => h_.elim)
                replace HW := HW.trans hc69 (fun _ _ h_ => h_.elim)
                refine wpList_nil ?_
                refine th_n ⟨HS, ?_⟩
                refine drun (lp := [(3, .pointer (some ⟨g1, 0, none⟩)), (7, .bool true), (9, .pointer (some ⟨g34, 0, none⟩)), (10, .int .i64 (pickV q ((acc.length : Nat) : Int))), (11, .slice A45 (List.length (goesK gd nodes (pickV q ((acc.length : Nat) : Int)) (movesV ((partE env p0 : Nat) : Int)) (movesV ((partS env p0 : Nat) : Int)) (movesV ((partE env p0 : Nat) : Int)).length)) c46), (12, .int .i64 0), (13, .slice A56 (List.length (movesV ((partE env p0 : Nat) : Int))) c57), (14, .slice A63 (List.length (movesV ((partS env p0 : Nat) : Int))) c64)]) tbok (by kernel_rfl) [6, 7] [] [3, 7, 9, 10, 11, 12, 13, 14] (fun w_ => []) (fuel := 0) E (fun _ _ => by kernel_rfl) (fun w_ hS_ => trivial) (by kernel_rfl) HS ?_
                clear E; intro a E
                refine dr_done (by kernel_rfl) ?_
                clear HS HWs
                refine th_n ?_
                refine wp_seq ?_
                refine wp_seq ?_
                refine wp_region_lit ?_
                refine vrun (w := w67) (lp := [(3, .pointer (some ⟨g1, 0, none⟩)), (7, .bool true), (10, .int .i64 (pickV q ((acc.length : Nat) : Int))), (11, .slice A45 (List.length (goesK gd nodes (pickV q ((acc.length : Nat) : Int)) (movesV ((partE env p0 : Nat) : Int)) (movesV ((partS env p0 : Nat) : Int)) (movesV ((partE env p0 : Nat) : Int)).length)) c46), (12, .int .i64 0), (13, .slice A56 (List.length (movesV ((partE env p0 : Nat) : Int))) c57), (14, .slice A63 (List.length (movesV ((partS env p0 : Nat) : Int))) c64), (70, .agg #[.int .i64 p0, .slice (some ⟨b30, o31, none⟩) acc.length c1, .slice A2 gd.length c2, .slice A3 nodes.length c3]), (71, .agg #[.int .u8 ((partE env p0 : Nat) : Int), .int .u8 ((partS env p0 : Nat) : Int)])]) (φ := [cellsAt w67 g1 (0) [.int .i64 p0, .slice (some ⟨b30, o31, none⟩) acc.length c1, .slice A2 gd.length c2, .slice A3 nodes.length c3], cellsAt w67 g34 (0) [.int .u8 ((partE env p0 : Nat) : Int), .int .u8 ((partS env p0 : Nat) : Int)]]) tbok 2 [.agg #[.int .i64 p0, .slice (some ⟨b30, o31, none⟩) acc.length c1, .slice A2 gd.length c2, .slice A3 nodes.length c3], .agg #[.int .u8 ((partE env p0 : Nat) : Int), .int .u8 ((partS env p0 : Nat) : Int)]] [3, 7, 10, 11, 12, 13, 14, 70, 71] E (by kernel_rfl) ⟨B5.sub 0 _ rfl, B38.sub 0 _ rfl⟩ ?_
                clear E; intro a E
                refine e_call E rfl rfl Try.func14 rfl rfl rfl (CheckB_calls p0 (some ⟨b30, o31, none⟩) A2 A3 c1 c2 c3 acc gd nodes ((partE env p0 : Nat) : Int) ((partS env p0 : Nat) : Int) _ (by omega) (by omega) (by omega) (H1.now HW) (H2.now HW) (H3.now HW) hW (part_u8 he (checkV_yes (by assumption : checkV p0 acc.length gd nodes = 0)).p0 (checkV_yes (by assumption : checkV p0 acc.length gd nodes = 0)).p8).1 (part_u8 he (checkV_yes (by assumption : checkV p0 acc.length gd nodes = 0)).p0 (checkV_yes (by assumption : checkV p0 acc.length gd nodes = 0)).p8).2) ?_
                intro v70 w71 a hR72 E_
                obtain ⟨rfl, hc73⟩ := hR72
                rw [part_check he (by assumption) (by assumption)] at E_
                replace E := E_ _ rfl; clear E_
                replace hOwn := hOwn.step hc73
                replace B5 := B5.chg hc73 (fun h_ => h_)
                replace B38 := B38.chg hc73 (fun h_ => h_)
                replace R49 := R49.keep hc73 (fun _ _ h_ => h_) (fun _ _ h_ => h_)
                replace R58 := R58.keep hc73 (fun _ _ h_ => h_) (fun _ _ h_ => h_)
                replace R65 := R65.keep hc73 (fun _ _ h_ => h_) (fun _ _ h_ => h_)
                replace HW := HW.trans hc73 (fun _ _ h_ => h_.elim)
                refine vrun (w := w71) (lp := [(3, .pointer (some ⟨g1, 0, none⟩)), (7, .bool true), (10, .int .i64 (pickV q ((acc.length : Nat) : Int))), (11, .slice A45 (List.length (goesK gd nodes (pickV q ((acc.length : Nat) : Int)) (movesV ((partE env p0 : Nat) : Int)) (movesV ((partS env p0 : Nat) : Int)) (movesV ((partE env p0 : Nat) : Int)).length)) c46), (13, .slice A56 (List.length (movesV ((partE env p0 : Nat) : Int))) c57), (14, .slice A63 (List.length (movesV ((partS env p0 : Nat) : Int))) c64), (85, .bool (((((List.length (goesK gd nodes (pickV q ((acc.length : Nat) : Int)) (movesV ((partE env p0 : Nat) : Int)) (movesV ((partS env p0 : Nat) : Int)) (movesV ((partE env p0 : Nat) : Int)).length)) : Nat) : Int) : Int) != (((List.length (movesV ((partE env p0 : Nat) : Int))) : Nat) : Int)))]) (φ := []) tbok 13 [] [3, 7, 10, 11, 13, 14, 85] E (by kernel_rfl) trivial ?_
                clear E; intro a E
                refine E.cases (t := 85) rfl (fun hb_ E_ => ?_) (fun hb_ E_ => ?_)
                · replace E := E_; clear E_
                  have h74 : ¬ (((((List.length (goesK gd nodes (pickV q ((acc.length : Nat) : Int)) (movesV ((partE env p0 : Nat) : Int)) (movesV ((partS env p0 : Nat) : Int)) (movesV ((partE env p0 : Nat) : Int)).length)) : Nat) : Int) : Int) = (((List.length (movesV ((partE env p0 : Nat) : Int))) : Nat) : Int)) := bne_iff_ne.1 hb_
                  clear hb_
                  exact absurd (congrArg (fun n_ : Nat => (n_ : Int)) (goesK_len (Nat.le_refl _))) h74
                · replace E := E_; clear E_
                  have h75 : ((((List.length (goesK gd nodes (pickV q ((acc.length : Nat) : Int)) (movesV ((partE env p0 : Nat) : Int)) (movesV ((partS env p0 : Nat) : Int)) (movesV ((partE env p0 : Nat) : Int)).length)) : Nat) : Int) : Int) = (((List.length (movesV ((partE env p0 : Nat) : Int))) : Nat) : Int) := bne_eq_false_iff_eq.1 hb_
                  clear hb_
                  refine vrun (w := w71) (lp := [(3, .pointer (some ⟨g1, 0, none⟩)), (7, .bool true), (10, .int .i64 (pickV q ((acc.length : Nat) : Int))), (11, .slice A45 (List.length (goesK gd nodes (pickV q ((acc.length : Nat) : Int)) (movesV ((partE env p0 : Nat) : Int)) (movesV ((partS env p0 : Nat) : Int)) (movesV ((partE env p0 : Nat) : Int)).length)) c46), (13, .slice A56 (List.length (movesV ((partE env p0 : Nat) : Int))) c57), (14, .slice A63 (List.length (movesV ((partS env p0 : Nat) : Int))) c64), (95, .bool (((((movesV ((partE env p0 : Nat) : Int)).length * (movesV ((partS env p0 : Nat) : Int)).length : Nat) : Int) : Int) != ((pw p0 : Nat) : Int)))]) (φ := [IntKind.i64.wrap ((((List.length (movesV ((partE env p0 : Nat) : Int))) : Nat) : Int) * (((List.length (movesV ((partS env p0 : Nat) : Int))) : Nat) : Int)) = (((movesV ((partE env p0 : Nat) : Int)).length * (movesV ((partS env p0 : Nat) : Int)).length : Nat) : Int), World.cell? w71 ⟨g1, 0, none⟩ = some (.int .i64 p0), 0 ≤ p0 ∧ IntKind.i64.wrap (1 * 2 ^ (min (Int.toNat p0) (IntKind.bits .i64))) = ((pw p0 : Nat) : Int)]) tbok 10 [.int .i64 (((movesV ((partE env p0 : Nat) : Int)).length * (movesV ((partS env p0 : Nat) : Int)).length : Nat) : Int), .int .i64 p0, .int .i64 ((pw p0 : Nat) : Int)] [3, 7, 10, 11, 13, 14, 95] E (by kernel_rfl) ⟨mul_len (movesV_len _) (movesV_len _), B5.cell (j := 0) rfl, pw_shl (checkV_yes (by assumption : checkV p0 acc.length gd nodes = 0)).p0 (checkV_yes (by assumption : checkV p0 acc.length gd nodes = 0)).p8⟩ ?_
                  clear E; intro a E
                  refine wpList_nil ?_
                  refine th_n ?_
                  refine E.cases (t := 95) rfl (fun hb_ E_ => ?_) (fun hb_ E_ => ?_)
                  · replace E := E_; clear E_
                    have h76 : ¬ (((((movesV ((partE env p0 : Nat) : Int)).length * (movesV ((partS env p0 : Nat) : Int)).length : Nat) : Int) : Int) = ((pw p0 : Nat) : Int)) := bne_iff_ne.1 hb_
                    clear hb_
                    exact absurd (congrArg (fun n_ : Nat => (n_ : Int)) (part_count he (checkV_yes (by assumption : checkV p0 acc.length gd nodes = 0)).p0 (checkV_yes (by assumption : checkV p0 acc.length gd nodes = 0)).p8)) h76
                  · replace E := E_; clear E_
                    have h77 : ((((movesV ((partE env p0 : Nat) : Int)).length * (movesV ((partS env p0 : Nat) : Int)).length : Nat) : Int) : Int) = ((pw p0 : Nat) : Int) := bne_eq_false_iff_eq.1 hb_
                    clear hb_
                    refine c_false E rfl ?_
                    refine wp_skip ?_
                    refine th_n ?_
                    refine wp_seq ?_
                    refine wp_seq ?_
                    refine wp_region_lit ?_
                    refine vrun (w := w71) (lp := [(3, .pointer (some ⟨g1, 0, none⟩)), (7, .bool true), (10, .int .i64 (pickV q ((acc.length : Nat) : Int))), (11, .slice A45 (List.length (goesK gd nodes (pickV q ((acc.length : Nat) : Int)) (movesV ((partE env p0 : Nat) : Int)) (movesV ((partS env p0 : Nat) : Int)) (movesV ((partE env p0 : Nat) : Int)).length)) c46), (13, .slice A56 (List.length (movesV ((partE env p0 : Nat) : Int))) c57), (14, .slice A63 (List.length (movesV ((partS env p0 : Nat) : Int))) c64), (15, .int .i64 0)]) (φ := []) tbok 1 [] [3, 7, 10, 11, 13, 14, 15] E (by kernel_rfl) trivial ?_
                    clear E; intro a E
                    refine wpList_nil ?_
                    refine th_n ?_
                    refine wp_block ?_
                    refine loopV (fun m80 a w79 => ∃ (k : Nat) (Fz78 : Nat → Prop), Fr a 150 [(3, .pointer (some ⟨g1, 0, none⟩)), (7, .bool true), (10, .int .i64 (pickV q ((acc.length : Nat) : Int))), (11, .slice A45 (List.length (goesK gd nodes (pickV q ((acc.length : Nat) : Int)) (movesV ((partE env p0 : Nat) : Int)) (movesV ((partS env p0 : Nat) : Int)) (movesV ((partE env p0 : Nat) : Int)).length)) c46), (13, .slice A56 (List.length (movesV ((partE env p0 : Nat) : Int))) c57), (14, .slice A63 (List.length (movesV ((partS env p0 : Nat) : Int))) c64), (15, .int .i64 (k : Int))] ∧ Chg (Hi w0.heap.size) w0 w79 ∧ Bx w79 g1 26 [.int .i64 p0, .slice (some ⟨b30, o31, none⟩) acc.length c1, .slice A2 gd.length c2, .slice A3 nodes.length c3] ∧ Bx w79 g34 33 [.int .u8 ((partE env p0 : Nat) : Int), .int .u8 ((partS env p0 : Nat) : Int)] ∧ Row (cSl (cInt .i64)) 23 w79 w0.heap.size Fz78 A45 c46 (goesK gd nodes (pickV q ((acc.length : Nat) : Int)) (movesV ((partE env p0 : Nat) : Int)) (movesV ((partS env p0 : Nat) : Int)) (movesV ((partE env p0 : Nat) : Int)).length) ∧ Row (cInt .u8) 27 w79 w0.heap.size No A56 c57 (movesV ((partE env p0 : Nat) : Int)) ∧ Row (cInt .u8) 27 w79 w0.heap.size No A63 c64 (movesV ((partS env p0 : Nat) : Int)) ∧ (∀ q, At A45 q → ¬ At A56 q) ∧ (∀ q, At A45 q → ¬ At A63 q) ∧ (¬ At A45 g1) ∧ (¬ At A45 g34) ∧ (∀ q, At A56 q → ¬ At A45 q) ∧ (∀ q, At A56 q → ¬ At A63 q) ∧ (¬ At A56 g1) ∧ (¬ At A56 g34) ∧ (∀ q, At A63 q → ¬ At A45 q) ∧ (∀ q, At A63 q → ¬ At A56 q) ∧ (¬ At A63 g1) ∧ (¬ At A63 g34) ∧ Own w0.heap.size w79 Fz78 ∧ (¬ Fz78 g1) ∧ (¬ Fz78 g34) ∧ (∀ q, At A45 q → ¬ Fz78 q) ∧ (∀ q, At A56 q → ¬ Fz78 q) ∧ (∀ q, At A63 q → ¬ Fz78 q) ∧ (k ≤ (goesK gd nodes (pickV q ((acc.length : Nat) : Int)) (movesV ((partE env p0 : Nat) : Int)) (movesV ((partS env p0 : Nat) : Int)) (movesV ((partE env p0 : Nat) : Int)).length).length) ∧ m80 = (goesK gd nodes (pickV q ((acc.length : Nat) : Int)) (movesV ((partE env p0 : Nat) : Int)) (movesV ((partS env p0 : Nat) : Int)) (movesV ((partE env p0 : Nat) : Int)).length).length - k) ((goesK gd nodes (pickV q ((acc.length : Nat) : Int)) (movesV ((partE env p0 : Nat) : Int)) (movesV ((partS env p0 : Nat) : Int)) (movesV ((partE env p0 : Nat) : Int)).length).length - (0)) ?_ ?_
                    · skip
                      exact ⟨0, (FzF No Fq47), E.pick _ ⟨rfl, rfl, rfl, rfl, rfl, rfl, rfl, trivial⟩, HW, B5, B38, R49, R58, R65, sp_R49_R58, sp_R49_R65, sp_R49_g1, sp_R49_g34, sp_R58_R49, sp_R58_R65, sp_R58_g1, sp_R58_g34, sp_R65_R49, sp_R65_R58, sp_R65_g1, sp_R65_g34, hOwn, fz_g1, fz_g34, fz_R49, fz_R58, fz_R65, (by omega), rfl⟩
                    · clear E HW; intro m80 a w79 hI_
                      obtain ⟨k, hI_⟩ := hI_
                      obtain ⟨Fz78, hI_⟩ := hI_
                      clear B5
                      clear B38
                      clear R49
                      clear R58
                      clear R65
                      clear sp_R49_R58
                      clear sp_R49_R65
                      clear sp_R49_g1
                      clear sp_R49_g34
                      clear sp_R58_R49
                      clear sp_R58_R65
                      clear sp_R58_g1
                      clear sp_R58_g34
                      clear sp_R65_R49
                      clear sp_R65_R58
                      clear sp_R65_g1
                      clear sp_R65_g34
                      clear hOwn fz_g1 fz_g34 fz_R49 fz_R58 fz_R65
                      obtain ⟨E, HW, B5, B38, R49, R58, R65, sp_R49_R58, sp_R49_R65, sp_R49_g1, sp_R49_g34, sp_R58_R49, sp_R58_R65, sp_R58_g1, sp_R58_g34, sp_R65_R49, sp_R65_R58, sp_R65_g1, sp_R65_g34, hOwn, fz_g1, fz_g34, fz_R49, fz_R58, fz_R65, hk, hm_m80⟩ := hI_
                      have hgk_ := @goesK_len gd nodes (pickV q ((acc.length : Nat) : Int)) (movesV ((partE env p0 : Nat) : Int)) (movesV ((partS env p0 : Nat) : Int)) _ (Nat.le_refl _)
                      refine wp_seq ?_
                      refine wp_seq ?_
                      refine wp_region_lit ?_
                      refine vrun (w := w79) (lp := [(3, .pointer (some ⟨g1, 0, none⟩)), (7, .bool true), (10, .int .i64 (pickV q ((acc.length : Nat) : Int))), (11, .slice A45 (List.length (goesK gd nodes (pickV q ((acc.length : Nat) : Int)) (movesV ((partE env p0 : Nat) : Int)) (movesV ((partS env p0 : Nat) : Int)) (movesV ((partE env p0 : Nat) : Int)).length)) c46), (13, .slice A56 (List.length (movesV ((partE env p0 : Nat) : Int))) c57), (14, .slice A63 (List.length (movesV ((partS env p0 : Nat) : Int))) c64), (15, .int .i64 (k : Int)), (99, .bool (decide ((k : Int) < (((List.length (goesK gd nodes (pickV q ((acc.length : Nat) : Int)) (movesV ((partE env p0 : Nat) : Int)) (movesV ((partS env p0 : Nat) : Int)) (movesV ((partE env p0 : Nat) : Int)).length)) : Nat) : Int))))]) (φ := []) tbok 4 [] [3, 7, 10, 11, 13, 14, 15, 99] E (by kernel_rfl) trivial ?_
                      clear E; intro a E
                      refine wpList_nil ?_
                      refine th_n ?_
                      refine E.cases (t := 99) rfl (fun hb_ E_ => ?_) (fun hb_ E_ => ?_)
                      · replace E := E_; clear E_
                        have h81 : (k : Int) < (((List.length (goesK gd nodes (pickV q ((acc.length : Nat) : Int)) (movesV ((partE env p0 : Nat) : Int)) (movesV ((partS env p0 : Nat) : Int)) (movesV ((partE env p0 : Nat) : Int)).length)) : Nat) : Int) := of_decide_eq_true hb_
                        clear hb_
                        refine c_true E rfl ?_
                        refine wp_skip ?_
                        refine th_n ?_
                        refine wp_seq ?_
                        refine wp_block ?_
                        refine wp_seq ?_
                        refine wp_seq ?_
                        refine wp_region_lit ?_
                        have hx_104 : 0 ≤ (k : Int) ∧ (k : Int) < (((List.length (goesK gd nodes (pickV q ((acc.length : Nat) : Int)) (movesV ((partE env p0 : Nat) : Int)) (movesV ((partS env p0 : Nat) : Int)) (movesV ((partE env p0 : Nat) : Int)).length)) : Nat) : Int) := ⟨by omega, by omega⟩
                        obtain ⟨b82, e_b82⟩ := R49.addr' (by omega)
                        subst e_b82
                        obtain ⟨A84, c85, hl86, hk87, C88⟩ := Row.atSl R49 hx_104.1 hx_104.2
                        refine vrun (w := w79) (lp := [(3, .pointer (some ⟨g1, 0, none⟩)), (7, .bool true), (10, .int .i64 (pickV q ((acc.length : Nat) : Int))), (11, .slice (some ⟨b82, 0, none⟩) (List.length (goesK gd nodes (pickV q ((acc.length : Nat) : Int)) (movesV ((partE env p0 : Nat) : Int)) (movesV ((partS env p0 : Nat) : Int)) (movesV ((partE env p0 : Nat) : Int)).length)) c46), (13, .slice A56 (List.length (movesV ((partE env p0 : Nat) : Int))) c57), (14, .slice A63 (List.length (movesV ((partS env p0 : Nat) : Int))) c64), (15, .int .i64 (k : Int)), (109, .bool (((((List.length (List.getD (goesK gd nodes (pickV q ((acc.length : Nat) : Int)) (movesV ((partE env p0 : Nat) : Int)) (movesV ((partS env p0 : Nat) : Int)) (movesV ((partE env p0 : Nat) : Int)).length) (Int.toNat (k : Int)) [])) : Nat) : Int) : Int) != (((List.length (movesV ((partS env p0 : Nat) : Int))) : Nat) : Int)))]) (φ := [0 ≤ (k : Int) ∧ (k : Int) < (((List.length (goesK gd nodes (pickV q ((acc.length : Nat) : Int)) (movesV ((partE env p0 : Nat) : Int)) (movesV ((partS env p0 : Nat) : Int)) (movesV ((partE env p0 : Nat) : Int)).length)) : Nat) : Int), World.cell? w79 ⟨b82, 0 + (Int.toNat (k : Int)) * 1, none⟩ = some (.slice A84 (List.length (List.getD (goesK gd nodes (pickV q ((acc.length : Nat) : Int)) (movesV ((partE env p0 : Nat) : Int)) (movesV ((partS env p0 : Nat) : Int)) (movesV ((partE env p0 : Nat) : Int)).length) (Int.toNat (k : Int)) [])) c85)]) tbok 8 [.slice A84 (List.length (List.getD (goesK gd nodes (pickV q ((acc.length : Nat) : Int)) (movesV ((partE env p0 : Nat) : Int)) (movesV ((partS env p0 : Nat) : Int)) (movesV ((partE env p0 : Nat) : Int)).length) (Int.toNat (k : Int)) [])) c85] [3, 7, 10, 11, 13, 14, 15, 109] E (by kernel_rfl) ⟨hx_104, hl86⟩ ?_
                        clear E; intro a E
                        refine wpList_nil ?_
                        refine th_n ?_
                        refine E.cases (t := 109) rfl (fun hb_ E_ => ?_) (fun hb_ E_ => ?_)
                        · replace E := E_; clear E_
                          have h89 : ¬ (((((List.length (List.getD (goesK gd nodes (pickV q ((acc.length : Nat) : Int)) (movesV ((partE env p0 : Nat) : Int)) (movesV ((partS env p0 : Nat) : Int)) (movesV ((partE env p0 : Nat) : Int)).length) (Int.toNat (k : Int)) [])) : Nat) : Int) : Int) = (((List.length (movesV ((partS env p0 : Nat) : Int))) : Nat) : Int)) := bne_iff_ne.1 hb_
                          clear hb_
                          exact absurd (congrArg (fun n_ : Nat => (n_ : Int)) (by rw [goesK_at (by omega), rowK_len (Nat.le_refl _)])) h89
                        · replace E := E_; clear E_
                          have h90 : ((((List.length (List.getD (goesK gd nodes (pickV q ((acc.length : Nat) : Int)) (movesV ((partE env p0 : Nat) : Int)) (movesV ((partS env p0 : Nat) : Int)) (movesV ((partE env p0 : Nat) : Int)).length) (Int.toNat (k : Int)) [])) : Nat) : Int) : Int) = (((List.length (movesV ((partS env p0 : Nat) : Int))) : Nat) : Int) := bne_eq_false_iff_eq.1 hb_
                          clear hb_
                          refine c_false E rfl ?_
                          refine wp_skip ?_
                          refine th_n ?_
                          refine wp_seq ?_
                          refine wp_region_lit ?_
                          refine vrun (w := w79) (lp := [(3, .pointer (some ⟨g1, 0, none⟩)), (7, .bool true), (10, .int .i64 (pickV q ((acc.length : Nat) : Int))), (11, .slice (some ⟨b82, 0, none⟩) (List.length (goesK gd nodes (pickV q ((acc.length : Nat) : Int)) (movesV ((partE env p0 : Nat) : Int)) (movesV ((partS env p0 : Nat) : Int)) (movesV ((partE env p0 : Nat) : Int)).length)) c46), (13, .slice A56 (List.length (movesV ((partE env p0 : Nat) : Int))) c57), (14, .slice A63 (List.length (movesV ((partS env p0 : Nat) : Int))) c64), (15, .int .i64 (k : Int)), (16, .int .i64 0)]) (φ := []) tbok 1 [] [3, 7, 10, 11, 13, 14, 15, 16] E (by kernel_rfl) trivial ?_
                          clear E; intro a E
                          refine wpList_nil ?_
                          refine th_n ?_
                          refine wp_block ?_
                          refine loopV (fun m93 a w92 => ∃ (j : Nat) (Fz91 : Nat → Prop), Fr a 150 [(3, .pointer (some ⟨g1, 0, none⟩)), (7, .bool true), (10, .int .i64 (pickV q ((acc.length : Nat) : Int))), (11, .slice (some ⟨b82, 0, none⟩) (List.length (goesK gd nodes (pickV q ((acc.length : Nat) : Int)) (movesV ((partE env p0 : Nat) : Int)) (movesV ((partS env p0 : Nat) : Int)) (movesV ((partE env p0 : Nat) : Int)).length)) c46), (13, .slice A56 (List.length (movesV ((partE env p0 : Nat) : Int))) c57), (14, .slice A63 (List.length (movesV ((partS env p0 : Nat) : Int))) c64), (15, .int .i64 (k : Int)), (16, .int .i64 (j : Int))] ∧ Chg (Hi w0.heap.size) w0 w92 ∧ Bx w92 g1 26 [.int .i64 p0, .slice (some ⟨b30, o31, none⟩) acc.length c1, .slice A2 gd.length c2, .slice A3 nodes.length c3] ∧ Bx w92 g34 33 [.int .u8 ((partE env p0 : Nat) : Int), .int .u8 ((partS env p0 : Nat) : Int)] ∧ Row (cSl (cInt .i64)) 23 w92 w0.heap.size Fz91 (some ⟨b82, 0, none⟩) c46 (goesK gd nodes (pickV q ((acc.length : Nat) : Int)) (movesV ((partE env p0 : Nat) : Int)) (movesV ((partS env p0 : Nat) : Int)) (movesV ((partE env p0 : Nat) : Int)).length) ∧ Row (cInt .u8) 27 w92 w0.heap.size No A56 c57 (movesV ((partE env p0 : Nat) : Int)) ∧ Row (cInt .u8) 27 w92 w0.heap.size No A63 c64 (movesV ((partS env p0 : Nat) : Int)) ∧ (∀ q, At (some ⟨b82, 0, none⟩) q → ¬ At A56 q) ∧ (∀ q, At (some ⟨b82, 0, none⟩) q → ¬ At A63 q) ∧ (¬ At (some ⟨b82, 0, none⟩) g1) ∧ (¬ At (some ⟨b82, 0, none⟩) g34) ∧ (∀ q, At A56 q → ¬ At (some ⟨b82, 0, none⟩) q) ∧ (∀ q, At A56 q → ¬ At A63 q) ∧ (¬ At A56 g1) ∧ (¬ At A56 g34) ∧ (∀ q, At A63 q → ¬ At (some ⟨b82, 0, none⟩) q) ∧ (∀ q, At A63 q → ¬ At A56 q) ∧ (¬ At A63 g1) ∧ (¬ At A63 g34) ∧ Own w0.heap.size w92 Fz91 ∧ (¬ Fz91 g1) ∧ (¬ Fz91 g34) ∧ (∀ q, At (some ⟨b82, 0, none⟩) q → ¬ Fz91 q) ∧ (∀ q, At A56 q → ¬ Fz91 q) ∧ (∀ q, At A63 q → ¬ Fz91 q) ∧ (j ≤ (movesV ((partS env p0 : Nat) : Int)).length) ∧ m93 = (movesV ((partS env p0 : Nat) : Int)).length - j) ((movesV ((partS env p0 : Nat) : Int)).length - (0)) ?_ ?_
                          · skip
                            exact ⟨0, Fz78, E.pick _ ⟨rfl, rfl, rfl, rfl, rfl, rfl, rfl, rfl, trivial⟩, HW, B5, B38, R49, R58, R65, sp_R49_R58, sp_R49_R65, sp_R49_g1, sp_R49_g34, sp_R58_R49, sp_R58_R65, sp_R58_g1, sp_R58_g34, sp_R65_R49, sp_R65_R58, sp_R65_g1, sp_R65_g34, hOwn, fz_g1, fz_g34, fz_R49, fz_R58, fz_R65, (by omega), rfl⟩
                          · clear E HW; intro m93 a w92 hI_
                            obtain ⟨j, hI_⟩ := hI_
                            obtain ⟨Fz91, hI_⟩ := hI_
                            clear B5
                            clear B38
                            clear R49
                            clear R58
                            clear R65
                            clear sp_R49_R58
                            clear sp_R49_R65
                            clear sp_R49_g1
                            clear sp_R49_g34
                            clear sp_R58_R49
                            clear sp_R58_R65
                            clear sp_R58_g1
                            clear sp_R58_g34
                            clear sp_R65_R49
                            clear sp_R65_R58
                            clear sp_R65_g1
                            clear sp_R65_g34
                            clear hOwn fz_g1 fz_g34 fz_R49 fz_R58 fz_R65
                            obtain ⟨E, HW, B5, B38, R49, R58, R65, sp_R49_R58, sp_R49_R65, sp_R49_g1, sp_R49_g34, sp_R58_R49, sp_R58_R65, sp_R58_g1, sp_R58_g34, sp_R65_R49, sp_R65_R58, sp_R65_g1, sp_R65_g34, hOwn, fz_g1, fz_g34, fz_R49, fz_R58, fz_R65, hj, hm_m93⟩ := hI_
                            refine wp_seq ?_
                            refine wp_seq ?_
                            refine wp_region_lit ?_
                            refine vrun (w := w92) (lp := [(3, .pointer (some ⟨g1, 0, none⟩)), (7, .bool true), (10, .int .i64 (pickV q ((acc.length : Nat) : Int))), (11, .slice (some ⟨b82, 0, none⟩) (List.length (goesK gd nodes (pickV q ((acc.length : Nat) : Int)) (movesV ((partE env p0 : Nat) : Int)) (movesV ((partS env p0 : Nat) : Int)) (movesV ((partE env p0 : Nat) : Int)).length)) c46), (13, .slice A56 (List.length (movesV ((partE env p0 : Nat) : Int))) c57), (14, .slice A63 (List.length (movesV ((partS env p0 : Nat) : Int))) c64), (15, .int .i64 (k : Int)), (16, .int .i64 (j : Int)), (113, .bool (decide ((j : Int) < (((List.length (movesV ((partS env p0 : Nat) : Int))) : Nat) : Int))))]) (φ := []) tbok 4 [] [3, 7, 10, 11, 13, 14, 15, 16, 113] E (by kernel_rfl) trivial ?_
                            clear E; intro a E
                            refine wpList_nil ?_
                            refine th_n ?_
                            refine E.cases (t := 113) rfl (fun hb_ E_ => ?_) (fun hb_ E_ => ?_)
                            · replace E := E_; clear E_
                              have h94 : (j : Int) < (((List.length (movesV ((partS env p0 : Nat) : Int))) : Nat) : Int) := of_decide_eq_true hb_
                              clear hb_
                              refine c_true E rfl ?_
                              refine wp_skip ?_
                              refine th_n ?_
                              refine wp_seq ?_
                              refine wp_block ?_
                              refine wp_seq ?_
                              refine dr_start (S := fun w_ => Chg No w92 w_) (by kernel_rfl) ?_
                              intro w95 hc96
                              have HWs := HW
                              have B5s := B5
                              have B38s := B38
                              have R49s := R49
                              have R58s := R58
                              have R65s := R65
                              have HS : Chg No w92 w95 := hc96.mono (fun _ _ h_ => h_.elim)
                              replace hOwn := hOwn.step hc96
                              replace B5 := B5.chg hc96 (fun h_ => h_)
                              replace B38 := B38.chg hc96 (fun h_ => h_)
                              replace R49 := R49.keep hc96 (fun _ _ h_ => h_) (fun _ _ h_ => h_)
                              replace R58 := R58.keep hc96 (fun _ _ h_ => h_) (fun _ _ h_ => h_)
                              replace R65 := R65.keep hc96 (fun _ _ h_ => h_) (fun _ _ h_ => h_)
                              replace HW := HW.trans hc96 (fun _ _ h_ => h_.elim)
                              have hx_122 : 0 ≤ (pickV q ((acc.length : Nat) : Int)) ∧ (pickV q ((acc.length : Nat) : Int)) < ((gd.length : Nat) : Int) := ⟨by omega, by have h_ := (checkV_yes (by assumption : checkV p0 acc.length gd nodes = 0)).gl; omega⟩
                              obtain ⟨b97, o98, e_b97⟩ := H2.addr (by omega)
                              subst e_b97
                              have hx_126 : 0 ≤ (k : Int) ∧ (k : Int) < (((List.length (movesV ((partE env p0 : Nat) : Int))) : Nat) : Int) := ⟨by omega, by have h_ := @goesK_len gd nodes (pickV q ((acc.length : Nat) : Int)) (movesV ((partE env p0 : Nat) : Int)) (movesV ((partS env p0 : Nat) : Int)) _ (Nat.le_refl _); omega⟩
                              obtain ⟨b99, e_b99⟩ := R58s.addr' (by omega)
                              subst e_b99
                              have hx_130 : 0 ≤ (j : Int) ∧ (j : Int) < (((List.length (movesV ((partS env p0 : Nat) : Int))) : Nat) : Int) := ⟨by omega, by omega⟩
                              obtain ⟨b101, e_b101⟩ := R65s.addr' (by omega)
                              subst e_b101
                              refine drun (lp := [(3, .pointer (some ⟨g1, 0, none⟩)), (7, .bool true), (10, .int .i64 (pickV q ((acc.length : Nat) : Int))), (11, .slice (some ⟨b82, 0, none⟩) (List.length (goesK gd nodes (pickV q ((acc.length : Nat) : Int)) (movesV ((partE env p0 : Nat) : Int)) (movesV ((partS env p0 : Nat) : Int)) (movesV ((partE env p0 : Nat) : Int)).length)) c46), (13, .slice (some ⟨b99, 0, none⟩) (List.length (movesV ((partE env p0 : Nat) : Int))) c57), (14, .slice (some ⟨b101, 0, none⟩) (List.length (movesV ((partS env p0 : Nat) : Int))) c64), (15, .int .i64 (k : Int)), (16, .int .i64 (j : Int)), (118, .slice A3 nodes.length c3), (123, .int .i64 (List.getD gd (Int.toNat (pickV q ((acc.length : Nat) : Int))) 0)), (132, .int .u8 ((Nat.lor (Int.toNat (List.getD (movesV ((partE env p0 : Nat) : Int)) (Int.toNat (k : Int)) 0)) (Int.toNat (List.getD (movesV ((partS env p0 : Nat) : Int)) (Int.toNat (j : Int)) 0)) : Nat) : Int))]) tbok (by kernel_rfl) [0, 1, 2, 3, 4, 5, 6, 7, 8, 9, 10, 11, 12, 13, 14, 15] [.slice A3 nodes.length c3, .slice (some ⟨b97, o98, none⟩) gd.length c2, .int .i64 (List.getD gd (Int.toNat (pickV q ((acc.length : Nat) : Int))) 0), .int .u8 (List.getD (movesV ((partE env p0 : Nat) : Int)) (Int.toNat (k : Int)) 0), .int .u8 (List.getD (movesV ((partS env p0 : Nat) : Int)) (Int.toNat (j : Int)) 0), .int .u8 ((Nat.lor (Int.toNat (List.getD (movesV ((partE env p0 : Nat) : Int)) (Int.toNat (k : Int)) 0)) (Int.toNat (List.getD (movesV ((partS env p0 : Nat) : Int)) (Int.toNat (j : Int)) 0)) : Nat) : Int)] [3, 7, 10, 11, 13, 14, 15, 16, 118, 123, 132] (fun w_ => [World.cell? w_ ⟨g1, 3, none⟩ = some (.slice A3 nodes.length c3), World.cell? w_ ⟨g1, 2, none⟩ = some (.slice (some ⟨b97, o98, none⟩) gd.length c2), 0 ≤ (pickV q ((acc.length : Nat) : Int)) ∧ (pickV q ((acc.length : Nat) : Int)) < ((gd.length : Nat) : Int), World.cell? w_ ⟨b97, o98 + (Int.toNat (pickV q ((acc.length : Nat) : Int))) * 1, none⟩ = some (.int .i64 (List.getD gd (Int.toNat (pickV q ((acc.length : Nat) : Int))) 0)), 0 ≤ (k : Int) ∧ (k : Int) < (((List.length (movesV ((partE env p0 : Nat) : Int))) : Nat) : Int), World.cell? w_ ⟨b99, 0 + (Int.toNat (k : Int)) * 1, none⟩ = some (.int .u8 (List.getD (movesV ((partE env p0 : Nat) : Int)) (Int.toNat (k : Int)) 0)), 0 ≤ (j : Int) ∧ (j : Int) < (((List.length (movesV ((partS env p0 : Nat) : Int))) : Nat) : Int), World.cell? w_ ⟨b101, 0 + (Int.toNat (j : Int)) * 1, none⟩ = some (.int .u8 (List.getD (movesV ((partS env p0 : Nat) : Int)) (Int.toNat (j : Int)) 0)), IntKind.u8.wrap (BitVec.ofInt (IntKind.bits .u8) (List.getD (movesV ((partE env p0 : Nat) : Int)) (Int.toNat (k : Int)) 0) ||| BitVec.ofInt (IntKind.bits .u8) (List.getD (movesV ((partS env p0 : Nat) : Int)) (Int.toNat (j : Int)) 0)).toNat = ((Nat.lor (Int.toNat (List.getD (movesV ((partE env p0 : Nat) : Int)) (Int.toNat (k : Int)) 0)) (Int.toNat (List.getD (movesV ((partS env p0 : Nat) : Int)) (Int.toNat (j : Int)) 0)) : Nat) : Int)]) (fuel := 6) E (fun _ _ => by kernel_rfl) (fun w_ hS_ => ⟨hS_.cell (B5s.cell (j := 3) rfl) (fun h_ => h_), hS_.cell (B5s.cell (j := 2) rfl) (fun h_ => h_), hx_122, hS_.cell (C.at1 (H2.keep HWs lo_hi) 0 hx_122.1 hx_122.2) (fun h_ => h_), hx_126, hS_.cell (C.at1 R58s.C 0 hx_126.1 hx_126.2) (fun h_ => h_), hx_130, hS_.cell (C.at1 R65s.C 0 hx_130.1 hx_130.2) (fun h_ => h_), or_u8 (getD_u8 (movesV_u8 (part_u8 he (checkV_yes (by assumption : checkV p0 acc.length gd nodes = 0)).p0 (checkV_yes (by assumption : checkV p0 acc.length gd nodes = 0)).p8).1) _) (getD_u8 (movesV_u8 (part_u8 he (checkV_yes (by assumption : checkV p0 acc.length gd nodes = 0)).p0 (checkV_yes (by assumption : checkV p0 acc.length gd nodes = 0)).p8).2) _)⟩) (by kernel_rfl) HS ?_
                              clear E; intro a E
                              refine wpAnyH_all (rs := [16]) (by kernel_rfl) (by simp) ?_
                              refine all1 ?_
                              · refine wpOp_of_list rfl ?_
                                refine e_call E rfl rfl Try.func15 rfl rfl rfl (Go_calls A3 c3 nodes (List.getD gd (Int.toNat (pickV q ((acc.length : Nat) : Int))) 0) ((Nat.lor (Int.toNat (List.getD (movesV ((partE env p0 : Nat) : Int)) (Int.toNat (k : Int)) 0)) (Int.toNat (List.getD (movesV ((partS env p0 : Nat) : Int)) (Int.toNat (j : Int)) 0)) : Nat) : Int) _ (getD_w64 hG _) (or_lt (getD_u8 (movesV_u8 (part_u8 he (checkV_yes (by assumption : checkV p0 acc.length gd nodes = 0)).p0 (checkV_yes (by assumption : checkV p0 acc.length gd nodes = 0)).p8).1) _) (getD_u8 (movesV_u8 (part_u8 he (checkV_yes (by assumption : checkV p0 acc.length gd nodes = 0)).p0 (checkV_yes (by assumption : checkV p0 acc.length gd nodes = 0)).p8).2) _)) (by omega) (H3.now HW) hW) ?_
                                intro v103 w104 a hR105 E_
                                obtain ⟨rfl, hc106⟩ := hR105
                                rw [(next_in (checkV_yes (by assumption : checkV p0 acc.length gd nodes = 0)) ((Nat.lor (Int.toNat (List.getD (movesV ((partE env p0 : Nat) : Int)) (Int.toNat (k : Int)) 0)) (Int.toNat (List.getD (movesV ((partS env p0 : Nat) : Int)) (Int.toNat (j : Int)) 0)) : Nat) : Int) hpk_.1 hpk_.2).1] at E_
                                replace E := E_ _ rfl; clear E_
                                replace hOwn := hOwn.step hc106
                                replace B5 := B5.chg hc106 (fun h_ => h_)
                                replace B38 := B38.chg hc106 (fun h_ => h_)
                                replace R49 := R49.keep hc106 (fun _ _ h_ => h_) (fun _ _ h_ => h_)
                                replace R58 := R58.keep hc106 (fun _ _ h_ => h_) (fun _ _ h_ => h_)
                                replace R65 := R65.keep hc106 (fun _ _ h_ => h_) (fun _ _ h_ => h_)
                                replace HS := HS.trans hc106 (fun _ _ h_ => h_.elim)
                                replace HW := HW.trans hc106 (fun _ _ h_ => h_.elim)
                                refine wpList_nil ?_
                                refine th_n ⟨HS, ?_⟩
                                refine drun (lp := [(3, .pointer (some ⟨g1, 0, none⟩)), (7, .bool true), (10, .int .i64 (pickV q ((acc.length : Nat) : Int))), (11, .slice (some ⟨b82, 0, none⟩) (List.length (goesK gd nodes (pickV q ((acc.length : Nat) : Int)) (movesV ((partE env p0 : Nat) : Int)) (movesV ((partS env p0 : Nat) : Int)) (movesV ((partE env p0 : Nat) : Int)).length)) c46), (13, .slice (some ⟨b99, 0, none⟩) (List.length (movesV ((partE env p0 : Nat) : Int))) c57), (14, .slice (some ⟨b101, 0, none⟩) (List.length (movesV ((partS env p0 : Nat) : Int))) c64), (15, .int .i64 (k : Int)), (16, .int .i64 (j : Int)), (17, .int .i64 ((goF nodes ((Nat.lor (Int.toNat (List.getD (movesV ((partE env p0 : Nat) : Int)) (Int.toNat (k : Int)) 0)) (Int.toNat (List.getD (movesV ((partS env p0 : Nat) : Int)) (Int.toNat (j : Int)) 0)) : Nat) : Int) 9 (List.getD gd (Int.toNat (pickV q ((acc.length : Nat) : Int))) 0)).1)), (18, .bool true)]) tbok (by kernel_rfl) [17, 18, 19, 20, 21] [] [3, 7, 10, 11, 13, 14, 15, 16, 17, 18] (fun w_ => []) (fuel := 0) E (fun _ _ => by kernel_rfl) (fun w_ hS_ => trivial) (by kernel_rfl) HS ?_
                                clear E; intro a E
                                refine dr_done (by kernel_rfl) ?_
                                clear HS HWs
                                refine th_n ?_
                                refine wp_seq ?_
                                refine wp_region_lit ?_
                                have hx_142 : 0 ≤ (k : Int) ∧ (k : Int) < (((List.length (goesK gd nodes (pickV q ((acc.length : Nat) : Int)) (movesV ((partE env p0 : Nat) : Int)) (movesV ((partS env p0 : Nat) : Int)) (movesV ((partE env p0 : Nat) : Int)).length)) : Nat) : Int) := ⟨by omega, by omega⟩
                                obtain ⟨A107, c108, hl109, hk110, C111⟩ := Row.atSl R49 hx_142.1 hx_142.2
                                have hx_145 : 0 ≤ (j : Int) ∧ (j : Int) < (((List.length (List.getD (goesK gd nodes (pickV q ((acc.length : Nat) : Int)) (movesV ((partE env p0 : Nat) : Int)) (movesV ((partS env p0 : Nat) : Int)) (movesV ((partE env p0 : Nat) : Int)).length) (Int.toNat (k : Int)) [])) : Nat) : Int) := ⟨by omega, by rw [goesK_at (by omega), rowK_len (Nat.le_refl _)]; omega⟩
                                obtain ⟨b112, o113, e_b112⟩ := C111.addr (by omega)
                                subst e_b112
                                refine vrun (w := w104) (lp := [(3, .pointer (some ⟨g1, 0, none⟩)), (7, .bool true), (10, .int .i64 (pickV q ((acc.length : Nat) : Int))), (11, .slice (some ⟨b82, 0, none⟩) (List.length (goesK gd nodes (pickV q ((acc.length : Nat) : Int)) (movesV ((partE env p0 : Nat) : Int)) (movesV ((partS env p0 : Nat) : Int)) (movesV ((partE env p0 : Nat) : Int)).length)) c46), (13, .slice (some ⟨b99, 0, none⟩) (List.length (movesV ((partE env p0 : Nat) : Int))) c57), (14, .slice (some ⟨b101, 0, none⟩) (List.length (movesV ((partS env p0 : Nat) : Int))) c64), (15, .int .i64 (k : Int)), (16, .int .i64 (j : Int)), (139, .int .i64 ((goF nodes ((Nat.lor (Int.toNat (List.getD (movesV ((partE env p0 : Nat) : Int)) (Int.toNat (k : Int)) 0)) (Int.toNat (List.getD (movesV ((partS env p0 : Nat) : Int)) (Int.toNat (j : Int)) 0)) : Nat) : Int) 9 (List.getD gd (Int.toNat (pickV q ((acc.length : Nat) : Int))) 0)).1)), (140, .slice (some ⟨b82, 0, none⟩) (List.length (goesK gd nodes (pickV q ((acc.length : Nat) : Int)) (movesV ((partE env p0 : Nat) : Int)) (movesV ((partS env p0 : Nat) : Int)) (movesV ((partE env p0 : Nat) : Int)).length)) c46), (141, .int .i64 (k : Int)), (142, .pointer (some ⟨b82, 0 + (Int.toNat (k : Int)) * 1, none⟩)), (143, .slice (some ⟨b112, o113, none⟩) (List.length (List.getD (goesK gd nodes (pickV q ((acc.length : Nat) : Int)) (movesV ((partE env p0 : Nat) : Int)) (movesV ((partS env p0 : Nat) : Int)) (movesV ((partE env p0 : Nat) : Int)).length) (Int.toNat (k : Int)) [])) c108), (144, .int .i64 (j : Int)), (145, .pointer (some ⟨b112, o113 + (Int.toNat (j : Int)) * 1, none⟩)), (146, .int .i64 (List.getD (List.getD (goesK gd nodes (pickV q ((acc.length : Nat) : Int)) (movesV ((partE env p0 : Nat) : Int)) (movesV ((partS env p0 : Nat) : Int)) (movesV ((partE env p0 : Nat) : Int)).length) (Int.toNat (k : Int)) []) (Int.toNat (j : Int)) 0)), (147, .bool (((goF nodes ((Nat.lor (Int.toNat (List.getD (movesV ((partE env p0 : Nat) : Int)) (Int.toNat (k : Int)) 0)) (Int.toNat (List.getD (movesV ((partS env p0 : Nat) : Int)) (Int.toNat (j : Int)) 0)) : Nat) : Int) 9 (List.getD gd (Int.toNat (pickV q ((acc.length : Nat) : Int))) 0)).1 : Int) != (List.getD (List.getD (goesK gd nodes (pickV q ((acc.length : Nat) : Int)) (movesV ((partE env p0 : Nat) : Int)) (movesV ((partS env p0 : Nat) : Int)) (movesV ((partE env p0 : Nat) : Int)).length) (Int.toNat (k : Int)) []) (Int.toNat (j : Int)) 0))), (148, .bool (((goF nodes ((Nat.lor (Int.toNat (List.getD (movesV ((partE env p0 : Nat) : Int)) (Int.toNat (k : Int)) 0)) (Int.toNat (List.getD (movesV ((partS env p0 : Nat) : Int)) (Int.toNat (j : Int)) 0)) : Nat) : Int) 9 (List.getD gd (Int.toNat (pickV q ((acc.length : Nat) : Int))) 0)).1 : Int) != (List.getD (List.getD (goesK gd nodes (pickV q ((acc.length : Nat) : Int)) (movesV ((partE env p0 : Nat) : Int)) (movesV ((partS env p0 : Nat) : Int)) (movesV ((partE env p0 : Nat) : Int)).length) (Int.toNat (k : Int)) []) (Int.toNat (j : Int)) 0)))]) (φ := [0 ≤ (k : Int) ∧ (k : Int) < (((List.length (goesK gd nodes (pickV q ((acc.length : Nat) : Int)) (movesV ((partE env p0 : Nat) : Int)) (movesV ((partS env p0 : Nat) : Int)) (movesV ((partE env p0 : Nat) : Int)).length)) : Nat) : Int), World.cell? w104 ⟨b82, 0 + (Int.toNat (k : Int)) * 1, none⟩ = some (.slice (some ⟨b112, o113, none⟩) (List.length (List.getD (goesK gd nodes (pickV q ((acc.length : Nat) : Int)) (movesV ((partE env p0 : Nat) : Int)) (movesV ((partS env p0 : Nat) : Int)) (movesV ((partE env p0 : Nat) : Int)).length) (Int.toNat (k : Int)) [])) c108), 0 ≤ (j : Int) ∧ (j : Int) < (((List.length (List.getD (goesK gd nodes (pickV q ((acc.length : Nat) : Int)) (movesV ((partE env p0 : Nat) : Int)) (movesV ((partS env p0 : Nat) : Int)) (movesV ((partE env p0 : Nat) : Int)).length) (Int.toNat (k : Int)) [])) : Nat) : Int), World.cell? w104 ⟨b112, o113 + (Int.toNat (j : Int)) * 1, none⟩ = some (.int .i64 (List.getD (List.getD (goesK gd nodes (pickV q ((acc.length : Nat) : Int)) (movesV ((partE env p0 : Nat) : Int)) (movesV ((partS env p0 : Nat) : Int)) (movesV ((partE env p0 : Nat) : Int)).length) (Int.toNat (k : Int)) []) (Int.toNat (j : Int)) 0))]) tbok 13 [.slice (some ⟨b112, o113, none⟩) (List.length (List.getD (goesK gd nodes (pickV q ((acc.length : Nat) : Int)) (movesV ((partE env p0 : Nat) : Int)) (movesV ((partS env p0 : Nat) : Int)) (movesV ((partE env p0 : Nat) : Int)).length) (Int.toNat (k : Int)) [])) c108, .int .i64 (List.getD (List.getD (goesK gd nodes (pickV q ((acc.length : Nat) : Int)) (movesV ((partE env p0 : Nat) : Int)) (movesV ((partS env p0 : Nat) : Int)) (movesV ((partE env p0 : Nat) : Int)).length) (Int.toNat (k : Int)) []) (Int.toNat (j : Int)) 0)] [3, 7, 10, 11, 13, 14, 15, 16, 139, 140, 141, 142, 143, 144, 145, 146, 147, 148] E (by kernel_rfl) ⟨hx_142, hl109, hx_145, C.at1 C111 0 hx_145.1 hx_145.2⟩ ?_
                                clear E; intro a E
                                refine wpList_nil ?_
                                refine th_n ?_
                                refine E.cases (t := 148) rfl (fun hb_ E_ => ?_) (fun hb_ E_ => ?_)
                                · replace E := E_; clear E_
                                  have h114 : ¬ (((goF nodes ((Nat.lor (Int.toNat (List.getD (movesV ((partE env p0 : Nat) : Int)) (Int.toNat (k : Int)) 0)) (Int.toNat (List.getD (movesV ((partS env p0 : Nat) : Int)) (Int.toNat (j : Int)) 0)) : Nat) : Int) 9 (List.getD gd (Int.toNat (pickV q ((acc.length : Nat) : Int))) 0)).1 : Int) = (List.getD (List.getD (goesK gd nodes (pickV q ((acc.length : Nat) : Int)) (movesV ((partE env p0 : Nat) : Int)) (movesV ((partS env p0 : Nat) : Int)) (movesV ((partE env p0 : Nat) : Int)).length) (Int.toNat (k : Int)) []) (Int.toNat (j : Int)) 0)) := bne_iff_ne.1 hb_
                                  clear hb_
                                  exact absurd (by rw [goesK_at (by omega), rowK_at (by omega)]; rfl) h114
                                · replace E := E_; clear E_
                                  have h115 : ((goF nodes ((Nat.lor (Int.toNat (List.getD (movesV ((partE env p0 : Nat) : Int)) (Int.toNat (k : Int)) 0)) (Int.toNat (List.getD (movesV ((partS env p0 : Nat) : Int)) (Int.toNat (j : Int)) 0)) : Nat) : Int) 9 (List.getD gd (Int.toNat (pickV q ((acc.length : Nat) : Int))) 0)).1 : Int) = (List.getD (List.getD (goesK gd nodes (pickV q ((acc.length : Nat) : Int)) (movesV ((partE env p0 : Nat) : Int)) (movesV ((partS env p0 : Nat) : Int)) (movesV ((partE env p0 : Nat) : Int)).length) (Int.toNat (k : Int)) []) (Int.toNat (j : Int)) 0) := bne_eq_false_iff_eq.1 hb_
                                  clear hb_
                                  refine c_false E rfl ?_
                                  refine wp_skip ?_
                                  refine bl_n ?_
                                  refine th_n ?_
                                  refine wp_region_lit ?_
                                  refine vrun (w := w104) (lp := [(3, .pointer (some ⟨g1, 0, none⟩)), (7, .bool true), (10, .int .i64 (pickV q ((acc.length : Nat) : Int))), (11, .slice (some ⟨b82, 0, none⟩) (List.length (goesK gd nodes (pickV q ((acc.length : Nat) : Int)) (movesV ((partE env p0 : Nat) : Int)) (movesV ((partS env p0 : Nat) : Int)) (movesV ((partE env p0 : Nat) : Int)).length)) c46), (13, .slice (some ⟨b99, 0, none⟩) (List.length (movesV ((partE env p0 : Nat) : Int))) c57), (14, .slice (some ⟨b101, 0, none⟩) (List.length (movesV ((partS env p0 : Nat) : Int))) c64), (15, .int .i64 (k : Int)), (16, .int .i64 ((j : Int) + 1)), (139, .int .i64 ((goF nodes ((Nat.lor (Int.toNat (List.getD (movesV ((partE env p0 : Nat) : Int)) (Int.toNat (k : Int)) 0)) (Int.toNat (List.getD (movesV ((partS env p0 : Nat) : Int)) (Int.toNat (j : Int)) 0)) : Nat) : Int) 9 (List.getD gd (Int.toNat (pickV q ((acc.length : Nat) : Int))) 0)).1)), (140, .slice (some ⟨b82, 0, none⟩) (List.length (goesK gd nodes (pickV q ((acc.length : Nat) : Int)) (movesV ((partE env p0 : Nat) : Int)) (movesV ((partS env p0 : Nat) : Int)) (movesV ((partE env p0 : Nat) : Int)).length)) c46), (141, .int .i64 (k : Int)), (142, .pointer (some ⟨b82, 0 + (Int.toNat (k : Int)) * 1, none⟩)), (143, .slice (some ⟨b112, o113, none⟩) (List.length (List.getD (goesK gd nodes (pickV q ((acc.length : Nat) : Int)) (movesV ((partE env p0 : Nat) : Int)) (movesV ((partS env p0 : Nat) : Int)) (movesV ((partE env p0 : Nat) : Int)).length) (Int.toNat (k : Int)) [])) c108), (144, .int .i64 (j : Int)), (145, .pointer (some ⟨b112, o113 + (Int.toNat (j : Int)) * 1, none⟩)), (146, .int .i64 (List.getD (List.getD (goesK gd nodes (pickV q ((acc.length : Nat) : Int)) (movesV ((partE env p0 : Nat) : Int)) (movesV ((partS env p0 : Nat) : Int)) (movesV ((partE env p0 : Nat) : Int)).length) (Int.toNat (k : Int)) []) (Int.toNat (j : Int)) 0)), (147, .bool (((goF nodes ((Nat.lor (Int.toNat (List.getD (movesV ((partE env p0 : Nat) : Int)) (Int.toNat (k : Int)) 0)) (Int.toNat (List.getD (movesV ((partS env p0 : Nat) : Int)) (Int.toNat (j : Int)) 0)) : Nat) : Int) 9 (List.getD gd (Int.toNat (pickV q ((acc.length : Nat) : Int))) 0)).1 : Int) != (List.getD (List.getD (goesK gd nodes (pickV q ((acc.length : Nat) : Int)) (movesV ((partE env p0 : Nat) : Int)) (movesV ((partS env p0 : Nat) : Int)) (movesV ((partE env p0 : Nat) : Int)).length) (Int.toNat (k : Int)) []) (Int.toNat (j : Int)) 0)))]) (φ := [IntKind.i64.wrap ((j : Int) + 1) = (j : Int) + 1]) tbok 3 [.int .i64 ((j : Int) + 1)] [3, 7, 10, 11, 13, 14, 15, 16, 139, 140, 141, 142, 143, 144, 145, 146, 147] E (by kernel_rfl) (wrap_i64 (by omega) (by omega)) ?_
                                  clear E; intro a E
                                  refine wpList_nil ?_
                                  refine th_n ⟨(movesV ((partS env p0 : Nat) : Int)).length - (j + 1), by omega, ?_⟩
                                  exact ⟨j + 1, Fz91, E.pick _ ⟨rfl, rfl, rfl, rfl, rfl, rfl, rfl, rfl, trivial⟩, HW, B5, B38, R49, R58, R65, sp_R49_R58, sp_R49_R65, sp_R49_g1, sp_R49_g34, sp_R58_R49, sp_R58_R65, sp_R58_g1, sp_R58_g34, sp_R65_R49, sp_R65_R58, sp_R65_g1, sp_R65_g34, hOwn, fz_g1, fz_g34, fz_R49, fz_R58, fz_R65, (by omega), rfl⟩
                            · replace E := E_; clear E_
                              have h116 : ¬ ((j : Int) < (((List.length (movesV ((partS env p0 : Nat) : Int))) : Nat) : Int)) := of_decide_eq_false hb_
                              clear hb_
                              refine c_false E rfl ?_
                              refine wp_exit ?_
                              refine th_exit ?_
                              refine th_exit ?_
                              refine bl_hit ?_
                              refine bl_n ?_
                              refine th_n ?_
                              refine wp_region_lit ?_
                              refine vrun (w := w92) (lp := [(3, .pointer (some ⟨g1, 0, none⟩)), (7, .bool true), (10, .int .i64 (pickV q ((acc.length : Nat) : Int))), (11, .slice (some ⟨b82, 0, none⟩) (List.length (goesK gd nodes (pickV q ((acc.length : Nat) : Int)) (movesV ((partE env p0 : Nat) : Int)) (movesV ((partS env p0 : Nat) : Int)) (movesV ((partE env p0 : Nat) : Int)).length)) c46), (13, .slice A56 (List.length (movesV ((partE env p0 : Nat) : Int))) c57), (14, .slice A63 (List.length (movesV ((partS env p0 : Nat) : Int))) c64), (15, .int .i64 ((k : Int) + 1))]) (φ := [IntKind.i64.wrap ((k : Int) + 1) = (k : Int) + 1]) tbok 3 [.int .i64 ((k : Int) + 1)] [3, 7, 10, 11, 13, 14, 15] E (by kernel_rfl) (wrap_i64 (by omega) (by omega)) ?_
                              clear E; intro a E
                              refine wpList_nil ?_
                              refine th_n ⟨(goesK gd nodes (pickV q ((acc.length : Nat) : Int)) (movesV ((partE env p0 : Nat) : Int)) (movesV ((partS env p0 : Nat) : Int)) (movesV ((partE env p0 : Nat) : Int)).length).length - (k + 1), by omega, ?_⟩
                              exact ⟨k + 1, Fz91, E.pick _ ⟨rfl, rfl, rfl, rfl, rfl, rfl, rfl, trivial⟩, HW, B5, B38, R49, R58, R65, sp_R49_R58, sp_R49_R65, sp_R49_g1, sp_R49_g34, sp_R58_R49, sp_R58_R65, sp_R58_g1, sp_R58_g34, sp_R65_R49, sp_R65_R58, sp_R65_g1, sp_R65_g34, hOwn, fz_g1, fz_g34, fz_R49, fz_R58, fz_R65, (by omega), rfl⟩
                      · replace E := E_; clear E_
                        have h117 : ¬ ((k : Int) < (((List.length (goesK gd nodes (pickV q ((acc.length : Nat) : Int)) (movesV ((partE env p0 : Nat) : Int)) (movesV ((partS env p0 : Nat) : Int)) (movesV ((partE env p0 : Nat) : Int)).length)) : Nat) : Int)) := of_decide_eq_false hb_
                        clear hb_
                        refine c_false E rfl ?_
                        refine wp_exit ?_
                        refine th_exit ?_
                        refine th_exit ?_
                        refine bl_hit ?_
                        refine th_n ?_
                        refine wp_seq ?_
                        refine wp_region_lit ?_
                        refine vrun (w := w79) (lp := [(6, .bool true)]) (φ := []) tbok 2 [] [6] E (by kernel_rfl) trivial ?_
                        clear E; intro a E
                        refine wpList_nil ?_
                        refine th_n ?_
                        refine wp_ret ?_
                        refine ret1 E rfl rfl ?_
                        exact ⟨_, rfl, rfl, HW.own⟩

end Go.V
