/- Contracts of functions of the program: walks. -/
import Derived.Test.YtllkojpinpojiaaBc
import Derived.Test.YtllkojpinpojiaaGo
import Derived.Test.YtllkojpinpojiaaMo
set_option linter.all false
set_option linter.unusedVariables false
set_option linter.unnecessarySimpa false
set_option linter.unusedSimpArgs false
namespace Go.V
open Go Go.Proofs

/-! rejoinder/board.Goes -/
set_option maxRecDepth 100000 in
theorem Goes_calls (p0 : Int) (A1 A2 A3 : Option Addr) (c1 c2 c3 : Nat) (acc : List Bool) (gd : List Int) (nodes : List Nd) (env sys q : Int) (w0 : World) (hl1 : acc.length ≤ 140737488351232) (hl2 : gd.length ≤ 140737488351232) (hl3 : nodes.length ≤ 140737488351232) (H1 : C cBool w0 (Lo w0.heap.size) A1 acc) (H2 : C (cInt .i64) w0 (Lo w0.heap.size) A2 gd) (H3 : C cNode w0 (Lo w0.heap.size) A3 nodes) (hW : ∀ x ∈ nodes, x.wf) (hG : ∀ x ∈ gd, -9223372036854775808 ≤ x ∧ x ≤ 9223372036854775807) (he : 0 ≤ env ∧ env ≤ 255) (hs : 0 ≤ sys ∧ sys ≤ 255) :
    Calls Try.prog 12 #[.agg #[.int .i64 p0, .slice A1 acc.length c1, .slice A2 gd.length c2, .slice A3 nodes.length c3], .agg #[.int .u8 env, .int .u8 sys], .int .i64 q] w0 fun e w' => ∃ v, e = .returned v ∧ ∃ A c Fz, v = .tuple #[.slice A (goesV p0 acc gd nodes env sys q).1.length c, .int .i64 (goesV p0 acc gd nodes env sys q).2] ∧ Ext w0 w' ∧ Own w0.heap.size w' Fz ∧ Row (cSl (cInt .i64)) 23 w' w0.heap.size Fz A c (goesV p0 acc gd nodes env sys q).1 := by
  have HW : Chg (Hi w0.heap.size) w0 w0 := Chg.refl _ _
  refine enterV (n := 73) Try.func12 rfl rfl rfl ?_
  intro a E
  replace E := E.pick [(0, .agg #[.int .i64 p0, .slice A1 acc.length c1, .slice A2 gd.length c2, .slice A3 nodes.length c3]), (1, .agg #[.int .u8 env, .int .u8 sys]), (2, .int .i64 q)] ⟨rfl, rfl, rfl, trivial⟩
  refine wp_seq ?_
  refine wp_region_lit ?_
  refine e_box E rfl rfl rfl ?_
  intro w2 g1 a hc3 hg4 B5 E_
  replace E := E_ _ rfl; clear E_
  replace B5 : Bx w2 g1 26 [.int .i64 p0, .slice A1 acc.length c1, .slice A2 gd.length c2, .slice A3 nodes.length c3] := B5
  have hi_g1 : w0.heap.size ≤ g1 := Nat.le_trans HW.size hg4
  replace HW := HW.trans hc3 (fun _ _ h_ => h_.elim)
  refine e_box E rfl rfl rfl ?_
  intro w7 g6 a hc8 hg9 B10 E_
  replace E := E_ _ rfl; clear E_
  replace B10 : Bx w7 g6 33 [.int .u8 env, .int .u8 sys] := B10
  have hi_g6 : w0.heap.size ≤ g6 := Nat.le_trans HW.size hg9
  have ne_g1_g6 : g1 ≠ g6 := by have h_ := B5.lt; omega
  replace B5 := B5.chg hc8 (fun h_ => h_)
  replace HW := HW.trans hc8 (fun _ _ h_ => h_.elim)
  refine vrun (w := w7) (lp := [(2, .int .i64 q), (3, .pointer (some ⟨g1, 0, none⟩)), (4, .pointer (some ⟨g6, 0, none⟩))]) (φ := []) tbok 2 [] [2, 3, 4] E (by kernel_rfl) trivial ?_
  clear E; intro a E
  refine wpList_nil ?_
  refine th_n ?_
  refine wp_seq ?_
  refine wp_seq ?_
  refine wp_region_lit ?_
  refine vrun (w := w7) (lp := [(2, .int .i64 q), (3, .pointer (some ⟨g1, 0, none⟩)), (4, .pointer (some ⟨g6, 0, none⟩)), (17, .agg #[.int .i64 p0, .slice A1 acc.length c1, .slice A2 gd.length c2, .slice A3 nodes.length c3]), (18, .agg #[.int .u8 env, .int .u8 sys])]) (φ := [cellsAt w7 g1 (0) [.int .i64 p0, .slice A1 acc.length c1, .slice A2 gd.length c2, .slice A3 nodes.length c3], cellsAt w7 g6 (0) [.int .u8 env, .int .u8 sys]]) tbok 2 [.agg #[.int .i64 p0, .slice A1 acc.length c1, .slice A2 gd.length c2, .slice A3 nodes.length c3], .agg #[.int .u8 env, .int .u8 sys]] [2, 3, 4, 17, 18] E (by kernel_rfl) ⟨B5.sub 0 _ rfl, B10.sub 0 _ rfl⟩ ?_
  clear E; intro a E
  refine e_call E rfl rfl Try.func14 rfl rfl rfl (CheckB_calls p0 A1 A2 A3 c1 c2 c3 acc gd nodes env sys _ (by omega) (by omega) (by omega) (H1.now HW) (H2.now HW) (H3.now HW) hW he hs) ?_
  intro v11 w12 a hR13 E_
  obtain ⟨rfl, hc14⟩ := hR13
  replace E := E_ _ rfl; clear E_
  replace B5 := B5.chg hc14 (fun h_ => h_)
  replace B10 := B10.chg hc14 (fun h_ => h_)
  replace HW := HW.trans hc14 (fun _ _ h_ => h_.elim)
  refine vrun (w := w12) (lp := [(2, .int .i64 q), (3, .pointer (some ⟨g1, 0, none⟩)), (4, .pointer (some ⟨g6, 0, none⟩)), (8, .int .i64 (checkBV p0 acc gd nodes env sys))]) (φ := []) tbok 1 [] [2, 3, 4, 8] E (by kernel_rfl) trivial ?_
  clear E; intro a E
  refine wpList_nil ?_
  refine th_n ?_
  refine wp_seq ?_
  refine wp_region_lit ?_
  refine vrun (w := w12) (lp := [(2, .int .i64 q), (3, .pointer (some ⟨g1, 0, none⟩)), (4, .pointer (some ⟨g6, 0, none⟩)), (8, .int .i64 (checkBV p0 acc gd nodes env sys)), (21, .bool ((checkBV p0 acc gd nodes env sys : Int) != 0))]) (φ := []) tbok 2 [] [2, 3, 4, 8, 21] E (by kernel_rfl) trivial ?_
  clear E; intro a E
  refine wpList_nil ?_
  refine th_n ?_
  refine E.cases (t := 21) rfl (fun hb_ E_ => ?_) (fun hb_ E_ => ?_)
  · replace E := E_; clear E_
    have h15 : ¬ ((checkBV p0 acc gd nodes env sys : Int) = 0) := bne_iff_ne.1 hb_
    clear hb_
    refine c_true E rfl ?_
    refine wp_seq ?_
    refine wp_region_lit ?_
    refine vrun (w := w12) (lp := [(6, .slice none 0 0), (7, .int .i64 (checkBV p0 acc gd nodes env sys))]) (φ := []) tbok 3 [] [6, 7] E (by kernel_rfl) trivial ?_
    clear E; intro a E
    refine wpList_nil ?_
    refine th_n ?_
    refine wp_ret ?_
    refine th_ret ?_
    refine ret2 E rfl rfl rfl ?_
    have hq_ : goesV p0 acc gd nodes env sys q = ([], checkBV p0 acc gd nodes env sys) := goesV_a (by assumption)
    rw [hq_]
    exact ⟨_, rfl, none, 0, No, rfl, HW.own, Own.no _ _, Row.nil _ _ _ _ _⟩
  · replace E := E_; clear E_
    have h16 : (checkBV p0 acc gd nodes env sys : Int) = 0 := bne_eq_false_iff_eq.1 hb_
    clear hb_
    refine c_false E rfl ?_
    refine wp_skip ?_
    refine th_n ?_
    refine wp_seq ?_
    refine wp_seq ?_
    refine wp_region_lit ?_
    refine vrun (w := w12) (lp := [(2, .int .i64 q), (3, .pointer (some ⟨g1, 0, none⟩)), (4, .pointer (some ⟨g6, 0, none⟩)), (25, .bool (decide (q < 0)))]) (φ := []) tbok 3 [] [2, 3, 4, 25] E (by kernel_rfl) trivial ?_
    clear E; intro a E
    refine E.cases (t := 25) rfl (fun hb_ E_ => ?_) (fun hb_ E_ => ?_)
    · replace E := E_; clear E_
      have h17 : q < 0 := of_decide_eq_true hb_
      clear hb_
      refine vrun (w := w12) (lp := [(2, .int .i64 q), (3, .pointer (some ⟨g1, 0, none⟩)), (4, .pointer (some ⟨g6, 0, none⟩)), (31, .bool true)]) (φ := []) tbok 6 [] [2, 3, 4, 31] E (by kernel_rfl) trivial ?_
      clear E; intro a E
      refine wpList_nil ?_
      refine th_n ?_
      refine c_true E rfl ?_
      refine wp_seq ?_
      refine wp_region_lit ?_
      refine vrun (w := w12) (lp := [(6, .slice none 0 0), (7, .int .i64 2)]) (φ := []) tbok 2 [] [6, 7] E (by kernel_rfl) trivial ?_
      clear E; intro a E
      refine wpList_nil ?_
      refine th_n ?_
      refine wp_ret ?_
      refine th_ret ?_
      refine ret2 E rfl rfl rfl ?_
      have hq_ : goesV p0 acc gd nodes env sys q = ([], 2) := goesV_b (by assumption) (by omega)
      rw [hq_]
      exact ⟨_, rfl, none, 0, No, rfl, HW.own, Own.no _ _, Row.nil _ _ _ _ _⟩
    · replace E := E_; clear E_
      have h18 : ¬ (q < 0) := of_decide_eq_false hb_
      clear hb_
      refine vrun (w := w12) (lp := [(2, .int .i64 q), (3, .pointer (some ⟨g1, 0, none⟩)), (4, .pointer (some ⟨g6, 0, none⟩)), (31, .bool (decide (((acc.length : Nat) : Int) ≤ q)))]) (φ := [World.cell? w12 ⟨g1, 1, none⟩ = some (.slice A1 acc.length c1)]) tbok 6 [.slice A1 acc.length c1] [2, 3, 4, 31] E (by kernel_rfl) (B5.cell (j := 1) rfl) ?_
      clear E; intro a E
      refine wpList_nil ?_
      refine th_n ?_
      refine E.cases (t := 31) rfl (fun hb_ E_ => ?_) (fun hb_ E_ => ?_)
      · replace E := E_; clear E_
        have h19 : ((acc.length : Nat) : Int) ≤ q := of_decide_eq_true hb_
        clear hb_
        refine c_true E rfl ?_
        refine wp_seq ?_
        refine wp_region_lit ?_
        refine vrun (w := w12) (lp := [(6, .slice none 0 0), (7, .int .i64 2)]) (φ := []) tbok 2 [] [6, 7] E (by kernel_rfl) trivial ?_
        clear E; intro a E
        refine wpList_nil ?_
        refine th_n ?_
        refine wp_ret ?_
        refine th_ret ?_
        refine ret2 E rfl rfl rfl ?_
        have hq_ : goesV p0 acc gd nodes env sys q = ([], 2) := goesV_b (by assumption) (by omega)
        rw [hq_]
        exact ⟨_, rfl, none, 0, No, rfl, HW.own, Own.no _ _, Row.nil _ _ _ _ _⟩
      · replace E := E_; clear E_
        have h20 : ¬ (((acc.length : Nat) : Int) ≤ q) := of_decide_eq_false hb_
        clear hb_
        refine c_false E rfl ?_
        refine wp_skip ?_
        refine th_n ?_
        refine wp_seq ?_
        refine wp_region_lit ?_
        have hOwn := Own.no w0.heap.size w12
        have fz_g1 : ¬ No g1 := fun h_ => h_
        have fz_g6 : ¬ No g6 := fun h_ => h_
        have R9 := Row.nil (cSl (cInt .i64)) 23 w12 w0.heap.size No
        have fz_R9 : ∀ q, At none q → ¬ No q := fun q h_ => absurd h_ (At.nil q)
        have sp_R9_g1 := At.nil g1
        have sp_R9_g6 := At.nil g6
        refine vrun (w := w12) (lp := [(2, .int .i64 q), (3, .pointer (some ⟨g1, 0, none⟩)), (4, .pointer (some ⟨g6, 0, none⟩)), (9, .slice none 0 0)]) (φ := []) tbok 1 [] [2, 3, 4, 9] E (by kernel_rfl) trivial ?_
        clear E; intro a E
        refine wpList_nil ?_
        refine th_n ?_
        refine wp_seq ?_
        refine wp_seq ?_
        refine wp_region_lit ?_
        refine vrun (w := w12) (lp := [(2, .int .i64 q), (3, .pointer (some ⟨g1, 0, none⟩)), (4, .pointer (some ⟨g6, 0, none⟩)), (9, .slice none 0 0), (33, .int .u8 env)]) (φ := [World.cell? w12 ⟨g6, 0, none⟩ = some (.int .u8 env)]) tbok 2 [.int .u8 env] [2, 3, 4, 9, 33] E (by kernel_rfl) (B10.cell (j := 0) rfl) ?_
        clear E; intro a E
        refine e_call E rfl rfl Try.func13 rfl rfl rfl (Moves_calls env _ he) ?_
        intro v24 w25 a hR26 E_
        obtain ⟨A21, c22, rfl, hc27, R23⟩ := hR26
        replace E := E_ _ rfl; clear E_
        have sp_R23_g1 : ¬ At A21 g1 := fun h_ => by have i_ := R23.hi _ h_; have j_ := B5.lt; unfold Hi at i_; omega
        have sp_R23_g6 : ¬ At A21 g6 := fun h_ => by have i_ := R23.hi _ h_; have j_ := B10.lt; unfold Hi at i_; omega
        have sp_R9_R23 := R9.fresh2 R23.hi
        have sp_R23_R9 := At.comm sp_R9_R23
        have fz_R23 : ∀ q, At A21 q → ¬ No q := fun q_ h_ f_ => by have i_ := R23.hi q_ h_; have j_ := (hOwn q_ f_).2; unfold Hi at i_; omega
        replace R23 := R23.from_ HW.size
        have hl_R23 := movesV_len env
        replace hOwn := hOwn.step hc27
        replace B5 := B5.chg hc27 (fun h_ => h_)
        replace B10 := B10.chg hc27 (fun h_ => h_)
        replace R9 := R9.keep hc27 (fun _ _ h_ => h_) (fun _ _ h_ => h_)
        replace HW := HW.trans hc27 (fun _ _ h_ => h_.elim)
        refine vrun (w := w25) (lp := [(2, .int .i64 q), (3, .pointer (some ⟨g1, 0, none⟩)), (4, .pointer (some ⟨g6, 0, none⟩)), (9, .slice none 0 0), (34, .slice A21 (List.length (movesV env)) c22), (35, .int .i64 (((List.length (movesV env)) : Nat) : Int)), (36, .int .i64 0)]) (φ := []) tbok 2 [] [2, 3, 4, 9, 34, 35, 36] E (by kernel_rfl) trivial ?_
        clear E; intro a E
        refine wpList_nil ?_
        refine th_n ?_
        refine wp_block ?_
        refine loopV (fun m30 a w29 => ∃ (k : Nat) (A9 : Option Addr) (c9 : Nat) (Fz28 : Nat → Prop), Fr a 73 [(2, .int .i64 q), (3, .pointer (some ⟨g1, 0, none⟩)), (4, .pointer (some ⟨g6, 0, none⟩)), (9, .slice A9 (List.length (goesK gd nodes q (movesV env) (movesV sys) k)) c9), (34, .slice A21 (List.length (movesV env)) c22), (35, .int .i64 (((List.length (movesV env)) : Nat) : Int)), (36, .int .i64 (k : Int))] ∧ Chg (Hi w0.heap.size) w0 w29 ∧ Bx w29 g1 26 [.int .i64 p0, .slice A1 acc.length c1, .slice A2 gd.length c2, .slice A3 nodes.length c3] ∧ Bx w29 g6 33 [.int .u8 env, .int .u8 sys] ∧ Row (cSl (cInt .i64)) 23 w29 w0.heap.size Fz28 A9 c9 (goesK gd nodes q (movesV env) (movesV sys) k) ∧ Row (cInt .u8) 27 w29 w0.heap.size No A21 c22 (movesV env) ∧ (∀ q, At A21 q → ¬ At A9 q) ∧ (¬ At A21 g1) ∧ (¬ At A21 g6) ∧ (∀ q, At A9 q → ¬ At A21 q) ∧ (¬ At A9 g1) ∧ (¬ At A9 g6) ∧ Own w0.heap.size w29 Fz28 ∧ (¬ Fz28 g1) ∧ (¬ Fz28 g6) ∧ (∀ q, At A9 q → ¬ Fz28 q) ∧ (∀ q, At A21 q → ¬ Fz28 q) ∧ (k ≤ (movesV env).length) ∧ m30 = (movesV env).length - k) ((movesV env).length - (0)) ?_ ?_
        · skip
          exact ⟨0, none, 0, No, E.pick _ ⟨rfl, rfl, rfl, rfl, rfl, rfl, rfl, trivial⟩, HW, B5, B10, R9, R23, sp_R23_R9, sp_R23_g1, sp_R23_g6, sp_R9_R23, sp_R9_g1, sp_R9_g6, hOwn, fz_g1, fz_g6, fz_R9, fz_R23, (by omega), rfl⟩
        · clear E HW; intro m30 a w29 hI_
          obtain ⟨k, hI_⟩ := hI_
          obtain ⟨A9, hI_⟩ := hI_
          obtain ⟨c9, hI_⟩ := hI_
          obtain ⟨Fz28, hI_⟩ := hI_
          clear B5
          clear B10
          clear R9
          clear R23
          clear sp_R23_R9
          clear sp_R23_g1
          clear sp_R23_g6
          clear sp_R9_R23
          clear sp_R9_g1
          clear sp_R9_g6
          clear hOwn fz_g1 fz_g6 fz_R9 fz_R23
          obtain ⟨E, HW, B5, B10, R9, R23, sp_R23_R9, sp_R23_g1, sp_R23_g6, sp_R9_R23, sp_R9_g1, sp_R9_g6, hOwn, fz_g1, fz_g6, fz_R9, fz_R23, hk, hm_m30⟩ := hI_
          refine wp_seq ?_
          refine wp_region_lit ?_
          refine vrun (w := w29) (lp := [(2, .int .i64 q), (3, .pointer (some ⟨g1, 0, none⟩)), (4, .pointer (some ⟨g6, 0, none⟩)), (9, .slice A9 (List.length (goesK gd nodes q (movesV env) (movesV sys) k)) c9), (34, .slice A21 (List.length (movesV env)) c22), (35, .int .i64 (((List.length (movesV env)) : Nat) : Int)), (36, .int .i64 (k : Int)), (37, .bool (decide ((k : Int) < (((List.length (movesV env)) : Nat) : Int))))]) (φ := []) tbok 1 [] [2, 3, 4, 9, 34, 35, 36, 37] E (by kernel_rfl) trivial ?_
          clear E; intro a E
          refine wpList_nil ?_
          refine th_n ?_
          refine wp_seq ?_
          refine E.cases (t := 37) rfl (fun hb_ E_ => ?_) (fun hb_ E_ => ?_)
          · replace E := E_; clear E_
            have h31 : (k : Int) < (((List.length (movesV env)) : Nat) : Int) := of_decide_eq_true hb_
            clear hb_
            refine c_true E rfl ?_
            refine wp_skip ?_
            refine th_n ?_
            refine wp_seq ?_
            refine wp_block ?_
            refine wp_seq ?_
            refine wp_region_lit ?_
            have hx_38 : 0 ≤ (k : Int) ∧ (k : Int) < (((List.length (movesV env)) : Nat) : Int) := ⟨by omega, by omega⟩
            obtain ⟨b32, e_b32⟩ := R23.addr' (by omega)
            subst e_b32
            refine vrun (w := w29) (lp := [(2, .int .i64 q), (3, .pointer (some ⟨g1, 0, none⟩)), (4, .pointer (some ⟨g6, 0, none⟩)), (9, .slice A9 (List.length (goesK gd nodes q (movesV env) (movesV sys) k)) c9), (11, .int .u8 (List.getD (movesV env) (Int.toNat (k : Int)) 0)), (34, .slice (some ⟨b32, 0, none⟩) (List.length (movesV env)) c22), (35, .int .i64 (((List.length (movesV env)) : Nat) : Int)), (36, .int .i64 (k : Int))]) (φ := [0 ≤ (k : Int) ∧ (k : Int) < (((List.length (movesV env)) : Nat) : Int), World.cell? w29 ⟨b32, 0 + (Int.toNat (k : Int)) * 1, none⟩ = some (.int .u8 (List.getD (movesV env) (Int.toNat (k : Int)) 0))]) tbok 3 [.int .u8 (List.getD (movesV env) (Int.toNat (k : Int)) 0)] [2, 3, 4, 9, 11, 34, 35, 36] E (by kernel_rfl) ⟨hx_38, C.at1 R23.C 0 hx_38.1 hx_38.2⟩ ?_
            clear E; intro a E
            refine wpList_nil ?_
            refine th_n ?_
            refine wp_seq ?_
            refine wp_region_lit ?_
            have R12 := Row.nil (cInt .i64) 3 w29 w0.heap.size No
            have fz_R12 : ∀ q, At none q → ¬ Fz28 q := fun q h_ => absurd h_ (At.nil q)
            have sp_R12_g1 := At.nil g1
            have sp_R12_g6 := At.nil g6
            have sp_R12_R9 : ∀ q, At none q → ¬ At A9 q := fun q h_ => absurd h_ (At.nil q)
            have sp_R9_R12 := At.comm sp_R12_R9
            have sp_R12_R23 : ∀ q, At none q → ¬ At (some ⟨b32, 0, none⟩) q := fun q h_ => absurd h_ (At.nil q)
            have sp_R23_R12 := At.comm sp_R12_R23
            refine vrun (w := w29) (lp := [(2, .int .i64 q), (3, .pointer (some ⟨g1, 0, none⟩)), (4, .pointer (some ⟨g6, 0, none⟩)), (9, .slice A9 (List.length (goesK gd nodes q (movesV env) (movesV sys) k)) c9), (11, .int .u8 (List.getD (movesV env) (Int.toNat (k : Int)) 0)), (12, .slice none 0 0), (34, .slice (some ⟨b32, 0, none⟩) (List.length (movesV env)) c22), (35, .int .i64 (((List.length (movesV env)) : Nat) : Int)), (36, .int .i64 (k : Int))]) (φ := []) tbok 1 [] [2, 3, 4, 9, 11, 12, 34, 35, 36] E (by kernel_rfl) trivial ?_
            clear E; intro a E
            refine wpList_nil ?_
            refine th_n ?_
            refine wp_seq ?_
            refine wp_seq ?_
            refine wp_region_lit ?_
            refine vrun (w := w29) (lp := [(2, .int .i64 q), (3, .pointer (some ⟨g1, 0, none⟩)), (4, .pointer (some ⟨g6, 0, none⟩)), (9, .slice A9 (List.length (goesK gd nodes q (movesV env) (movesV sys) k)) c9), (11, .int .u8 (List.getD (movesV env) (Int.toNat (k : Int)) 0)), (12, .slice none 0 0), (34, .slice (some ⟨b32, 0, none⟩) (List.length (movesV env)) c22), (35, .int .i64 (((List.length (movesV env)) : Nat) : Int)), (36, .int .i64 (k : Int)), (41, .int .u8 sys)]) (φ := [World.cell? w29 ⟨g6, 1, none⟩ = some (.int .u8 sys)]) tbok 2 [.int .u8 sys] [2, 3, 4, 9, 11, 12, 34, 35, 36, 41] E (by kernel_rfl) (B10.cell (j := 1) rfl) ?_
            clear E; intro a E
            refine e_call E rfl rfl Try.func13 rfl rfl rfl (Moves_calls sys _ hs) ?_
            intro v37 w38 a hR39 E_
            obtain ⟨A34, c35, rfl, hc40, R36⟩ := hR39
            replace E := E_ _ rfl; clear E_
            have sp_R36_g1 : ¬ At A34 g1 := fun h_ => by have i_ := R36.hi _ h_; have j_ := B5.lt; unfold Hi at i_; omega
            have sp_R36_g6 : ¬ At A34 g6 := fun h_ => by have i_ := R36.hi _ h_; have j_ := B10.lt; unfold Hi at i_; omega
            have sp_R9_R36 := R9.fresh2 R36.hi
            have sp_R36_R9 := At.comm sp_R9_R36
            have sp_R23_R36 := R23.fresh2 R36.hi
            have sp_R36_R23 := At.comm sp_R23_R36
            have sp_R12_R36 := R12.fresh2 R36.hi
            have sp_R36_R12 := At.comm sp_R12_R36
            have fz_R36 : ∀ q, At A34 q → ¬ Fz28 q := fun q_ h_ f_ => by have i_ := R36.hi q_ h_; have j_ := (hOwn q_ f_).2; unfold Hi at i_; omega
            replace R36 := R36.from_ HW.size
            have hl_R36 := movesV_len sys
            replace hOwn := hOwn.step hc40
            replace B5 := B5.chg hc40 (fun h_ => h_)
            replace B10 := B10.chg hc40 (fun h_ => h_)
            replace R9 := R9.keep hc40 (fun _ _ h_ => h_) (fun _ _ h_ => h_)
            replace R23 := R23.keep hc40 (fun _ _ h_ => h_) (fun _ _ h_ => h_)
            replace R12 := R12.keep hc40 (fun _ _ h_ => h_) (fun _ _ h_ => h_)
            replace HW := HW.trans hc40 (fun _ _ h_ => h_.elim)
            refine vrun (w := w38) (lp := [(2, .int .i64 q), (3, .pointer (some ⟨g1, 0, none⟩)), (4, .pointer (some ⟨g6, 0, none⟩)), (9, .slice A9 (List.length (goesK gd nodes q (movesV env) (movesV sys) k)) c9), (11, .int .u8 (List.getD (movesV env) (Int.toNat (k : Int)) 0)), (12, .slice none 0 0), (34, .slice (some ⟨b32, 0, none⟩) (List.length (movesV env)) c22), (35, .int .i64 (((List.length (movesV env)) : Nat) : Int)), (36, .int .i64 (k : Int)), (42, .slice A34 (List.length (movesV sys)) c35), (43, .int .i64 (((List.length (movesV sys)) : Nat) : Int)), (44, .int .i64 0)]) (φ := []) tbok 2 [] [2, 3, 4, 9, 11, 12, 34, 35, 36, 42, 43, 44] E (by kernel_rfl) trivial ?_
            clear E; intro a E
            refine wpList_nil ?_
            refine th_n ?_
            refine wp_block ?_
            refine loopV (fun m43 a w42 => ∃ (j : Nat) (A12 : Option Addr) (c12 : Nat) (Fz41 : Nat → Prop), Fr a 73 [(2, .int .i64 q), (3, .pointer (some ⟨g1, 0, none⟩)), (4, .pointer (some ⟨g6, 0, none⟩)), (9, .slice A9 (List.length (goesK gd nodes q (movesV env) (movesV sys) k)) c9), (11, .int .u8 (List.getD (movesV env) (Int.toNat (k : Int)) 0)), (12, .slice A12 (List.length (rowK gd nodes q (List.getD (movesV env) (Int.toNat (k : Int)) 0) (movesV sys) j)) c12), (34, .slice (some ⟨b32, 0, none⟩) (List.length (movesV env)) c22), (35, .int .i64 (((List.length (movesV env)) : Nat) : Int)), (36, .int .i64 (k : Int)), (42, .slice A34 (List.length (movesV sys)) c35), (43, .int .i64 (((List.length (movesV sys)) : Nat) : Int)), (44, .int .i64 (j : Int))] ∧ Chg (Hi w0.heap.size) w0 w42 ∧ Bx w42 g1 26 [.int .i64 p0, .slice A1 acc.length c1, .slice A2 gd.length c2, .slice A3 nodes.length c3] ∧ Bx w42 g6 33 [.int .u8 env, .int .u8 sys] ∧ Row (cSl (cInt .i64)) 23 w42 w0.heap.size Fz41 A9 c9 (goesK gd nodes q (movesV env) (movesV sys) k) ∧ Row (cInt .u8) 27 w42 w0.heap.size No (some ⟨b32, 0, none⟩) c22 (movesV env) ∧ Row (cInt .i64) 3 w42 w0.heap.size No A12 c12 (rowK gd nodes q (List.getD (movesV env) (Int.toNat (k : Int)) 0) (movesV sys) j) ∧ Row (cInt .u8) 27 w42 w0.heap.size No A34 c35 (movesV sys) ∧ (∀ q, At A12 q → ¬ At (some ⟨b32, 0, none⟩) q) ∧ (∀ q, At A12 q → ¬ At A34 q) ∧ (∀ q, At A12 q → ¬ At A9 q) ∧ (¬ At A12 g1) ∧ (¬ At A12 g6) ∧ (∀ q, At (some ⟨b32, 0, none⟩) q → ¬ At A12 q) ∧ (∀ q, At (some ⟨b32, 0, none⟩) q → ¬ At A34 q) ∧ (∀ q, At (some ⟨b32, 0, none⟩) q → ¬ At A9 q) ∧ (¬ At (some ⟨b32, 0, none⟩) g1) ∧ (¬ At (some ⟨b32, 0, none⟩) g6) ∧ (∀ q, At A34 q → ¬ At A12 q) ∧ (∀ q, At A34 q → ¬ At (some ⟨b32, 0, none⟩) q) ∧ (∀ q, At A34 q → ¬ At A9 q) ∧ (¬ At A34 g1) ∧ (¬ At A34 g6) ∧ (∀ q, At A9 q → ¬ At A12 q) ∧ (∀ q, At A9 q → ¬ At (some ⟨b32, 0, none⟩) q) ∧ (∀ q, At A9 q → ¬ At A34 q) ∧ (¬ At A9 g1) ∧ (¬ At A9 g6) ∧ Own w0.heap.size w42 Fz41 ∧ (¬ Fz41 g1) ∧ (¬ Fz41 g6) ∧ (∀ q, At A9 q → ¬ Fz41 q) ∧ (∀ q, At (some ⟨b32, 0, none⟩) q → ¬ Fz41 q) ∧ (∀ q, At A12 q → ¬ Fz41 q) ∧ (∀ q, At A34 q → ¬ Fz41 q) ∧ (j ≤ (movesV sys).length) ∧ m43 = (movesV sys).length - j) ((movesV sys).length - (0)) ?_ ?_
            · skip
              exact ⟨0, none, 0, Fz28, E.pick _ ⟨rfl, rfl, rfl, rfl, rfl, rfl, rfl, rfl, rfl, rfl, rfl, rfl, trivial⟩, HW, B5, B10, R9, R23, R12, R36, sp_R12_R23, sp_R12_R36, sp_R12_R9, sp_R12_g1, sp_R12_g6, sp_R23_R12, sp_R23_R36, sp_R23_R9, sp_R23_g1, sp_R23_g6, sp_R36_R12, sp_R36_R23, sp_R36_R9, sp_R36_g1, sp_R36_g6, sp_R9_R12, sp_R9_R23, sp_R9_R36, sp_R9_g1, sp_R9_g6, hOwn, fz_g1, fz_g6, fz_R9, fz_R23, fz_R12, fz_R36, (by omega), rfl⟩
            · clear E HW; intro m43 a w42 hI_
              obtain ⟨j, hI_⟩ := hI_
              obtain ⟨A12, hI_⟩ := hI_
              obtain ⟨c12, hI_⟩ := hI_
              obtain ⟨Fz41, hI_⟩ := hI_
              clear B5
              clear B10
              clear R9
              clear R23
              clear R12
              clear R36
              clear sp_R12_R23
              clear sp_R12_R36
              clear sp_R12_R9
              clear sp_R12_g1
              clear sp_R12_g6
              clear sp_R23_R12
              clear sp_R23_R36
              clear sp_R23_R9
              clear sp_R23_g1
              clear sp_R23_g6
              clear sp_R36_R12
              clear sp_R36_R23
              clear sp_R36_R9
              clear sp_R36_g1
              clear sp_R36_g6
              clear sp_R9_R12
              clear sp_R9_R23
              clear sp_R9_R36
              clear sp_R9_g1
              clear sp_R9_g6
              clear hOwn fz_g1 fz_g6 fz_R9 fz_R23 fz_R12 fz_R36
              obtain ⟨E, HW, B5, B10, R9, R23, R12, R36, sp_R12_R23, sp_R12_R36, sp_R12_R9, sp_R12_g1, sp_R12_g6, sp_R23_R12, sp_R23_R36, sp_R23_R9, sp_R23_g1, sp_R23_g6, sp_R36_R12, sp_R36_R23, sp_R36_R9, sp_R36_g1, sp_R36_g6, sp_R9_R12, sp_R9_R23, sp_R9_R36, sp_R9_g1, sp_R9_g6, hOwn, fz_g1, fz_g6, fz_R9, fz_R23, fz_R12, fz_R36, hj, hm_m43⟩ := hI_
              refine wp_seq ?_
              refine wp_region_lit ?_
              refine vrun (w := w42) (lp := [(2, .int .i64 q), (3, .pointer (some ⟨g1, 0, none⟩)), (4, .pointer (some ⟨g6, 0, none⟩)), (9, .slice A9 (List.length (goesK gd nodes q (movesV env) (movesV sys) k)) c9), (11, .int .u8 (List.getD (movesV env) (Int.toNat (k : Int)) 0)), (12, .slice A12 (List.length (rowK gd nodes q (List.getD (movesV env) (Int.toNat (k : Int)) 0) (movesV sys) j)) c12), (34, .slice (some ⟨b32, 0, none⟩) (List.length (movesV env)) c22), (35, .int .i64 (((List.length (movesV env)) : Nat) : Int)), (36, .int .i64 (k : Int)), (42, .slice A34 (List.length (movesV sys)) c35), (43, .int .i64 (((List.length (movesV sys)) : Nat) : Int)), (44, .int .i64 (j : Int)), (45, .bool (decide ((j : Int) < (((List.length (movesV sys)) : Nat) : Int))))]) (φ := []) tbok 1 [] [2, 3, 4, 9, 11, 12, 34, 35, 36, 42, 43, 44, 45] E (by kernel_rfl) trivial ?_
              clear E; intro a E
              refine wpList_nil ?_
              refine th_n ?_
              refine wp_seq ?_
              refine E.cases (t := 45) rfl (fun hb_ E_ => ?_) (fun hb_ E_ => ?_)
              · replace E := E_; clear E_
                have h44 : (j : Int) < (((List.length (movesV sys)) : Nat) : Int) := of_decide_eq_true hb_
                clear hb_
                refine c_true E rfl ?_
                refine wp_skip ?_
                refine th_n ?_
                refine wp_seq ?_
                refine wp_block ?_
                refine wp_seq ?_
                refine wp_region_lit ?_
                have hx_46 : 0 ≤ (j : Int) ∧ (j : Int) < (((List.length (movesV sys)) : Nat) : Int) := ⟨by omega, by omega⟩
                obtain ⟨b45, e_b45⟩ := R36.addr' (by omega)
                subst e_b45
                refine vrun (w := w42) (lp := [(2, .int .i64 q), (3, .pointer (some ⟨g1, 0, none⟩)), (4, .pointer (some ⟨g6, 0, none⟩)), (9, .slice A9 (List.length (goesK gd nodes q (movesV env) (movesV sys) k)) c9), (11, .int .u8 (List.getD (movesV env) (Int.toNat (k : Int)) 0)), (12, .slice A12 (List.length (rowK gd nodes q (List.getD (movesV env) (Int.toNat (k : Int)) 0) (movesV sys) j)) c12), (14, .int .u8 (List.getD (movesV sys) (Int.toNat (j : Int)) 0)), (34, .slice (some ⟨b32, 0, none⟩) (List.length (movesV env)) c22), (35, .int .i64 (((List.length (movesV env)) : Nat) : Int)), (36, .int .i64 (k : Int)), (42, .slice (some ⟨b45, 0, none⟩) (List.length (movesV sys)) c35), (43, .int .i64 (((List.length (movesV sys)) : Nat) : Int)), (44, .int .i64 (j : Int))]) (φ := [0 ≤ (j : Int) ∧ (j : Int) < (((List.length (movesV sys)) : Nat) : Int), World.cell? w42 ⟨b45, 0 + (Int.toNat (j : Int)) * 1, none⟩ = some (.int .u8 (List.getD (movesV sys) (Int.toNat (j : Int)) 0))]) tbok 3 [.int .u8 (List.getD (movesV sys) (Int.toNat (j : Int)) 0)] [2, 3, 4, 9, 11, 12, 14, 34, 35, 36, 42, 43, 44] E (by kernel_rfl) ⟨hx_46, C.at1 R36.C 0 hx_46.1 hx_46.2⟩ ?_
                clear E; intro a E
                refine wpList_nil ?_
                refine th_n ?_
                refine wp_seq ?_
                refine dr_start (S := fun w_ => Chg No w42 w_) (by kernel_rfl) ?_
                intro w47 hc48
                have HWs := HW
                have B5s := B5
                have B10s := B10
                have R9s := R9
                have R23s := R23
                have R12s := R12
                have R36s := R36
                have HS : Chg No w42 w47 := hc48.mono (fun _ _ h_ => h_.elim)
                replace hOwn := hOwn.step hc48
                replace B5 := B5.chg hc48 (fun h_ => h_)
                replace B10 := B10.chg hc48 (fun h_ => h_)
                replace R9 := R9.keep hc48 (fun _ _ h_ => h_) (fun _ _ h_ => h_)
                replace R23 := R23.keep hc48 (fun _ _ h_ => h_) (fun _ _ h_ => h_)
                replace R12 := R12.keep hc48 (fun _ _ h_ => h_) (fun _ _ h_ => h_)
                replace R36 := R36.keep hc48 (fun _ _ h_ => h_) (fun _ _ h_ => h_)
                replace HW := HW.trans hc48 (fun _ _ h_ => h_.elim)
                have hx_54 : 0 ≤ q ∧ q < ((gd.length : Nat) : Int) := ⟨by omega, by have h_ := (checkBV_auto (by assumption : checkBV p0 acc gd nodes env sys = 0)).gl; omega⟩
                obtain ⟨b49, o50, e_b49⟩ := H2.addr (by omega)
                subst e_b49
                refine drun (lp := [(2, .int .i64 q), (3, .pointer (some ⟨g1, 0, none⟩)), (4, .pointer (some ⟨g6, 0, none⟩)), (9, .slice A9 (List.length (goesK gd nodes q (movesV env) (movesV sys) k)) c9), (11, .int .u8 (List.getD (movesV env) (Int.toNat (k : Int)) 0)), (12, .slice A12 (List.length (rowK gd nodes q (List.getD (movesV env) (Int.toNat (k : Int)) 0) (movesV sys) j)) c12), (34, .slice (some ⟨b32, 0, none⟩) (List.length (movesV env)) c22), (35, .int .i64 (((List.length (movesV env)) : Nat) : Int)), (36, .int .i64 (k : Int)), (42, .slice (some ⟨b45, 0, none⟩) (List.length (movesV sys)) c35), (43, .int .i64 (((List.length (movesV sys)) : Nat) : Int)), (44, .int .i64 (j : Int)), (50, .slice A3 nodes.length c3), (55, .int .i64 (List.getD gd (Int.toNat q) 0)), (58, .int .u8 ((Nat.lor (Int.toNat (List.getD (movesV env) (Int.toNat (k : Int)) 0)) (Int.toNat (List.getD (movesV sys) (Int.toNat (j : Int)) 0)) : Nat) : Int))]) tbok (by kernel_rfl) [0, 1, 2, 3, 4, 5, 6, 7, 8, 9] [.slice A3 nodes.length c3, .slice (some ⟨b49, o50, none⟩) gd.length c2, .int .i64 (List.getD gd (Int.toNat q) 0), .int .u8 ((Nat.lor (Int.toNat (List.getD (movesV env) (Int.toNat (k : Int)) 0)) (Int.toNat (List.getD (movesV sys) (Int.toNat (j : Int)) 0)) : Nat) : Int)] [2, 3, 4, 9, 11, 12, 34, 35, 36, 42, 43, 44, 50, 55, 58] (fun w_ => [World.cell? w_ ⟨g1, 3, none⟩ = some (.slice A3 nodes.length c3), World.cell? w_ ⟨g1, 2, none⟩ = some (.slice (some ⟨b49, o50, none⟩) gd.length c2), 0 ≤ q ∧ q < ((gd.length : Nat) : Int), World.cell? w_ ⟨b49, o50 + (Int.toNat q) * 1, none⟩ = some (.int .i64 (List.getD gd (Int.toNat q) 0)), IntKind.u8.wrap (BitVec.ofInt (IntKind.bits .u8) (List.getD (movesV env) (Int.toNat (k : Int)) 0) ||| BitVec.ofInt (IntKind.bits .u8) (List.getD (movesV sys) (Int.toNat (j : Int)) 0)).toNat = ((Nat.lor (Int.toNat (List.getD (movesV env) (Int.toNat (k : Int)) 0)) (Int.toNat (List.getD (movesV sys) (Int.toNat (j : Int)) 0)) : Nat) : Int)]) (fuel := 6) E (fun _ _ => by kernel_rfl) (fun w_ hS_ => ⟨hS_.cell (B5s.cell (j := 3) rfl) (fun h_ => h_), hS_.cell (B5s.cell (j := 2) rfl) (fun h_ => h_), hx_54, hS_.cell (C.at1 (H2.keep HWs lo_hi) 0 hx_54.1 hx_54.2) (fun h_ => h_), or_u8 (getD_u8 (movesV_u8 he) _) (getD_u8 (movesV_u8 hs) _)⟩) (by kernel_rfl) HS ?_
                clear E; intro a E
                refine wpAnyH_all (rs := [10]) (by kernel_rfl) (by simp) ?_
                refine all1 ?_
                · refine wpOp_of_list rfl ?_
                  refine e_call E rfl rfl Try.func15 rfl rfl rfl (Go_calls A3 c3 nodes (List.getD gd (Int.toNat q) 0) ((Nat.lor (Int.toNat (List.getD (movesV env) (Int.toNat (k : Int)) 0)) (Int.toNat (List.getD (movesV sys) (Int.toNat (j : Int)) 0)) : Nat) : Int) _ (getD_w64 hG _) (or_lt (getD_u8 (movesV_u8 he) _) (getD_u8 (movesV_u8 hs) _)) (by omega) (H3.now HW) hW) ?_
                  intro v51 w52 a hR53 E_
                  obtain ⟨rfl, hc54⟩ := hR53
                  replace E := E_ _ rfl; clear E_
                  replace hOwn := hOwn.step hc54
                  replace B5 := B5.chg hc54 (fun h_ => h_)
                  replace B10 := B10.chg hc54 (fun h_ => h_)
                  replace R9 := R9.keep hc54 (fun _ _ h_ => h_) (fun _ _ h_ => h_)
                  replace R23 := R23.keep hc54 (fun _ _ h_ => h_) (fun _ _ h_ => h_)
                  replace R12 := R12.keep hc54 (fun _ _ h_ => h_) (fun _ _ h_ => h_)
                  replace R36 := R36.keep hc54 (fun _ _ h_ => h_) (fun _ _ h_ => h_)
                  replace HS := HS.trans hc54 (fun _ _ h_ => h_.elim)
                  replace HW := HW.trans hc54 (fun _ _ h_ => h_.elim)
                  refine wpList_nil ?_
                  refine th_n ⟨HS, ?_⟩
                  refine drun (lp := [(2, .int .i64 q), (3, .pointer (some ⟨g1, 0, none⟩)), (4, .pointer (some ⟨g6, 0, none⟩)), (9, .slice A9 (List.length (goesK gd nodes q (movesV env) (movesV sys) k)) c9), (11, .int .u8 (List.getD (movesV env) (Int.toNat (k : Int)) 0)), (12, .slice A12 (List.length (rowK gd nodes q (List.getD (movesV env) (Int.toNat (k : Int)) 0) (movesV sys) j)) c12), (15, .int .i64 ((goF nodes ((Nat.lor (Int.toNat (List.getD (movesV env) (Int.toNat (k : Int)) 0)) (Int.toNat (List.getD (movesV sys) (Int.toNat (j : Int)) 0)) : Nat) : Int) 9 (List.getD gd (Int.toNat q) 0)).1)), (34, .slice (some ⟨b32, 0, none⟩) (List.length (movesV env)) c22), (35, .int .i64 (((List.length (movesV env)) : Nat) : Int)), (36, .int .i64 (k : Int)), (42, .slice (some ⟨b45, 0, none⟩) (List.length (movesV sys)) c35), (43, .int .i64 (((List.length (movesV sys)) : Nat) : Int)), (44, .int .i64 (j : Int))]) tbok (by kernel_rfl) [11, 12, 13, 14, 15] [] [2, 3, 4, 9, 11, 12, 15, 34, 35, 36, 42, 43, 44] (fun w_ => []) (fuel := 0) E (fun _ _ => by kernel_rfl) (fun w_ hS_ => trivial) (by kernel_rfl) HS ?_
                  clear E; intro a E
                  refine dr_done (by kernel_rfl) ?_
                  clear HS HWs
                  refine th_n ?_
                  refine wp_region_lit ?_
                  refine vrun (w := w52) (lp := [(2, .int .i64 q), (3, .pointer (some ⟨g1, 0, none⟩)), (4, .pointer (some ⟨g6, 0, none⟩)), (9, .slice A9 (List.length (goesK gd nodes q (movesV env) (movesV sys) k)) c9), (11, .int .u8 (List.getD (movesV env) (Int.toNat (k : Int)) 0)), (34, .slice (some ⟨b32, 0, none⟩) (List.length (movesV env)) c22), (35, .int .i64 (((List.length (movesV env)) : Nat) : Int)), (36, .int .i64 (k : Int)), (42, .slice (some ⟨b45, 0, none⟩) (List.length (movesV sys)) c35), (43, .int .i64 (((List.length (movesV sys)) : Nat) : Int)), (44, .int .i64 (j : Int)), (62, .slice A12 (List.length (rowK gd nodes q (List.getD (movesV env) (Int.toNat (k : Int)) 0) (movesV sys) j)) c12), (63, .int .i64 ((goF nodes ((Nat.lor (Int.toNat (List.getD (movesV env) (Int.toNat (k : Int)) 0)) (Int.toNat (List.getD (movesV sys) (Int.toNat (j : Int)) 0)) : Nat) : Int) 9 (List.getD gd (Int.toNat q) 0)).1))]) (φ := []) tbok 2 [] [2, 3, 4, 9, 11, 34, 35, 36, 42, 43, 44, 62, 63] E (by kernel_rfl) trivial ?_
                  clear E; intro a E
                  refine e_buildSlice (ps := [(0, .int .i64 ((goF nodes ((Nat.lor (Int.toNat (List.getD (movesV env) (Int.toNat (k : Int)) 0)) (Int.toNat (List.getD (movesV sys) (Int.toNat (j : Int)) 0)) : Nat) : Int) 9 (List.getD gd (Int.toNat q) 0)).1))]) (cs := [.int .i64 ((goF nodes ((Nat.lor (Int.toNat (List.getD (movesV env) (Int.toNat (k : Int)) 0)) (Int.toNat (List.getD (movesV sys) (Int.toNat (j : Int)) 0)) : Nat) : Int) 9 (List.getD gd (Int.toNat q) 0)).1)]) E rfl rfl tbok rfl rfl (by kernel_rfl) ?_
                  intro w56 g55 a hc57 hg58 B59 E_
                  replace E := E_ _ rfl; clear E_
                  have hi_g55 : w0.heap.size ≤ g55 := Nat.le_trans HW.size hg58
                  have fz_g55 : ¬ Fz41 g55 := hOwn.new hg58
                  have ne_g1_g55 : g1 ≠ g55 := by have h_ := B5.lt; omega
                  have ne_g6_g55 : g6 ≠ g55 := by have h_ := B10.lt; omega
                  have sp_R9_g55 := R9.fresh hg58
                  have sp_R23_g55 := R23.fresh hg58
                  have sp_R12_g55 := R12.fresh hg58
                  have sp_R36_g55 := R36.fresh hg58
                  replace hOwn := hOwn.step hc57
                  replace B5 := B5.chg hc57 (fun h_ => h_)
                  replace B10 := B10.chg hc57 (fun h_ => h_)
                  replace R9 := R9.keep hc57 (fun _ _ h_ => h_) (fun _ _ h_ => h_)
                  replace R23 := R23.keep hc57 (fun _ _ h_ => h_) (fun _ _ h_ => h_)
                  replace R12 := R12.keep hc57 (fun _ _ h_ => h_) (fun _ _ h_ => h_)
                  replace R36 := R36.keep hc57 (fun _ _ h_ => h_) (fun _ _ h_ => h_)
                  replace HW := HW.trans hc57 (fun _ _ h_ => h_.elim)
                  have hrl_ := @rowK_len gd nodes q (List.getD (movesV env) (Int.toNat (k : Int)) 0) (movesV sys) j hj
                  have hi60 := R12.hi
                  refine e_append (cInt .i64) (xs := (rowK gd nodes q (List.getD (movesV env) (Int.toNat (k : Int)) 0) (movesV sys) j)) (ys := [(goF nodes ((Nat.lor (Int.toNat (List.getD (movesV env) (Int.toNat (k : Int)) 0)) (Int.toNat (List.getD (movesV sys) (Int.toNat (j : Int)) 0)) : Nat) : Int) 9 (List.getD gd (Int.toNat q) 0)).1]) E rfl rfl tbok rfl rfl rfl rfl rfl rfl R12 rfl rfl ⟨_, _, rfl, rfl, rfl⟩ B59.cells (by show List.length (rowK gd nodes q (List.getD (movesV env) (Int.toNat (k : Int)) 0) (movesV sys) j) + 1 ≤ 1000000000000; omega) (by show (List.length (rowK gd nodes q (List.getD (movesV env) (Int.toNat (k : Int)) 0) (movesV sys) j) + 1) * 8 ≤ 140737488355328; omega) HW.size (fun _ h_ => h_.elim) ?_
                  intro w61 A62 c63 a hc64 R12n hn65 E_
                  rw [show (rowK gd nodes q (List.getD (movesV env) (Int.toNat (k : Int)) 0) (movesV sys) j) ++ [(goF nodes ((Nat.lor (Int.toNat (List.getD (movesV env) (Int.toNat (k : Int)) 0)) (Int.toNat (List.getD (movesV sys) (Int.toNat (j : Int)) 0)) : Nat) : Int) 9 (List.getD gd (Int.toNat q) 0)).1] = rowK gd nodes q (List.getD (movesV env) (Int.toNat (k : Int)) 0) (movesV sys) (j + 1) from rowK_step (by omega)] at E_ R12n
                  replace E := E_ _ rfl; clear E_
                  have sp_R12_g1' := At.step hn65 sp_R12_g1 B5.lt
                  have sp_R12_g6' := At.step hn65 sp_R12_g6 B10.lt
                  have sp_R12_R9' := At.step2 hn65 sp_R12_R9 R9
                  have sp_R12_R23' := At.step2 hn65 sp_R12_R23 R23
                  have sp_R12_R36' := At.step2 hn65 sp_R12_R36 R36
                  have sp_R12_g55' := At.step hn65 sp_R12_g55 B59.lt
                  have fz_R12' := At.stepF hn65 fz_R12 hOwn
                  replace hOwn := hOwn.step hc64
                  replace B5 := B5.chg hc64 sp_R12_g1
                  replace B10 := B10.chg hc64 sp_R12_g6
                  replace R9 := R9.keep hc64 (fun b_ h_ a_ => fz_R12 b_ a_ h_) (fun g_ e_ h_ => sp_R12_R9 g_ h_ ⟨_, _, e_⟩)
                  replace R23 := R23.keep hc64 (fun _ h_ => h_.elim) (fun g_ e_ h_ => sp_R12_R23 g_ h_ ⟨_, _, e_⟩)
                  replace R36 := R36.keep hc64 (fun _ h_ => h_.elim) (fun g_ e_ h_ => sp_R12_R36 g_ h_ ⟨_, _, e_⟩)
                  replace B59 := B59.chg hc64 sp_R12_g55
                  replace HW := HW.trans hc64 (fun _ _ h_ => hi60 _ h_)
                  replace fz_R12 := fz_R12'; clear fz_R12'
                  replace sp_R12_g1 := sp_R12_g1'; clear sp_R12_g1'
                  replace sp_R12_g6 := sp_R12_g6'; clear sp_R12_g6'
                  replace sp_R12_R9 := sp_R12_R9'; clear sp_R12_R9'
                  replace sp_R9_R12 := At.comm sp_R12_R9
                  replace sp_R12_R23 := sp_R12_R23'; clear sp_R12_R23'
                  replace sp_R23_R12 := At.comm sp_R12_R23
                  replace sp_R12_R36 := sp_R12_R36'; clear sp_R12_R36'
                  replace sp_R36_R12 := At.comm sp_R12_R36
                  replace sp_R12_g55 := sp_R12_g55'; clear sp_R12_g55'
                  replace R12 := R12n; clear R12n
                  refine vrun (w := w61) (lp := [(2, .int .i64 q), (3, .pointer (some ⟨g1, 0, none⟩)), (4, .pointer (some ⟨g6, 0, none⟩)), (9, .slice A9 (List.length (goesK gd nodes q (movesV env) (movesV sys) k)) c9), (11, .int .u8 (List.getD (movesV env) (Int.toNat (k : Int)) 0)), (12, .slice A62 (List.length (rowK gd nodes q (List.getD (movesV env) (Int.toNat (k : Int)) 0) (movesV sys) (j + 1))) c63), (34, .slice (some ⟨b32, 0, none⟩) (List.length (movesV env)) c22), (35, .int .i64 (((List.length (movesV env)) : Nat) : Int)), (36, .int .i64 (k : Int)), (42, .slice (some ⟨b45, 0, none⟩) (List.length (movesV sys)) c35), (43, .int .i64 (((List.length (movesV sys)) : Nat) : Int)), (44, .int .i64 (j : Int))]) (φ := []) tbok 1 [] [2, 3, 4, 9, 11, 12, 34, 35, 36, 42, 43, 44] E (by kernel_rfl) trivial ?_
                  clear E; intro a E
                  refine wpList_nil ?_
                  refine bl_n ?_
                  refine th_n ?_
                  refine wp_region_lit ?_
                  refine vrun (w := w61) (lp := [(2, .int .i64 q), (3, .pointer (some ⟨g1, 0, none⟩)), (4, .pointer (some ⟨g6, 0, none⟩)), (9, .slice A9 (List.length (goesK gd nodes q (movesV env) (movesV sys) k)) c9), (11, .int .u8 (List.getD (movesV env) (Int.toNat (k : Int)) 0)), (12, .slice A62 (List.length (rowK gd nodes q (List.getD (movesV env) (Int.toNat (k : Int)) 0) (movesV sys) (j + 1))) c63), (34, .slice (some ⟨b32, 0, none⟩) (List.length (movesV env)) c22), (35, .int .i64 (((List.length (movesV env)) : Nat) : Int)), (36, .int .i64 (k : Int)), (42, .slice (some ⟨b45, 0, none⟩) (List.length (movesV sys)) c35), (43, .int .i64 (((List.length (movesV sys)) : Nat) : Int)), (44, .int .i64 ((j : Int) + 1))]) (φ := [IntKind.i64.wrap ((j : Int) + 1) = (j : Int) + 1]) tbok 2 [.int .i64 ((j : Int) + 1)] [2, 3, 4, 9, 11, 12, 34, 35, 36, 42, 43, 44] E (by kernel_rfl) (wrap_i64 (by omega) (by omega)) ?_
                  clear E; intro a E
                  refine wpList_nil ?_
                  refine th_n ⟨(movesV sys).length - (j + 1), by omega, ?_⟩
                  exact ⟨j + 1, A62, c63, Fz41, E.pick _ ⟨rfl, rfl, rfl, rfl, rfl, rfl, rfl, rfl, rfl, rfl, rfl, rfl, trivial⟩, HW, B5, B10, R9, R23, R12, R36, sp_R12_R23, sp_R12_R36, sp_R12_R9, sp_R12_g1, sp_R12_g6, sp_R23_R12, sp_R23_R36, sp_R23_R9, sp_R23_g1, sp_R23_g6, sp_R36_R12, sp_R36_R23, sp_R36_R9, sp_R36_g1, sp_R36_g6, sp_R9_R12, sp_R9_R23, sp_R9_R36, sp_R9_g1, sp_R9_g6, hOwn, fz_g1, fz_g6, fz_R9, fz_R23, fz_R12, fz_R36, (by omega), rfl⟩
              · replace E := E_; clear E_
                have h66 : ¬ ((j : Int) < (((List.length (movesV sys)) : Nat) : Int)) := of_decide_eq_false hb_
                clear hb_
                refine c_false E rfl ?_
                refine wp_exit ?_
                refine th_exit ?_
                refine th_exit ?_
                refine bl_hit ?_
                refine th_n ?_
                refine wp_region_lit ?_
                refine vrun (w := w42) (lp := [(2, .int .i64 q), (3, .pointer (some ⟨g1, 0, none⟩)), (4, .pointer (some ⟨g6, 0, none⟩)), (34, .slice (some ⟨b32, 0, none⟩) (List.length (movesV env)) c22), (35, .int .i64 (((List.length (movesV env)) : Nat) : Int)), (36, .int .i64 (k : Int)), (67, .slice A9 (List.length (goesK gd nodes q (movesV env) (movesV sys) k)) c9), (68, .slice A12 (List.length (rowK gd nodes q (List.getD (movesV env) (Int.toNat (k : Int)) 0) (movesV sys) j)) c12)]) (φ := []) tbok 2 [] [2, 3, 4, 34, 35, 36, 67, 68] E (by kernel_rfl) trivial ?_
                clear E; intro a E
                refine e_buildSlice (ps := [(0, .slice A12 (List.length (rowK gd nodes q (List.getD (movesV env) (Int.toNat (k : Int)) 0) (movesV sys) j)) c12)]) (cs := [.slice A12 (List.length (rowK gd nodes q (List.getD (movesV env) (Int.toNat (k : Int)) 0) (movesV sys) j)) c12]) E rfl rfl tbok rfl rfl (by kernel_rfl) ?_
                intro w68 g67 a hc69 hg70 B71 E_
                replace E := E_ _ rfl; clear E_
                have hi_g67 : w0.heap.size ≤ g67 := Nat.le_trans HW.size hg70
                have fz_g67 : ¬ Fz41 g67 := hOwn.new hg70
                have ne_g1_g67 : g1 ≠ g67 := by have h_ := B5.lt; omega
                have ne_g6_g67 : g6 ≠ g67 := by have h_ := B10.lt; omega
                have sp_R9_g67 := R9.fresh hg70
                have sp_R23_g67 := R23.fresh hg70
                have sp_R12_g67 := R12.fresh hg70
                have sp_R36_g67 := R36.fresh hg70
                replace hOwn := hOwn.step hc69
                replace B5 := B5.chg hc69 (fun h_ => h_)
                replace B10 := B10.chg hc69 (fun h_ => h_)
                replace R9 := R9.keep hc69 (fun _ _ h_ => h_) (fun _ _ h_ => h_)
                replace R23 := R23.keep hc69 (fun _ _ h_ => h_) (fun _ _ h_ => h_)
                replace R12 := R12.keep hc69 (fun _ _ h_ => h_) (fun _ _ h_ => h_)
                replace R36 := R36.keep hc69 (fun _ _ h_ => h_) (fun _ _ h_ => h_)
                replace HW := HW.trans hc69 (fun _ _ h_ => h_.elim)
                obtain rfl : j = (movesV sys).length := by omega
                have hgl_ := @goesK_len gd nodes q (movesV env) (movesV sys) k hk
                have hk72 : List.length (rowK gd nodes q (List.getD (movesV env) (Int.toNat (k : Int)) 0) (movesV sys) (movesV sys).length) ≤ c12 := R12.cap
                have hOwn_ := hOwn.addA R12.hi R12.ltA
                replace R12 : C (cInt .i64) w68 (FzA Fz41 A12) A12 (rowK gd nodes q (List.getD (movesV env) (Int.toNat (k : Int)) 0) (movesV sys) (movesV sys).length) := R12.ro (S := Fz41) (fun _ h_ => h_.elim)
                replace fz_g1 : ¬ (FzA Fz41 A12) g1 := FzA.no fz_g1 sp_R12_g1
                replace fz_g6 : ¬ (FzA Fz41 A12) g6 := FzA.no fz_g6 sp_R12_g6
                replace fz_R9 : ∀ q, At A9 q → ¬ (FzA Fz41 A12) q := FzA.noA fz_R9 sp_R12_R9
                replace fz_R23 : ∀ q, At (some ⟨b32, 0, none⟩) q → ¬ (FzA Fz41 A12) q := FzA.noA fz_R23 sp_R12_R23
                replace fz_R36 : ∀ q, At A34 q → ¬ (FzA Fz41 A12) q := FzA.noA fz_R36 sp_R12_R36
                replace fz_g67 : ¬ (FzA Fz41 A12) g67 := FzA.no fz_g67 sp_R12_g67
                replace R9 := R9.monoF (G := (FzA Fz41 A12)) (fun _ h_ => Or.inl h_) fz_R9
                replace hOwn := hOwn_; clear hOwn_
                have hi73 := R9.hi
                refine e_append (cSl (cInt .i64)) (xs := (goesK gd nodes q (movesV env) (movesV sys) k)) (ys := [rowK gd nodes q (List.getD (movesV env) (Int.toNat (k : Int)) 0) (movesV sys) (movesV sys).length]) E rfl rfl tbok rfl rfl rfl rfl rfl rfl R9 rfl rfl ⟨_, _, rfl, ⟨_, _, rfl, hk72, R12⟩, rfl⟩ B71.cells (by show List.length (goesK gd nodes q (movesV env) (movesV sys) k) + 1 ≤ 1000000000000; omega) (by show (List.length (goesK gd nodes q (movesV env) (movesV sys) k) + 1) * 24 ≤ 140737488355328; omega) HW.size (fun q_ h_ => (hOwn q_ h_).2) ?_
                intro w74 A75 c76 a hc77 R9n hn78 E_
                rw [show (goesK gd nodes q (movesV env) (movesV sys) k) ++ [rowK gd nodes q (List.getD (movesV env) (Int.toNat (k : Int)) 0) (movesV sys) (movesV sys).length] = goesK gd nodes q (movesV env) (movesV sys) (k + 1) from goesK_step (by omega)] at E_ R9n
                replace E := E_ _ rfl; clear E_
                have sp_R9_g1' := At.step hn78 sp_R9_g1 B5.lt
                have sp_R9_g6' := At.step hn78 sp_R9_g6 B10.lt
                have sp_R9_R23' := At.step2 hn78 sp_R9_R23 R23
                have sp_R9_R36' := At.step2 hn78 sp_R9_R36 R36
                have sp_R9_g67' := At.step hn78 sp_R9_g67 B71.lt
                have fz_R9' := At.stepF hn78 fz_R9 hOwn
                replace hOwn := hOwn.step hc77
                replace B5 := B5.chg hc77 sp_R9_g1
                replace B10 := B10.chg hc77 sp_R9_g6
                replace R23 := R23.keep hc77 (fun _ h_ => h_.elim) (fun g_ e_ h_ => sp_R9_R23 g_ h_ ⟨_, _, e_⟩)
                replace R12 := R12.keep hc77 (fun b_ h_ a_ => fz_R9 b_ a_ h_)
                replace R36 := R36.keep hc77 (fun _ h_ => h_.elim) (fun g_ e_ h_ => sp_R9_R36 g_ h_ ⟨_, _, e_⟩)
                replace B71 := B71.chg hc77 sp_R9_g67
                replace HW := HW.trans hc77 (fun _ _ h_ => hi73 _ h_)
                replace fz_R9 := fz_R9'; clear fz_R9'
                replace sp_R9_g1 := sp_R9_g1'; clear sp_R9_g1'
                replace sp_R9_g6 := sp_R9_g6'; clear sp_R9_g6'
                replace sp_R9_R23 := sp_R9_R23'; clear sp_R9_R23'
                replace sp_R23_R9 := At.comm sp_R9_R23
                replace sp_R9_R36 := sp_R9_R36'; clear sp_R9_R36'
                replace sp_R36_R9 := At.comm sp_R9_R36
                replace sp_R9_g67 := sp_R9_g67'; clear sp_R9_g67'
                replace R9 := R9n; clear R9n
                refine vrun (w := w74) (lp := [(2, .int .i64 q), (3, .pointer (some ⟨g1, 0, none⟩)), (4, .pointer (some ⟨g6, 0, none⟩)), (9, .slice A75 (List.length (goesK gd nodes q (movesV env) (movesV sys) (k + 1))) c76), (34, .slice (some ⟨b32, 0, none⟩) (List.length (movesV env)) c22), (35, .int .i64 (((List.length (movesV env)) : Nat) : Int)), (36, .int .i64 (k : Int))]) (φ := []) tbok 1 [] [2, 3, 4, 9, 34, 35, 36] E (by kernel_rfl) trivial ?_
                clear E; intro a E
                refine wpList_nil ?_
                refine bl_n ?_
                refine th_n ?_
                refine wp_region_lit ?_
                refine vrun (w := w74) (lp := [(2, .int .i64 q), (3, .pointer (some ⟨g1, 0, none⟩)), (4, .pointer (some ⟨g6, 0, none⟩)), (9, .slice A75 (List.length (goesK gd nodes q (movesV env) (movesV sys) (k + 1))) c76), (34, .slice (some ⟨b32, 0, none⟩) (List.length (movesV env)) c22), (35, .int .i64 (((List.length (movesV env)) : Nat) : Int)), (36, .int .i64 ((k : Int) + 1))]) (φ := [IntKind.i64.wrap ((k : Int) + 1) = (k : Int) + 1]) tbok 2 [.int .i64 ((k : Int) + 1)] [2, 3, 4, 9, 34, 35, 36] E (by kernel_rfl) (wrap_i64 (by omega) (by omega)) ?_
                clear E; intro a E
                refine wpList_nil ?_
                refine th_n ⟨(movesV env).length - (k + 1), by omega, ?_⟩
                exact ⟨k + 1, A75, c76, (FzA Fz41 A12), E.pick _ ⟨rfl, rfl, rfl, rfl, rfl, rfl, rfl, trivial⟩, HW, B5, B10, R9, R23, sp_R23_R9, sp_R23_g1, sp_R23_g6, sp_R9_R23, sp_R9_g1, sp_R9_g6, hOwn, fz_g1, fz_g6, fz_R9, fz_R23, (by omega), rfl⟩
          · replace E := E_; clear E_
            have h79 : ¬ ((k : Int) < (((List.length (movesV env)) : Nat) : Int)) := of_decide_eq_false hb_
            clear hb_
            refine c_false E rfl ?_
            refine wp_exit ?_
            refine th_exit ?_
            refine th_exit ?_
            refine bl_hit ?_
            refine th_n ?_
            refine wp_seq ?_
            refine wp_region_lit ?_
            refine vrun (w := w29) (lp := [(6, .slice A9 (List.length (goesK gd nodes q (movesV env) (movesV sys) k)) c9), (7, .int .i64 0)]) (φ := []) tbok 3 [] [6, 7] E (by kernel_rfl) trivial ?_
            clear E; intro a E
            refine wpList_nil ?_
            refine th_n ?_
            refine wp_ret ?_
            refine ret2 E rfl rfl rfl ?_
            obtain rfl : k = (movesV env).length := by omega
            have hq_ := goesV_c (q := q) (by assumption : checkBV p0 acc gd nodes env sys = 0) (by omega) (by omega)
            rw [hq_]
            exact ⟨_, rfl, A9, c9, _, rfl, HW.own, hOwn, R9⟩

end Go.V
