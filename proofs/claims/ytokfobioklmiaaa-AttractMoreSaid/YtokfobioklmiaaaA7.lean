/- Plain functions, and the calls that give them. -/
import Derived.Test.YtokfobioklmiaaaA6
set_option linter.all false
set_option linter.unusedVariables false
set_option linter.unnecessarySimpa false
set_option linter.unusedSimpArgs false
namespace Go.V
open Go Go.Proofs
/-! rejoinder/rejoinderlaw19.Real -/
def law19_Real (N : Nat) (aProps : Int) (aAccept : List Bool) (aGuard : List Int) (aNodes : List Nd) : Option Bool :=
  if 0 < (((List.length aAccept) : Nat) : Int) then
    some (((((List.length aGuard) : Nat) : Int) : Int) == (((List.length aAccept) : Nat) : Int))
  else
    some false
set_option maxRecDepth 100000 in
set_option maxHeartbeats 4000000 in
theorem law19_Real_calls {N : Nat} {S Fa : Nat → Prop} {w0 : World} {r : Bool} (A1 : Option Addr) (c2 : Nat) (A5 : Option Addr) (c6 : Nat) (A9 : Option Addr) (c10 : Nat) (aProps : Int) (aAccept : List Bool) (aGuard : List Int) (aNodes : List Nd) (hk3 : List.length aAccept ≤ c2) (hk7 : List.length aGuard ≤ c6) (hk11 : List.length aNodes ≤ c10) (H : Hp S Fa w0 w0 [.ro false cBool A1 aAccept, .ro false (cInt .i64) A5 aGuard, .ro false cNode A9 aNodes]) (hP : law19_Real N aProps aAccept aGuard aNodes = some r) :
    Calls Try.prog 13 #[.agg #[.int .i64 aProps, .slice A1 (List.length aAccept) c2, .slice A5 (List.length aGuard) c6, .slice A9 (List.length aNodes) c10]] w0 fun e w' => ∃ v, e = .returned v ∧ v = .bool r ∧ Hp S Fa w0 w' [] := by
 refine enterV (n := 16) Try.func13 rfl rfl rfl ?_
 intro a E
 replace E := E.pick [(0, .agg #[.int .i64 aProps, .slice A1 (List.length aAccept) c2, .slice A5 (List.length aGuard) c6, .slice A9 (List.length aNodes) c10])] ⟨rfl, trivial⟩
 rw [law19_Real] at hP
 refine wp_seq ?_
 refine wp_region_lit ?_
 refine h_box H E rfl rfl rfl ?_
 intro w14 g13 a hc15 hg17 H_ E_
 replace E := E_ _ rfl; clear E_
 replace H := H_; clear H_; try dsimp only [setn, addE, goneL] at H
 refine vr tbok 1 [] [(1, .pointer (some ⟨g13, 0, none⟩))] [] E (by kernel_rfl) trivial ?_
 clear E; intro a E
 refine wpList_nil ?_
 refine th_n ?_
 refine wp_seq ?_
 refine wp_region_lit ?_
 refine vr tbok 5 [.slice A1 (List.length aAccept) c2] [(1, .pointer (some ⟨g13, 0, none⟩)), (7, .bool (decide (0 < (((List.length aAccept) : Nat) : Int))))] [World.cell? w14 ⟨g13, 1, none⟩ = some (.slice A1 (List.length aAccept) c2)] E (by kernel_rfl) ((H.box 3 rfl).cell (j := 1) rfl) ?_
 clear E; intro a E
 refine E.cases (t := 7) rfl (fun hb_ E_ => ?_) (fun hb_ E_ => ?_)
 ·
  replace E := E_; clear E_
  have h18 : 0 < (((List.length aAccept) : Nat) : Int) := of_decide_eq_true hb_
  clear hb_; replace hP := ite_t h18 hP
  refine vr tbok 9 [.slice A5 (List.length aGuard) c6, .slice A1 (List.length aAccept) c2] [(2, .bool (((((List.length aGuard) : Nat) : Int) : Int) == (((List.length aAccept) : Nat) : Int)))] [World.cell? w14 ⟨g13, 2, none⟩ = some (.slice A5 (List.length aGuard) c6), World.cell? w14 ⟨g13, 1, none⟩ = some (.slice A1 (List.length aAccept) c2)] E (by kernel_rfl) ⟨(H.box 3 rfl).cell (j := 2) rfl, (H.box 3 rfl).cell (j := 1) rfl⟩ ?_
  clear E; intro a E
  refine wpList_nil ?_
  refine th_n ?_
  refine wp_ret ?_
  obtain rfl := Option.some.inj hP
  refine ret1 E rfl rfl ?_
  exact ⟨_, rfl, rfl, H.sel [] rfl⟩
 ·
  replace E := E_; clear E_
  have h19 : ¬ (0 < (((List.length aAccept) : Nat) : Int)) := of_decide_eq_false hb_
  clear hb_; replace hP := ite_f h19 hP
  refine vr tbok 9 [] [(2, .bool false)] [] E (by kernel_rfl) trivial ?_
  clear E; intro a E
  refine wpList_nil ?_
  refine th_n ?_
  refine wp_ret ?_
  obtain rfl := Option.some.inj hP
  refine ret1 E rfl rfl ?_
  exact ⟨_, rfl, rfl, H.sel [] rfl⟩

/-! rejoinder/rejoinderlaw23.falls -/
def law23_falls_l1 (N : Nat) (rr : List Int) (rows : List (List Int)) (i107 : Int) : Nat → Int → Int → Option (Int ⊕ Bool)
  | 0, _, _ => none
  | m310 + 1, least261, k262 =>
    ask (idx i107 (List.length rows)) <|
    if k262 < (((List.length (List.getD rows (Int.toNat i107) [])) : Nat) : Int) then
      ask (idx k262 (List.length (List.getD rows (Int.toNat i107) []))) <|
      if (List.getD (List.getD rows (Int.toNat i107) []) (Int.toNat k262) 0) < 0 then
        some (Sum.inr false)
      else
        if (((List.length rr) : Nat) : Int) ≤ (List.getD (List.getD rows (Int.toNat i107) []) (Int.toNat k262) 0) then
          some (Sum.inr false)
        else
          ask (idx (List.getD (List.getD rows (Int.toNat i107) []) (Int.toNat k262) 0) (List.length rr)) <|
          if 0 ≤ (List.getD rr (Int.toNat (List.getD (List.getD rows (Int.toNat i107) []) (Int.toNat k262) 0)) 0) then
            if (List.getD rr (Int.toNat (List.getD (List.getD rows (Int.toNat i107) []) (Int.toNat k262) 0)) 0) < least261 then
              ask (in64 (k262 + 1)) <|
              law23_falls_l1 N rr rows i107 m310 (List.getD rr (Int.toNat (List.getD (List.getD rows (Int.toNat i107) []) (Int.toNat k262) 0)) 0) (k262 + 1)
            else
              ask (in64 (k262 + 1)) <|
              law23_falls_l1 N rr rows i107 m310 least261 (k262 + 1)
          else
            ask (in64 (k262 + 1)) <|
            law23_falls_l1 N rr rows i107 m310 least261 (k262 + 1)
    else
      some (Sum.inl least261)
def law23_falls_l0 (N : Nat) (rr : List Int) (rows : List (List Int)) (rank : Int) : Nat → Bool → Int → Option (Bool ⊕ Bool)
  | 0, _, _ => none
  | m210 + 1, just106, i107 =>
    if i107 < (((List.length rows) : Nat) : Int) then
      Option.bind (law23_falls_l1 N rr rows i107 N rank 0) fun x311 =>
      Sum.elim (fun x316 =>
        if rank ≤ x316 then
          some (Sum.inr false)
        else
          if just106 = true then
            ask (in64 (i107 + 1)) <|
            law23_falls_l0 N rr rows rank m210 true (i107 + 1)
          else
            ask (in64 (rank - 1)) <|
            ask (in64 (i107 + 1)) <|
            law23_falls_l0 N rr rows rank m210 ((x316 : Int) == (rank - 1)) (i107 + 1))
       (fun x363 =>
        some (Sum.inr x363)) x311
    else
      some (Sum.inl just106)
def law23_falls (N : Nat) (rr : List Int) (rows : List (List Int)) (rank : Int) : Option Bool :=
  Option.bind (law23_falls_l0 N rr rows rank N false 0) fun x211 =>
  Sum.elim (fun x216 =>
    some x216)
   (fun x372 =>
    some x372) x211
set_option maxRecDepth 100000 in
set_option maxHeartbeats 4000000 in
theorem law23_falls_calls {N : Nat} {S Fa : Nat → Prop} {w0 : World} {r : Bool} (A1 : Option Addr) (c2 : Nat) (A5 : Option Addr) (c6 : Nat) (rr : List Int) (rows : List (List Int)) (rank : Int) (hk3 : List.length rr ≤ c2) (hk7 : List.length rows ≤ c6) (H : Hp S Fa w0 w0 [.ro false (cInt .i64) A1 rr, .ro false (cSl (cInt .i64)) A5 rows]) (hP : law23_falls N rr rows rank = some r) :
    Calls Try.prog 15 #[.slice A1 (List.length rr) c2, .slice A5 (List.length rows) c6, .int .i64 rank] w0 fun e w' => ∃ v, e = .returned v ∧ v = .bool r ∧ Hp S Fa w0 w' [] := by
 refine enterV (n := 77) Try.func15 rfl rfl rfl ?_
 intro a E
 replace E := E.pick [(0, .slice A1 (List.length rr) c2), (1, .slice A5 (List.length rows) c6), (2, .int .i64 rank)] ⟨rfl, rfl, rfl, trivial⟩
 rw [law23_falls] at hP
 refine wp_seq ?_
 refine wp_region_lit ?_
 refine vr tbok 1 [] [(0, .slice A1 (List.length rr) c2), (1, .slice A5 (List.length rows) c6), (2, .int .i64 rank)] [] E (by kernel_rfl) trivial ?_
 clear E; intro a E
 refine wpList_nil ?_
 refine th_n ?_
 refine wp_seq ?_
 refine wp_region_lit ?_
 refine vr tbok 1 [] [(0, .slice A1 (List.length rr) c2), (1, .slice A5 (List.length rows) c6), (2, .int .i64 rank), (7, .bool false)] [] E (by kernel_rfl) trivial ?_
 clear E; intro a E
 refine wpList_nil ?_
 refine th_n ?_
 refine wp_seq ?_
 refine wp_seq ?_
 refine wp_region_lit ?_
 refine vr tbok 1 [] [(0, .slice A1 (List.length rr) c2), (1, .slice A5 (List.length rows) c6), (2, .int .i64 rank), (7, .bool false), (8, .int .i64 0)] [] E (by kernel_rfl) trivial ?_
 clear E; intro a E
 refine wpList_nil ?_
 refine th_n ?_
 refine wp_block ?_
 obtain ⟨x211, hL212, hK213⟩ := bind_inv hP
 clear hP
 refine loop_cut (fun i_ a w_ => (i_ = 0 ∧ ∃ (x216 : Bool), Fr a 77 [(7, .bool x216)] ∧ Hp S Fa w0 w_ [] ∧ x211 = Sum.inl x216)) ?_ ?_
 ·
  refine loopV (fun m215 a w214 => ∃ (just106 : Bool) (i107 : Int), Fr a 77 [(0, .slice A1 (List.length rr) c2), (1, .slice A5 (List.length rows) c6), (2, .int .i64 rank), (7, .bool just106), (8, .int .i64 i107)] ∧ Hp S Fa w0 w214 [.ro false (cInt .i64) A1 rr, .ro false (cSl (cInt .i64)) A5 rows] ∧ law23_falls_l0 N rr rows rank m215 just106 i107 = some x211) N ?_ ?_
  ·
   exact ⟨false, 0, E.pick _ ⟨rfl, rfl, rfl, rfl, rfl, trivial⟩, H.sel [0, 1] rfl, hL212⟩
  ·
   clear E H hL212; intro m215 a w214 hI_
   obtain ⟨just106, i107, E, H, hP⟩ := hI_
   obtain ⟨m210, rfl⟩ : ∃ q_, m215 = q_ + 1 := by cases m215 with | zero => rw [law23_falls_l0] at hP; cases hP | succ q_ => exact ⟨q_, rfl⟩
   rw [law23_falls_l0] at hP
   refine wp_seq ?_
   refine wp_seq ?_
   refine wp_region_lit ?_
   refine vr tbok 4 [] [(0, .slice A1 (List.length rr) c2), (1, .slice A5 (List.length rows) c6), (2, .int .i64 rank), (7, .bool just106), (8, .int .i64 i107), (15, .bool (decide (i107 < (((List.length rows) : Nat) : Int))))] [] E (by kernel_rfl) trivial ?_
   clear E; intro a E
   refine wpList_nil ?_
   refine th_n ?_
   refine E.cases (t := 15) rfl (fun hb_ E_ => ?_) (fun hb_ E_ => ?_)
   ·
    replace E := E_; clear E_
    have h217 : i107 < (((List.length rows) : Nat) : Int) := of_decide_eq_true hb_
    clear hb_; replace hP := ite_t h217 hP
    refine c_true E rfl ?_
    refine wp_skip ?_
    refine th_n ?_
    refine wp_seq ?_
    refine wp_block ?_
    refine wp_seq ?_
    refine wp_region_lit ?_
    refine vr tbok 2 [] [(0, .slice A1 (List.length rr) c2), (1, .slice A5 (List.length rows) c6), (2, .int .i64 rank), (7, .bool just106), (8, .int .i64 i107), (9, .int .i64 rank)] [] E (by kernel_rfl) trivial ?_
    clear E; intro a E
    refine wpList_nil ?_
    refine th_n ?_
    refine wp_seq ?_
    refine wp_seq ?_
    refine wp_region_lit ?_
    refine vr tbok 1 [] [(0, .slice A1 (List.length rr) c2), (1, .slice A5 (List.length rows) c6), (2, .int .i64 rank), (7, .bool just106), (8, .int .i64 i107), (9, .int .i64 rank), (10, .int .i64 0)] [] E (by kernel_rfl) trivial ?_
    clear E; intro a E
    refine wpList_nil ?_
    refine th_n ?_
    refine wp_block ?_
    obtain ⟨x311, hL312, hK313⟩ := bind_inv hP
    clear hP
    refine loop_cut (fun i_ a w_ => (i_ = 2 ∧ ∃ (x316 : Int), Fr a 77 [(0, .slice A1 (List.length rr) c2), (1, .slice A5 (List.length rows) c6), (2, .int .i64 rank), (7, .bool just106), (8, .int .i64 i107), (9, .int .i64 x316)] ∧ Hp S Fa w0 w_ [.ro false (cInt .i64) A1 rr, .ro false (cSl (cInt .i64)) A5 rows] ∧ x311 = Sum.inl x316)) ?_ ?_
    ·
     refine loopV (fun m315 a w314 => ∃ (least261 : Int) (k262 : Int), Fr a 77 [(0, .slice A1 (List.length rr) c2), (1, .slice A5 (List.length rows) c6), (2, .int .i64 rank), (7, .bool just106), (8, .int .i64 i107), (9, .int .i64 least261), (10, .int .i64 k262)] ∧ Hp S Fa w0 w314 [.ro false (cInt .i64) A1 rr, .ro false (cSl (cInt .i64)) A5 rows] ∧ law23_falls_l1 N rr rows i107 m315 least261 k262 = some x311) N ?_ ?_
     ·
      exact ⟨rank, 0, E.pick _ ⟨rfl, rfl, rfl, rfl, rfl, rfl, rfl, trivial⟩, H.sel [0, 1] rfl, hL312⟩
     ·
      clear E H hL312; intro m315 a w314 hI_
      obtain ⟨least261, k262, E, H, hP⟩ := hI_
      obtain ⟨m310, rfl⟩ : ∃ q_, m315 = q_ + 1 := by cases m315 with | zero => rw [law23_falls_l1] at hP; cases hP | succ q_ => exact ⟨q_, rfl⟩
      rw [law23_falls_l1] at hP
      refine wp_seq ?_
      refine wp_seq ?_
      refine wp_region_lit ?_
      obtain ⟨g317, hP⟩ := ask_inv hP
      obtain ⟨b318, o319, e_b318⟩ := (H.rd 1 rds_ro).addr (idx_pos g317)
      subst e_b318
      obtain ⟨A320, c321, hl322, hk323, H⟩ := H.subSl 1 false (el_ro rfl) g317
      try dsimp only [addE] at H
      refine vr tbok 7 [.slice A320 (List.length (List.getD rows (Int.toNat i107) [])) c321] [(0, .slice A1 (List.length rr) c2), (1, .slice (some ⟨b318, o319, none⟩) (List.length rows) c6), (2, .int .i64 rank), (7, .bool just106), (8, .int .i64 i107), (9, .int .i64 least261), (10, .int .i64 k262), (25, .bool (decide (k262 < (((List.length (List.getD rows (Int.toNat i107) [])) : Nat) : Int))))] [0 ≤ i107 ∧ i107 < (((List.length rows) : Nat) : Int), World.cell? w314 ⟨b318, o319 + (Int.toNat i107) * 1, none⟩ = some (.slice A320 (List.length (List.getD rows (Int.toNat i107) [])) c321)] E (by kernel_rfl) ⟨g317, hl322⟩ ?_
      clear E; intro a E
      refine wpList_nil ?_
      refine th_n ?_
      refine E.cases (t := 25) rfl (fun hb_ E_ => ?_) (fun hb_ E_ => ?_)
      ·
       replace E := E_; clear E_
       have h325 : k262 < (((List.length (List.getD rows (Int.toNat i107) [])) : Nat) : Int) := of_decide_eq_true hb_
       clear hb_; replace hP := ite_t h325 hP
       refine c_true E rfl ?_
       refine wp_skip ?_
       refine th_n ?_
       refine wp_seq ?_
       refine wp_block ?_
       refine wp_seq ?_
       refine wp_seq ?_
       refine wp_region_lit ?_
       obtain ⟨A326, c327, hl328, hk329, H⟩ := H.subSl 1 false (el_ro rfl) g317
       try dsimp only [addE] at H
       obtain ⟨g331, hP⟩ := ask_inv hP
       obtain ⟨b332, o333, e_b332⟩ := (H.rd 3 rds_ro).addr (idx_pos g331)
       subst e_b332
       refine vr tbok 9 [.slice (some ⟨b332, o333, none⟩) (List.length (List.getD rows (Int.toNat i107) [])) c327, .int .i64 (List.getD (List.getD rows (Int.toNat i107) []) (Int.toNat k262) 0)] [(0, .slice A1 (List.length rr) c2), (1, .slice (some ⟨b318, o319, none⟩) (List.length rows) c6), (2, .int .i64 rank), (7, .bool just106), (8, .int .i64 i107), (9, .int .i64 least261), (10, .int .i64 k262), (36, .bool (decide ((List.getD (List.getD rows (Int.toNat i107) []) (Int.toNat k262) 0) < 0)))] [0 ≤ i107 ∧ i107 < (((List.length rows) : Nat) : Int), World.cell? w314 ⟨b318, o319 + (Int.toNat i107) * 1, none⟩ = some (.slice (some ⟨b332, o333, none⟩) (List.length (List.getD rows (Int.toNat i107) [])) c327), 0 ≤ k262 ∧ k262 < (((List.length (List.getD rows (Int.toNat i107) [])) : Nat) : Int), World.cell? w314 ⟨b332, o333 + (Int.toNat k262) * 1, none⟩ = some (.int .i64 (List.getD (List.getD rows (Int.toNat i107) []) (Int.toNat k262) 0))] E (by kernel_rfl) ⟨g317, hl328, g331, Rds.at1 (H.rd 3 rds_ro) 0 g331⟩ ?_
       clear E; intro a E
       refine E.cases (t := 36) rfl (fun hb_ E_ => ?_) (fun hb_ E_ => ?_)
       ·
        replace E := E_; clear E_
        have h334 : (List.getD (List.getD rows (Int.toNat i107) []) (Int.toNat k262) 0) < 0 := of_decide_eq_true hb_
        clear hb_; replace hP := ite_t h334 hP
        refine vr tbok 11 [] [(0, .slice A1 (List.length rr) c2), (1, .slice (some ⟨b318, o319, none⟩) (List.length rows) c6), (2, .int .i64 rank), (7, .bool just106), (8, .int .i64 i107), (9, .int .i64 least261), (10, .int .i64 k262), (37, .tuple #[]), (38, .tuple #[]), (39, .tuple #[]), (40, .tuple #[]), (41, .tuple #[]), (42, .tuple #[]), (43, .tuple #[]), (44, .tuple #[]), (45, .tuple #[]), (46, .tuple #[]), (47, .bool true)] [] E (by kernel_rfl) trivial ?_
        clear E; intro a E
        refine wpList_nil ?_
        refine th_n ?_
        refine c_true E rfl ?_
        refine wp_seq ?_
        refine wp_region_lit ?_
        refine vr tbok 1 [] [(6, .bool false)] [] E (by kernel_rfl) trivial ?_
        clear E; intro a E
        refine wpList_nil ?_
        refine th_n ?_
        refine wp_ret ?_
        refine th_ret ?_
        refine bl_ret ?_
        refine th_ret ?_
        refine th_ret ?_
        refine .inr ⟨rfl, ?_⟩
        refine bl_ret ?_
        refine th_ret ?_
        refine bl_ret ?_
        refine th_ret ?_
        refine th_ret ?_
        refine .inr ⟨rfl, ?_⟩
        refine bl_ret ?_
        refine th_ret ?_
        have hx_ := Option.some.inj hP; subst hx_
        have hP : some (Sum.inr false) = some x211 := hK313
        have hx_ := Option.some.inj hP; subst hx_
        have hP : some (false) = some r := hK213
        obtain rfl := Option.some.inj hP
        refine ret1 E rfl rfl ?_
        exact ⟨_, rfl, rfl, H.sel [] rfl⟩
       ·
        replace E := E_; clear E_
        have h335 : ¬ ((List.getD (List.getD rows (Int.toNat i107) []) (Int.toNat k262) 0) < 0) := of_decide_eq_false hb_
        clear hb_; replace hP := ite_f h335 hP
        obtain ⟨A336, c337, hl338, hk339, H⟩ := H.subSl 1 false (el_ro rfl) g317
        try dsimp only [addE] at H
        obtain ⟨b341, o342, e_b341⟩ := (H.rd 4 rds_ro).addr (idx_pos g331)
        subst e_b341
        refine vr tbok 11 [.slice (some ⟨b341, o342, none⟩) (List.length (List.getD rows (Int.toNat i107) [])) c337, .int .i64 (List.getD (List.getD rows (Int.toNat i107) []) (Int.toNat k262) 0)] [(0, .slice A1 (List.length rr) c2), (1, .slice (some ⟨b318, o319, none⟩) (List.length rows) c6), (2, .int .i64 rank), (7, .bool just106), (8, .int .i64 i107), (9, .int .i64 least261), (10, .int .i64 k262), (37, .slice (some ⟨b318, o319, none⟩) (List.length rows) c6), (38, .int .i64 i107), (39, .pointer (some ⟨b318, o319 + (Int.toNat i107) * 1, none⟩)), (40, .slice (some ⟨b341, o342, none⟩) (List.length (List.getD rows (Int.toNat i107) [])) c337), (41, .int .i64 k262), (42, .pointer (some ⟨b341, o342 + (Int.toNat k262) * 1, none⟩)), (43, .int .i64 (List.getD (List.getD rows (Int.toNat i107) []) (Int.toNat k262) 0)), (44, .slice A1 (List.length rr) c2), (45, .int .i64 (((List.length rr) : Nat) : Int)), (46, .bool (decide ((((List.length rr) : Nat) : Int) ≤ (List.getD (List.getD rows (Int.toNat i107) []) (Int.toNat k262) 0)))), (47, .bool (decide ((((List.length rr) : Nat) : Int) ≤ (List.getD (List.getD rows (Int.toNat i107) []) (Int.toNat k262) 0))))] [0 ≤ i107 ∧ i107 < (((List.length rows) : Nat) : Int), World.cell? w314 ⟨b318, o319 + (Int.toNat i107) * 1, none⟩ = some (.slice (some ⟨b341, o342, none⟩) (List.length (List.getD rows (Int.toNat i107) [])) c337), 0 ≤ k262 ∧ k262 < (((List.length (List.getD rows (Int.toNat i107) [])) : Nat) : Int), World.cell? w314 ⟨b341, o342 + (Int.toNat k262) * 1, none⟩ = some (.int .i64 (List.getD (List.getD rows (Int.toNat i107) []) (Int.toNat k262) 0))] E (by kernel_rfl) ⟨g317, hl338, g331, Rds.at1 (H.rd 4 rds_ro) 0 g331⟩ ?_
        clear E; intro a E
        refine wpList_nil ?_
        refine th_n ?_
        refine E.cases (t := 47) rfl (fun hb_ E_ => ?_) (fun hb_ E_ => ?_)
        ·
         replace E := E_; clear E_
         have h343 : (((List.length rr) : Nat) : Int) ≤ (List.getD (List.getD rows (Int.toNat i107) []) (Int.toNat k262) 0) := of_decide_eq_true hb_
         clear hb_; replace hP := ite_t h343 hP
         refine c_true E rfl ?_
         refine wp_seq ?_
         refine wp_region_lit ?_
         refine vr tbok 1 [] [(6, .bool false)] [] E (by kernel_rfl) trivial ?_
         clear E; intro a E
         refine wpList_nil ?_
         refine th_n ?_
         refine wp_ret ?_
         refine th_ret ?_
         refine bl_ret ?_
         refine th_ret ?_
         refine th_ret ?_
         refine .inr ⟨rfl, ?_⟩
         refine bl_ret ?_
         refine th_ret ?_
         refine bl_ret ?_
         refine th_ret ?_
         refine th_ret ?_
         refine .inr ⟨rfl, ?_⟩
         refine bl_ret ?_
         refine th_ret ?_
         have hx_ := Option.some.inj hP; subst hx_
         have hP : some (Sum.inr false) = some x211 := hK313
         have hx_ := Option.some.inj hP; subst hx_
         have hP : some (false) = some r := hK213
         obtain rfl := Option.some.inj hP
         refine ret1 E rfl rfl ?_
         exact ⟨_, rfl, rfl, H.sel [] rfl⟩
        ·
         replace E := E_; clear E_
         have h344 : ¬ ((((List.length rr) : Nat) : Int) ≤ (List.getD (List.getD rows (Int.toNat i107) []) (Int.toNat k262) 0)) := of_decide_eq_false hb_
         clear hb_; replace hP := ite_f h344 hP
         refine c_false E rfl ?_
         refine wp_skip ?_
         refine th_n ?_
         refine wp_seq ?_
         refine wp_region_lit ?_
         obtain ⟨A345, c346, hl347, hk348, H⟩ := H.subSl 1 false (el_ro rfl) g317
         try dsimp only [addE] at H
         obtain ⟨b350, o351, e_b350⟩ := (H.rd 5 rds_ro).addr (idx_pos g331)
         subst e_b350
         obtain ⟨g352, hP⟩ := ask_inv hP
         obtain ⟨b353, o354, e_b353⟩ := (H.rd 0 rds_ro).addr (idx_pos g352)
         subst e_b353
         refine vr tbok 11 [.slice (some ⟨b350, o351, none⟩) (List.length (List.getD rows (Int.toNat i107) [])) c346, .int .i64 (List.getD (List.getD rows (Int.toNat i107) []) (Int.toNat k262) 0), .int .i64 (List.getD rr (Int.toNat (List.getD (List.getD rows (Int.toNat i107) []) (Int.toNat k262) 0)) 0)] [(0, .slice (some ⟨b353, o354, none⟩) (List.length rr) c2), (1, .slice (some ⟨b318, o319, none⟩) (List.length rows) c6), (2, .int .i64 rank), (7, .bool just106), (8, .int .i64 i107), (9, .int .i64 least261), (10, .int .i64 k262), (11, .int .i64 (List.getD rr (Int.toNat (List.getD (List.getD rows (Int.toNat i107) []) (Int.toNat k262) 0)) 0)), (37, .slice (some ⟨b318, o319, none⟩) (List.length rows) c6), (38, .int .i64 i107), (39, .pointer (some ⟨b318, o319 + (Int.toNat i107) * 1, none⟩)), (40, .slice (some ⟨b341, o342, none⟩) (List.length (List.getD rows (Int.toNat i107) [])) c337), (41, .int .i64 k262), (42, .pointer (some ⟨b341, o342 + (Int.toNat k262) * 1, none⟩)), (43, .int .i64 (List.getD (List.getD rows (Int.toNat i107) []) (Int.toNat k262) 0)), (44, .slice (some ⟨b353, o354, none⟩) (List.length rr) c2), (45, .int .i64 (((List.length rr) : Nat) : Int)), (46, .bool (decide ((((List.length rr) : Nat) : Int) ≤ (List.getD (List.getD rows (Int.toNat i107) []) (Int.toNat k262) 0))))] [0 ≤ i107 ∧ i107 < (((List.length rows) : Nat) : Int), World.cell? w314 ⟨b318, o319 + (Int.toNat i107) * 1, none⟩ = some (.slice (some ⟨b350, o351, none⟩) (List.length (List.getD rows (Int.toNat i107) [])) c346), 0 ≤ k262 ∧ k262 < (((List.length (List.getD rows (Int.toNat i107) [])) : Nat) : Int), World.cell? w314 ⟨b350, o351 + (Int.toNat k262) * 1, none⟩ = some (.int .i64 (List.getD (List.getD rows (Int.toNat i107) []) (Int.toNat k262) 0)), 0 ≤ (List.getD (List.getD rows (Int.toNat i107) []) (Int.toNat k262) 0) ∧ (List.getD (List.getD rows (Int.toNat i107) []) (Int.toNat k262) 0) < (((List.length rr) : Nat) : Int), World.cell? w314 ⟨b353, o354 + (Int.toNat (List.getD (List.getD rows (Int.toNat i107) []) (Int.toNat k262) 0)) * 1, none⟩ = some (.int .i64 (List.getD rr (Int.toNat (List.getD (List.getD rows (Int.toNat i107) []) (Int.toNat k262) 0)) 0))] E (by kernel_rfl) ⟨g317, hl347, g331, Rds.at1 (H.rd 5 rds_ro) 0 g331, g352, Rds.at1 (H.rd 0 rds_ro) 0 g352⟩ ?_
         clear E; intro a E
         refine wpList_nil ?_
         refine th_n ?_
         refine wp_seq ?_
         refine wp_region_lit ?_
         refine vr tbok 3 [] [(0, .slice (some ⟨b353, o354, none⟩) (List.length rr) c2), (1, .slice (some ⟨b318, o319, none⟩) (List.length rows) c6), (2, .int .i64 rank), (7, .bool just106), (8, .int .i64 i107), (9, .int .i64 least261), (10, .int .i64 k262), (11, .int .i64 (List.getD rr (Int.toNat (List.getD (List.getD rows (Int.toNat i107) []) (Int.toNat k262) 0)) 0)), (37, .slice (some ⟨b318, o319, none⟩) (List.length rows) c6), (38, .int .i64 i107), (39, .pointer (some ⟨b318, o319 + (Int.toNat i107) * 1, none⟩)), (40, .slice (some ⟨b341, o342, none⟩) (List.length (List.getD rows (Int.toNat i107) [])) c337), (41, .int .i64 k262), (42, .pointer (some ⟨b341, o342 + (Int.toNat k262) * 1, none⟩)), (43, .int .i64 (List.getD (List.getD rows (Int.toNat i107) []) (Int.toNat k262) 0)), (44, .slice (some ⟨b353, o354, none⟩) (List.length rr) c2), (45, .int .i64 (((List.length rr) : Nat) : Int)), (46, .bool (decide ((((List.length rr) : Nat) : Int) ≤ (List.getD (List.getD rows (Int.toNat i107) []) (Int.toNat k262) 0)))), (60, .bool (decide (0 ≤ (List.getD rr (Int.toNat (List.getD (List.getD rows (Int.toNat i107) []) (Int.toNat k262) 0)) 0))))] [] E (by kernel_rfl) trivial ?_
         clear E; intro a E
         refine E.cases (t := 60) rfl (fun hb_ E_ => ?_) (fun hb_ E_ => ?_)
         ·
          replace E := E_; clear E_
          have h355 : 0 ≤ (List.getD rr (Int.toNat (List.getD (List.getD rows (Int.toNat i107) []) (Int.toNat k262) 0)) 0) := of_decide_eq_true hb_
          clear hb_; replace hP := ite_t h355 hP
          refine vr tbok 4 [] [(0, .slice (some ⟨b353, o354, none⟩) (List.length rr) c2), (1, .slice (some ⟨b318, o319, none⟩) (List.length rows) c6), (2, .int .i64 rank), (7, .bool just106), (8, .int .i64 i107), (9, .int .i64 least261), (10, .int .i64 k262), (11, .int .i64 (List.getD rr (Int.toNat (List.getD (List.getD rows (Int.toNat i107) []) (Int.toNat k262) 0)) 0)), (37, .slice (some ⟨b318, o319, none⟩) (List.length rows) c6), (38, .int .i64 i107), (39, .pointer (some ⟨b318, o319 + (Int.toNat i107) * 1, none⟩)), (40, .slice (some ⟨b341, o342, none⟩) (List.length (List.getD rows (Int.toNat i107) [])) c337), (41, .int .i64 k262), (42, .pointer (some ⟨b341, o342 + (Int.toNat k262) * 1, none⟩)), (43, .int .i64 (List.getD (List.getD rows (Int.toNat i107) []) (Int.toNat k262) 0)), (44, .slice (some ⟨b353, o354, none⟩) (List.length rr) c2), (45, .int .i64 (((List.length rr) : Nat) : Int)), (46, .bool (decide ((((List.length rr) : Nat) : Int) ≤ (List.getD (List.getD rows (Int.toNat i107) []) (Int.toNat k262) 0)))), (61, .int .i64 (List.getD rr (Int.toNat (List.getD (List.getD rows (Int.toNat i107) []) (Int.toNat k262) 0)) 0)), (62, .int .i64 least261), (63, .bool (decide ((List.getD rr (Int.toNat (List.getD (List.getD rows (Int.toNat i107) []) (Int.toNat k262) 0)) 0) < least261))), (64, .bool (decide ((List.getD rr (Int.toNat (List.getD (List.getD rows (Int.toNat i107) []) (Int.toNat k262) 0)) 0) < least261)))] [] E (by kernel_rfl) trivial ?_
          clear E; intro a E
          refine wpList_nil ?_
          refine th_n ?_
          refine E.cases (t := 64) rfl (fun hb_ E_ => ?_) (fun hb_ E_ => ?_)
          ·
           replace E := E_; clear E_
           have h356 : (List.getD rr (Int.toNat (List.getD (List.getD rows (Int.toNat i107) []) (Int.toNat k262) 0)) 0) < least261 := of_decide_eq_true hb_
           clear hb_; replace hP := ite_t h356 hP
           refine c_true E rfl ?_
           refine wp_region_lit ?_
           refine vr tbok 2 [] [(0, .slice (some ⟨b353, o354, none⟩) (List.length rr) c2), (1, .slice (some ⟨b318, o319, none⟩) (List.length rows) c6), (2, .int .i64 rank), (7, .bool just106), (8, .int .i64 i107), (9, .int .i64 (List.getD rr (Int.toNat (List.getD (List.getD rows (Int.toNat i107) []) (Int.toNat k262) 0)) 0)), (10, .int .i64 k262), (37, .slice (some ⟨b318, o319, none⟩) (List.length rows) c6), (38, .int .i64 i107), (39, .pointer (some ⟨b318, o319 + (Int.toNat i107) * 1, none⟩)), (40, .slice (some ⟨b341, o342, none⟩) (List.length (List.getD rows (Int.toNat i107) [])) c337), (41, .int .i64 k262), (42, .pointer (some ⟨b341, o342 + (Int.toNat k262) * 1, none⟩)), (43, .int .i64 (List.getD (List.getD rows (Int.toNat i107) []) (Int.toNat k262) 0)), (44, .slice (some ⟨b353, o354, none⟩) (List.length rr) c2), (45, .int .i64 (((List.length rr) : Nat) : Int)), (46, .bool (decide ((((List.length rr) : Nat) : Int) ≤ (List.getD (List.getD rows (Int.toNat i107) []) (Int.toNat k262) 0)))), (61, .int .i64 (List.getD rr (Int.toNat (List.getD (List.getD rows (Int.toNat i107) []) (Int.toNat k262) 0)) 0)), (62, .int .i64 least261), (63, .bool (decide ((List.getD rr (Int.toNat (List.getD (List.getD rows (Int.toNat i107) []) (Int.toNat k262) 0)) 0) < least261)))] [] E (by kernel_rfl) trivial ?_
           clear E; intro a E
           refine wpList_nil ?_
           refine bl_n ?_
           refine th_n ?_
           refine wp_region_lit ?_
           obtain ⟨g357, hP⟩ := ask_inv hP
           refine vr tbok 3 [.int .i64 (k262 + 1)] [(0, .slice (some ⟨b353, o354, none⟩) (List.length rr) c2), (1, .slice (some ⟨b318, o319, none⟩) (List.length rows) c6), (2, .int .i64 rank), (7, .bool just106), (8, .int .i64 i107), (9, .int .i64 (List.getD rr (Int.toNat (List.getD (List.getD rows (Int.toNat i107) []) (Int.toNat k262) 0)) 0)), (10, .int .i64 (k262 + 1)), (37, .slice (some ⟨b318, o319, none⟩) (List.length rows) c6), (38, .int .i64 i107), (39, .pointer (some ⟨b318, o319 + (Int.toNat i107) * 1, none⟩)), (40, .slice (some ⟨b341, o342, none⟩) (List.length (List.getD rows (Int.toNat i107) [])) c337), (41, .int .i64 k262), (42, .pointer (some ⟨b341, o342 + (Int.toNat k262) * 1, none⟩)), (43, .int .i64 (List.getD (List.getD rows (Int.toNat i107) []) (Int.toNat k262) 0)), (44, .slice (some ⟨b353, o354, none⟩) (List.length rr) c2), (45, .int .i64 (((List.length rr) : Nat) : Int)), (46, .bool (decide ((((List.length rr) : Nat) : Int) ≤ (List.getD (List.getD rows (Int.toNat i107) []) (Int.toNat k262) 0)))), (61, .int .i64 (List.getD rr (Int.toNat (List.getD (List.getD rows (Int.toNat i107) []) (Int.toNat k262) 0)) 0)), (62, .int .i64 least261), (63, .bool (decide ((List.getD rr (Int.toNat (List.getD (List.getD rows (Int.toNat i107) []) (Int.toNat k262) 0)) 0) < least261)))] [IntKind.i64.wrap (k262 + 1) = k262 + 1] E (by kernel_rfl) (wrap_in g357) ?_
           clear E; intro a E
           refine wpList_nil ?_
           exact th_n ⟨m310, Nat.lt_succ_self _, (List.getD rr (Int.toNat (List.getD (List.getD rows (Int.toNat i107) []) (Int.toNat k262) 0)) 0), k262 + 1, E.pick _ ⟨rfl, rfl, rfl, rfl, rfl, rfl, rfl, trivial⟩, H.sel [0, 1] rfl, hP⟩
          ·
           replace E := E_; clear E_
           have h358 : ¬ ((List.getD rr (Int.toNat (List.getD (List.getD rows (Int.toNat i107) []) (Int.toNat k262) 0)) 0) < least261) := of_decide_eq_false hb_
           clear hb_; replace hP := ite_f h358 hP
           refine c_false E rfl ?_
           refine wp_skip ?_
           refine bl_n ?_
           refine th_n ?_
           refine wp_region_lit ?_
           obtain ⟨g359, hP⟩ := ask_inv hP
           refine vr tbok 3 [.int .i64 (k262 + 1)] [(0, .slice (some ⟨b353, o354, none⟩) (List.length rr) c2), (1, .slice (some ⟨b318, o319, none⟩) (List.length rows) c6), (2, .int .i64 rank), (7, .bool just106), (8, .int .i64 i107), (9, .int .i64 least261), (10, .int .i64 (k262 + 1)), (37, .slice (some ⟨b318, o319, none⟩) (List.length rows) c6), (38, .int .i64 i107), (39, .pointer (some ⟨b318, o319 + (Int.toNat i107) * 1, none⟩)), (40, .slice (some ⟨b341, o342, none⟩) (List.length (List.getD rows (Int.toNat i107) [])) c337), (41, .int .i64 k262), (42, .pointer (some ⟨b341, o342 + (Int.toNat k262) * 1, none⟩)), (43, .int .i64 (List.getD (List.getD rows (Int.toNat i107) []) (Int.toNat k262) 0)), (44, .slice (some ⟨b353, o354, none⟩) (List.length rr) c2), (45, .int .i64 (((List.length rr) : Nat) : Int)), (46, .bool (decide ((((List.length rr) : Nat) : Int) ≤ (List.getD (List.getD rows (Int.toNat i107) []) (Int.toNat k262) 0)))), (61, .int .i64 (List.getD rr (Int.toNat (List.getD (List.getD rows (Int.toNat i107) []) (Int.toNat k262) 0)) 0)), (62, .int .i64 least261), (63, .bool (decide ((List.getD rr (Int.toNat (List.getD (List.getD rows (Int.toNat i107) []) (Int.toNat k262) 0)) 0) < least261)))] [IntKind.i64.wrap (k262 + 1) = k262 + 1] E (by kernel_rfl) (wrap_in g359) ?_
           clear E; intro a E
           refine wpList_nil ?_
           exact th_n ⟨m310, Nat.lt_succ_self _, least261, k262 + 1, E.pick _ ⟨rfl, rfl, rfl, rfl, rfl, rfl, rfl, trivial⟩, H.sel [0, 1] rfl, hP⟩
         ·
          replace E := E_; clear E_
          have h360 : ¬ (0 ≤ (List.getD rr (Int.toNat (List.getD (List.getD rows (Int.toNat i107) []) (Int.toNat k262) 0)) 0)) := of_decide_eq_false hb_
          clear hb_; replace hP := ite_f h360 hP
          refine vr tbok 4 [] [(0, .slice (some ⟨b353, o354, none⟩) (List.length rr) c2), (1, .slice (some ⟨b318, o319, none⟩) (List.length rows) c6), (2, .int .i64 rank), (7, .bool just106), (8, .int .i64 i107), (9, .int .i64 least261), (10, .int .i64 k262), (11, .int .i64 (List.getD rr (Int.toNat (List.getD (List.getD rows (Int.toNat i107) []) (Int.toNat k262) 0)) 0)), (37, .slice (some ⟨b318, o319, none⟩) (List.length rows) c6), (38, .int .i64 i107), (39, .pointer (some ⟨b318, o319 + (Int.toNat i107) * 1, none⟩)), (40, .slice (some ⟨b341, o342, none⟩) (List.length (List.getD rows (Int.toNat i107) [])) c337), (41, .int .i64 k262), (42, .pointer (some ⟨b341, o342 + (Int.toNat k262) * 1, none⟩)), (43, .int .i64 (List.getD (List.getD rows (Int.toNat i107) []) (Int.toNat k262) 0)), (44, .slice (some ⟨b353, o354, none⟩) (List.length rr) c2), (45, .int .i64 (((List.length rr) : Nat) : Int)), (46, .bool (decide ((((List.length rr) : Nat) : Int) ≤ (List.getD (List.getD rows (Int.toNat i107) []) (Int.toNat k262) 0)))), (61, .tuple #[]), (62, .tuple #[]), (63, .tuple #[]), (64, .bool false)] [] E (by kernel_rfl) trivial ?_
          clear E; intro a E
          refine wpList_nil ?_
          refine th_n ?_
          refine c_false E rfl ?_
          refine wp_skip ?_
          refine bl_n ?_
          refine th_n ?_
          refine wp_region_lit ?_
          obtain ⟨g361, hP⟩ := ask_inv hP
          refine vr tbok 3 [.int .i64 (k262 + 1)] [(0, .slice (some ⟨b353, o354, none⟩) (List.length rr) c2), (1, .slice (some ⟨b318, o319, none⟩) (List.length rows) c6), (2, .int .i64 rank), (7, .bool just106), (8, .int .i64 i107), (9, .int .i64 least261), (10, .int .i64 (k262 + 1)), (37, .slice (some ⟨b318, o319, none⟩) (List.length rows) c6), (38, .int .i64 i107), (39, .pointer (some ⟨b318, o319 + (Int.toNat i107) * 1, none⟩)), (40, .slice (some ⟨b341, o342, none⟩) (List.length (List.getD rows (Int.toNat i107) [])) c337), (41, .int .i64 k262), (42, .pointer (some ⟨b341, o342 + (Int.toNat k262) * 1, none⟩)), (43, .int .i64 (List.getD (List.getD rows (Int.toNat i107) []) (Int.toNat k262) 0)), (44, .slice (some ⟨b353, o354, none⟩) (List.length rr) c2), (45, .int .i64 (((List.length rr) : Nat) : Int)), (46, .bool (decide ((((List.length rr) : Nat) : Int) ≤ (List.getD (List.getD rows (Int.toNat i107) []) (Int.toNat k262) 0)))), (61, .tuple #[]), (62, .tuple #[]), (63, .tuple #[])] [IntKind.i64.wrap (k262 + 1) = k262 + 1] E (by kernel_rfl) (wrap_in g361) ?_
          clear E; intro a E
          refine wpList_nil ?_
          exact th_n ⟨m310, Nat.lt_succ_self _, least261, k262 + 1, E.pick _ ⟨rfl, rfl, rfl, rfl, rfl, rfl, rfl, trivial⟩, H.sel [0, 1] rfl, hP⟩
      ·
       replace E := E_; clear E_
       have h362 : ¬ (k262 < (((List.length (List.getD rows (Int.toNat i107) [])) : Nat) : Int)) := of_decide_eq_false hb_
       clear hb_; replace hP := ite_f h362 hP
       refine c_false E rfl ?_
       refine wp_exit ?_
       refine th_exit ?_
       have hx_ := Option.some.inj hP
       refine th_exit (.inl ⟨2, rfl, ?_⟩)
       exact ⟨rfl, least261, E.pick _ ⟨rfl, rfl, rfl, rfl, rfl, rfl, trivial⟩, H.sel [0, 1] rfl, hx_.symm⟩
    ·
     clear E H hL312; intro i_ a w314 hM_
     obtain ⟨rfl, x316, E, H, hx_⟩ := hM_
     subst hx_; have hP := elim_l hK313
     clear hK313
     refine bl_hit ?_
     refine th_n ?_
     refine wp_seq ?_
     refine wp_seq ?_
     refine wp_region_lit ?_
     refine vr tbok 3 [] [(0, .slice A1 (List.length rr) c2), (1, .slice A5 (List.length rows) c6), (2, .int .i64 rank), (7, .bool just106), (8, .int .i64 i107), (9, .int .i64 x316), (68, .bool (decide (rank ≤ x316)))] [] E (by kernel_rfl) trivial ?_
     clear E; intro a E
     refine wpList_nil ?_
     refine th_n ?_
     refine E.cases (t := 68) rfl (fun hb_ E_ => ?_) (fun hb_ E_ => ?_)
     ·
      replace E := E_; clear E_
      have h364 : rank ≤ x316 := of_decide_eq_true hb_
      clear hb_; replace hP := ite_t h364 hP
      refine c_true E rfl ?_
      refine wp_seq ?_
      refine wp_region_lit ?_
      refine vr tbok 1 [] [(6, .bool false)] [] E (by kernel_rfl) trivial ?_
      clear E; intro a E
      refine wpList_nil ?_
      refine th_n ?_
      refine wp_ret ?_
      refine th_ret ?_
      refine bl_ret ?_
      refine th_ret ?_
      refine th_ret ?_
      refine .inr ⟨rfl, ?_⟩
      refine bl_ret ?_
      refine th_ret ?_
      have hx_ := Option.some.inj hP; subst hx_
      have hP : some (false) = some r := hK213
      obtain rfl := Option.some.inj hP
      refine ret1 E rfl rfl ?_
      exact ⟨_, rfl, rfl, H.sel [] rfl⟩
     ·
      replace E := E_; clear E_
      have h365 : ¬ (rank ≤ x316) := of_decide_eq_false hb_
      clear hb_; replace hP := ite_f h365 hP
      refine c_false E rfl ?_
      refine wp_skip ?_
      refine th_n ?_
      refine wp_region_lit ?_
      refine vr tbok 2 [] [(0, .slice A1 (List.length rr) c2), (1, .slice A5 (List.length rows) c6), (2, .int .i64 rank), (8, .int .i64 i107), (9, .int .i64 x316), (70, .bool just106)] [] E (by kernel_rfl) trivial ?_
      clear E; intro a E
      refine E.cases (t := 70) rfl (fun hb_ E_ => ?_) (fun hb_ E_ => ?_)
      ·
       replace E := E_; clear E_
       have h366 : just106 = true := hb_
       clear hb_; replace hP := ite_t h366 hP
       refine vr tbok 6 [] [(0, .slice A1 (List.length rr) c2), (1, .slice A5 (List.length rows) c6), (2, .int .i64 rank), (7, .bool true), (8, .int .i64 i107), (71, .tuple #[]), (72, .tuple #[]), (73, .tuple #[]), (74, .tuple #[])] [] E (by kernel_rfl) trivial ?_
       clear E; intro a E
       refine wpList_nil ?_
       refine bl_n ?_
       refine th_n ?_
       refine wp_region_lit ?_
       obtain ⟨g367, hP⟩ := ask_inv hP
       refine vr tbok 3 [.int .i64 (i107 + 1)] [(0, .slice A1 (List.length rr) c2), (1, .slice A5 (List.length rows) c6), (2, .int .i64 rank), (7, .bool true), (8, .int .i64 (i107 + 1)), (71, .tuple #[]), (72, .tuple #[]), (73, .tuple #[]), (74, .tuple #[])] [IntKind.i64.wrap (i107 + 1) = i107 + 1] E (by kernel_rfl) (wrap_in g367) ?_
       clear E; intro a E
       refine wpList_nil ?_
       exact th_n ⟨m210, Nat.lt_succ_self _, true, i107 + 1, E.pick _ ⟨rfl, rfl, rfl, rfl, rfl, trivial⟩, H.sel [0, 1] rfl, hP⟩
      ·
       replace E := E_; clear E_
       have h368 : ¬ (just106 = true) := (ne_true_of_eq_false hb_)
       clear hb_; replace hP := ite_f h368 hP
       obtain ⟨g369, hP⟩ := ask_inv hP
       refine vr tbok 6 [.int .i64 (rank - 1)] [(0, .slice A1 (List.length rr) c2), (1, .slice A5 (List.length rows) c6), (2, .int .i64 rank), (7, .bool ((x316 : Int) == (rank - 1))), (8, .int .i64 i107), (71, .int .i64 x316), (72, .int .i64 rank), (73, .int .i64 (rank - 1)), (74, .bool ((x316 : Int) == (rank - 1)))] [IntKind.i64.wrap (rank - 1) = rank - 1] E (by kernel_rfl) (wrap_in g369) ?_
       clear E; intro a E
       refine wpList_nil ?_
       refine bl_n ?_
       refine th_n ?_
       refine wp_region_lit ?_
       obtain ⟨g370, hP⟩ := ask_inv hP
       refine vr tbok 3 [.int .i64 (i107 + 1)] [(0, .slice A1 (List.length rr) c2), (1, .slice A5 (List.length rows) c6), (2, .int .i64 rank), (7, .bool ((x316 : Int) == (rank - 1))), (8, .int .i64 (i107 + 1)), (71, .int .i64 x316), (72, .int .i64 rank), (73, .int .i64 (rank - 1)), (74, .bool ((x316 : Int) == (rank - 1)))] [IntKind.i64.wrap (i107 + 1) = i107 + 1] E (by kernel_rfl) (wrap_in g370) ?_
       clear E; intro a E
       refine wpList_nil ?_
       exact th_n ⟨m210, Nat.lt_succ_self _, (x316 : Int) == (rank - 1), i107 + 1, E.pick _ ⟨rfl, rfl, rfl, rfl, rfl, trivial⟩, H.sel [0, 1] rfl, hP⟩
   ·
    replace E := E_; clear E_
    have h371 : ¬ (i107 < (((List.length rows) : Nat) : Int)) := of_decide_eq_false hb_
    clear hb_; replace hP := ite_f h371 hP
    refine c_false E rfl ?_
    refine wp_exit ?_
    refine th_exit ?_
    have hx_ := Option.some.inj hP
    refine th_exit (.inl ⟨0, rfl, ?_⟩)
    exact ⟨rfl, just106, E.pick _ ⟨rfl, trivial⟩, H.sel [] rfl, hx_.symm⟩
 ·
  clear E H hL212; intro i_ a w214 hM_
  obtain ⟨rfl, x216, E, H, hx_⟩ := hM_
  subst hx_; have hP := elim_l hK213
  clear hK213
  refine bl_hit ?_
  refine th_n ?_
  refine wp_seq ?_
  refine wp_region_lit ?_
  refine vr tbok 2 [] [(6, .bool x216)] [] E (by kernel_rfl) trivial ?_
  clear E; intro a E
  refine wpList_nil ?_
  refine th_n ?_
  refine wp_ret ?_
  obtain rfl := Option.some.inj hP
  refine ret1 E rfl rfl ?_
  exact ⟨_, rfl, rfl, H.sel [] rfl⟩

/-! rejoinder/rejoinderlaw23.stays -/
def law23_stays_l1 (N : Nat) (rr : List Int) (rows : List (List Int)) (i100 : Int) : Nat → Bool → Int → Option Bool
  | 0, _, _ => none
  | m288 + 1, all240, k241 =>
    ask (idx i100 (List.length rows)) <|
    if k241 < (((List.length (List.getD rows (Int.toNat i100) [])) : Nat) : Int) then
      if all240 = true then
        ask (idx k241 (List.length (List.getD rows (Int.toNat i100) []))) <|
        if 0 ≤ (List.getD (List.getD rows (Int.toNat i100) []) (Int.toNat k241) 0) then
          if (List.getD (List.getD rows (Int.toNat i100) []) (Int.toNat k241) 0) < (((List.length rr) : Nat) : Int) then
            ask (idx (List.getD (List.getD rows (Int.toNat i100) []) (Int.toNat k241) 0) (List.length rr)) <|
            ask (in64 (k241 + 1)) <|
            law23_stays_l1 N rr rows i100 m288 (decide ((List.getD rr (Int.toNat (List.getD (List.getD rows (Int.toNat i100) []) (Int.toNat k241) 0)) 0) < 0)) (k241 + 1)
          else
            ask (in64 (k241 + 1)) <|
            law23_stays_l1 N rr rows i100 m288 false (k241 + 1)
        else
          ask (in64 (k241 + 1)) <|
          law23_stays_l1 N rr rows i100 m288 false (k241 + 1)
      else
        ask (in64 (k241 + 1)) <|
        law23_stays_l1 N rr rows i100 m288 false (k241 + 1)
    else
      some all240
def law23_stays_l0 (N : Nat) (rr : List Int) (rows : List (List Int)) : Nat → Int → Option (Unit ⊕ Bool)
  | 0, _ => none
  | m193 + 1, i100 =>
    if i100 < (((List.length rows) : Nat) : Int) then
      Option.bind (law23_stays_l1 N rr rows i100 N true 0) fun x289 =>
      if x289 = true then
        some (Sum.inr true)
      else
        ask (in64 (i100 + 1)) <|
        law23_stays_l0 N rr rows m193 (i100 + 1)
    else
      some (Sum.inl ())
def law23_stays (N : Nat) (rr : List Int) (rows : List (List Int)) : Option Bool :=
  Option.bind (law23_stays_l0 N rr rows N 0) fun x194 =>
  Sum.elim (fun x199 =>
    some false)
   (fun x344 =>
    some x344) x194
set_option maxRecDepth 100000 in
set_option maxHeartbeats 4000000 in
theorem law23_stays_calls {N : Nat} {S Fa : Nat → Prop} {w0 : World} {r : Bool} (A1 : Option Addr) (c2 : Nat) (A5 : Option Addr) (c6 : Nat) (rr : List Int) (rows : List (List Int)) (hk3 : List.length rr ≤ c2) (hk7 : List.length rows ≤ c6) (H : Hp S Fa w0 w0 [.ro false (cInt .i64) A1 rr, .ro false (cSl (cInt .i64)) A5 rows]) (hP : law23_stays N rr rows = some r) :
    Calls Try.prog 16 #[.slice A1 (List.length rr) c2, .slice A5 (List.length rows) c6] w0 fun e w' => ∃ v, e = .returned v ∧ v = .bool r ∧ Hp S Fa w0 w' [] := by
 refine enterV (n := 60) Try.func16 rfl rfl rfl ?_
 intro a E
 replace E := E.pick [(0, .slice A1 (List.length rr) c2), (1, .slice A5 (List.length rows) c6)] ⟨rfl, rfl, trivial⟩
 rw [law23_stays] at hP
 refine wp_seq ?_
 refine wp_region_lit ?_
 refine vr tbok 1 [] [(0, .slice A1 (List.length rr) c2), (1, .slice A5 (List.length rows) c6)] [] E (by kernel_rfl) trivial ?_
 clear E; intro a E
 refine wpList_nil ?_
 refine th_n ?_
 refine wp_seq ?_
 refine wp_seq ?_
 refine wp_region_lit ?_
 refine vr tbok 1 [] [(0, .slice A1 (List.length rr) c2), (1, .slice A5 (List.length rows) c6), (5, .int .i64 0)] [] E (by kernel_rfl) trivial ?_
 clear E; intro a E
 refine wpList_nil ?_
 refine th_n ?_
 refine wp_block ?_
 obtain ⟨x194, hL195, hK196⟩ := bind_inv hP
 clear hP
 refine loop_cut (fun i_ a w_ => (i_ = 0 ∧ ∃ (x199 : Unit), Fr a 60 [] ∧ Hp S Fa w0 w_ [] ∧ x194 = Sum.inl x199)) ?_ ?_
 ·
  refine loopV (fun m198 a w197 => ∃ (i100 : Int), Fr a 60 [(0, .slice A1 (List.length rr) c2), (1, .slice A5 (List.length rows) c6), (5, .int .i64 i100)] ∧ Hp S Fa w0 w197 [.ro false (cInt .i64) A1 rr, .ro false (cSl (cInt .i64)) A5 rows] ∧ law23_stays_l0 N rr rows m198 i100 = some x194) N ?_ ?_
  ·
   exact ⟨0, E.pick _ ⟨rfl, rfl, rfl, trivial⟩, H.sel [0, 1] rfl, hL195⟩
  ·
   clear E H hL195; intro m198 a w197 hI_
   obtain ⟨i100, E, H, hP⟩ := hI_
   obtain ⟨m193, rfl⟩ : ∃ q_, m198 = q_ + 1 := by cases m198 with | zero => rw [law23_stays_l0] at hP; cases hP | succ q_ => exact ⟨q_, rfl⟩
   rw [law23_stays_l0] at hP
   refine wp_seq ?_
   refine wp_seq ?_
   refine wp_region_lit ?_
   refine vr tbok 4 [] [(0, .slice A1 (List.length rr) c2), (1, .slice A5 (List.length rows) c6), (5, .int .i64 i100), (11, .bool (decide (i100 < (((List.length rows) : Nat) : Int))))] [] E (by kernel_rfl) trivial ?_
   clear E; intro a E
   refine wpList_nil ?_
   refine th_n ?_
   refine E.cases (t := 11) rfl (fun hb_ E_ => ?_) (fun hb_ E_ => ?_)
   ·
    replace E := E_; clear E_
    have h200 : i100 < (((List.length rows) : Nat) : Int) := of_decide_eq_true hb_
    clear hb_; replace hP := ite_t h200 hP
    refine c_true E rfl ?_
    refine wp_skip ?_
    refine th_n ?_
    refine wp_seq ?_
    refine wp_block ?_
    refine wp_seq ?_
    refine wp_region_lit ?_
    refine vr tbok 1 [] [(0, .slice A1 (List.length rr) c2), (1, .slice A5 (List.length rows) c6), (5, .int .i64 i100), (6, .bool true)] [] E (by kernel_rfl) trivial ?_
    clear E; intro a E
    refine wpList_nil ?_
    refine th_n ?_
    refine wp_seq ?_
    refine wp_seq ?_
    refine wp_region_lit ?_
    refine vr tbok 1 [] [(0, .slice A1 (List.length rr) c2), (1, .slice A5 (List.length rows) c6), (5, .int .i64 i100), (6, .bool true), (7, .int .i64 0)] [] E (by kernel_rfl) trivial ?_
    clear E; intro a E
    refine wpList_nil ?_
    refine th_n ?_
    refine wp_block ?_
    obtain ⟨x289, hL290, hK291⟩ := bind_inv hP
    clear hP
    refine loop_cut (fun i_ a w_ => (i_ = 2 ∧ ∃ (x294 : Bool), Fr a 60 [(0, .slice A1 (List.length rr) c2), (1, .slice A5 (List.length rows) c6), (5, .int .i64 i100), (6, .bool x294)] ∧ Hp S Fa w0 w_ [.ro false (cInt .i64) A1 rr, .ro false (cSl (cInt .i64)) A5 rows] ∧ x289 = x294)) ?_ ?_
    ·
     refine loopV (fun m293 a w292 => ∃ (all240 : Bool) (k241 : Int), Fr a 60 [(0, .slice A1 (List.length rr) c2), (1, .slice A5 (List.length rows) c6), (5, .int .i64 i100), (6, .bool all240), (7, .int .i64 k241)] ∧ Hp S Fa w0 w292 [.ro false (cInt .i64) A1 rr, .ro false (cSl (cInt .i64)) A5 rows] ∧ law23_stays_l1 N rr rows i100 m293 all240 k241 = some x289) N ?_ ?_
     ·
      exact ⟨true, 0, E.pick _ ⟨rfl, rfl, rfl, rfl, rfl, trivial⟩, H.sel [0, 1] rfl, hL290⟩
     ·
      clear E H hL290; intro m293 a w292 hI_
      obtain ⟨all240, k241, E, H, hP⟩ := hI_
      obtain ⟨m288, rfl⟩ : ∃ q_, m293 = q_ + 1 := by cases m293 with | zero => rw [law23_stays_l1] at hP; cases hP | succ q_ => exact ⟨q_, rfl⟩
      rw [law23_stays_l1] at hP
      refine wp_seq ?_
      refine wp_seq ?_
      refine wp_region_lit ?_
      obtain ⟨g295, hP⟩ := ask_inv hP
      obtain ⟨b296, o297, e_b296⟩ := (H.rd 1 rds_ro).addr (idx_pos g295)
      subst e_b296
      obtain ⟨A298, c299, hl300, hk301, H⟩ := H.subSl 1 false (el_ro rfl) g295
      try dsimp only [addE] at H
      refine vr tbok 7 [.slice A298 (List.length (List.getD rows (Int.toNat i100) [])) c299] [(0, .slice A1 (List.length rr) c2), (1, .slice (some ⟨b296, o297, none⟩) (List.length rows) c6), (5, .int .i64 i100), (6, .bool all240), (7, .int .i64 k241), (20, .bool (decide (k241 < (((List.length (List.getD rows (Int.toNat i100) [])) : Nat) : Int))))] [0 ≤ i100 ∧ i100 < (((List.length rows) : Nat) : Int), World.cell? w292 ⟨b296, o297 + (Int.toNat i100) * 1, none⟩ = some (.slice A298 (List.length (List.getD rows (Int.toNat i100) [])) c299)] E (by kernel_rfl) ⟨g295, hl300⟩ ?_
      clear E; intro a E
      refine wpList_nil ?_
      refine th_n ?_
      refine E.cases (t := 20) rfl (fun hb_ E_ => ?_) (fun hb_ E_ => ?_)
      ·
       replace E := E_; clear E_
       have h303 : k241 < (((List.length (List.getD rows (Int.toNat i100) [])) : Nat) : Int) := of_decide_eq_true hb_
       clear hb_; replace hP := ite_t h303 hP
       refine c_true E rfl ?_
       refine wp_skip ?_
       refine th_n ?_
       refine wp_seq ?_
       refine wp_block ?_
       refine wp_region_lit ?_
       refine vr tbok 2 [] [(0, .slice A1 (List.length rr) c2), (1, .slice (some ⟨b296, o297, none⟩) (List.length rows) c6), (5, .int .i64 i100), (7, .int .i64 k241), (24, .bool all240)] [] E (by kernel_rfl) trivial ?_
       clear E; intro a E
       refine E.cases (t := 24) rfl (fun hb_ E_ => ?_) (fun hb_ E_ => ?_)
       ·
        replace E := E_; clear E_
        have h304 : all240 = true := hb_
        clear hb_; replace hP := ite_t h304 hP
        obtain ⟨A305, c306, hl307, hk308, H⟩ := H.subSl 1 false (el_ro rfl) g295
        try dsimp only [addE] at H
        obtain ⟨g310, hP⟩ := ask_inv hP
        obtain ⟨b311, o312, e_b311⟩ := (H.rd 3 rds_ro).addr (idx_pos g310)
        subst e_b311
        refine vr tbok 10 [.slice (some ⟨b311, o312, none⟩) (List.length (List.getD rows (Int.toNat i100) [])) c306, .int .i64 (List.getD (List.getD rows (Int.toNat i100) []) (Int.toNat k241) 0)] [(0, .slice A1 (List.length rr) c2), (1, .slice (some ⟨b296, o297, none⟩) (List.length rows) c6), (5, .int .i64 i100), (7, .int .i64 k241), (25, .slice (some ⟨b296, o297, none⟩) (List.length rows) c6), (26, .int .i64 i100), (27, .pointer (some ⟨b296, o297 + (Int.toNat i100) * 1, none⟩)), (28, .slice (some ⟨b311, o312, none⟩) (List.length (List.getD rows (Int.toNat i100) [])) c306), (29, .int .i64 k241), (30, .pointer (some ⟨b311, o312 + (Int.toNat k241) * 1, none⟩)), (31, .int .i64 (List.getD (List.getD rows (Int.toNat i100) []) (Int.toNat k241) 0)), (32, .bool (decide (0 ≤ (List.getD (List.getD rows (Int.toNat i100) []) (Int.toNat k241) 0)))), (34, .bool (decide (0 ≤ (List.getD (List.getD rows (Int.toNat i100) []) (Int.toNat k241) 0))))] [0 ≤ i100 ∧ i100 < (((List.length rows) : Nat) : Int), World.cell? w292 ⟨b296, o297 + (Int.toNat i100) * 1, none⟩ = some (.slice (some ⟨b311, o312, none⟩) (List.length (List.getD rows (Int.toNat i100) [])) c306), 0 ≤ k241 ∧ k241 < (((List.length (List.getD rows (Int.toNat i100) [])) : Nat) : Int), World.cell? w292 ⟨b311, o312 + (Int.toNat k241) * 1, none⟩ = some (.int .i64 (List.getD (List.getD rows (Int.toNat i100) []) (Int.toNat k241) 0))] E (by kernel_rfl) ⟨g295, hl307, g310, Rds.at1 (H.rd 3 rds_ro) 0 g310⟩ ?_
        clear E; intro a E
        refine E.cases (t := 34) rfl (fun hb_ E_ => ?_) (fun hb_ E_ => ?_)
        ·
         replace E := E_; clear E_
         have h313 : 0 ≤ (List.getD (List.getD rows (Int.toNat i100) []) (Int.toNat k241) 0) := of_decide_eq_true hb_
         clear hb_; replace hP := ite_t h313 hP
         obtain ⟨A314, c315, hl316, hk317, H⟩ := H.subSl 1 false (el_ro rfl) g295
         try dsimp only [addE] at H
         obtain ⟨b319, o320, e_b319⟩ := (H.rd 4 rds_ro).addr (idx_pos g310)
         subst e_b319
         refine vr tbok 12 [.slice (some ⟨b319, o320, none⟩) (List.length (List.getD rows (Int.toNat i100) [])) c315, .int .i64 (List.getD (List.getD rows (Int.toNat i100) []) (Int.toNat k241) 0)] [(0, .slice A1 (List.length rr) c2), (1, .slice (some ⟨b296, o297, none⟩) (List.length rows) c6), (5, .int .i64 i100), (7, .int .i64 k241), (25, .slice (some ⟨b296, o297, none⟩) (List.length rows) c6), (26, .int .i64 i100), (27, .pointer (some ⟨b296, o297 + (Int.toNat i100) * 1, none⟩)), (28, .slice (some ⟨b311, o312, none⟩) (List.length (List.getD rows (Int.toNat i100) [])) c306), (29, .int .i64 k241), (30, .pointer (some ⟨b311, o312 + (Int.toNat k241) * 1, none⟩)), (31, .int .i64 (List.getD (List.getD rows (Int.toNat i100) []) (Int.toNat k241) 0)), (32, .bool (decide (0 ≤ (List.getD (List.getD rows (Int.toNat i100) []) (Int.toNat k241) 0)))), (35, .slice (some ⟨b296, o297, none⟩) (List.length rows) c6), (36, .int .i64 i100), (37, .pointer (some ⟨b296, o297 + (Int.toNat i100) * 1, none⟩)), (38, .slice (some ⟨b319, o320, none⟩) (List.length (List.getD rows (Int.toNat i100) [])) c315), (39, .int .i64 k241), (40, .pointer (some ⟨b319, o320 + (Int.toNat k241) * 1, none⟩)), (41, .int .i64 (List.getD (List.getD rows (Int.toNat i100) []) (Int.toNat k241) 0)), (42, .slice A1 (List.length rr) c2), (43, .int .i64 (((List.length rr) : Nat) : Int)), (44, .bool (decide ((List.getD (List.getD rows (Int.toNat i100) []) (Int.toNat k241) 0) < (((List.length rr) : Nat) : Int)))), (46, .bool (decide ((List.getD (List.getD rows (Int.toNat i100) []) (Int.toNat k241) 0) < (((List.length rr) : Nat) : Int))))] [0 ≤ i100 ∧ i100 < (((List.length rows) : Nat) : Int), World.cell? w292 ⟨b296, o297 + (Int.toNat i100) * 1, none⟩ = some (.slice (some ⟨b319, o320, none⟩) (List.length (List.getD rows (Int.toNat i100) [])) c315), 0 ≤ k241 ∧ k241 < (((List.length (List.getD rows (Int.toNat i100) [])) : Nat) : Int), World.cell? w292 ⟨b319, o320 + (Int.toNat k241) * 1, none⟩ = some (.int .i64 (List.getD (List.getD rows (Int.toNat i100) []) (Int.toNat k241) 0))] E (by kernel_rfl) ⟨g295, hl316, g310, Rds.at1 (H.rd 4 rds_ro) 0 g310⟩ ?_
         clear E; intro a E
         refine E.cases (t := 46) rfl (fun hb_ E_ => ?_) (fun hb_ E_ => ?_)
         ·
          replace E := E_; clear E_
          have h321 : (List.getD (List.getD rows (Int.toNat i100) []) (Int.toNat k241) 0) < (((List.length rr) : Nat) : Int) := of_decide_eq_true hb_
          clear hb_; replace hP := ite_t h321 hP
          obtain ⟨A322, c323, hl324, hk325, H⟩ := H.subSl 1 false (el_ro rfl) g295
          try dsimp only [addE] at H
          obtain ⟨b327, o328, e_b327⟩ := (H.rd 5 rds_ro).addr (idx_pos g310)
          subst e_b327
          obtain ⟨g329, hP⟩ := ask_inv hP
          obtain ⟨b330, o331, e_b330⟩ := (H.rd 0 rds_ro).addr (idx_pos g329)
          subst e_b330
          refine vr tbok 13 [.slice (some ⟨b327, o328, none⟩) (List.length (List.getD rows (Int.toNat i100) [])) c323, .int .i64 (List.getD (List.getD rows (Int.toNat i100) []) (Int.toNat k241) 0), .int .i64 (List.getD rr (Int.toNat (List.getD (List.getD rows (Int.toNat i100) []) (Int.toNat k241) 0)) 0)] [(0, .slice (some ⟨b330, o331, none⟩) (List.length rr) c2), (1, .slice (some ⟨b296, o297, none⟩) (List.length rows) c6), (5, .int .i64 i100), (6, .bool (decide ((List.getD rr (Int.toNat (List.getD (List.getD rows (Int.toNat i100) []) (Int.toNat k241) 0)) 0) < 0))), (7, .int .i64 k241), (25, .slice (some ⟨b296, o297, none⟩) (List.length rows) c6), (26, .int .i64 i100), (27, .pointer (some ⟨b296, o297 + (Int.toNat i100) * 1, none⟩)), (28, .slice (some ⟨b311, o312, none⟩) (List.length (List.getD rows (Int.toNat i100) [])) c306), (29, .int .i64 k241), (30, .pointer (some ⟨b311, o312 + (Int.toNat k241) * 1, none⟩)), (31, .int .i64 (List.getD (List.getD rows (Int.toNat i100) []) (Int.toNat k241) 0)), (32, .bool (decide (0 ≤ (List.getD (List.getD rows (Int.toNat i100) []) (Int.toNat k241) 0)))), (35, .slice (some ⟨b296, o297, none⟩) (List.length rows) c6), (36, .int .i64 i100), (37, .pointer (some ⟨b296, o297 + (Int.toNat i100) * 1, none⟩)), (38, .slice (some ⟨b319, o320, none⟩) (List.length (List.getD rows (Int.toNat i100) [])) c315), (39, .int .i64 k241), (40, .pointer (some ⟨b319, o320 + (Int.toNat k241) * 1, none⟩)), (41, .int .i64 (List.getD (List.getD rows (Int.toNat i100) []) (Int.toNat k241) 0)), (42, .slice (some ⟨b330, o331, none⟩) (List.length rr) c2), (43, .int .i64 (((List.length rr) : Nat) : Int)), (44, .bool (decide ((List.getD (List.getD rows (Int.toNat i100) []) (Int.toNat k241) 0) < (((List.length rr) : Nat) : Int)))), (47, .slice (some ⟨b330, o331, none⟩) (List.length rr) c2), (48, .slice (some ⟨b296, o297, none⟩) (List.length rows) c6), (49, .int .i64 i100), (50, .pointer (some ⟨b296, o297 + (Int.toNat i100) * 1, none⟩)), (51, .slice (some ⟨b327, o328, none⟩) (List.length (List.getD rows (Int.toNat i100) [])) c323), (52, .int .i64 k241), (53, .pointer (some ⟨b327, o328 + (Int.toNat k241) * 1, none⟩)), (54, .int .i64 (List.getD (List.getD rows (Int.toNat i100) []) (Int.toNat k241) 0)), (55, .pointer (some ⟨b330, o331 + (Int.toNat (List.getD (List.getD rows (Int.toNat i100) []) (Int.toNat k241) 0)) * 1, none⟩)), (56, .int .i64 (List.getD rr (Int.toNat (List.getD (List.getD rows (Int.toNat i100) []) (Int.toNat k241) 0)) 0)), (57, .bool (decide ((List.getD rr (Int.toNat (List.getD (List.getD rows (Int.toNat i100) []) (Int.toNat k241) 0)) 0) < 0)))] [0 ≤ i100 ∧ i100 < (((List.length rows) : Nat) : Int), World.cell? w292 ⟨b296, o297 + (Int.toNat i100) * 1, none⟩ = some (.slice (some ⟨b327, o328, none⟩) (List.length (List.getD rows (Int.toNat i100) [])) c323), 0 ≤ k241 ∧ k241 < (((List.length (List.getD rows (Int.toNat i100) [])) : Nat) : Int), World.cell? w292 ⟨b327, o328 + (Int.toNat k241) * 1, none⟩ = some (.int .i64 (List.getD (List.getD rows (Int.toNat i100) []) (Int.toNat k241) 0)), 0 ≤ (List.getD (List.getD rows (Int.toNat i100) []) (Int.toNat k241) 0) ∧ (List.getD (List.getD rows (Int.toNat i100) []) (Int.toNat k241) 0) < (((List.length rr) : Nat) : Int), World.cell? w292 ⟨b330, o331 + (Int.toNat (List.getD (List.getD rows (Int.toNat i100) []) (Int.toNat k241) 0)) * 1, none⟩ = some (.int .i64 (List.getD rr (Int.toNat (List.getD (List.getD rows (Int.toNat i100) []) (Int.toNat k241) 0)) 0))] E (by kernel_rfl) ⟨g295, hl324, g310, Rds.at1 (H.rd 5 rds_ro) 0 g310, g329, Rds.at1 (H.rd 0 rds_ro) 0 g329⟩ ?_
          clear E; intro a E
          refine wpList_nil ?_
          refine bl_n ?_
          refine th_n ?_
          refine wp_region_lit ?_
          obtain ⟨g332, hP⟩ := ask_inv hP
          refine vr tbok 3 [.int .i64 (k241 + 1)] [(0, .slice (some ⟨b330, o331, none⟩) (List.length rr) c2), (1, .slice (some ⟨b296, o297, none⟩) (List.length rows) c6), (5, .int .i64 i100), (6, .bool (decide ((List.getD rr (Int.toNat (List.getD (List.getD rows (Int.toNat i100) []) (Int.toNat k241) 0)) 0) < 0))), (7, .int .i64 (k241 + 1)), (25, .slice (some ⟨b296, o297, none⟩) (List.length rows) c6), (26, .int .i64 i100), (27, .pointer (some ⟨b296, o297 + (Int.toNat i100) * 1, none⟩)), (28, .slice (some ⟨b311, o312, none⟩) (List.length (List.getD rows (Int.toNat i100) [])) c306), (29, .int .i64 k241), (30, .pointer (some ⟨b311, o312 + (Int.toNat k241) * 1, none⟩)), (31, .int .i64 (List.getD (List.getD rows (Int.toNat i100) []) (Int.toNat k241) 0)), (32, .bool (decide (0 ≤ (List.getD (List.getD rows (Int.toNat i100) []) (Int.toNat k241) 0)))), (35, .slice (some ⟨b296, o297, none⟩) (List.length rows) c6), (36, .int .i64 i100), (37, .pointer (some ⟨b296, o297 + (Int.toNat i100) * 1, none⟩)), (38, .slice (some ⟨b319, o320, none⟩) (List.length (List.getD rows (Int.toNat i100) [])) c315), (39, .int .i64 k241), (40, .pointer (some ⟨b319, o320 + (Int.toNat k241) * 1, none⟩)), (41, .int .i64 (List.getD (List.getD rows (Int.toNat i100) []) (Int.toNat k241) 0)), (42, .slice (some ⟨b330, o331, none⟩) (List.length rr) c2), (43, .int .i64 (((List.length rr) : Nat) : Int)), (44, .bool (decide ((List.getD (List.getD rows (Int.toNat i100) []) (Int.toNat k241) 0) < (((List.length rr) : Nat) : Int)))), (47, .slice (some ⟨b330, o331, none⟩) (List.length rr) c2), (48, .slice (some ⟨b296, o297, none⟩) (List.length rows) c6), (49, .int .i64 i100), (50, .pointer (some ⟨b296, o297 + (Int.toNat i100) * 1, none⟩)), (51, .slice (some ⟨b327, o328, none⟩) (List.length (List.getD rows (Int.toNat i100) [])) c323), (52, .int .i64 k241), (53, .pointer (some ⟨b327, o328 + (Int.toNat k241) * 1, none⟩)), (54, .int .i64 (List.getD (List.getD rows (Int.toNat i100) []) (Int.toNat k241) 0)), (55, .pointer (some ⟨b330, o331 + (Int.toNat (List.getD (List.getD rows (Int.toNat i100) []) (Int.toNat k241) 0)) * 1, none⟩)), (56, .int .i64 (List.getD rr (Int.toNat (List.getD (List.getD rows (Int.toNat i100) []) (Int.toNat k241) 0)) 0)), (57, .bool (decide ((List.getD rr (Int.toNat (List.getD (List.getD rows (Int.toNat i100) []) (Int.toNat k241) 0)) 0) < 0)))] [IntKind.i64.wrap (k241 + 1) = k241 + 1] E (by kernel_rfl) (wrap_in g332) ?_
          clear E; intro a E
          refine wpList_nil ?_
          exact th_n ⟨m288, Nat.lt_succ_self _, decide ((List.getD rr (Int.toNat (List.getD (List.getD rows (Int.toNat i100) []) (Int.toNat k241) 0)) 0) < 0), k241 + 1, E.pick _ ⟨rfl, rfl, rfl, rfl, rfl, trivial⟩, H.sel [0, 1] rfl, hP⟩
         ·
          replace E := E_; clear E_
          have h333 : ¬ ((List.getD (List.getD rows (Int.toNat i100) []) (Int.toNat k241) 0) < (((List.length rr) : Nat) : Int)) := of_decide_eq_false hb_
          clear hb_; replace hP := ite_f h333 hP
          refine vr tbok 13 [] [(0, .slice A1 (List.length rr) c2), (1, .slice (some ⟨b296, o297, none⟩) (List.length rows) c6), (5, .int .i64 i100), (6, .bool false), (7, .int .i64 k241), (25, .slice (some ⟨b296, o297, none⟩) (List.length rows) c6), (26, .int .i64 i100), (27, .pointer (some ⟨b296, o297 + (Int.toNat i100) * 1, none⟩)), (28, .slice (some ⟨b311, o312, none⟩) (List.length (List.getD rows (Int.toNat i100) [])) c306), (29, .int .i64 k241), (30, .pointer (some ⟨b311, o312 + (Int.toNat k241) * 1, none⟩)), (31, .int .i64 (List.getD (List.getD rows (Int.toNat i100) []) (Int.toNat k241) 0)), (32, .bool (decide (0 ≤ (List.getD (List.getD rows (Int.toNat i100) []) (Int.toNat k241) 0)))), (35, .slice (some ⟨b296, o297, none⟩) (List.length rows) c6), (36, .int .i64 i100), (37, .pointer (some ⟨b296, o297 + (Int.toNat i100) * 1, none⟩)), (38, .slice (some ⟨b319, o320, none⟩) (List.length (List.getD rows (Int.toNat i100) [])) c315), (39, .int .i64 k241), (40, .pointer (some ⟨b319, o320 + (Int.toNat k241) * 1, none⟩)), (41, .int .i64 (List.getD (List.getD rows (Int.toNat i100) []) (Int.toNat k241) 0)), (42, .slice A1 (List.length rr) c2), (43, .int .i64 (((List.length rr) : Nat) : Int)), (44, .bool (decide ((List.getD (List.getD rows (Int.toNat i100) []) (Int.toNat k241) 0) < (((List.length rr) : Nat) : Int)))), (47, .tuple #[]), (48, .tuple #[]), (49, .tuple #[]), (50, .tuple #[]), (51, .tuple #[]), (52, .tuple #[]), (53, .tuple #[]), (54, .tuple #[]), (55, .tuple #[]), (56, .tuple #[]), (57, .tuple #[])] [] E (by kernel_rfl) trivial ?_
          clear E; intro a E
          refine wpList_nil ?_
          refine bl_n ?_
          refine th_n ?_
          refine wp_region_lit ?_
          obtain ⟨g334, hP⟩ := ask_inv hP
          refine vr tbok 3 [.int .i64 (k241 + 1)] [(0, .slice A1 (List.length rr) c2), (1, .slice (some ⟨b296, o297, none⟩) (List.length rows) c6), (5, .int .i64 i100), (6, .bool false), (7, .int .i64 (k241 + 1)), (25, .slice (some ⟨b296, o297, none⟩) (List.length rows) c6), (26, .int .i64 i100), (27, .pointer (some ⟨b296, o297 + (Int.toNat i100) * 1, none⟩)), (28, .slice (some ⟨b311, o312, none⟩) (List.length (List.getD rows (Int.toNat i100) [])) c306), (29, .int .i64 k241), (30, .pointer (some ⟨b311, o312 + (Int.toNat k241) * 1, none⟩)), (31, .int .i64 (List.getD (List.getD rows (Int.toNat i100) []) (Int.toNat k241) 0)), (32, .bool (decide (0 ≤ (List.getD (List.getD rows (Int.toNat i100) []) (Int.toNat k241) 0)))), (35, .slice (some ⟨b296, o297, none⟩) (List.length rows) c6), (36, .int .i64 i100), (37, .pointer (some ⟨b296, o297 + (Int.toNat i100) * 1, none⟩)), (38, .slice (some ⟨b319, o320, none⟩) (List.length (List.getD rows (Int.toNat i100) [])) c315), (39, .int .i64 k241), (40, .pointer (some ⟨b319, o320 + (Int.toNat k241) * 1, none⟩)), (41, .int .i64 (List.getD (List.getD rows (Int.toNat i100) []) (Int.toNat k241) 0)), (42, .slice A1 (List.length rr) c2), (43, .int .i64 (((List.length rr) : Nat) : Int)), (44, .bool (decide ((List.getD (List.getD rows (Int.toNat i100) []) (Int.toNat k241) 0) < (((List.length rr) : Nat) : Int)))), (47, .tuple #[]), (48, .tuple #[]), (49, .tuple #[]), (50, .tuple #[]), (51, .tuple #[]), (52, .tuple #[]), (53, .tuple #[]), (54, .tuple #[]), (55, .tuple #[]), (56, .tuple #[]), (57, .tuple #[])] [IntKind.i64.wrap (k241 + 1) = k241 + 1] E (by kernel_rfl) (wrap_in g334) ?_
          clear E; intro a E
          refine wpList_nil ?_
          exact th_n ⟨m288, Nat.lt_succ_self _, false, k241 + 1, E.pick _ ⟨rfl, rfl, rfl, rfl, rfl, trivial⟩, H.sel [0, 1] rfl, hP⟩
        ·
         replace E := E_; clear E_
         have h335 : ¬ (0 ≤ (List.getD (List.getD rows (Int.toNat i100) []) (Int.toNat k241) 0)) := of_decide_eq_false hb_
         clear hb_; replace hP := ite_f h335 hP
         refine vr tbok 25 [] [(0, .slice A1 (List.length rr) c2), (1, .slice (some ⟨b296, o297, none⟩) (List.length rows) c6), (5, .int .i64 i100), (6, .bool false), (7, .int .i64 k241), (25, .slice (some ⟨b296, o297, none⟩) (List.length rows) c6), (26, .int .i64 i100), (27, .pointer (some ⟨b296, o297 + (Int.toNat i100) * 1, none⟩)), (28, .slice (some ⟨b311, o312, none⟩) (List.length (List.getD rows (Int.toNat i100) [])) c306), (29, .int .i64 k241), (30, .pointer (some ⟨b311, o312 + (Int.toNat k241) * 1, none⟩)), (31, .int .i64 (List.getD (List.getD rows (Int.toNat i100) []) (Int.toNat k241) 0)), (32, .bool (decide (0 ≤ (List.getD (List.getD rows (Int.toNat i100) []) (Int.toNat k241) 0)))), (35, .tuple #[]), (36, .tuple #[]), (37, .tuple #[]), (38, .tuple #[]), (39, .tuple #[]), (40, .tuple #[]), (41, .tuple #[]), (42, .tuple #[]), (43, .tuple #[]), (44, .tuple #[]), (47, .tuple #[]), (48, .tuple #[]), (49, .tuple #[]), (50, .tuple #[]), (51, .tuple #[]), (52, .tuple #[]), (53, .tuple #[]), (54, .tuple #[]), (55, .tuple #[]), (56, .tuple #[]), (57, .tuple #[])] [] E (by kernel_rfl) trivial ?_
         clear E; intro a E
         refine wpList_nil ?_
         refine bl_n ?_
         refine th_n ?_
         refine wp_region_lit ?_
         obtain ⟨g336, hP⟩ := ask_inv hP
         refine vr tbok 3 [.int .i64 (k241 + 1)] [(0, .slice A1 (List.length rr) c2), (1, .slice (some ⟨b296, o297, none⟩) (List.length rows) c6), (5, .int .i64 i100), (6, .bool false), (7, .int .i64 (k241 + 1)), (25, .slice (some ⟨b296, o297, none⟩) (List.length rows) c6), (26, .int .i64 i100), (27, .pointer (some ⟨b296, o297 + (Int.toNat i100) * 1, none⟩)), (28, .slice (some ⟨b311, o312, none⟩) (List.length (List.getD rows (Int.toNat i100) [])) c306), (29, .int .i64 k241), (30, .pointer (some ⟨b311, o312 + (Int.toNat k241) * 1, none⟩)), (31, .int .i64 (List.getD (List.getD rows (Int.toNat i100) []) (Int.toNat k241) 0)), (32, .bool (decide (0 ≤ (List.getD (List.getD rows (Int.toNat i100) []) (Int.toNat k241) 0)))), (35, .tuple #[]), (36, .tuple #[]), (37, .tuple #[]), (38, .tuple #[]), (39, .tuple #[]), (40, .tuple #[]), (41, .tuple #[]), (42, .tuple #[]), (43, .tuple #[]), (44, .tuple #[]), (47, .tuple #[]), (48, .tuple #[]), (49, .tuple #[]), (50, .tuple #[]), (51, .tuple #[]), (52, .tuple #[]), (53, .tuple #[]), (54, .tuple #[]), (55, .tuple #[]), (56, .tuple #[]), (57, .tuple #[])] [IntKind.i64.wrap (k241 + 1) = k241 + 1] E (by kernel_rfl) (wrap_in g336) ?_
         clear E; intro a E
         refine wpList_nil ?_
         exact th_n ⟨m288, Nat.lt_succ_self _, false, k241 + 1, E.pick _ ⟨rfl, rfl, rfl, rfl, rfl, trivial⟩, H.sel [0, 1] rfl, hP⟩
       ·
        replace E := E_; clear E_
        have h337 : ¬ (all240 = true) := (ne_true_of_eq_false hb_)
        clear hb_; replace hP := ite_f h337 hP
        refine vr tbok 35 [] [(0, .slice A1 (List.length rr) c2), (1, .slice (some ⟨b296, o297, none⟩) (List.length rows) c6), (5, .int .i64 i100), (6, .bool false), (7, .int .i64 k241), (25, .tuple #[]), (26, .tuple #[]), (27, .tuple #[]), (28, .tuple #[]), (29, .tuple #[]), (30, .tuple #[]), (31, .tuple #[]), (32, .tuple #[]), (35, .tuple #[]), (36, .tuple #[]), (37, .tuple #[]), (38, .tuple #[]), (39, .tuple #[]), (40, .tuple #[]), (41, .tuple #[]), (42, .tuple #[]), (43, .tuple #[]), (44, .tuple #[]), (47, .tuple #[]), (48, .tuple #[]), (49, .tuple #[]), (50, .tuple #[]), (51, .tuple #[]), (52, .tuple #[]), (53, .tuple #[]), (54, .tuple #[]), (55, .tuple #[]), (56, .tuple #[]), (57, .tuple #[])] [] E (by kernel_rfl) trivial ?_
        clear E; intro a E
        refine wpList_nil ?_
        refine bl_n ?_
        refine th_n ?_
        refine wp_region_lit ?_
        obtain ⟨g338, hP⟩ := ask_inv hP
        refine vr tbok 3 [.int .i64 (k241 + 1)] [(0, .slice A1 (List.length rr) c2), (1, .slice (some ⟨b296, o297, none⟩) (List.length rows) c6), (5, .int .i64 i100), (6, .bool false), (7, .int .i64 (k241 + 1)), (25, .tuple #[]), (26, .tuple #[]), (27, .tuple #[]), (28, .tuple #[]), (29, .tuple #[]), (30, .tuple #[]), (31, .tuple #[]), (32, .tuple #[]), (35, .tuple #[]), (36, .tuple #[]), (37, .tuple #[]), (38, .tuple #[]), (39, .tuple #[]), (40, .tuple #[]), (41, .tuple #[]), (42, .tuple #[]), (43, .tuple #[]), (44, .tuple #[]), (47, .tuple #[]), (48, .tuple #[]), (49, .tuple #[]), (50, .tuple #[]), (51, .tuple #[]), (52, .tuple #[]), (53, .tuple #[]), (54, .tuple #[]), (55, .tuple #[]), (56, .tuple #[]), (57, .tuple #[])] [IntKind.i64.wrap (k241 + 1) = k241 + 1] E (by kernel_rfl) (wrap_in g338) ?_
        clear E; intro a E
        refine wpList_nil ?_
        exact th_n ⟨m288, Nat.lt_succ_self _, false, k241 + 1, E.pick _ ⟨rfl, rfl, rfl, rfl, rfl, trivial⟩, H.sel [0, 1] rfl, hP⟩
      ·
       replace E := E_; clear E_
       have h339 : ¬ (k241 < (((List.length (List.getD rows (Int.toNat i100) [])) : Nat) : Int)) := of_decide_eq_false hb_
       clear hb_; replace hP := ite_f h339 hP
       refine c_false E rfl ?_
       refine wp_exit ?_
       refine th_exit ?_
       have hx_ := Option.some.inj hP
       refine th_exit (.inl ⟨2, rfl, ?_⟩)
       exact ⟨rfl, all240, E.pick _ ⟨rfl, rfl, rfl, rfl, trivial⟩, H.sel [0, 1] rfl, hx_.symm⟩
    ·
     clear E H hL290; intro i_ a w292 hM_
     obtain ⟨rfl, x294, E, H, hx_⟩ := hM_
     subst hx_; have hP := hK291; clear hK291
     refine bl_hit ?_
     refine th_n ?_
     refine wp_seq ?_
     refine wp_region_lit ?_
     refine vr tbok 1 [] [(0, .slice A1 (List.length rr) c2), (1, .slice A5 (List.length rows) c6), (5, .int .i64 i100), (59, .bool x289)] [] E (by kernel_rfl) trivial ?_
     clear E; intro a E
     refine wpList_nil ?_
     refine th_n ?_
     refine E.cases (t := 59) rfl (fun hb_ E_ => ?_) (fun hb_ E_ => ?_)
     ·
      replace E := E_; clear E_
      have h340 : x289 = true := hb_
      clear hb_; replace hP := ite_t h340 hP
      refine c_true E rfl ?_
      refine wp_seq ?_
      refine wp_region_lit ?_
      refine vr tbok 1 [] [(4, .bool true)] [] E (by kernel_rfl) trivial ?_
      clear E; intro a E
      refine wpList_nil ?_
      refine th_n ?_
      refine wp_ret ?_
      refine bl_ret ?_
      refine th_ret ?_
      refine th_ret ?_
      refine .inr ⟨rfl, ?_⟩
      refine bl_ret ?_
      refine th_ret ?_
      have hx_ := Option.some.inj hP; subst hx_
      have hP : some (true) = some r := hK196
      obtain rfl := Option.some.inj hP
      refine ret1 E rfl rfl ?_
      exact ⟨_, rfl, rfl, H.sel [] rfl⟩
     ·
      replace E := E_; clear E_
      have h341 : ¬ (x289 = true) := (ne_true_of_eq_false hb_)
      clear hb_; replace hP := ite_f h341 hP
      refine c_false E rfl ?_
      refine wp_skip ?_
      refine bl_n ?_
      refine th_n ?_
      refine wp_region_lit ?_
      obtain ⟨g342, hP⟩ := ask_inv hP
      refine vr tbok 3 [.int .i64 (i100 + 1)] [(0, .slice A1 (List.length rr) c2), (1, .slice A5 (List.length rows) c6), (5, .int .i64 (i100 + 1))] [IntKind.i64.wrap (i100 + 1) = i100 + 1] E (by kernel_rfl) (wrap_in g342) ?_
      clear E; intro a E
      refine wpList_nil ?_
      exact th_n ⟨m193, Nat.lt_succ_self _, i100 + 1, E.pick _ ⟨rfl, rfl, rfl, trivial⟩, H.sel [0, 1] rfl, hP⟩
   ·
    replace E := E_; clear E_
    have h343 : ¬ (i100 < (((List.length rows) : Nat) : Int)) := of_decide_eq_false hb_
    clear hb_; replace hP := ite_f h343 hP
    refine c_false E rfl ?_
    refine wp_exit ?_
    refine th_exit ?_
    have hx_ := Option.some.inj hP
    refine th_exit (.inl ⟨0, rfl, ?_⟩)
    exact ⟨rfl, (), E.pick _ trivial, H.sel [] rfl, hx_.symm⟩
 ·
  clear E H hL195; intro i_ a w197 hM_
  obtain ⟨rfl, x199, E, H, hx_⟩ := hM_
  subst hx_; have hP := elim_l hK196
  clear hK196
  refine bl_hit ?_
  refine th_n ?_
  refine wp_seq ?_
  refine wp_region_lit ?_
  refine vr tbok 1 [] [(4, .bool false)] [] E (by kernel_rfl) trivial ?_
  clear E; intro a E
  refine wpList_nil ?_
  refine th_n ?_
  refine wp_ret ?_
  obtain rfl := Option.some.inj hP
  refine ret1 E rfl rfl ?_
  exact ⟨_, rfl, rfl, H.sel [] rfl⟩

end Go.V
