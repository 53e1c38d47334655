/- Plain functions, and the calls that give them. -/
import Derived.Test.YtllkojpinpojiaaA4
set_option linter.all false
set_option linter.unusedVariables false
set_option linter.unnecessarySimpa false
set_option linter.unusedSimpArgs false
namespace Go.V
open Go Go.Proofs
/-! rejoinder/rejoinderkit.SameInts -/
def kit_SameInts_l0 (N : Nat) (aa : List Int) (b : List Int) : Nat → Int → Option (Unit ⊕ Bool)
  | 0, _ => none
  | m41 + 1, i25 =>
    if i25 < (((List.length aa) : Nat) : Int) then
      ask (idx i25 (List.length aa)) <|
      ask (idx i25 (List.length b)) <|
      if ((List.getD aa (Int.toNat i25) 0) : Int) = (List.getD b (Int.toNat i25) 0) then
        ask (in64 (i25 + 1)) <|
        kit_SameInts_l0 N aa b m41 (i25 + 1)
      else
        some (Sum.inr false)
    else
      some (Sum.inl ())
def kit_SameInts (N : Nat) (aa : List Int) (b : List Int) : Option Bool :=
  if ((((List.length aa) : Nat) : Int) : Int) = (((List.length b) : Nat) : Int) then
    Option.bind (kit_SameInts_l0 N aa b N 0) fun x42 =>
    Sum.elim (fun x47 =>
      some true)
     (fun x63 =>
      some x63) x42
  else
    some false
set_option maxRecDepth 100000 in
set_option maxHeartbeats 4000000 in
theorem kit_SameInts_calls {N : Nat} {S Fa : Nat → Prop} {w0 : World} {r : Bool} (A1 : Option Addr) (c2 : Nat) (A5 : Option Addr) (c6 : Nat) (aa : List Int) (b : List Int) (hk3 : List.length aa ≤ c2) (hk7 : List.length b ≤ c6) (H : Hp S Fa w0 w0 [.ro false (cInt .i64) A1 aa, .ro false (cInt .i64) A5 b]) (hP : kit_SameInts N aa b = some r) :
    Calls Try.prog 41 #[.slice A1 (List.length aa) c2, .slice A5 (List.length b) c6] w0 fun e w' => ∃ v, e = .returned v ∧ v = .bool r ∧ Hp S Fa w0 w' [] := by
 refine enterV (n := 26) Try.func41 rfl rfl rfl ?_
 intro a E
 replace E := E.pick [(0, .slice A1 (List.length aa) c2), (1, .slice A5 (List.length b) c6)] ⟨rfl, rfl, trivial⟩
 rw [kit_SameInts] at hP
 refine wp_seq ?_
 refine wp_region_lit ?_
 refine vr tbok 1 [] [(0, .slice A1 (List.length aa) c2), (1, .slice A5 (List.length b) c6)] [] E (by kernel_rfl) trivial ?_
 clear E; intro a E
 refine wpList_nil ?_
 refine th_n ?_
 refine wp_seq ?_
 refine wp_seq ?_
 refine wp_region_lit ?_
 refine vr tbok 5 [] [(0, .slice A1 (List.length aa) c2), (1, .slice A5 (List.length b) c6), (10, .bool (((((List.length aa) : Nat) : Int) : Int) != (((List.length b) : Nat) : Int)))] [] E (by kernel_rfl) trivial ?_
 clear E; intro a E
 refine wpList_nil ?_
 refine th_n ?_
 refine E.cases (t := 10) rfl (fun hb_ E_ => ?_) (fun hb_ E_ => ?_)
 ·
  replace E := E_; clear E_
  have h9 : ¬ (((((List.length aa) : Nat) : Int) : Int) = (((List.length b) : Nat) : Int)) := bne_iff_ne.1 hb_
  clear hb_; replace hP := ite_f h9 hP
  refine c_true E rfl ?_
  refine wp_seq ?_
  refine wp_region_lit ?_
  refine vr tbok 1 [] [(4, .bool false)] [] E (by kernel_rfl) trivial ?_
  clear E; intro a E
  refine wpList_nil ?_
  refine th_n ?_
  refine wp_ret ?_
  refine th_ret ?_
  obtain rfl := Option.some.inj hP
  refine ret1 E rfl rfl ?_
  exact ⟨_, rfl, rfl, H.sel [] rfl⟩
 ·
  replace E := E_; clear E_
  have h10 : ((((List.length aa) : Nat) : Int) : Int) = (((List.length b) : Nat) : Int) := bne_eq_false_iff_eq.1 hb_
  clear hb_; replace hP := ite_t h10 hP
  refine c_false E rfl ?_
  refine wp_skip ?_
  refine th_n ?_
  refine wp_seq ?_
  refine wp_seq ?_
  refine wp_region_lit ?_
  refine vr tbok 1 [] [(0, .slice A1 (List.length aa) c2), (1, .slice A5 (List.length b) c6), (5, .int .i64 0)] [] E (by kernel_rfl) trivial ?_
  clear E; intro a E
  refine wpList_nil ?_
  refine th_n ?_
  refine wp_block ?_
  obtain ⟨x42, hL43, hK44⟩ := bind_inv hP
  clear hP
  refine loop_cut (fun i_ a w_ => (i_ = 0 ∧ ∃ (x47 : Unit), Fr a 26 [] ∧ Hp S Fa w0 w_ [] ∧ x42 = Sum.inl x47)) ?_ ?_
  ·
   refine loopV (fun m46 a w45 => ∃ (i25 : Int), Fr a 26 [(0, .slice A1 (List.length aa) c2), (1, .slice A5 (List.length b) c6), (5, .int .i64 i25)] ∧ Hp S Fa w0 w45 [.ro false (cInt .i64) A1 aa, .ro false (cInt .i64) A5 b] ∧ kit_SameInts_l0 N aa b m46 i25 = some x42) N ?_ ?_
   ·
    exact ⟨0, E.pick _ ⟨rfl, rfl, rfl, trivial⟩, H.sel [0, 1] rfl, hL43⟩
   ·
    clear E H hL43; intro m46 a w45 hI_
    obtain ⟨i25, E, H, hP⟩ := hI_
    obtain ⟨m41, rfl⟩ : ∃ q_, m46 = q_ + 1 := by cases m46 with | zero => rw [kit_SameInts_l0] at hP; cases hP | succ q_ => exact ⟨q_, rfl⟩
    rw [kit_SameInts_l0] at hP
    refine wp_seq ?_
    refine wp_seq ?_
    refine wp_region_lit ?_
    refine vr tbok 4 [] [(0, .slice A1 (List.length aa) c2), (1, .slice A5 (List.length b) c6), (5, .int .i64 i25), (14, .bool (decide (i25 < (((List.length aa) : Nat) : Int))))] [] E (by kernel_rfl) trivial ?_
    clear E; intro a E
    refine wpList_nil ?_
    refine th_n ?_
    refine E.cases (t := 14) rfl (fun hb_ E_ => ?_) (fun hb_ E_ => ?_)
    ·
     replace E := E_; clear E_
     have h48 : i25 < (((List.length aa) : Nat) : Int) := of_decide_eq_true hb_
     clear hb_; replace hP := ite_t h48 hP
     refine c_true E rfl ?_
     refine wp_skip ?_
     refine th_n ?_
     refine wp_seq ?_
     refine wp_block ?_
     refine wp_seq ?_
     obtain ⟨g49, hP⟩ := ask_inv hP
     obtain ⟨b50, o51, e_b50⟩ := (H.rd 0 rds_ro).addr (idx_pos g49)
     subst e_b50
     obtain ⟨g52, hP⟩ := ask_inv hP
     obtain ⟨b53, o54, e_b53⟩ := (H.rd 1 rds_ro).addr (idx_pos g52)
     subst e_b53
     have HR58 := H
     refine dr_start (S := fun w_ => Chg (atL []) w45 w_) (by kernel_rfl) ?_
     intro w55 hc56
     have HS57 : Chg (atL []) w45 w55 := hc56.mono (fun _ _ h_ => h_.elim)
     replace H := H.ext hc56
     refine dr tbok (by kernel_rfl) [0, 1, 2, 3, 4, 5, 6, 7, 8] [.int .i64 (List.getD aa (Int.toNat i25) 0), .int .i64 (List.getD b (Int.toNat i25) 0)] [(0, .slice (some ⟨b50, o51, none⟩) (List.length aa) c2), (1, .slice (some ⟨b53, o54, none⟩) (List.length b) c6), (5, .int .i64 i25), (25, .bool (((List.getD aa (Int.toNat i25) 0) : Int) != (List.getD b (Int.toNat i25) 0)))] (fun w_ => [0 ≤ i25 ∧ i25 < (((List.length aa) : Nat) : Int), World.cell? w_ ⟨b50, o51 + (Int.toNat i25) * 1, none⟩ = some (.int .i64 (List.getD aa (Int.toNat i25) 0)), 0 ≤ i25 ∧ i25 < (((List.length b) : Nat) : Int), World.cell? w_ ⟨b53, o54 + (Int.toNat i25) * 1, none⟩ = some (.int .i64 (List.getD b (Int.toNat i25) 0))]) 0 E (fun _ _ => by kernel_rfl) (fun w_ hS_ => ⟨g49, Rds.at1 (HR58.rdk [] hS_ 0 rds_ro rfl) 0 g49, g52, Rds.at1 (HR58.rdk [] hS_ 1 rds_ro rfl) 0 g52⟩) (by kernel_rfl) HS57 ?_
     clear E; intro a E
     refine dr_done (by kernel_rfl) ?_
     clear HS57 HR58
     refine th_n ?_
     refine E.cases (t := 25) rfl (fun hb_ E_ => ?_) (fun hb_ E_ => ?_)
     ·
      replace E := E_; clear E_
      have h59 : ¬ (((List.getD aa (Int.toNat i25) 0) : Int) = (List.getD b (Int.toNat i25) 0)) := bne_iff_ne.1 hb_
      clear hb_; replace hP := ite_f h59 hP
      refine c_true E rfl ?_
      refine wp_seq ?_
      refine wp_region_lit ?_
      refine vr tbok 1 [] [(4, .bool false)] [] E (by kernel_rfl) trivial ?_
      clear E; intro a E
      refine wpList_nil ?_
      refine th_n ?_
      refine wp_ret ?_
      refine bl_ret ?_
      refine th_ret ?_
      refine th_ret ?_
      refine .inr ⟨rfl, ?_⟩
      refine bl_ret ?_
      refine th_ret ?_
      have hx_ := Option.some.inj hP; subst hx_
      have hP : some (false) = some r := hK44
      obtain rfl := Option.some.inj hP
      refine ret1 E rfl rfl ?_
      exact ⟨_, rfl, rfl, H.sel [] rfl⟩
     ·
      replace E := E_; clear E_
      have h60 : ((List.getD aa (Int.toNat i25) 0) : Int) = (List.getD b (Int.toNat i25) 0) := bne_eq_false_iff_eq.1 hb_
      clear hb_; replace hP := ite_t h60 hP
      refine c_false E rfl ?_
      refine wp_skip ?_
      refine bl_n ?_
      refine th_n ?_
      refine wp_region_lit ?_
      obtain ⟨g61, hP⟩ := ask_inv hP
      refine vr tbok 3 [.int .i64 (i25 + 1)] [(0, .slice (some ⟨b50, o51, none⟩) (List.length aa) c2), (1, .slice (some ⟨b53, o54, none⟩) (List.length b) c6), (5, .int .i64 (i25 + 1))] [IntKind.i64.wrap (i25 + 1) = i25 + 1] E (by kernel_rfl) (wrap_in g61) ?_
      clear E; intro a E
      refine wpList_nil ?_
      exact th_n ⟨m41, Nat.lt_succ_self _, i25 + 1, E.pick _ ⟨rfl, rfl, rfl, trivial⟩, H.sel [0, 1] rfl, hP⟩
    ·
     replace E := E_; clear E_
     have h62 : ¬ (i25 < (((List.length aa) : Nat) : Int)) := of_decide_eq_false hb_
     clear hb_; replace hP := ite_f h62 hP
     refine c_false E rfl ?_
     refine wp_exit ?_
     refine th_exit ?_
     have hx_ := Option.some.inj hP
     refine th_exit (.inl ⟨0, rfl, ?_⟩)
     exact ⟨rfl, (), E.pick _ trivial, H.sel [] rfl, hx_.symm⟩
  ·
   clear E H hL43; intro i_ a w45 hM_
   obtain ⟨rfl, x47, E, H, hx_⟩ := hM_
   subst hx_; have hP := elim_l hK44
   clear hK44
   refine bl_hit ?_
   refine th_n ?_
   refine wp_seq ?_
   refine wp_region_lit ?_
   refine vr tbok 1 [] [(4, .bool true)] [] E (by kernel_rfl) trivial ?_
   clear E; intro a E
   refine wpList_nil ?_
   refine th_n ?_
   refine wp_ret ?_
   obtain rfl := Option.some.inj hP
   refine ret1 E rfl rfl ?_
   exact ⟨_, rfl, rfl, H.sel [] rfl⟩

/-! rejoinder/rejoinderlaw22.rows -/
def law22_rows_l0 (N : Nat) (aa : List (List Int)) (b : List (List Int)) : Nat → Int → Option (Unit ⊕ Bool)
  | 0, _ => none
  | m93 + 1, i51 =>
    if i51 < (((List.length aa) : Nat) : Int) then
      ask (idx i51 (List.length aa)) <|
      ask (idx i51 (List.length b)) <|
      Option.bind (kit_SameInts N (List.getD aa (Int.toNat i51) []) (List.getD b (Int.toNat i51) [])) fun r117 =>
      if r117 = true then
        ask (in64 (i51 + 1)) <|
        law22_rows_l0 N aa b m93 (i51 + 1)
      else
        some (Sum.inr false)
    else
      some (Sum.inl ())
def law22_rows (N : Nat) (aa : List (List Int)) (b : List (List Int)) : Option Bool :=
  if ((((List.length aa) : Nat) : Int) : Int) = (((List.length b) : Nat) : Int) then
    Option.bind (law22_rows_l0 N aa b N 0) fun x94 =>
    Sum.elim (fun x99 =>
      some true)
     (fun x141 =>
      some x141) x94
  else
    some false
set_option maxRecDepth 100000 in
set_option maxHeartbeats 4000000 in
theorem law22_rows_calls {N : Nat} {S Fa : Nat → Prop} {w0 : World} {r : Bool} (A1 : Option Addr) (c2 : Nat) (A5 : Option Addr) (c6 : Nat) (aa : List (List Int)) (b : List (List Int)) (hk3 : List.length aa ≤ c2) (hk7 : List.length b ≤ c6) (H : Hp S Fa w0 w0 [.ro false (cSl (cInt .i64)) A1 aa, .ro false (cSl (cInt .i64)) A5 b]) (hP : law22_rows N aa b = some r) :
    Calls Try.prog 24 #[.slice A1 (List.length aa) c2, .slice A5 (List.length b) c6] w0 fun e w' => ∃ v, e = .returned v ∧ v = .bool r ∧ Hp S Fa w0 w' [] := by
 refine enterV (n := 27) Try.func24 rfl rfl rfl ?_
 intro a E
 replace E := E.pick [(0, .slice A1 (List.length aa) c2), (1, .slice A5 (List.length b) c6)] ⟨rfl, rfl, trivial⟩
 rw [law22_rows] at hP
 refine wp_seq ?_
 refine wp_region_lit ?_
 refine vr tbok 1 [] [(0, .slice A1 (List.length aa) c2), (1, .slice A5 (List.length b) c6)] [] E (by kernel_rfl) trivial ?_
 clear E; intro a E
 refine wpList_nil ?_
 refine th_n ?_
 refine wp_seq ?_
 refine wp_seq ?_
 refine wp_region_lit ?_
 refine vr tbok 5 [] [(0, .slice A1 (List.length aa) c2), (1, .slice A5 (List.length b) c6), (10, .bool (((((List.length aa) : Nat) : Int) : Int) != (((List.length b) : Nat) : Int)))] [] E (by kernel_rfl) trivial ?_
 clear E; intro a E
 refine wpList_nil ?_
 refine th_n ?_
 refine E.cases (t := 10) rfl (fun hb_ E_ => ?_) (fun hb_ E_ => ?_)
 ·
  replace E := E_; clear E_
  have h9 : ¬ (((((List.length aa) : Nat) : Int) : Int) = (((List.length b) : Nat) : Int)) := bne_iff_ne.1 hb_
  clear hb_; replace hP := ite_f h9 hP
  refine c_true E rfl ?_
  refine wp_seq ?_
  refine wp_region_lit ?_
  refine vr tbok 1 [] [(4, .bool false)] [] E (by kernel_rfl) trivial ?_
  clear E; intro a E
  refine wpList_nil ?_
  refine th_n ?_
  refine wp_ret ?_
  refine th_ret ?_
  obtain rfl := Option.some.inj hP
  refine ret1 E rfl rfl ?_
  exact ⟨_, rfl, rfl, H.sel [] rfl⟩
 ·
  replace E := E_; clear E_
  have h10 : ((((List.length aa) : Nat) : Int) : Int) = (((List.length b) : Nat) : Int) := bne_eq_false_iff_eq.1 hb_
  clear hb_; replace hP := ite_t h10 hP
  refine c_false E rfl ?_
  refine wp_skip ?_
  refine th_n ?_
  refine wp_seq ?_
  refine wp_seq ?_
  refine wp_region_lit ?_
  refine vr tbok 1 [] [(0, .slice A1 (List.length aa) c2), (1, .slice A5 (List.length b) c6), (5, .int .i64 0)] [] E (by kernel_rfl) trivial ?_
  clear E; intro a E
  refine wpList_nil ?_
  refine th_n ?_
  refine wp_block ?_
  obtain ⟨x94, hL95, hK96⟩ := bind_inv hP
  clear hP
  refine loop_cut (fun i_ a w_ => (i_ = 0 ∧ ∃ (x99 : Unit), Fr a 27 [] ∧ Hp S Fa w0 w_ [] ∧ x94 = Sum.inl x99)) ?_ ?_
  ·
   refine loopV (fun m98 a w97 => ∃ (i51 : Int), Fr a 27 [(0, .slice A1 (List.length aa) c2), (1, .slice A5 (List.length b) c6), (5, .int .i64 i51)] ∧ Hp S Fa w0 w97 [.ro false (cSl (cInt .i64)) A1 aa, .ro false (cSl (cInt .i64)) A5 b] ∧ law22_rows_l0 N aa b m98 i51 = some x94) N ?_ ?_
   ·
    exact ⟨0, E.pick _ ⟨rfl, rfl, rfl, trivial⟩, H.sel [0, 1] rfl, hL95⟩
   ·
    clear E H hL95; intro m98 a w97 hI_
    obtain ⟨i51, E, H, hP⟩ := hI_
    obtain ⟨m93, rfl⟩ : ∃ q_, m98 = q_ + 1 := by cases m98 with | zero => rw [law22_rows_l0] at hP; cases hP | succ q_ => exact ⟨q_, rfl⟩
    rw [law22_rows_l0] at hP
    refine wp_seq ?_
    refine wp_seq ?_
    refine wp_region_lit ?_
    refine vr tbok 4 [] [(0, .slice A1 (List.length aa) c2), (1, .slice A5 (List.length b) c6), (5, .int .i64 i51), (14, .bool (decide (i51 < (((List.length aa) : Nat) : Int))))] [] E (by kernel_rfl) trivial ?_
    clear E; intro a E
    refine wpList_nil ?_
    refine th_n ?_
    refine E.cases (t := 14) rfl (fun hb_ E_ => ?_) (fun hb_ E_ => ?_)
    ·
     replace E := E_; clear E_
     have h100 : i51 < (((List.length aa) : Nat) : Int) := of_decide_eq_true hb_
     clear hb_; replace hP := ite_t h100 hP
     refine c_true E rfl ?_
     refine wp_skip ?_
     refine th_n ?_
     refine wp_seq ?_
     refine wp_block ?_
     refine wp_seq ?_
     obtain ⟨g101, hP⟩ := ask_inv hP
     obtain ⟨b102, o103, e_b102⟩ := (H.rd 0 rds_ro).addr (idx_pos g101)
     subst e_b102
     obtain ⟨A104, c105, hl106, hk107, H⟩ := H.subSl 0 false (el_ro rfl) g101
     try dsimp only [addE] at H
     obtain ⟨g109, hP⟩ := ask_inv hP
     obtain ⟨b110, o111, e_b110⟩ := (H.rd 1 rds_ro).addr (idx_pos g109)
     subst e_b110
     obtain ⟨A112, c113, hl114, hk115, H⟩ := H.subSl 1 false (el_ro rfl) g109
     try dsimp only [addE] at H
     obtain ⟨r117, h118, hP⟩ := bind_inv hP
     have HR129 := H
     refine dr_start (S := fun w_ => Chg (atL []) w97 w_) (by kernel_rfl) ?_
     intro w126 hc127
     have HS128 : Chg (atL []) w97 w126 := hc127.mono (fun _ _ h_ => h_.elim)
     replace H := H.ext hc127
     refine dr tbok (by kernel_rfl) [0, 1, 2, 3, 4, 5, 6, 7] [.slice A104 (List.length (List.getD aa (Int.toNat i51) [])) c105, .slice A112 (List.length (List.getD b (Int.toNat i51) [])) c113] [(0, .slice (some ⟨b102, o103, none⟩) (List.length aa) c2), (1, .slice (some ⟨b110, o111, none⟩) (List.length b) c6), (5, .int .i64 i51), (20, .slice A104 (List.length (List.getD aa (Int.toNat i51) [])) c105), (24, .slice A112 (List.length (List.getD b (Int.toNat i51) [])) c113)] (fun w_ => [0 ≤ i51 ∧ i51 < (((List.length aa) : Nat) : Int), World.cell? w_ ⟨b102, o103 + (Int.toNat i51) * 1, none⟩ = some (.slice A104 (List.length (List.getD aa (Int.toNat i51) [])) c105), 0 ≤ i51 ∧ i51 < (((List.length b) : Nat) : Int), World.cell? w_ ⟨b110, o111 + (Int.toNat i51) * 1, none⟩ = some (.slice A112 (List.length (List.getD b (Int.toNat i51) [])) c113)]) 2 E (fun _ _ => by kernel_rfl) (fun w_ hS_ => ⟨g101, hS_.cell (hl106) (HR129.blk [] 0 rds_ro (idx_pos g101) rfl), g109, hS_.cell (hl114) (HR129.blk [] 1 rds_ro (idx_pos g109) rfl)⟩) (by kernel_rfl) HS128 ?_
     clear E; intro a E
     refine wpAnyH_all (rs := [8]) (by kernel_rfl) (by simp) ?_
     refine all1 ?_
     ·
      refine wpOp_of_list rfl ?_
      obtain ⟨Fa130, Hc131, hb132⟩ := H.call [] [(2, false), (3, false)] rfl rfl trivial
      refine e_call E rfl rfl Try.func41 rfl rfl rfl (kit_SameInts_calls A104 c105 A112 c113 (List.getD aa (Int.toNat i51) []) (List.getD b (Int.toNat i51) []) hk107 hk115 Hc131 h118) ?_
      rintro v133 w134 a ⟨rfl, HR135⟩ E_
      replace E := E_ _ rfl; clear E_
      obtain ⟨H_, hc136⟩ := hb132 _ _ HR135 rfl
      replace HS128 := HS128.ext (callS_ext hc136)
      replace H := H_; clear H_; try dsimp only [setn, addE, goneL] at H
      refine wpList_nil ?_
      refine th_n ⟨HS128, ?_⟩
      refine dr tbok (by kernel_rfl) [9] [] [(0, .slice (some ⟨b102, o103, none⟩) (List.length aa) c2), (1, .slice (some ⟨b110, o111, none⟩) (List.length b) c6), (5, .int .i64 i51), (26, .bool (!r117))] (fun w_ => []) 0 E (fun _ _ => by kernel_rfl) (fun w_ hS_ => trivial) (by kernel_rfl) HS128 ?_
      clear E; intro a E
      refine dr_done (by kernel_rfl) ?_
      clear HS128 HR129
      refine th_n ?_
      refine E.cases (t := 26) rfl (fun hb_ E_ => ?_) (fun hb_ E_ => ?_)
      ·
       replace E := E_; clear E_
       have h137 : ¬ (r117 = true) := (ne_true_of_eq_false (not_t hb_))
       clear hb_; replace hP := ite_f h137 hP
       refine c_true E rfl ?_
       refine wp_seq ?_
       refine wp_region_lit ?_
       refine vr tbok 1 [] [(4, .bool false)] [] E (by kernel_rfl) trivial ?_
       clear E; intro a E
       refine wpList_nil ?_
       refine th_n ?_
       refine wp_ret ?_
       refine bl_ret ?_
       refine th_ret ?_
       refine th_ret ?_
       refine .inr ⟨rfl, ?_⟩
       refine bl_ret ?_
       refine th_ret ?_
       have hx_ := Option.some.inj hP; subst hx_
       have hP : some (false) = some r := hK96
       obtain rfl := Option.some.inj hP
       refine ret1 E rfl rfl ?_
       exact ⟨_, rfl, rfl, H.sel [] rfl⟩
      ·
       replace E := E_; clear E_
       have h138 : r117 = true := (not_f hb_)
       clear hb_; replace hP := ite_t h138 hP
       refine c_false E rfl ?_
       refine wp_skip ?_
       refine bl_n ?_
       refine th_n ?_
       refine wp_region_lit ?_
       obtain ⟨g139, hP⟩ := ask_inv hP
       refine vr tbok 3 [.int .i64 (i51 + 1)] [(0, .slice (some ⟨b102, o103, none⟩) (List.length aa) c2), (1, .slice (some ⟨b110, o111, none⟩) (List.length b) c6), (5, .int .i64 (i51 + 1))] [IntKind.i64.wrap (i51 + 1) = i51 + 1] E (by kernel_rfl) (wrap_in g139) ?_
       clear E; intro a E
       refine wpList_nil ?_
       exact th_n ⟨m93, Nat.lt_succ_self _, i51 + 1, E.pick _ ⟨rfl, rfl, rfl, trivial⟩, H.sel [0, 1] rfl, hP⟩
    ·
     replace E := E_; clear E_
     have h140 : ¬ (i51 < (((List.length aa) : Nat) : Int)) := of_decide_eq_false hb_
     clear hb_; replace hP := ite_f h140 hP
     refine c_false E rfl ?_
     refine wp_exit ?_
     refine th_exit ?_
     have hx_ := Option.some.inj hP
     refine th_exit (.inl ⟨0, rfl, ?_⟩)
     exact ⟨rfl, (), E.pick _ trivial, H.sel [] rfl, hx_.symm⟩
  ·
   clear E H hL95; intro i_ a w97 hM_
   obtain ⟨rfl, x99, E, H, hx_⟩ := hM_
   subst hx_; have hP := elim_l hK96
   clear hK96
   refine bl_hit ?_
   refine th_n ?_
   refine wp_seq ?_
   refine wp_region_lit ?_
   refine vr tbok 1 [] [(4, .bool true)] [] E (by kernel_rfl) trivial ?_
   clear E; intro a E
   refine wpList_nil ?_
   refine th_n ?_
   refine wp_ret ?_
   obtain rfl := Option.some.inj hP
   refine ret1 E rfl rfl ?_
   exact ⟨_, rfl, rfl, H.sel [] rfl⟩

/-! rejoinder/rejoinderkit.SameLetters -/
def kit_SameLetters_l0 (N : Nat) (aa : List Int) (b : List Int) : Nat → Int → Option (Unit ⊕ Bool)
  | 0, _ => none
  | m41 + 1, i25 =>
    if i25 < (((List.length aa) : Nat) : Int) then
      ask (idx i25 (List.length aa)) <|
      ask (idx i25 (List.length b)) <|
      if ((List.getD aa (Int.toNat i25) 0) : Int) = (List.getD b (Int.toNat i25) 0) then
        ask (in64 (i25 + 1)) <|
        kit_SameLetters_l0 N aa b m41 (i25 + 1)
      else
        some (Sum.inr false)
    else
      some (Sum.inl ())
def kit_SameLetters (N : Nat) (aa : List Int) (b : List Int) : Option Bool :=
  if ((((List.length aa) : Nat) : Int) : Int) = (((List.length b) : Nat) : Int) then
    Option.bind (kit_SameLetters_l0 N aa b N 0) fun x42 =>
    Sum.elim (fun x47 =>
      some true)
     (fun x63 =>
      some x63) x42
  else
    some false
set_option maxRecDepth 100000 in
set_option maxHeartbeats 4000000 in
theorem kit_SameLetters_calls {N : Nat} {S Fa : Nat → Prop} {w0 : World} {r : Bool} (A1 : Option Addr) (c2 : Nat) (A5 : Option Addr) (c6 : Nat) (aa : List Int) (b : List Int) (hk3 : List.length aa ≤ c2) (hk7 : List.length b ≤ c6) (H : Hp S Fa w0 w0 [.ro false (cInt .u8) A1 aa, .ro false (cInt .u8) A5 b]) (hP : kit_SameLetters N aa b = some r) :
    Calls Try.prog 25 #[.slice A1 (List.length aa) c2, .slice A5 (List.length b) c6] w0 fun e w' => ∃ v, e = .returned v ∧ v = .bool r ∧ Hp S Fa w0 w' [] := by
 refine enterV (n := 26) Try.func25 rfl rfl rfl ?_
 intro a E
 replace E := E.pick [(0, .slice A1 (List.length aa) c2), (1, .slice A5 (List.length b) c6)] ⟨rfl, rfl, trivial⟩
 rw [kit_SameLetters] at hP
 refine wp_seq ?_
 refine wp_region_lit ?_
 refine vr tbok 1 [] [(0, .slice A1 (List.length aa) c2), (1, .slice A5 (List.length b) c6)] [] E (by kernel_rfl) trivial ?_
 clear E; intro a E
 refine wpList_nil ?_
 refine th_n ?_
 refine wp_seq ?_
 refine wp_seq ?_
 refine wp_region_lit ?_
 refine vr tbok 5 [] [(0, .slice A1 (List.length aa) c2), (1, .slice A5 (List.length b) c6), (10, .bool (((((List.length aa) : Nat) : Int) : Int) != (((List.length b) : Nat) : Int)))] [] E (by kernel_rfl) trivial ?_
 clear E; intro a E
 refine wpList_nil ?_
 refine th_n ?_
 refine E.cases (t := 10) rfl (fun hb_ E_ => ?_) (fun hb_ E_ => ?_)
 ·
  replace E := E_; clear E_
  have h9 : ¬ (((((List.length aa) : Nat) : Int) : Int) = (((List.length b) : Nat) : Int)) := bne_iff_ne.1 hb_
  clear hb_; replace hP := ite_f h9 hP
  refine c_true E rfl ?_
  refine wp_seq ?_
  refine wp_region_lit ?_
  refine vr tbok 1 [] [(4, .bool false)] [] E (by kernel_rfl) trivial ?_
  clear E; intro a E
  refine wpList_nil ?_
  refine th_n ?_
  refine wp_ret ?_
  refine th_ret ?_
  obtain rfl := Option.some.inj hP
  refine ret1 E rfl rfl ?_
  exact ⟨_, rfl, rfl, H.sel [] rfl⟩
 ·
  replace E := E_; clear E_
  have h10 : ((((List.length aa) : Nat) : Int) : Int) = (((List.length b) : Nat) : Int) := bne_eq_false_iff_eq.1 hb_
  clear hb_; replace hP := ite_t h10 hP
  refine c_false E rfl ?_
  refine wp_skip ?_
  refine th_n ?_
  refine wp_seq ?_
  refine wp_seq ?_
  refine wp_region_lit ?_
  refine vr tbok 1 [] [(0, .slice A1 (List.length aa) c2), (1, .slice A5 (List.length b) c6), (5, .int .i64 0)] [] E (by kernel_rfl) trivial ?_
  clear E; intro a E
  refine wpList_nil ?_
  refine th_n ?_
  refine wp_block ?_
  obtain ⟨x42, hL43, hK44⟩ := bind_inv hP
  clear hP
  refine loop_cut (fun i_ a w_ => (i_ = 0 ∧ ∃ (x47 : Unit), Fr a 26 [] ∧ Hp S Fa w0 w_ [] ∧ x42 = Sum.inl x47)) ?_ ?_
  ·
   refine loopV (fun m46 a w45 => ∃ (i25 : Int), Fr a 26 [(0, .slice A1 (List.length aa) c2), (1, .slice A5 (List.length b) c6), (5, .int .i64 i25)] ∧ Hp S Fa w0 w45 [.ro false (cInt .u8) A1 aa, .ro false (cInt .u8) A5 b] ∧ kit_SameLetters_l0 N aa b m46 i25 = some x42) N ?_ ?_
   ·
    exact ⟨0, E.pick _ ⟨rfl, rfl, rfl, trivial⟩, H.sel [0, 1] rfl, hL43⟩
   ·
    clear E H hL43; intro m46 a w45 hI_
    obtain ⟨i25, E, H, hP⟩ := hI_
    obtain ⟨m41, rfl⟩ : ∃ q_, m46 = q_ + 1 := by cases m46 with | zero => rw [kit_SameLetters_l0] at hP; cases hP | succ q_ => exact ⟨q_, rfl⟩
    rw [kit_SameLetters_l0] at hP
    refine wp_seq ?_
    refine wp_seq ?_
    refine wp_region_lit ?_
    refine vr tbok 4 [] [(0, .slice A1 (List.length aa) c2), (1, .slice A5 (List.length b) c6), (5, .int .i64 i25), (14, .bool (decide (i25 < (((List.length aa) : Nat) : Int))))] [] E (by kernel_rfl) trivial ?_
    clear E; intro a E
    refine wpList_nil ?_
    refine th_n ?_
    refine E.cases (t := 14) rfl (fun hb_ E_ => ?_) (fun hb_ E_ => ?_)
    ·
     replace E := E_; clear E_
     have h48 : i25 < (((List.length aa) : Nat) : Int) := of_decide_eq_true hb_
     clear hb_; replace hP := ite_t h48 hP
     refine c_true E rfl ?_
     refine wp_skip ?_
     refine th_n ?_
     refine wp_seq ?_
     refine wp_block ?_
     refine wp_seq ?_
     obtain ⟨g49, hP⟩ := ask_inv hP
     obtain ⟨b50, o51, e_b50⟩ := (H.rd 0 rds_ro).addr (idx_pos g49)
     subst e_b50
     obtain ⟨g52, hP⟩ := ask_inv hP
     obtain ⟨b53, o54, e_b53⟩ := (H.rd 1 rds_ro).addr (idx_pos g52)
     subst e_b53
     have HR58 := H
     refine dr_start (S := fun w_ => Chg (atL []) w45 w_) (by kernel_rfl) ?_
     intro w55 hc56
     have HS57 : Chg (atL []) w45 w55 := hc56.mono (fun _ _ h_ => h_.elim)
     replace H := H.ext hc56
     refine dr tbok (by kernel_rfl) [0, 1, 2, 3, 4, 5, 6, 7, 8] [.int .u8 (List.getD aa (Int.toNat i25) 0), .int .u8 (List.getD b (Int.toNat i25) 0)] [(0, .slice (some ⟨b50, o51, none⟩) (List.length aa) c2), (1, .slice (some ⟨b53, o54, none⟩) (List.length b) c6), (5, .int .i64 i25), (25, .bool (((List.getD aa (Int.toNat i25) 0) : Int) != (List.getD b (Int.toNat i25) 0)))] (fun w_ => [0 ≤ i25 ∧ i25 < (((List.length aa) : Nat) : Int), World.cell? w_ ⟨b50, o51 + (Int.toNat i25) * 1, none⟩ = some (.int .u8 (List.getD aa (Int.toNat i25) 0)), 0 ≤ i25 ∧ i25 < (((List.length b) : Nat) : Int), World.cell? w_ ⟨b53, o54 + (Int.toNat i25) * 1, none⟩ = some (.int .u8 (List.getD b (Int.toNat i25) 0))]) 0 E (fun _ _ => by kernel_rfl) (fun w_ hS_ => ⟨g49, Rds.at1 (HR58.rdk [] hS_ 0 rds_ro rfl) 0 g49, g52, Rds.at1 (HR58.rdk [] hS_ 1 rds_ro rfl) 0 g52⟩) (by kernel_rfl) HS57 ?_
     clear E; intro a E
     refine dr_done (by kernel_rfl) ?_
     clear HS57 HR58
     refine th_n ?_
     refine E.cases (t := 25) rfl (fun hb_ E_ => ?_) (fun hb_ E_ => ?_)
     ·
      replace E := E_; clear E_
      have h59 : ¬ (((List.getD aa (Int.toNat i25) 0) : Int) = (List.getD b (Int.toNat i25) 0)) := bne_iff_ne.1 hb_
      clear hb_; replace hP := ite_f h59 hP
      refine c_true E rfl ?_
      refine wp_seq ?_
      refine wp_region_lit ?_
      refine vr tbok 1 [] [(4, .bool false)] [] E (by kernel_rfl) trivial ?_
      clear E; intro a E
      refine wpList_nil ?_
      refine th_n ?_
      refine wp_ret ?_
      refine bl_ret ?_
      refine th_ret ?_
      refine th_ret ?_
      refine .inr ⟨rfl, ?_⟩
      refine bl_ret ?_
      refine th_ret ?_
      have hx_ := Option.some.inj hP; subst hx_
      have hP : some (false) = some r := hK44
      obtain rfl := Option.some.inj hP
      refine ret1 E rfl rfl ?_
      exact ⟨_, rfl, rfl, H.sel [] rfl⟩
     ·
      replace E := E_; clear E_
      have h60 : ((List.getD aa (Int.toNat i25) 0) : Int) = (List.getD b (Int.toNat i25) 0) := bne_eq_false_iff_eq.1 hb_
      clear hb_; replace hP := ite_t h60 hP
      refine c_false E rfl ?_
      refine wp_skip ?_
      refine bl_n ?_
      refine th_n ?_
      refine wp_region_lit ?_
      obtain ⟨g61, hP⟩ := ask_inv hP
      refine vr tbok 3 [.int .i64 (i25 + 1)] [(0, .slice (some ⟨b50, o51, none⟩) (List.length aa) c2), (1, .slice (some ⟨b53, o54, none⟩) (List.length b) c6), (5, .int .i64 (i25 + 1))] [IntKind.i64.wrap (i25 + 1) = i25 + 1] E (by kernel_rfl) (wrap_in g61) ?_
      clear E; intro a E
      refine wpList_nil ?_
      exact th_n ⟨m41, Nat.lt_succ_self _, i25 + 1, E.pick _ ⟨rfl, rfl, rfl, trivial⟩, H.sel [0, 1] rfl, hP⟩
    ·
     replace E := E_; clear E_
     have h62 : ¬ (i25 < (((List.length aa) : Nat) : Int)) := of_decide_eq_false hb_
     clear hb_; replace hP := ite_f h62 hP
     refine c_false E rfl ?_
     refine wp_exit ?_
     refine th_exit ?_
     have hx_ := Option.some.inj hP
     refine th_exit (.inl ⟨0, rfl, ?_⟩)
     exact ⟨rfl, (), E.pick _ trivial, H.sel [] rfl, hx_.symm⟩
  ·
   clear E H hL43; intro i_ a w45 hM_
   obtain ⟨rfl, x47, E, H, hx_⟩ := hM_
   subst hx_; have hP := elim_l hK44
   clear hK44
   refine bl_hit ?_
   refine th_n ?_
   refine wp_seq ?_
   refine wp_region_lit ?_
   refine vr tbok 1 [] [(4, .bool true)] [] E (by kernel_rfl) trivial ?_
   clear E; intro a E
   refine wpList_nil ?_
   refine th_n ?_
   refine wp_ret ?_
   obtain rfl := Option.some.inj hP
   refine ret1 E rfl rfl ?_
   exact ⟨_, rfl, rfl, H.sel [] rfl⟩

/-! rejoinder/rejoinderlaw22.awake -/
def law22_awake (N : Nat) : Option Bool :=
  Option.bind (law22_First N) fun r1 =>
  Option.bind (board_Goes N r1.1 r1.2.1 r1.2.2.1 r1.2.2.2 (1, 2) 0) fun r19 =>
  if (r19.2 : Int) = 0 then
    Option.bind (law22_rows N r19.1 ([[1, 1], [2, 2]] : List (List Int))) fun r49 =>
    if r49 = true then
      Option.bind (board_Moves N 5) fun r59 =>
      Option.bind (kit_SameLetters N r59 ([0, 1, 4, 5] : List Int)) fun r76 =>
      some r76
    else
      some false
  else
    some false
set_option maxRecDepth 100000 in
set_option maxHeartbeats 4000000 in
theorem law22_awake_calls {N : Nat} {S Fa : Nat → Prop} {w0 : World} {r : Bool} (H : Hp S Fa w0 w0 []) (hP : law22_awake N  = some r) :
    Calls Try.prog 7 #[] w0 fun e w' => ∃ v, e = .returned v ∧ v = .bool r ∧ Hp S Fa w0 w' [] := by
 refine enterV (n := 23) Try.func7 rfl rfl rfl ?_
 intro a E
 replace E := E.pick [] trivial
 rw [law22_awake] at hP
 refine wp_seq ?_
 refine wp_region_lit ?_
 refine vr tbok 1 [] [] [] E (by kernel_rfl) trivial ?_
 clear E; intro a E
 refine wpList_nil ?_
 refine th_n ?_
 refine wp_seq ?_
 refine wp_region_lit ?_
 obtain ⟨r1, h2, hP⟩ := bind_inv hP
 obtain ⟨Fa3, Hc4, hb5⟩ := H.call [] [] rfl rfl trivial
 refine e_call E rfl rfl Try.func31 rfl rfl rfl (law22_First_calls    Hc4 h2) ?_
 rintro v6 w7 a ⟨A10, c11, A13, c14, A16, c17, rfl, HR8⟩ E_
 replace E := E_ _ rfl; clear E_
 obtain ⟨H_, hc9⟩ := hb5 _ _ HR8 rfl
 replace H := H_; clear H_; try dsimp only [setn, addE, goneL] at H
 refine e_build (ps := [(0, .int .u8 1), (1, .int .u8 2)]) (v := .agg #[.int .u8 1, .int .u8 2]) E rfl rfl tbok rfl (by kernel_rfl) rfl ?_
 clear E; intro a E
 obtain ⟨r19, h20, hP⟩ := bind_inv hP
 obtain ⟨Fa21, Hc22, hb23⟩ := H.call [] [(0, false), (1, false), (2, false)] rfl rfl trivial
 refine e_call E rfl rfl Try.func12 rfl rfl rfl (board_Goes_calls A10 c11 A13 c14 A16 c17 r1.1 r1.2.1 r1.2.2.1 r1.2.2.2 (1, 2) 0 (H.rcap 0 rfl) (H.rcap 1 rfl) (H.rcap 2 rfl) Hc22 h20) ?_
 rintro v24 w25 a ⟨A28, c29, rfl, HR26⟩ E_
 replace E := E_ _ rfl; clear E_
 obtain ⟨H_, hc27⟩ := hb23 _ _ HR26 rfl
 replace H := H_; clear H_; try dsimp only [setn, addE, goneL] at H
 refine vr tbok 5 [] [(1, .slice A28 (List.length r19.1) c29), (2, .int .i64 r19.2)] [] E (by kernel_rfl) trivial ?_
 clear E; intro a E
 refine wpList_nil ?_
 refine th_n ?_
 refine wp_seq ?_
 refine wp_region_lit ?_
 refine vr tbok 3 [] [(1, .slice A28 (List.length r19.1) c29), (11, .bool ((r19.2 : Int) == 0))] [] E (by kernel_rfl) trivial ?_
 clear E; intro a E
 refine E.cases (t := 11) rfl (fun hb_ E_ => ?_) (fun hb_ E_ => ?_)
 ·
  replace E := E_; clear E_
  have h31 : (r19.2 : Int) = 0 := eq_of_beq hb_
  clear hb_; replace hP := ite_t h31 hP
  refine vr tbok 1 [] [(11, .bool true), (12, .slice A28 (List.length r19.1) c29)] [] E (by kernel_rfl) trivial ?_
  clear E; intro a E
  refine h_buildSlice (ps := [(0, .int .i64 1), (1, .int .i64 1)]) (cs := [.int .i64 1, .int .i64 1]) H E rfl rfl tbok rfl rfl (by kernel_rfl) ?_
  intro w33 g32 a hc34 hg36 H_ E_
  replace E := E_ _ rfl; clear E_
  replace H := H_; clear H_; try dsimp only [setn, addE, goneL] at H
  refine h_buildSlice (ps := [(0, .int .i64 2), (1, .int .i64 2)]) (cs := [.int .i64 2, .int .i64 2]) H E rfl rfl tbok rfl rfl (by kernel_rfl) ?_
  intro w38 g37 a hc39 hg41 H_ E_
  replace E := E_ _ rfl; clear E_
  replace H := H_; clear H_; try dsimp only [setn, addE, goneL] at H
  refine h_buildSlice (ps := [(0, .slice (some ⟨g32, 0, none⟩) 2 2), (1, .slice (some ⟨g37, 0, none⟩) 2 2)]) (cs := [.slice (some ⟨g32, 0, none⟩) 2 2, .slice (some ⟨g37, 0, none⟩) 2 2]) H E rfl rfl tbok rfl rfl (by kernel_rfl) ?_
  intro w43 g42 a hc44 hg46 H_ E_
  replace E := E_ _ rfl; clear E_
  replace H := H_; clear H_; try dsimp only [setn, addE, goneL] at H
  replace H := H.boxRow (cInt .i64) true ([1, 1] : List Int) 4 rfl (fun _ _ => ⟨_, _, rfl, rfl, ⟨_, _, rfl, rfl, rfl⟩⟩) (Nat.le_of_ble_eq_true rfl); try dsimp only [setn, addE, goneL] at H
  replace H := H.rowx 4 rfl; try dsimp only [setn, addE, goneL] at H
  have hk47 := H.rcap 4 rfl
  replace H := H.frz 4 rfl; try dsimp only [setn, addE, goneL] at H
  replace H := H.boxRow (cInt .i64) true ([2, 2] : List Int) 5 rfl (fun _ _ => ⟨_, _, rfl, rfl, ⟨_, _, rfl, rfl, rfl⟩⟩) (Nat.le_of_ble_eq_true rfl); try dsimp only [setn, addE, goneL] at H
  replace H := H.rowx 5 rfl; try dsimp only [setn, addE, goneL] at H
  have hk48 := H.rcap 5 rfl
  replace H := H.frz 5 rfl; try dsimp only [setn, addE, goneL] at H
  replace H := H.boxRow (cSl (cInt .i64)) true ([[1, 1], [2, 2]] : List (List Int)) 6 rfl (fun _ HF_ => ⟨_, _, rfl, ⟨_, _, rfl, hk47, (HF_.roC 4 rfl)⟩, ⟨_, _, rfl, ⟨_, _, rfl, hk48, (HF_.roC 5 rfl)⟩, rfl⟩⟩) (Nat.le_of_ble_eq_true rfl); try dsimp only [setn, addE, goneL] at H
  obtain ⟨r49, h50, hP⟩ := bind_inv hP
  obtain ⟨Fa51, Hc52, hb53⟩ := H.call [] [(3, false), (6, false)] rfl rfl trivial
  refine e_call E rfl rfl Try.func24 rfl rfl rfl (law22_rows_calls A28 c29 (some ⟨g42, 0, none⟩) 2 r19.1 ([[1, 1], [2, 2]] : List (List Int)) (H.rcap 3 rfl) (H.rcapx 6 rfl) Hc52 h50) ?_
  rintro v54 w55 a ⟨rfl, HR56⟩ E_
  replace E := E_ _ rfl; clear E_
  obtain ⟨H_, hc57⟩ := hb53 _ _ HR56 rfl
  replace H := H_; clear H_; try dsimp only [setn, addE, goneL] at H
  refine vr tbok 2 [] [(18, .bool r49)] [] E (by kernel_rfl) trivial ?_
  clear E; intro a E
  refine E.cases (t := 18) rfl (fun hb_ E_ => ?_) (fun hb_ E_ => ?_)
  ·
   replace E := E_; clear E_
   have h58 : r49 = true := hb_
   clear hb_; replace hP := ite_t h58 hP
   obtain ⟨r59, h60, hP⟩ := bind_inv hP
   obtain ⟨Fa61, Hc62, hb63⟩ := H.call [] [] rfl rfl trivial
   refine e_call E rfl rfl Try.func13 rfl rfl rfl (board_Moves_calls  5  Hc62 h60) ?_
   rintro v64 w65 a ⟨A68, c69, rfl, HR66⟩ E_
   replace E := E_ _ rfl; clear E_
   obtain ⟨H_, hc67⟩ := hb63 _ _ HR66 rfl
   replace H := H_; clear H_; try dsimp only [setn, addE, goneL] at H
   refine h_buildSlice (ps := [(0, .int .u8 0), (1, .int .u8 1), (2, .int .u8 4), (3, .int .u8 5)]) (cs := [.int .u8 0, .int .u8 1, .int .u8 4, .int .u8 5]) H E rfl rfl tbok rfl rfl (by kernel_rfl) ?_
   intro w72 g71 a hc73 hg75 H_ E_
   replace E := E_ _ rfl; clear E_
   replace H := H_; clear H_; try dsimp only [setn, addE, goneL] at H
   replace H := H.boxRow (cInt .u8) true ([0, 1, 4, 5] : List Int) 8 rfl (fun _ _ => ⟨_, _, rfl, rfl, ⟨_, _, rfl, rfl, ⟨_, _, rfl, rfl, ⟨_, _, rfl, rfl, rfl⟩⟩⟩⟩) (Nat.le_of_ble_eq_true rfl); try dsimp only [setn, addE, goneL] at H
   obtain ⟨r76, h77, hP⟩ := bind_inv hP
   obtain ⟨Fa78, Hc79, hb80⟩ := H.call [] [(7, false), (8, false)] rfl rfl trivial
   refine e_call E rfl rfl Try.func25 rfl rfl rfl (kit_SameLetters_calls A68 c69 (some ⟨g71, 0, none⟩) 4 r59 ([0, 1, 4, 5] : List Int) (H.rcap 7 rfl) (H.rcapx 8 rfl) Hc79 h77) ?_
   rintro v81 w82 a ⟨rfl, HR83⟩ E_
   replace E := E_ _ rfl; clear E_
   obtain ⟨H_, hc84⟩ := hb80 _ _ HR83 rfl
   replace H := H_; clear H_; try dsimp only [setn, addE, goneL] at H
   refine vr tbok 2 [] [(0, .bool r76)] [] E (by kernel_rfl) trivial ?_
   clear E; intro a E
   refine wpList_nil ?_
   refine th_n ?_
   refine wp_ret ?_
   obtain rfl := Option.some.inj hP
   refine ret1 E rfl rfl ?_
   exact ⟨_, rfl, rfl, H.sel [] rfl⟩
  ·
   replace E := E_; clear E_
   have h85 : ¬ (r49 = true) := (ne_true_of_eq_false hb_)
   clear hb_; replace hP := ite_f h85 hP
   refine vr tbok 5 [] [(0, .bool false)] [] E (by kernel_rfl) trivial ?_
   clear E; intro a E
   refine wpList_nil ?_
   refine th_n ?_
   refine wp_ret ?_
   obtain rfl := Option.some.inj hP
   refine ret1 E rfl rfl ?_
   exact ⟨_, rfl, rfl, H.sel [] rfl⟩
 ·
  replace E := E_; clear E_
  have h86 : ¬ ((r19.2 : Int) = 0) := ne_of_beq_false hb_
  clear hb_; replace hP := ite_f h86 hP
  refine vr tbok 12 [] [(0, .bool false)] [] E (by kernel_rfl) trivial ?_
  clear E; intro a E
  refine wpList_nil ?_
  refine th_n ?_
  refine wp_ret ?_
  obtain rfl := Option.some.inj hP
  refine ret1 E rfl rfl ?_
  exact ⟨_, rfl, rfl, H.sel [] rfl⟩

/-! rejoinder/rejoinderlaw22.BoardKnown -/
def law22_BoardKnown_j0 (N : Nat) : Option Bool :=
    Option.bind (law22_First N) fun r227 =>
    Option.bind (board_Check N r227.1 r227.2.1 r227.2.2.1 r227.2.2.2 (1, 2)) fun r245 =>
    if (r245 : Int) = 0 then
      Option.bind (law22_First N) fun r255 =>
      Option.bind (board_Check N r255.1 r255.2.1 r255.2.2.1 r255.2.2.2 (1, 3)) fun r273 =>
      if (r273 : Int) = 13 then
        Option.bind (law22_First N) fun r283 =>
        Option.bind (board_Check N r283.1 r283.2.1 r283.2.2.1 r283.2.2.2 (1, 0)) fun r301 =>
        if (r301 : Int) = 13 then
          Option.bind (law22_First N) fun r311 =>
          Option.bind (board_Check N r311.1 r311.2.1 r311.2.2.1 r311.2.2.2 (1, 6)) fun r329 =>
          if (r329 : Int) = 13 then
            Option.bind (board_Check N 0 [] [] [] (0, 0)) fun r342 =>
            if (r342 : Int) = 12 then
              Option.bind (board_Check N 0 ([true] : List Bool) ([-1] : List Int) [] (0, 0)) fun r363 =>
              some ((r363 : Int) == 12)
            else
              some false
          else
            some false
        else
          some false
      else
        some false
    else
      some false
def law22_BoardKnown (N : Nat) : Option Bool :=
  Option.bind (board_Number N 5 4) fun r1 =>
  Option.bind (board_Number N 5 2) fun r10 =>
  Option.bind (board_Of N ([⟨#[112]⟩, ⟨#[113]⟩] : List ByteArray) ([⟨#[113]⟩] : List ByteArray)) fun r29 =>
  Option.bind (board_Of N ([⟨#[112]⟩, ⟨#[113]⟩] : List ByteArray) ([⟨#[114]⟩] : List ByteArray)) fun r55 =>
  Option.bind (law22_BoardKnown_j0 N) fun x222 =>
  Option.bind (law22_First N) fun r377 =>
  Option.bind (board_Goes N r377.1 r377.2.1 r377.2.2.1 r377.2.2.2 (1, 2) 3) fun r395 =>
  Option.bind (law22_awake N) fun r407 =>
  if r407 = true then
    if (r1.1 : Int) = 2 then
      if (r1.2 : Int) = 0 then
        if (r10.2 : Int) = 14 then
          if (r29.1.1, r29.1.2) = (2, 1) then
            if (r29.2 : Int) = 0 then
              if (r55.2 : Int) = 6 then
                if x222 = true then
                  if (r395.2 : Int) = 2 then
                    Option.bind (board_Moves N 0) fun r425 =>
                    Option.bind (kit_SameLetters N r425 ([0] : List Int)) fun r442 =>
                    if r442 = true then
                      some true
                    else
                      some false
                  else
                    some false
                else
                  some false
              else
                some false
            else
              some false
          else
            some false
        else
          some false
      else
        some false
    else
      some false
  else
    some false
set_option maxRecDepth 100000 in
set_option maxHeartbeats 4000000 in
theorem law22_BoardKnown_calls {N : Nat} {S Fa : Nat → Prop} {w0 : World} {r : Bool} (H : Hp S Fa w0 w0 []) (hP : law22_BoardKnown N  = some r) :
    Calls Try.prog 6 #[] w0 fun e w' => ∃ v, e = .returned v ∧ v = .bool r ∧ Hp S Fa w0 w' [] := by
 refine enterV (n := 116) Try.func6 rfl rfl rfl ?_
 intro a E
 replace E := E.pick [] trivial
 rw [law22_BoardKnown] at hP
 refine wp_seq ?_
 refine wp_region_lit ?_
 refine vr tbok 1 [] [] [] E (by kernel_rfl) trivial ?_
 clear E; intro a E
 refine wpList_nil ?_
 refine th_n ?_
 refine wp_seq ?_
 refine wp_region_lit ?_
 obtain ⟨r1, h2, hP⟩ := bind_inv hP
 obtain ⟨Fa3, Hc4, hb5⟩ := H.call [] [] rfl rfl trivial
 refine e_call E rfl rfl Try.func16 rfl rfl rfl (board_Number_calls  5 4  Hc4 h2) ?_
 rintro v6 w7 a ⟨rfl, HR8⟩ E_
 replace E := E_ _ rfl; clear E_
 obtain ⟨H_, hc9⟩ := hb5 _ _ HR8 rfl
 replace H := H_; clear H_; try dsimp only [setn, addE, goneL] at H
 refine vr tbok 5 [] [(1, .int .i64 r1.1), (2, .int .i64 r1.2)] [] E (by kernel_rfl) trivial ?_
 clear E; intro a E
 refine wpList_nil ?_
 refine th_n ?_
 refine wp_seq ?_
 refine wp_region_lit ?_
 obtain ⟨r10, h11, hP⟩ := bind_inv hP
 obtain ⟨Fa12, Hc13, hb14⟩ := H.call [] [] rfl rfl trivial
 refine e_call E rfl rfl Try.func16 rfl rfl rfl (board_Number_calls  5 2  Hc13 h11) ?_
 rintro v15 w16 a ⟨rfl, HR17⟩ E_
 replace E := E_ _ rfl; clear E_
 obtain ⟨H_, hc18⟩ := hb14 _ _ HR17 rfl
 replace H := H_; clear H_; try dsimp only [setn, addE, goneL] at H
 refine vr tbok 5 [] [(1, .int .i64 r1.1), (2, .int .i64 r1.2), (4, .int .i64 r10.2)] [] E (by kernel_rfl) trivial ?_
 clear E; intro a E
 refine wpList_nil ?_
 refine th_n ?_
 refine wp_seq ?_
 refine wp_region_lit ?_
 refine h_buildSlice (ps := [(0, .string (⟨#[112]⟩)), (1, .string (⟨#[113]⟩))]) (cs := [.string (⟨#[112]⟩), .string (⟨#[113]⟩)]) H E rfl rfl tbok rfl rfl (by kernel_rfl) ?_
 intro w20 g19 a hc21 hg23 H_ E_
 replace E := E_ _ rfl; clear E_
 replace H := H_; clear H_; try dsimp only [setn, addE, goneL] at H
 refine h_buildSlice (ps := [(0, .string (⟨#[113]⟩))]) (cs := [.string (⟨#[113]⟩)]) H E rfl rfl tbok rfl rfl (by kernel_rfl) ?_
 intro w25 g24 a hc26 hg28 H_ E_
 replace E := E_ _ rfl; clear E_
 replace H := H_; clear H_; try dsimp only [setn, addE, goneL] at H
 replace H := H.boxRow cStr true ([⟨#[112]⟩, ⟨#[113]⟩] : List ByteArray) 0 rfl (fun _ _ => ⟨_, _, rfl, rfl, ⟨_, _, rfl, rfl, rfl⟩⟩) (Nat.le_of_ble_eq_true rfl); try dsimp only [setn, addE, goneL] at H
 replace H := H.boxRow cStr true ([⟨#[113]⟩] : List ByteArray) 1 rfl (fun _ _ => ⟨_, _, rfl, rfl, rfl⟩) (Nat.le_of_ble_eq_true rfl); try dsimp only [setn, addE, goneL] at H
 obtain ⟨r29, h30, hP⟩ := bind_inv hP
 obtain ⟨Fa31, Hc32, hb33⟩ := H.call [] [(0, false), (1, false)] rfl rfl trivial
 refine e_call E rfl rfl Try.func21 rfl rfl rfl (board_Of_calls (some ⟨g19, 0, none⟩) 2 (some ⟨g24, 0, none⟩) 1 ([⟨#[112]⟩, ⟨#[113]⟩] : List ByteArray) ([⟨#[113]⟩] : List ByteArray) (H.rcapx 0 rfl) (H.rcapx 1 rfl) Hc32 h30) ?_
 rintro v34 w35 a ⟨rfl, HR36⟩ E_
 replace E := E_ _ rfl; clear E_
 obtain ⟨H_, hc37⟩ := hb33 _ _ HR36 rfl
 replace H := H_; clear H_; try dsimp only [setn, addE, goneL] at H
 refine vr tbok 3 [] [(1, .int .i64 r1.1), (2, .int .i64 r1.2), (4, .int .i64 r10.2), (24, .agg #[.int .u8 r29.1.1, .int .u8 r29.1.2]), (25, .int .i64 r29.2)] [] E (by kernel_rfl) trivial ?_
 clear E; intro a E
 refine h_alloc H E rfl rfl tbok rfl ?_
 intro w39 g38 a hc40 hg42 H_ E_
 replace E := E_ _ rfl; clear E_
 replace H := H_; clear H_; try dsimp only [setn, addE, goneL] at H
 refine h_store (g := g38) (off := 0) H 2 rfl E rfl rfl rfl rfl tbok rfl rfl rfl rfl rfl ?_
 clear E; intro w43 a hc44 H_ E
 replace H := H_; clear H_; try dsimp only [setn, addE, goneL] at H
 refine vr tbok 1 [] [(1, .int .i64 r1.1), (2, .int .i64 r1.2), (4, .int .i64 r10.2), (5, .pointer (some ⟨g38, 0, none⟩)), (6, .int .i64 r29.2)] [] E (by kernel_rfl) trivial ?_
 clear E; intro a E
 refine wpList_nil ?_
 refine th_n ?_
 refine wp_seq ?_
 refine wp_region_lit ?_
 refine h_buildSlice (ps := [(0, .string (⟨#[112]⟩)), (1, .string (⟨#[113]⟩))]) (cs := [.string (⟨#[112]⟩), .string (⟨#[113]⟩)]) H E rfl rfl tbok rfl rfl (by kernel_rfl) ?_
 intro w46 g45 a hc47 hg49 H_ E_
 replace E := E_ _ rfl; clear E_
 replace H := H_; clear H_; try dsimp only [setn, addE, goneL] at H
 refine h_buildSlice (ps := [(0, .string (⟨#[114]⟩))]) (cs := [.string (⟨#[114]⟩)]) H E rfl rfl tbok rfl rfl (by kernel_rfl) ?_
 intro w51 g50 a hc52 hg54 H_ E_
 replace E := E_ _ rfl; clear E_
 replace H := H_; clear H_; try dsimp only [setn, addE, goneL] at H
 replace H := H.boxRow cStr true ([⟨#[112]⟩, ⟨#[113]⟩] : List ByteArray) 3 rfl (fun _ _ => ⟨_, _, rfl, rfl, ⟨_, _, rfl, rfl, rfl⟩⟩) (Nat.le_of_ble_eq_true rfl); try dsimp only [setn, addE, goneL] at H
 replace H := H.boxRow cStr true ([⟨#[114]⟩] : List ByteArray) 4 rfl (fun _ _ => ⟨_, _, rfl, rfl, rfl⟩) (Nat.le_of_ble_eq_true rfl); try dsimp only [setn, addE, goneL] at H
 obtain ⟨r55, h56, hP⟩ := bind_inv hP
 obtain ⟨Fa57, Hc58, hb59⟩ := H.call [] [(3, false), (4, false)] rfl rfl trivial
 refine e_call E rfl rfl Try.func21 rfl rfl rfl (board_Of_calls (some ⟨g45, 0, none⟩) 2 (some ⟨g50, 0, none⟩) 1 ([⟨#[112]⟩, ⟨#[113]⟩] : List ByteArray) ([⟨#[114]⟩] : List ByteArray) (H.rcapx 3 rfl) (H.rcapx 4 rfl) Hc58 h56) ?_
 rintro v60 w61 a ⟨rfl, HR62⟩ E_
 replace E := E_ _ rfl; clear E_
 obtain ⟨H_, hc63⟩ := hb59 _ _ HR62 rfl
 replace H := H_; clear H_; try dsimp only [setn, addE, goneL] at H
 refine vr tbok 3 [] [(1, .int .i64 r1.1), (2, .int .i64 r1.2), (4, .int .i64 r10.2), (5, .pointer (some ⟨g38, 0, none⟩)), (6, .int .i64 r29.2), (30, .agg #[.int .u8 r55.1.1, .int .u8 r55.1.2]), (31, .int .i64 r55.2)] [] E (by kernel_rfl) trivial ?_
 clear E; intro a E
 refine h_alloc H E rfl rfl tbok rfl ?_
 intro w65 g64 a hc66 hg68 H_ E_
 replace E := E_ _ rfl; clear E_
 replace H := H_; clear H_; try dsimp only [setn, addE, goneL] at H
 refine h_store (g := g64) (off := 0) H 5 rfl E rfl rfl rfl rfl tbok rfl rfl rfl rfl rfl ?_
 clear E; intro w69 a hc70 H_ E
 replace H := H_; clear H_; try dsimp only [setn, addE, goneL] at H
 refine vr tbok 1 [] [(1, .int .i64 r1.1), (2, .int .i64 r1.2), (4, .int .i64 r10.2), (5, .pointer (some ⟨g38, 0, none⟩)), (6, .int .i64 r29.2), (8, .int .i64 r55.2)] [] E (by kernel_rfl) trivial ?_
 clear E; intro a E
 refine wpList_nil ?_
 refine th_n ?_
 refine wp_seq ?_
 obtain ⟨x222, h223, hK224⟩ := bind_inv hP
 clear hP
 refine meet_cut (fun a w226 => ∃ (x225 : Bool), Fr a 116 [(1, .int .i64 r1.1), (2, .int .i64 r1.2), (4, .int .i64 r10.2), (5, .pointer (some ⟨g38, 0, none⟩)), (6, .int .i64 r29.2), (8, .int .i64 r55.2), (9, .bool x225)] ∧ Hp S Fa w0 w226 [.box g38 33 [.int .u8 r29.1.1, .int .u8 r29.1.2]] ∧ x222 = x225) ?_ ?_
 ·
  have hP := h223; clear h223; rw [law22_BoardKnown_j0] at hP
  refine wp_region_lit ?_
  obtain ⟨r227, h228, hP⟩ := bind_inv hP
  obtain ⟨Fa229, Hc230, hb231⟩ := H.call [] [] rfl rfl trivial
  refine e_call E rfl rfl Try.func31 rfl rfl rfl (law22_First_calls    Hc230 h228) ?_
  rintro v232 w233 a ⟨A236, c237, A239, c240, A242, c243, rfl, HR234⟩ E_
  replace E := E_ _ rfl; clear E_
  obtain ⟨H_, hc235⟩ := hb231 _ _ HR234 rfl
  replace H := H_; clear H_; try dsimp only [setn, addE, goneL] at H
  refine e_build (ps := [(0, .int .u8 1), (1, .int .u8 2)]) (v := .agg #[.int .u8 1, .int .u8 2]) E rfl rfl tbok rfl (by kernel_rfl) rfl ?_
  clear E; intro a E
  obtain ⟨r245, h246, hP⟩ := bind_inv hP
  obtain ⟨Fa247, Hc248, hb249⟩ := H.call [] [(6, false), (7, false), (8, false)] rfl rfl trivial
  refine e_call E rfl rfl Try.func14 rfl rfl rfl (board_Check_calls A236 c237 A239 c240 A242 c243 r227.1 r227.2.1 r227.2.2.1 r227.2.2.2 (1, 2) (H.rcap 6 rfl) (H.rcap 7 rfl) (H.rcap 8 rfl) Hc248 h246) ?_
  rintro v250 w251 a ⟨rfl, HR252⟩ E_
  replace E := E_ _ rfl; clear E_
  obtain ⟨H_, hc253⟩ := hb249 _ _ HR252 rfl
  replace H := H_; clear H_; try dsimp only [setn, addE, goneL] at H
  refine vr tbok 2 [] [(1, .int .i64 r1.1), (2, .int .i64 r1.2), (4, .int .i64 r10.2), (5, .pointer (some ⟨g38, 0, none⟩)), (6, .int .i64 r29.2), (8, .int .i64 r55.2), (36, .bool ((r245 : Int) == 0))] [] E (by kernel_rfl) trivial ?_
  clear E; intro a E
  refine E.cases (t := 36) rfl (fun hb_ E_ => ?_) (fun hb_ E_ => ?_)
  ·
   replace E := E_; clear E_
   have h254 : (r245 : Int) = 0 := eq_of_beq hb_
   clear hb_; replace hP := ite_t h254 hP
   obtain ⟨r255, h256, hP⟩ := bind_inv hP
   obtain ⟨Fa257, Hc258, hb259⟩ := H.call [] [] rfl rfl trivial
   refine e_call E rfl rfl Try.func31 rfl rfl rfl (law22_First_calls    Hc258 h256) ?_
   rintro v260 w261 a ⟨A264, c265, A267, c268, A270, c271, rfl, HR262⟩ E_
   replace E := E_ _ rfl; clear E_
   obtain ⟨H_, hc263⟩ := hb259 _ _ HR262 rfl
   replace H := H_; clear H_; try dsimp only [setn, addE, goneL] at H
   refine e_build (ps := [(0, .int .u8 1), (1, .int .u8 3)]) (v := .agg #[.int .u8 1, .int .u8 3]) E rfl rfl tbok rfl (by kernel_rfl) rfl ?_
   clear E; intro a E
   obtain ⟨r273, h274, hP⟩ := bind_inv hP
   obtain ⟨Fa275, Hc276, hb277⟩ := H.call [] [(9, false), (10, false), (11, false)] rfl rfl trivial
   refine e_call E rfl rfl Try.func14 rfl rfl rfl (board_Check_calls A264 c265 A267 c268 A270 c271 r255.1 r255.2.1 r255.2.2.1 r255.2.2.2 (1, 3) (H.rcap 9 rfl) (H.rcap 10 rfl) (H.rcap 11 rfl) Hc276 h274) ?_
   rintro v278 w279 a ⟨rfl, HR280⟩ E_
   replace E := E_ _ rfl; clear E_
   obtain ⟨H_, hc281⟩ := hb277 _ _ HR280 rfl
   replace H := H_; clear H_; try dsimp only [setn, addE, goneL] at H
   refine vr tbok 3 [] [(1, .int .i64 r1.1), (2, .int .i64 r1.2), (4, .int .i64 r10.2), (5, .pointer (some ⟨g38, 0, none⟩)), (6, .int .i64 r29.2), (8, .int .i64 r55.2), (42, .bool ((r273 : Int) == 13))] [] E (by kernel_rfl) trivial ?_
   clear E; intro a E
   refine E.cases (t := 42) rfl (fun hb_ E_ => ?_) (fun hb_ E_ => ?_)
   ·
    replace E := E_; clear E_
    have h282 : (r273 : Int) = 13 := eq_of_beq hb_
    clear hb_; replace hP := ite_t h282 hP
    obtain ⟨r283, h284, hP⟩ := bind_inv hP
    obtain ⟨Fa285, Hc286, hb287⟩ := H.call [] [] rfl rfl trivial
    refine e_call E rfl rfl Try.func31 rfl rfl rfl (law22_First_calls    Hc286 h284) ?_
    rintro v288 w289 a ⟨A292, c293, A295, c296, A298, c299, rfl, HR290⟩ E_
    replace E := E_ _ rfl; clear E_
    obtain ⟨H_, hc291⟩ := hb287 _ _ HR290 rfl
    replace H := H_; clear H_; try dsimp only [setn, addE, goneL] at H
    refine e_build (ps := [(0, .int .u8 1)]) (v := .agg #[.int .u8 1, .int .u8 0]) E rfl rfl tbok rfl (by kernel_rfl) rfl ?_
    clear E; intro a E
    obtain ⟨r301, h302, hP⟩ := bind_inv hP
    obtain ⟨Fa303, Hc304, hb305⟩ := H.call [] [(12, false), (13, false), (14, false)] rfl rfl trivial
    refine e_call E rfl rfl Try.func14 rfl rfl rfl (board_Check_calls A292 c293 A295 c296 A298 c299 r283.1 r283.2.1 r283.2.2.1 r283.2.2.2 (1, 0) (H.rcap 12 rfl) (H.rcap 13 rfl) (H.rcap 14 rfl) Hc304 h302) ?_
    rintro v306 w307 a ⟨rfl, HR308⟩ E_
    replace E := E_ _ rfl; clear E_
    obtain ⟨H_, hc309⟩ := hb305 _ _ HR308 rfl
    replace H := H_; clear H_; try dsimp only [setn, addE, goneL] at H
    refine vr tbok 3 [] [(1, .int .i64 r1.1), (2, .int .i64 r1.2), (4, .int .i64 r10.2), (5, .pointer (some ⟨g38, 0, none⟩)), (6, .int .i64 r29.2), (8, .int .i64 r55.2), (48, .bool ((r301 : Int) == 13))] [] E (by kernel_rfl) trivial ?_
    clear E; intro a E
    refine E.cases (t := 48) rfl (fun hb_ E_ => ?_) (fun hb_ E_ => ?_)
    ·
     replace E := E_; clear E_
     have h310 : (r301 : Int) = 13 := eq_of_beq hb_
     clear hb_; replace hP := ite_t h310 hP
     obtain ⟨r311, h312, hP⟩ := bind_inv hP
     obtain ⟨Fa313, Hc314, hb315⟩ := H.call [] [] rfl rfl trivial
     refine e_call E rfl rfl Try.func31 rfl rfl rfl (law22_First_calls    Hc314 h312) ?_
     rintro v316 w317 a ⟨A320, c321, A323, c324, A326, c327, rfl, HR318⟩ E_
     replace E := E_ _ rfl; clear E_
     obtain ⟨H_, hc319⟩ := hb315 _ _ HR318 rfl
     replace H := H_; clear H_; try dsimp only [setn, addE, goneL] at H
     refine e_build (ps := [(0, .int .u8 1), (1, .int .u8 6)]) (v := .agg #[.int .u8 1, .int .u8 6]) E rfl rfl tbok rfl (by kernel_rfl) rfl ?_
     clear E; intro a E
     obtain ⟨r329, h330, hP⟩ := bind_inv hP
     obtain ⟨Fa331, Hc332, hb333⟩ := H.call [] [(15, false), (16, false), (17, false)] rfl rfl trivial
     refine e_call E rfl rfl Try.func14 rfl rfl rfl (board_Check_calls A320 c321 A323 c324 A326 c327 r311.1 r311.2.1 r311.2.2.1 r311.2.2.2 (1, 6) (H.rcap 15 rfl) (H.rcap 16 rfl) (H.rcap 17 rfl) Hc332 h330) ?_
     rintro v334 w335 a ⟨rfl, HR336⟩ E_
     replace E := E_ _ rfl; clear E_
     obtain ⟨H_, hc337⟩ := hb333 _ _ HR336 rfl
     replace H := H_; clear H_; try dsimp only [setn, addE, goneL] at H
     refine vr tbok 3 [] [(1, .int .i64 r1.1), (2, .int .i64 r1.2), (4, .int .i64 r10.2), (5, .pointer (some ⟨g38, 0, none⟩)), (6, .int .i64 r29.2), (8, .int .i64 r55.2), (54, .bool ((r329 : Int) == 13))] [] E (by kernel_rfl) trivial ?_
     clear E; intro a E
     refine E.cases (t := 54) rfl (fun hb_ E_ => ?_) (fun hb_ E_ => ?_)
     ·
      replace E := E_; clear E_
      have h338 : (r329 : Int) = 13 := eq_of_beq hb_
      clear hb_; replace hP := ite_t h338 hP
      refine e_build (ps := []) (v := .agg #[.int .i64 0, .slice none 0 0, .slice none 0 0, .slice none 0 0]) E rfl rfl tbok rfl (by kernel_rfl) rfl ?_
      clear E; intro a E
      refine e_build (ps := []) (v := .agg #[.int .u8 0, .int .u8 0]) E rfl rfl tbok rfl (by kernel_rfl) rfl ?_
      clear E; intro a E
      replace H := H.nilrow cBool 4; try dsimp only [setn, addE, goneL] at H
      replace H := H.nilrow (cInt .i64) 3; try dsimp only [setn, addE, goneL] at H
      replace H := H.nilrow cNode 63; try dsimp only [setn, addE, goneL] at H
      obtain ⟨r342, h343, hP⟩ := bind_inv hP
      obtain ⟨Fa344, Hc345, hb346⟩ := H.call [] [(18, false), (19, false), (20, false)] rfl rfl trivial
      refine e_call E rfl rfl Try.func14 rfl rfl rfl (board_Check_calls none 0 none 0 none 0 0 [] [] [] (0, 0) (Nat.le_refl _) (Nat.le_refl _) (Nat.le_refl _) Hc345 h343) ?_
      rintro v347 w348 a ⟨rfl, HR349⟩ E_
      replace E := E_ _ rfl; clear E_
      obtain ⟨H_, hc350⟩ := hb346 _ _ HR349 rfl
      replace H := H_; clear H_; try dsimp only [setn, addE, goneL] at H
      refine vr tbok 3 [] [(1, .int .i64 r1.1), (2, .int .i64 r1.2), (4, .int .i64 r10.2), (5, .pointer (some ⟨g38, 0, none⟩)), (6, .int .i64 r29.2), (8, .int .i64 r55.2), (60, .bool ((r342 : Int) == 12))] [] E (by kernel_rfl) trivial ?_
      clear E; intro a E
      refine E.cases (t := 60) rfl (fun hb_ E_ => ?_) (fun hb_ E_ => ?_)
      ·
       replace E := E_; clear E_
       have h351 : (r342 : Int) = 12 := eq_of_beq hb_
       clear hb_; replace hP := ite_t h351 hP
       refine h_buildSlice (ps := [(0, .bool true)]) (cs := [.bool true]) H E rfl rfl tbok rfl rfl (by kernel_rfl) ?_
       intro w353 g352 a hc354 hg356 H_ E_
       replace E := E_ _ rfl; clear E_
       replace H := H_; clear H_; try dsimp only [setn, addE, goneL] at H
       refine h_buildSlice (ps := [(0, .int .i64 (-1))]) (cs := [.int .i64 (-1)]) H E rfl rfl tbok rfl rfl (by kernel_rfl) ?_
       intro w358 g357 a hc359 hg361 H_ E_
       replace E := E_ _ rfl; clear E_
       replace H := H_; clear H_; try dsimp only [setn, addE, goneL] at H
       refine e_build (ps := [(1, .slice (some ⟨g352, 0, none⟩) 1 1), (2, .slice (some ⟨g357, 0, none⟩) 1 1)]) (v := .agg #[.int .i64 0, .slice (some ⟨g352, 0, none⟩) 1 1, .slice (some ⟨g357, 0, none⟩) 1 1, .slice none 0 0]) E rfl rfl tbok rfl (by kernel_rfl) rfl ?_
       clear E; intro a E
       refine e_build (ps := []) (v := .agg #[.int .u8 0, .int .u8 0]) E rfl rfl tbok rfl (by kernel_rfl) rfl ?_
       clear E; intro a E
       replace H := H.boxRow cBool true ([true] : List Bool) 21 rfl (fun _ _ => ⟨_, _, rfl, rfl, rfl⟩) (Nat.le_of_ble_eq_true rfl); try dsimp only [setn, addE, goneL] at H
       replace H := H.boxRow (cInt .i64) true ([-1] : List Int) 22 rfl (fun _ _ => ⟨_, _, rfl, rfl, rfl⟩) (Nat.le_of_ble_eq_true rfl); try dsimp only [setn, addE, goneL] at H
       replace H := H.nilrow cNode 63; try dsimp only [setn, addE, goneL] at H
       obtain ⟨r363, h364, hP⟩ := bind_inv hP
       obtain ⟨Fa365, Hc366, hb367⟩ := H.call [] [(21, false), (22, false), (23, false)] rfl rfl trivial
       refine e_call E rfl rfl Try.func14 rfl rfl rfl (board_Check_calls (some ⟨g352, 0, none⟩) 1 (some ⟨g357, 0, none⟩) 1 none 0 0 ([true] : List Bool) ([-1] : List Int) [] (0, 0) (H.rcapx 21 rfl) (H.rcapx 22 rfl) (Nat.le_refl _) Hc366 h364) ?_
       rintro v368 w369 a ⟨rfl, HR370⟩ E_
       replace E := E_ _ rfl; clear E_
       obtain ⟨H_, hc371⟩ := hb367 _ _ HR370 rfl
       replace H := H_; clear H_; try dsimp only [setn, addE, goneL] at H
       refine vr tbok 3 [] [(1, .int .i64 r1.1), (2, .int .i64 r1.2), (4, .int .i64 r10.2), (5, .pointer (some ⟨g38, 0, none⟩)), (6, .int .i64 r29.2), (8, .int .i64 r55.2), (9, .bool ((r363 : Int) == 12))] [] E (by kernel_rfl) trivial ?_
       clear E; intro a E
       refine wpList_nil ?_
       have hx_ := Option.some.inj hP
       exact .inl ⟨rfl, (r363 : Int) == 12, E.pick _ ⟨rfl, rfl, rfl, rfl, rfl, rfl, rfl, trivial⟩, H.sel [2] rfl, hx_.symm⟩
      ·
       replace E := E_; clear E_
       have h372 : ¬ ((r342 : Int) = 12) := ne_of_beq_false hb_
       clear hb_; replace hP := ite_f h372 hP
       refine vr tbok 8 [] [(1, .int .i64 r1.1), (2, .int .i64 r1.2), (4, .int .i64 r10.2), (5, .pointer (some ⟨g38, 0, none⟩)), (6, .int .i64 r29.2), (8, .int .i64 r55.2), (9, .bool false)] [] E (by kernel_rfl) trivial ?_
       clear E; intro a E
       refine wpList_nil ?_
       have hx_ := Option.some.inj hP
       exact .inl ⟨rfl, false, E.pick _ ⟨rfl, rfl, rfl, rfl, rfl, rfl, rfl, trivial⟩, H.sel [2] rfl, hx_.symm⟩
     ·
      replace E := E_; clear E_
      have h373 : ¬ ((r329 : Int) = 13) := ne_of_beq_false hb_
      clear hb_; replace hP := ite_f h373 hP
      refine vr tbok 14 [] [(1, .int .i64 r1.1), (2, .int .i64 r1.2), (4, .int .i64 r10.2), (5, .pointer (some ⟨g38, 0, none⟩)), (6, .int .i64 r29.2), (8, .int .i64 r55.2), (9, .bool false)] [] E (by kernel_rfl) trivial ?_
      clear E; intro a E
      refine wpList_nil ?_
      have hx_ := Option.some.inj hP
      exact .inl ⟨rfl, false, E.pick _ ⟨rfl, rfl, rfl, rfl, rfl, rfl, rfl, trivial⟩, H.sel [2] rfl, hx_.symm⟩
    ·
     replace E := E_; clear E_
     have h374 : ¬ ((r301 : Int) = 13) := ne_of_beq_false hb_
     clear hb_; replace hP := ite_f h374 hP
     refine vr tbok 20 [] [(1, .int .i64 r1.1), (2, .int .i64 r1.2), (4, .int .i64 r10.2), (5, .pointer (some ⟨g38, 0, none⟩)), (6, .int .i64 r29.2), (8, .int .i64 r55.2), (9, .bool false)] [] E (by kernel_rfl) trivial ?_
     clear E; intro a E
     refine wpList_nil ?_
     have hx_ := Option.some.inj hP
     exact .inl ⟨rfl, false, E.pick _ ⟨rfl, rfl, rfl, rfl, rfl, rfl, rfl, trivial⟩, H.sel [2] rfl, hx_.symm⟩
   ·
    replace E := E_; clear E_
    have h375 : ¬ ((r273 : Int) = 13) := ne_of_beq_false hb_
    clear hb_; replace hP := ite_f h375 hP
    refine vr tbok 26 [] [(1, .int .i64 r1.1), (2, .int .i64 r1.2), (4, .int .i64 r10.2), (5, .pointer (some ⟨g38, 0, none⟩)), (6, .int .i64 r29.2), (8, .int .i64 r55.2), (9, .bool false)] [] E (by kernel_rfl) trivial ?_
    clear E; intro a E
    refine wpList_nil ?_
    have hx_ := Option.some.inj hP
    exact .inl ⟨rfl, false, E.pick _ ⟨rfl, rfl, rfl, rfl, rfl, rfl, rfl, trivial⟩, H.sel [2] rfl, hx_.symm⟩
  ·
   replace E := E_; clear E_
   have h376 : ¬ ((r245 : Int) = 0) := ne_of_beq_false hb_
   clear hb_; replace hP := ite_f h376 hP
   refine vr tbok 32 [] [(1, .int .i64 r1.1), (2, .int .i64 r1.2), (4, .int .i64 r10.2), (5, .pointer (some ⟨g38, 0, none⟩)), (6, .int .i64 r29.2), (8, .int .i64 r55.2), (9, .bool false)] [] E (by kernel_rfl) trivial ?_
   clear E; intro a E
   refine wpList_nil ?_
   have hx_ := Option.some.inj hP
   exact .inl ⟨rfl, false, E.pick _ ⟨rfl, rfl, rfl, rfl, rfl, rfl, rfl, trivial⟩, H.sel [2] rfl, hx_.symm⟩
 ·
  clear E H h223; rintro a w226 ⟨x225, E, H, hx_⟩
  subst hx_; have hP := hK224; clear hK224
  refine th_n ?_
  refine wp_seq ?_
  refine wp_region_lit ?_
  obtain ⟨r377, h378, hP⟩ := bind_inv hP
  obtain ⟨Fa379, Hc380, hb381⟩ := H.call [] [] rfl rfl trivial
  refine e_call E rfl rfl Try.func31 rfl rfl rfl (law22_First_calls    Hc380 h378) ?_
  rintro v382 w383 a ⟨A386, c387, A389, c390, A392, c393, rfl, HR384⟩ E_
  replace E := E_ _ rfl; clear E_
  obtain ⟨H_, hc385⟩ := hb381 _ _ HR384 rfl
  replace H := H_; clear H_; try dsimp only [setn, addE, goneL] at H
  refine e_build (ps := [(0, .int .u8 1), (1, .int .u8 2)]) (v := .agg #[.int .u8 1, .int .u8 2]) E rfl rfl tbok rfl (by kernel_rfl) rfl ?_
  clear E; intro a E
  obtain ⟨r395, h396, hP⟩ := bind_inv hP
  obtain ⟨Fa397, Hc398, hb399⟩ := H.call [] [(1, false), (2, false), (3, false)] rfl rfl trivial
  refine e_call E rfl rfl Try.func12 rfl rfl rfl (board_Goes_calls A386 c387 A389 c390 A392 c393 r377.1 r377.2.1 r377.2.2.1 r377.2.2.2 (1, 2) 3 (H.rcap 1 rfl) (H.rcap 2 rfl) (H.rcap 3 rfl) Hc398 h396) ?_
  rintro v400 w401 a ⟨A404, c405, rfl, HR402⟩ E_
  replace E := E_ _ rfl; clear E_
  obtain ⟨H_, hc403⟩ := hb399 _ _ HR402 rfl
  replace H := H_; clear H_; try dsimp only [setn, addE, goneL] at H
  refine vr tbok 5 [] [(1, .int .i64 r1.1), (2, .int .i64 r1.2), (4, .int .i64 r10.2), (5, .pointer (some ⟨g38, 0, none⟩)), (6, .int .i64 r29.2), (8, .int .i64 r55.2), (9, .bool x222), (11, .int .i64 r395.2)] [] E (by kernel_rfl) trivial ?_
  clear E; intro a E
  refine wpList_nil ?_
  refine th_n ?_
  refine wp_seq ?_
  refine wp_region_lit ?_
  obtain ⟨r407, h408, hP⟩ := bind_inv hP
  obtain ⟨Fa409, Hc410, hb411⟩ := H.call [] [] rfl rfl trivial
  refine e_call E rfl rfl Try.func7 rfl rfl rfl (law22_awake_calls    Hc410 h408) ?_
  rintro v412 w413 a ⟨rfl, HR414⟩ E_
  replace E := E_ _ rfl; clear E_
  obtain ⟨H_, hc415⟩ := hb411 _ _ HR414 rfl
  replace H := H_; clear H_; try dsimp only [setn, addE, goneL] at H
  refine vr tbok 1 [] [(1, .int .i64 r1.1), (2, .int .i64 r1.2), (4, .int .i64 r10.2), (5, .pointer (some ⟨g38, 0, none⟩)), (6, .int .i64 r29.2), (8, .int .i64 r55.2), (9, .bool x222), (11, .int .i64 r395.2), (75, .bool r407)] [] E (by kernel_rfl) trivial ?_
  clear E; intro a E
  refine E.cases (t := 75) rfl (fun hb_ E_ => ?_) (fun hb_ E_ => ?_)
  ·
   replace E := E_; clear E_
   have h416 : r407 = true := hb_
   clear hb_; replace hP := ite_t h416 hP
   refine vr tbok 4 [] [(2, .int .i64 r1.2), (4, .int .i64 r10.2), (5, .pointer (some ⟨g38, 0, none⟩)), (6, .int .i64 r29.2), (8, .int .i64 r55.2), (9, .bool x222), (11, .int .i64 r395.2), (79, .bool ((r1.1 : Int) == 2))] [] E (by kernel_rfl) trivial ?_
   clear E; intro a E
   refine E.cases (t := 79) rfl (fun hb_ E_ => ?_) (fun hb_ E_ => ?_)
   ·
    replace E := E_; clear E_
    have h417 : (r1.1 : Int) = 2 := eq_of_beq hb_
    clear hb_; replace hP := ite_t h417 hP
    refine vr tbok 4 [] [(4, .int .i64 r10.2), (5, .pointer (some ⟨g38, 0, none⟩)), (6, .int .i64 r29.2), (8, .int .i64 r55.2), (9, .bool x222), (11, .int .i64 r395.2), (83, .bool ((r1.2 : Int) == 0))] [] E (by kernel_rfl) trivial ?_
    clear E; intro a E
    refine E.cases (t := 83) rfl (fun hb_ E_ => ?_) (fun hb_ E_ => ?_)
    ·
     replace E := E_; clear E_
     have h418 : (r1.2 : Int) = 0 := eq_of_beq hb_
     clear hb_; replace hP := ite_t h418 hP
     refine vr tbok 4 [] [(5, .pointer (some ⟨g38, 0, none⟩)), (6, .int .i64 r29.2), (8, .int .i64 r55.2), (9, .bool x222), (11, .int .i64 r395.2), (87, .bool ((r10.2 : Int) == 14))] [] E (by kernel_rfl) trivial ?_
     clear E; intro a E
     refine E.cases (t := 87) rfl (fun hb_ E_ => ?_) (fun hb_ E_ => ?_)
     ·
      replace E := E_; clear E_
      have h419 : (r10.2 : Int) = 14 := eq_of_beq hb_
      clear hb_; replace hP := ite_t h419 hP
      refine vr tbok 1 [.agg #[.int .u8 r29.1.1, .int .u8 r29.1.2]] [(6, .int .i64 r29.2), (8, .int .i64 r55.2), (9, .bool x222), (11, .int .i64 r395.2), (87, .bool true), (88, .agg #[.int .u8 r29.1.1, .int .u8 r29.1.2])] [cellsAt w413 g38 (0) [.int .u8 r29.1.1, .int .u8 r29.1.2]] E (by kernel_rfl) ((H.box 0 rfl).sub 0 _ rfl) ?_
      clear E; intro a E
      refine e_build (ps := [(0, .int .u8 2), (1, .int .u8 1)]) (v := .agg #[.int .u8 2, .int .u8 1]) E rfl rfl tbok rfl (by kernel_rfl) rfl ?_
      clear E; intro a E
      refine e_eqS E rfl rfl rfl rfl grdS33 (eqS33 (r29.1.1, r29.1.2) (2, 1) _) (decide ((r29.1.1, r29.1.2) = (2, 1))) (.inl ⟨rfl, rfl⟩) rfl ?_
      clear E; intro a E
      refine vr tbok 2 [] [(6, .int .i64 r29.2), (8, .int .i64 r55.2), (9, .bool x222), (11, .int .i64 r395.2), (92, .bool (decide ((r29.1.1, r29.1.2) = (2, 1))))] [] E (by kernel_rfl) trivial ?_
      clear E; intro a E
      refine E.cases (t := 92) rfl (fun hb_ E_ => ?_) (fun hb_ E_ => ?_)
      ·
       replace E := E_; clear E_
       have h420 : (r29.1.1, r29.1.2) = (2, 1) := of_decide_eq_true hb_
       clear hb_; replace hP := ite_t h420 hP
       refine vr tbok 4 [] [(8, .int .i64 r55.2), (9, .bool x222), (11, .int .i64 r395.2), (96, .bool ((r29.2 : Int) == 0))] [] E (by kernel_rfl) trivial ?_
       clear E; intro a E
       refine E.cases (t := 96) rfl (fun hb_ E_ => ?_) (fun hb_ E_ => ?_)
       ·
        replace E := E_; clear E_
        have h421 : (r29.2 : Int) = 0 := eq_of_beq hb_
        clear hb_; replace hP := ite_t h421 hP
        refine vr tbok 4 [] [(9, .bool x222), (11, .int .i64 r395.2), (100, .bool ((r55.2 : Int) == 6))] [] E (by kernel_rfl) trivial ?_
        clear E; intro a E
        refine E.cases (t := 100) rfl (fun hb_ E_ => ?_) (fun hb_ E_ => ?_)
        ·
         replace E := E_; clear E_
         have h422 : (r55.2 : Int) = 6 := eq_of_beq hb_
         clear hb_; replace hP := ite_t h422 hP
         refine vr tbok 3 [] [(11, .int .i64 r395.2), (103, .bool x222)] [] E (by kernel_rfl) trivial ?_
         clear E; intro a E
         refine E.cases (t := 103) rfl (fun hb_ E_ => ?_) (fun hb_ E_ => ?_)
         ·
          replace E := E_; clear E_
          have h423 : x222 = true := hb_
          clear hb_; replace hP := ite_t h423 hP
          refine vr tbok 4 [] [(107, .bool ((r395.2 : Int) == 2))] [] E (by kernel_rfl) trivial ?_
          clear E; intro a E
          refine E.cases (t := 107) rfl (fun hb_ E_ => ?_) (fun hb_ E_ => ?_)
          ·
           replace E := E_; clear E_
           have h424 : (r395.2 : Int) = 2 := eq_of_beq hb_
           clear hb_; replace hP := ite_t h424 hP
           obtain ⟨r425, h426, hP⟩ := bind_inv hP
           obtain ⟨Fa427, Hc428, hb429⟩ := H.call [] [] rfl rfl trivial
           refine e_call E rfl rfl Try.func13 rfl rfl rfl (board_Moves_calls  0  Hc428 h426) ?_
           rintro v430 w431 a ⟨A434, c435, rfl, HR432⟩ E_
           replace E := E_ _ rfl; clear E_
           obtain ⟨H_, hc433⟩ := hb429 _ _ HR432 rfl
           replace H := H_; clear H_; try dsimp only [setn, addE, goneL] at H
           refine h_buildSlice (ps := [(0, .int .u8 0)]) (cs := [.int .u8 0]) H E rfl rfl tbok rfl rfl (by kernel_rfl) ?_
           intro w438 g437 a hc439 hg441 H_ E_
           replace E := E_ _ rfl; clear E_
           replace H := H_; clear H_; try dsimp only [setn, addE, goneL] at H
           replace H := H.boxRow (cInt .u8) true ([0] : List Int) 6 rfl (fun _ _ => ⟨_, _, rfl, rfl, rfl⟩) (Nat.le_of_ble_eq_true rfl); try dsimp only [setn, addE, goneL] at H
           obtain ⟨r442, h443, hP⟩ := bind_inv hP
           obtain ⟨Fa444, Hc445, hb446⟩ := H.call [] [(5, false), (6, false)] rfl rfl trivial
           refine e_call E rfl rfl Try.func25 rfl rfl rfl (kit_SameLetters_calls A434 c435 (some ⟨g437, 0, none⟩) 1 r425 ([0] : List Int) (H.rcap 5 rfl) (H.rcapx 6 rfl) Hc445 h443) ?_
           rintro v447 w448 a ⟨rfl, HR449⟩ E_
           replace E := E_ _ rfl; clear E_
           obtain ⟨H_, hc450⟩ := hb446 _ _ HR449 rfl
           replace H := H_; clear H_; try dsimp only [setn, addE, goneL] at H
           refine vr tbok 2 [] [(112, .bool r442)] [] E (by kernel_rfl) trivial ?_
           clear E; intro a E
           refine E.cases (t := 112) rfl (fun hb_ E_ => ?_) (fun hb_ E_ => ?_)
           ·
            replace E := E_; clear E_
            have h451 : r442 = true := hb_
            clear hb_; replace hP := ite_t h451 hP
            refine vr tbok 4 [] [(0, .bool true)] [] E (by kernel_rfl) trivial ?_
            clear E; intro a E
            refine wpList_nil ?_
            refine th_n ?_
            refine wp_ret ?_
            obtain rfl := Option.some.inj hP
            refine ret1 E rfl rfl ?_
            exact ⟨_, rfl, rfl, H.sel [] rfl⟩
           ·
            replace E := E_; clear E_
            have h452 : ¬ (r442 = true) := (ne_true_of_eq_false hb_)
            clear hb_; replace hP := ite_f h452 hP
            refine vr tbok 4 [] [(0, .bool false)] [] E (by kernel_rfl) trivial ?_
            clear E; intro a E
            refine wpList_nil ?_
            refine th_n ?_
            refine wp_ret ?_
            obtain rfl := Option.some.inj hP
            refine ret1 E rfl rfl ?_
            exact ⟨_, rfl, rfl, H.sel [] rfl⟩
          ·
           replace E := E_; clear E_
           have h453 : ¬ ((r395.2 : Int) = 2) := ne_of_beq_false hb_
           clear hb_; replace hP := ite_f h453 hP
           refine vr tbok 9 [] [(0, .bool false)] [] E (by kernel_rfl) trivial ?_
           clear E; intro a E
           refine wpList_nil ?_
           refine th_n ?_
           refine wp_ret ?_
           obtain rfl := Option.some.inj hP
           refine ret1 E rfl rfl ?_
           exact ⟨_, rfl, rfl, H.sel [] rfl⟩
         ·
          replace E := E_; clear E_
          have h454 : ¬ (x222 = true) := (ne_true_of_eq_false hb_)
          clear hb_; replace hP := ite_f h454 hP
          refine vr tbok 13 [] [(0, .bool false)] [] E (by kernel_rfl) trivial ?_
          clear E; intro a E
          refine wpList_nil ?_
          refine th_n ?_
          refine wp_ret ?_
          obtain rfl := Option.some.inj hP
          refine ret1 E rfl rfl ?_
          exact ⟨_, rfl, rfl, H.sel [] rfl⟩
        ·
         replace E := E_; clear E_
         have h455 : ¬ ((r55.2 : Int) = 6) := ne_of_beq_false hb_
         clear hb_; replace hP := ite_f h455 hP
         refine vr tbok 16 [] [(0, .bool false)] [] E (by kernel_rfl) trivial ?_
         clear E; intro a E
         refine wpList_nil ?_
         refine th_n ?_
         refine wp_ret ?_
         obtain rfl := Option.some.inj hP
         refine ret1 E rfl rfl ?_
         exact ⟨_, rfl, rfl, H.sel [] rfl⟩
       ·
        replace E := E_; clear E_
        have h456 : ¬ ((r29.2 : Int) = 0) := ne_of_beq_false hb_
        clear hb_; replace hP := ite_f h456 hP
        refine vr tbok 20 [] [(0, .bool false)] [] E (by kernel_rfl) trivial ?_
        clear E; intro a E
        refine wpList_nil ?_
        refine th_n ?_
        refine wp_ret ?_
        obtain rfl := Option.some.inj hP
        refine ret1 E rfl rfl ?_
        exact ⟨_, rfl, rfl, H.sel [] rfl⟩
      ·
       replace E := E_; clear E_
       have h457 : ¬ ((r29.1.1, r29.1.2) = (2, 1)) := of_decide_eq_false hb_
       clear hb_; replace hP := ite_f h457 hP
       refine vr tbok 24 [] [(0, .bool false)] [] E (by kernel_rfl) trivial ?_
       clear E; intro a E
       refine wpList_nil ?_
       refine th_n ?_
       refine wp_ret ?_
       obtain rfl := Option.some.inj hP
       refine ret1 E rfl rfl ?_
       exact ⟨_, rfl, rfl, H.sel [] rfl⟩
     ·
      replace E := E_; clear E_
      have h458 : ¬ ((r10.2 : Int) = 14) := ne_of_beq_false hb_
      clear hb_; replace hP := ite_f h458 hP
      refine vr tbok 29 [] [(0, .bool false)] [] E (by kernel_rfl) trivial ?_
      clear E; intro a E
      refine wpList_nil ?_
      refine th_n ?_
      refine wp_ret ?_
      obtain rfl := Option.some.inj hP
      refine ret1 E rfl rfl ?_
      exact ⟨_, rfl, rfl, H.sel [] rfl⟩
    ·
     replace E := E_; clear E_
     have h459 : ¬ ((r1.2 : Int) = 0) := ne_of_beq_false hb_
     clear hb_; replace hP := ite_f h459 hP
     refine vr tbok 33 [] [(0, .bool false)] [] E (by kernel_rfl) trivial ?_
     clear E; intro a E
     refine wpList_nil ?_
     refine th_n ?_
     refine wp_ret ?_
     obtain rfl := Option.some.inj hP
     refine ret1 E rfl rfl ?_
     exact ⟨_, rfl, rfl, H.sel [] rfl⟩
   ·
    replace E := E_; clear E_
    have h460 : ¬ ((r1.1 : Int) = 2) := ne_of_beq_false hb_
    clear hb_; replace hP := ite_f h460 hP
    refine vr tbok 37 [] [(0, .bool false)] [] E (by kernel_rfl) trivial ?_
    clear E; intro a E
    refine wpList_nil ?_
    refine th_n ?_
    refine wp_ret ?_
    obtain rfl := Option.some.inj hP
    refine ret1 E rfl rfl ?_
    exact ⟨_, rfl, rfl, H.sel [] rfl⟩
  ·
   replace E := E_; clear E_
   have h461 : ¬ (r407 = true) := (ne_true_of_eq_false hb_)
   clear hb_; replace hP := ite_f h461 hP
   refine vr tbok 41 [] [(0, .bool false)] [] E (by kernel_rfl) trivial ?_
   clear E; intro a E
   refine wpList_nil ?_
   refine th_n ?_
   refine wp_ret ?_
   obtain rfl := Option.some.inj hP
   refine ret1 E rfl rfl ?_
   exact ⟨_, rfl, rfl, H.sel [] rfl⟩

end Go.V
