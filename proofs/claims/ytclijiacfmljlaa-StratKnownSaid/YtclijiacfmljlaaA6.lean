/- Plain functions, and the calls that give them. -/
import Derived.Test.YtclijiacfmljlaaA5
set_option linter.all false
set_option linter.unusedVariables false
set_option linter.unnecessarySimpa false
set_option linter.unusedSimpArgs false
namespace Go.V
open Go Go.Proofs
/-! rejoinder/strat.lost -/
def strat_lost_f5 (N : Nat) (row : List Int) (ranks : List Int) (x160 : Int) : Option Unit :=
    ask (idx (List.getD row (Int.toNat x160) 0) (List.length ranks)) <|
    some ()
def strat_lost_l4 (N : Nat) (row : List Int) (ranks : List Int) : Nat → Int → Option (Unit ⊕ Int)
  | 0, _ => none
  | m180 + 1, x160 =>
    if x160 < (((List.length row) : Nat) : Int) then
      ask (idx x160 (List.length row)) <|
      Option.bind (strat_lost_f5 N row ranks x160) fun x194 =>
      if ((List.getD ranks (Int.toNat (List.getD row (Int.toNat x160) 0)) 0) : Int) = -1 then
        ask (in64 (x160 + 1)) <|
        strat_lost_l4 N row ranks m180 (x160 + 1)
      else
        some (Sum.inr x160)
    else
      some (Sum.inl ())
def strat_lost_f1 (N : Nat) (row : List Int) (ranks : List Int) : Option Int :=
    Option.bind (strat_lost_l4 N row ranks N 0) fun x181 =>
    Sum.elim (fun x186 =>
      some (-1))
     (fun x206 =>
      some x206) x181
def strat_lost_f0 (N : Nat) (row : List Int) (ranks : List Int) : Option Bool :=
    Option.bind (strat_lost_f1 N row ranks) fun x139 =>
    some (decide (0 ≤ x139))
def strat_lost (N : Nat) (row : List Int) (ranks : List Int) : Option Bool :=
  Option.bind (strat_lost_f0 N row ranks) fun x97 =>
  some (!x97)
set_option maxRecDepth 100000 in
set_option maxHeartbeats 4000000 in
theorem strat_lost_calls {N : Nat} {S Fa : Nat → Prop} {w0 : World} {r : Bool} (A1 : Option Addr) (c2 : Nat) (A5 : Option Addr) (c6 : Nat) (row : List Int) (ranks : List Int) (hk3 : List.length row ≤ c2) (hk7 : List.length ranks ≤ c6) (H : Hp S Fa w0 w0 [.ro false (cInt .i64) A1 row, .ro false (cInt .i64) A5 ranks]) (hP : strat_lost N row ranks = some r) :
    Calls Try.prog 38 #[.slice A1 (List.length row) c2, .slice A5 (List.length ranks) c6] w0 fun e w' => ∃ v, e = .returned v ∧ v = .bool r ∧ Hp S Fa w0 w' [] := by
 refine enterV (n := 9) Try.func38 rfl rfl rfl ?_
 intro a E
 replace E := E.pick [(0, .slice A1 (List.length row) c2), (1, .slice A5 (List.length ranks) c6)] ⟨rfl, rfl, trivial⟩
 rw [strat_lost] at hP
 refine wp_seq ?_
 refine wp_region_lit ?_
 refine h_box H E rfl rfl rfl ?_
 intro w10 g9 a hc11 hg13 H_ E_
 replace E := E_ _ rfl; clear E_
 replace H := H_; clear H_; try dsimp only [setn, addE, goneL] at H
 refine vr tbok 1 [] [(0, .slice A1 (List.length row) c2), (3, .pointer (some ⟨g9, 0, none⟩))] [] E (by kernel_rfl) trivial ?_
 clear E; intro a E
 refine wpList_nil ?_
 refine th_n ?_
 refine wp_seq ?_
 refine wp_region_lit ?_
 refine vr tbok 1 [] [(3, .pointer (some ⟨g9, 0, none⟩)), (5, .slice A1 (List.length row) c2)] [] E (by kernel_rfl) trivial ?_
 clear E; intro a E
 refine e_makeFunc (vs := [.pointer (some ⟨g9, 0, none⟩)]) E rfl rfl rfl rfl ?_
 clear E; intro a E
 obtain ⟨x97, h98, hP⟩ := bind_inv hP
 refine e_call (R := fun v_ w_ => ∃ (x99 : Bool), v_ = .bool x99 ∧ Hp S Fa w0 w_ [.ro false (cInt .i64) A5 ranks, .box g9 23 [.slice A5 (List.length ranks) c6], .ro false (cInt .i64) A1 row] ∧ x97 = x99) E rfl rfl Try.func61 rfl rfl rfl ?_ ?_
 ·
  clear E hP; have hP := h98; clear h98; rw [strat_lost_f0] at hP
  refine enterV (n := 9) Try.func61 rfl rfl rfl ?_
  intro a E
  replace E := E.pick [(0, .slice A1 (List.length row) c2), (1, .func (.func 62) #[] #[.pointer (some ⟨g9, 0, none⟩)])] ⟨rfl, rfl, trivial⟩
  refine wp_seq ?_
  refine wp_region_lit ?_
  refine vr tbok 1 [] [(0, .slice A1 (List.length row) c2), (1, .func (.func 62) #[] #[.pointer (some ⟨g9, 0, none⟩)])] [] E (by kernel_rfl) trivial ?_
  clear E; intro a E
  refine wpList_nil ?_
  refine th_n ?_
  refine wp_seq ?_
  refine wp_region_lit ?_
  refine vr tbok 2 [] [(5, .slice A1 (List.length row) c2), (6, .func (.func 62) #[] #[.pointer (some ⟨g9, 0, none⟩)])] [] E (by kernel_rfl) trivial ?_
  clear E; intro a E
  obtain ⟨x139, h140, hP⟩ := bind_inv hP
  refine e_call (R := fun v_ w_ => ∃ (x141 : Int), v_ = .int .i64 x141 ∧ Hp S Fa w0 w_ [.ro false (cInt .i64) A5 ranks, .box g9 23 [.slice A5 (List.length ranks) c6], .ro false (cInt .i64) A1 row] ∧ x139 = x141) E rfl rfl Try.func78 rfl rfl rfl ?_ ?_
  ·
   clear E hP; have hP := h140; clear h140; rw [strat_lost_f1] at hP
   refine enterV (n := 19) Try.func78 rfl rfl rfl ?_
   intro a E
   replace E := E.pick [(0, .slice A1 (List.length row) c2), (1, .func (.func 62) #[] #[.pointer (some ⟨g9, 0, none⟩)])] ⟨rfl, rfl, trivial⟩
   refine wp_seq ?_
   refine wp_region_lit ?_
   refine vr tbok 1 [] [(0, .slice A1 (List.length row) c2), (1, .func (.func 62) #[] #[.pointer (some ⟨g9, 0, none⟩)])] [] E (by kernel_rfl) trivial ?_
   clear E; intro a E
   refine wpList_nil ?_
   refine th_n ?_
   refine wp_seq ?_
   refine wp_seq ?_
   refine wp_region_lit ?_
   refine vr tbok 3 [] [(0, .slice A1 (List.length row) c2), (1, .func (.func 62) #[] #[.pointer (some ⟨g9, 0, none⟩)]), (7, .int .i64 (((List.length row) : Nat) : Int)), (8, .int .i64 0)] [] E (by kernel_rfl) trivial ?_
   clear E; intro a E
   refine wpList_nil ?_
   refine th_n ?_
   refine wp_block ?_
   obtain ⟨x181, hL182, hK183⟩ := bind_inv hP
   clear hP
   refine loop_cut (fun i_ a w_ => (i_ = 0 ∧ ∃ (x186 : Unit), Fr a 19 [] ∧ Hp S Fa w0 w_ [.ro false (cInt .i64) A5 ranks, .box g9 23 [.slice A5 (List.length ranks) c6], .ro false (cInt .i64) A1 row] ∧ x181 = Sum.inl x186)) ?_ ?_
   ·
    refine loopV (fun m185 a w184 => ∃ (x160 : Int), Fr a 19 [(0, .slice A1 (List.length row) c2), (1, .func (.func 62) #[] #[.pointer (some ⟨g9, 0, none⟩)]), (7, .int .i64 (((List.length row) : Nat) : Int)), (8, .int .i64 x160)] ∧ Hp S Fa w0 w184 [.ro false (cInt .i64) A1 row, .ro false (cInt .i64) A5 ranks, .box g9 23 [.slice A5 (List.length ranks) c6]] ∧ strat_lost_l4 N row ranks m185 x160 = some x181) N ?_ ?_
    ·
     exact ⟨0, E.pick _ ⟨rfl, rfl, rfl, rfl, trivial⟩, H.sel [0, 1, 2] rfl, hL182⟩
    ·
     clear E H hL182; intro m185 a w184 hI_
     obtain ⟨x160, E, H, hP⟩ := hI_
     obtain ⟨m180, rfl⟩ : ∃ q_, m185 = q_ + 1 := by cases m185 with | zero => rw [strat_lost_l4] at hP; cases hP | succ q_ => exact ⟨q_, rfl⟩
     rw [strat_lost_l4] at hP
     refine wp_seq ?_
     refine wp_region_lit ?_
     refine vr tbok 1 [] [(0, .slice A1 (List.length row) c2), (1, .func (.func 62) #[] #[.pointer (some ⟨g9, 0, none⟩)]), (7, .int .i64 (((List.length row) : Nat) : Int)), (8, .int .i64 x160), (9, .bool (decide (x160 < (((List.length row) : Nat) : Int))))] [] E (by kernel_rfl) trivial ?_
     clear E; intro a E
     refine wpList_nil ?_
     refine th_n ?_
     refine wp_seq ?_
     refine E.cases (t := 9) rfl (fun hb_ E_ => ?_) (fun hb_ E_ => ?_)
     ·
      replace E := E_; clear E_
      have h187 : x160 < (((List.length row) : Nat) : Int) := of_decide_eq_true hb_
      clear hb_; replace hP := ite_t h187 hP
      refine c_true E rfl ?_
      refine wp_skip ?_
      refine th_n ?_
      refine wp_seq ?_
      refine wp_block ?_
      refine wp_seq ?_
      refine wp_region_lit ?_
      refine vr tbok 2 [] [(0, .slice A1 (List.length row) c2), (1, .func (.func 62) #[] #[.pointer (some ⟨g9, 0, none⟩)]), (5, .int .i64 x160), (7, .int .i64 (((List.length row) : Nat) : Int)), (8, .int .i64 x160)] [] E (by kernel_rfl) trivial ?_
      clear E; intro a E
      refine wpList_nil ?_
      refine th_n ?_
      refine wp_seq ?_
      refine wp_region_lit ?_
      obtain ⟨g188, hP⟩ := ask_inv hP
      obtain ⟨b189, o190, e_b189⟩ := (H.rd 0 rds_ro).addr (idx_pos g188)
      subst e_b189
      refine vr tbok 5 [.int .i64 (List.getD row (Int.toNat x160) 0)] [(0, .slice (some ⟨b189, o190, none⟩) (List.length row) c2), (1, .func (.func 62) #[] #[.pointer (some ⟨g9, 0, none⟩)]), (5, .int .i64 x160), (7, .int .i64 (((List.length row) : Nat) : Int)), (8, .int .i64 x160), (11, .func (.func 62) #[] #[.pointer (some ⟨g9, 0, none⟩)]), (15, .int .i64 (List.getD row (Int.toNat x160) 0))] [0 ≤ x160 ∧ x160 < (((List.length row) : Nat) : Int), World.cell? w184 ⟨b189, o190 + (Int.toNat x160) * 1, none⟩ = some (.int .i64 (List.getD row (Int.toNat x160) 0))] E (by kernel_rfl) ⟨g188, Rds.at1 (H.rd 0 rds_ro) 0 g188⟩ ?_
      clear E; intro a E
      obtain ⟨x194, h195, hP⟩ := bind_inv hP
      refine e_callv (R := fun v_ w_ => ∃ (x196 : Unit), v_ = .bool (((List.getD ranks (Int.toNat (List.getD row (Int.toNat x160) 0)) 0) : Int) != (-1)) ∧ Hp S Fa w0 w_ [.ro false (cInt .i64) A5 ranks, .box g9 23 [.slice A5 (List.length ranks) c6], .ro false (cInt .i64) (some ⟨b189, o190, none⟩) row] ∧ x194 = x196) E rfl rfl rfl Try.func62 rfl rfl rfl ?_ ?_
      ·
       clear E hP; have hP := h195; clear h195; rw [strat_lost_f5] at hP
       refine enterV (n := 9) Try.func62 rfl rfl rfl ?_
       intro a E
       replace E := E.pick [(0, .int .i64 (List.getD row (Int.toNat x160) 0)), (1, .pointer (some ⟨g9, 0, none⟩))] ⟨rfl, rfl, trivial⟩
       refine wp_seq ?_
       refine wp_region_lit ?_
       refine vr tbok 1 [] [(0, .int .i64 (List.getD row (Int.toNat x160) 0)), (1, .pointer (some ⟨g9, 0, none⟩))] [] E (by kernel_rfl) trivial ?_
       clear E; intro a E
       refine wpList_nil ?_
       refine th_n ?_
       refine wp_seq ?_
       refine wp_region_lit ?_
       obtain ⟨g197, hP⟩ := ask_inv hP
       obtain ⟨b198, o199, e_b198⟩ := (H.rd 1 rds_ro).addr (idx_pos g197)
       subst e_b198
       refine vr tbok 6 [.slice (some ⟨b198, o199, none⟩) (List.length ranks) c6, .int .i64 (List.getD ranks (Int.toNat (List.getD row (Int.toNat x160) 0)) 0)] [(3, .bool (((List.getD ranks (Int.toNat (List.getD row (Int.toNat x160) 0)) 0) : Int) != (-1)))] [World.cell? w184 ⟨g9, 0, none⟩ = some (.slice (some ⟨b198, o199, none⟩) (List.length ranks) c6), 0 ≤ (List.getD row (Int.toNat x160) 0) ∧ (List.getD row (Int.toNat x160) 0) < (((List.length ranks) : Nat) : Int), World.cell? w184 ⟨b198, o199 + (Int.toNat (List.getD row (Int.toNat x160) 0)) * 1, none⟩ = some (.int .i64 (List.getD ranks (Int.toNat (List.getD row (Int.toNat x160) 0)) 0))] E (by kernel_rfl) ⟨(H.box 2 rfl).cell (j := 0) rfl, g197, Rds.at1 (H.rd 1 rds_ro) 0 g197⟩ ?_
       clear E; intro a E
       refine wpList_nil ?_
       refine th_n ?_
       refine wp_ret ?_
       have hx_ := Option.some.inj hP
       refine ret1 E rfl rfl ?_
       exact ⟨_, rfl, (), rfl, H.sel [1, 2, 0] rfl, hx_.symm⟩
      ·
       clear H
       rintro v201 w200 a ⟨x196, rfl, H, hx_⟩ E_
       subst hx_
       replace E := E_ _ rfl; clear E_
       refine wpList_nil ?_
       refine th_n ?_
       refine E.cases (t := 16) rfl (fun hb_ E_ => ?_) (fun hb_ E_ => ?_)
       ·
        replace E := E_; clear E_
        have h202 : ¬ (((List.getD ranks (Int.toNat (List.getD row (Int.toNat x160) 0)) 0) : Int) = -1) := bne_iff_ne.1 hb_
        clear hb_; replace hP := ite_f h202 hP
        refine c_true E rfl ?_
        refine wp_seq ?_
        refine wp_region_lit ?_
        refine vr tbok 2 [] [(4, .int .i64 x160)] [] E (by kernel_rfl) trivial ?_
        clear E; intro a E
        refine wpList_nil ?_
        refine th_n ?_
        refine wp_ret ?_
        refine bl_ret ?_
        refine th_ret ?_
        refine th_ret ?_
        refine .inr ⟨rfl, ?_⟩
        refine bl_ret ?_
        refine th_ret ?_
        have hx_ := Option.some.inj hP; subst hx_
        have hP : some (x160) = some x139 := hK183
        have hx_ := Option.some.inj hP
        refine ret1 E rfl rfl ?_
        exact ⟨_, rfl, x160, rfl, H.sel [0, 1, 2] rfl, hx_.symm⟩
       ·
        replace E := E_; clear E_
        have h203 : ((List.getD ranks (Int.toNat (List.getD row (Int.toNat x160) 0)) 0) : Int) = -1 := bne_eq_false_iff_eq.1 hb_
        clear hb_; replace hP := ite_t h203 hP
        refine c_false E rfl ?_
        refine wp_skip ?_
        refine bl_n ?_
        refine th_n ?_
        refine wp_region_lit ?_
        obtain ⟨g204, hP⟩ := ask_inv hP
        refine vr tbok 2 [.int .i64 (x160 + 1)] [(0, .slice (some ⟨b189, o190, none⟩) (List.length row) c2), (1, .func (.func 62) #[] #[.pointer (some ⟨g9, 0, none⟩)]), (7, .int .i64 (((List.length row) : Nat) : Int)), (8, .int .i64 (x160 + 1))] [IntKind.i64.wrap (x160 + 1) = x160 + 1] E (by kernel_rfl) (wrap_in g204) ?_
        clear E; intro a E
        refine wpList_nil ?_
        exact th_n ⟨m180, Nat.lt_succ_self _, x160 + 1, E.pick _ ⟨rfl, rfl, rfl, rfl, trivial⟩, H.sel [2, 0, 1] rfl, hP⟩
     ·
      replace E := E_; clear E_
      have h205 : ¬ (x160 < (((List.length row) : Nat) : Int)) := of_decide_eq_false hb_
      clear hb_; replace hP := ite_f h205 hP
      refine c_false E rfl ?_
      refine wp_exit ?_
      refine th_exit ?_
      have hx_ := Option.some.inj hP
      refine th_exit (.inl ⟨0, rfl, ?_⟩)
      exact ⟨rfl, (), E.pick _ trivial, H.sel [1, 2, 0] rfl, hx_.symm⟩
   ·
    clear E H hL182; intro i_ a w184 hM_
    obtain ⟨rfl, x186, E, H, hx_⟩ := hM_
    subst hx_; have hP := elim_l hK183
    clear hK183
    refine bl_hit ?_
    refine th_n ?_
    refine wp_seq ?_
    refine wp_region_lit ?_
    refine vr tbok 1 [] [(4, .int .i64 (-1))] [] E (by kernel_rfl) trivial ?_
    clear E; intro a E
    refine wpList_nil ?_
    refine th_n ?_
    refine wp_ret ?_
    have hx_ := Option.some.inj hP
    refine ret1 E rfl rfl ?_
    exact ⟨_, rfl, -1, rfl, H.sel [0, 1, 2] rfl, hx_.symm⟩
  ·
   clear H
   rintro v208 w207 a ⟨x141, rfl, H, hx_⟩ E_
   subst hx_
   replace E := E_ _ rfl; clear E_
   refine vr tbok 2 [] [(4, .bool (decide (0 ≤ x139)))] [] E (by kernel_rfl) trivial ?_
   clear E; intro a E
   refine wpList_nil ?_
   refine th_n ?_
   refine wp_ret ?_
   have hx_ := Option.some.inj hP
   refine ret1 E rfl rfl ?_
   exact ⟨_, rfl, decide (0 ≤ x139), rfl, H.sel [0, 1, 2] rfl, hx_.symm⟩
 ·
  clear H
  rintro v210 w209 a ⟨x99, rfl, H, hx_⟩ E_
  subst hx_
  replace E := E_ _ rfl; clear E_
  refine vr tbok 2 [] [(4, .bool (!x97))] [] E (by kernel_rfl) trivial ?_
  clear E; intro a E
  refine wpList_nil ?_
  refine th_n ?_
  refine wp_ret ?_
  obtain rfl := Option.some.inj hP
  refine ret1 E rfl rfl ?_
  exact ⟨_, rfl, rfl, H.sel [] rfl⟩

/-! rejoinder/strat.Of -/
def strat_Of_l2 (N : Nat) (r28 : (List Int) × Int) (r99 : List Int) (r739 : (List (List Int)) × Int) : Nat → (List Int) → Int → Option (List Int)
  | 0, _, _ => none
  | m1079 + 1, reply1036, x1039 =>
    if x1039 < (((List.length r739.1) : Nat) : Int) then
      ask (idx x1039 (List.length r739.1)) <|
      Option.bind (strat_best N (List.getD r739.1 (Int.toNat x1039) []) r28.1) fun r1096 =>
      ask (idx r1096 (List.length r99)) <|
      ask (List.length reply1036 + List.length ([(List.getD r99 (Int.toNat r1096) 0)] : List Int) ≤ 1000000000) <|
      ask (in64 (x1039 + 1)) <|
      strat_Of_l2 N r28 r99 r739 m1079 (reply1036 ++ ([(List.getD r99 (Int.toNat r1096) 0)] : List Int)) (x1039 + 1)
    else
      some reply1036
def strat_Of_f7 (N : Nat) (r28 : (List Int) × Int) (r739 : (List (List Int)) × Int) (x1237 : Int) : Option Bool :=
    Option.bind (strat_lost N (List.getD r739.1 (Int.toNat x1237) []) r28.1) fun r1304 =>
    some r1304
def strat_Of_l6 (N : Nat) (r28 : (List Int) × Int) (r739 : (List (List Int)) × Int) : Nat → Int → Option (Unit ⊕ Int)
  | 0, _ => none
  | m1275 + 1, x1237 =>
    if x1237 < (((List.length r739.1) : Nat) : Int) then
      ask (idx x1237 (List.length r739.1)) <|
      Option.bind (strat_Of_f7 N r28 r739 x1237) fun x1301 =>
      if x1301 = true then
        some (Sum.inr x1237)
      else
        ask (in64 (x1237 + 1)) <|
        strat_Of_l6 N r28 r739 m1275 (x1237 + 1)
    else
      some (Sum.inl ())
def strat_Of_f3 (N : Nat) (r28 : (List Int) × Int) (r739 : (List (List Int)) × Int) : Option Int :=
    Option.bind (strat_Of_l6 N r28 r739 N 0) fun x1276 =>
    Sum.elim (fun x1281 =>
      some (-1))
     (fun x1319 =>
      some x1319) x1276
def strat_Of_j1 (N : Nat) (r28 : (List Int) × Int) (r87 : List Int) (r99 : List Int) (x430 : Int) (r739 : (List (List Int)) × Int) : Option ((List Int) × Int) :=
    if 0 < (List.getD r28.1 (Int.toNat x430) 0) then
      Option.bind (strat_Of_l2 N r28 r99 r739 N [] 0) fun x1080 =>
      some (x1080, 0)
    else
      if (List.getD r28.1 (Int.toNat x430) 0) < 0 then
        Option.bind (strat_Of_f3 N r28 r739) fun x1198 =>
        ask (idx x1198 (List.length r87)) <|
        some ([], (List.getD r87 (Int.toNat x1198) 0))
      else
        some ([], 0)
def strat_Of_l0 (N : Nat) (aProps : Int) (aAccept : List Bool) (aGuard : List Int) (aNodes : List Nd) (s : Int × Int) (r28 : (List Int) × Int) (r87 : List Int) (r99 : List Int) : Nat → (List (List Int)) → (List Int) → Int → Option ((List (List Int)) × (List Int))
  | 0, _, _, _ => none
  | m728 + 1, x423, x427, x430 =>
    if x430 < (((List.length r28.1) : Nat) : Int) then
      ask (idx x430 (List.length r28.1)) <|
      Option.bind (board_Goes N aProps aAccept aGuard aNodes (s.1, s.2) x430) fun r739 =>
      Option.bind (strat_Of_j1 N r28 r87 r99 x430 r739) fun x995 =>
      ask (List.length x423 + List.length ([x995.1] : List (List Int)) ≤ 1000000000) <|
      ask (List.length x427 + List.length ([x995.2] : List Int) ≤ 1000000000) <|
      ask (in64 (x430 + 1)) <|
      strat_Of_l0 N aProps aAccept aGuard aNodes s r28 r87 r99 m728 (x423 ++ ([x995.1] : List (List Int))) (x427 ++ ([x995.2] : List Int)) (x430 + 1)
    else
      some (x423, x427)
def strat_Of (N : Nat) (aProps : Int) (aAccept : List Bool) (aGuard : List Int) (aNodes : List Nd) (s : Int × Int) : Option ((Bool × (List Int) × (List (List Int)) × (List Int)) × Int) :=
  Option.bind (attract_Ranks N aProps aAccept aGuard aNodes (s.1, s.2)) fun r28 =>
  if (r28.2 : Int) = 0 then
    ask (idx (0 : Int) (List.length r28.1)) <|
    Option.bind (board_Moves N s.1) fun r87 =>
    Option.bind (board_Moves N s.2) fun r99 =>
    Option.bind (strat_Of_l0 N aProps aAccept aGuard aNodes s r28 r87 r99 N [] [] 0) fun x729 =>
    some ((decide (0 ≤ (List.getD r28.1 (Int.toNat (0 : Int)) 0)), r28.1, x729.1, x729.2), 0)
  else
    some ((false, [], [], []), r28.2)
set_option maxRecDepth 100000 in
set_option maxHeartbeats 4000000 in
theorem strat_Of_calls {N : Nat} {S Fa : Nat → Prop} {w0 : World} {r : (Bool × (List Int) × (List (List Int)) × (List Int)) × Int} (A1 : Option Addr) (c2 : Nat) (A5 : Option Addr) (c6 : Nat) (A9 : Option Addr) (c10 : Nat) (aProps : Int) (aAccept : List Bool) (aGuard : List Int) (aNodes : List Nd) (s : Int × Int) (hk3 : List.length aAccept ≤ c2) (hk7 : List.length aGuard ≤ c6) (hk11 : List.length aNodes ≤ c10) (H : Hp S Fa w0 w0 [.ro false cBool A1 aAccept, .ro false (cInt .i64) A5 aGuard, .ro false cNode A9 aNodes]) (hP : strat_Of N aProps aAccept aGuard aNodes s = some r) :
    Calls Try.prog 12 #[.agg #[.int .i64 aProps, .slice A1 (List.length aAccept) c2, .slice A5 (List.length aGuard) c6, .slice A9 (List.length aNodes) c10], .agg #[.int .u8 s.1, .int .u8 s.2]] w0 fun e w' => ∃ v, e = .returned v ∧ ∃ (A1359 : Option Addr) (c1360 : Nat) (A1361 : Option Addr) (c1362 : Nat) (A1363 : Option Addr) (c1364 : Nat), v = .tuple #[.agg #[.bool r.1.1, .slice A1359 (List.length r.1.2.1) c1360, .slice A1361 (List.length r.1.2.2.1) c1362, .slice A1363 (List.length r.1.2.2.2) c1364], .int .i64 r.2] ∧ Hp S Fa w0 w' [.row true (cInt .i64) 3 A1359 c1360 r.1.2.1, .row true (cSl (cInt .u8)) 31 A1361 c1362 r.1.2.2.1, .row true (cInt .u8) 27 A1363 c1364 r.1.2.2.2] := by
 refine enterV (n := 97) Try.func12 rfl rfl rfl ?_
 intro a E
 replace E := E.pick [(0, .agg #[.int .i64 aProps, .slice A1 (List.length aAccept) c2, .slice A5 (List.length aGuard) c6, .slice A9 (List.length aNodes) c10]), (1, .agg #[.int .u8 s.1, .int .u8 s.2])] ⟨rfl, rfl, trivial⟩
 rw [strat_Of] at hP
 refine wp_seq ?_
 refine wp_region_lit ?_
 refine h_box H E rfl rfl rfl ?_
 intro w14 g13 a hc15 hg17 H_ E_
 replace E := E_ _ rfl; clear E_
 replace H := H_; clear H_; try dsimp only [setn, addE, goneL] at H
 refine h_box H E rfl rfl rfl ?_
 intro w19 g18 a hc20 hg22 H_ E_
 replace E := E_ _ rfl; clear E_
 replace H := H_; clear H_; try dsimp only [setn, addE, goneL] at H
 refine h_alloc H E rfl rfl tbok rfl ?_
 intro w24 g23 a hc25 hg27 H_ E_
 replace E := E_ _ rfl; clear E_
 replace H := H_; clear H_; try dsimp only [setn, addE, goneL] at H
 refine vr tbok 1 [] [(2, .pointer (some ⟨g13, 0, none⟩)), (3, .pointer (some ⟨g18, 0, none⟩)), (4, .pointer (some ⟨g23, 0, none⟩))] [] E (by kernel_rfl) trivial ?_
 clear E; intro a E
 refine wpList_nil ?_
 refine th_n ?_
 refine wp_seq ?_
 refine wp_region_lit ?_
 refine vr tbok 2 [.agg #[.int .i64 aProps, .slice A1 (List.length aAccept) c2, .slice A5 (List.length aGuard) c6, .slice A9 (List.length aNodes) c10], .agg #[.int .u8 s.1, .int .u8 s.2]] [(2, .pointer (some ⟨g13, 0, none⟩)), (3, .pointer (some ⟨g18, 0, none⟩)), (4, .pointer (some ⟨g23, 0, none⟩)), (20, .agg #[.int .i64 aProps, .slice A1 (List.length aAccept) c2, .slice A5 (List.length aGuard) c6, .slice A9 (List.length aNodes) c10]), (21, .agg #[.int .u8 s.1, .int .u8 s.2])] [cellsAt w24 g13 (0) [.int .i64 aProps, .slice A1 (List.length aAccept) c2, .slice A5 (List.length aGuard) c6, .slice A9 (List.length aNodes) c10], cellsAt w24 g18 (0) [.int .u8 s.1, .int .u8 s.2]] E (by kernel_rfl) ⟨(H.box 3 rfl).sub 0 _ rfl, (H.box 4 rfl).sub 0 _ rfl⟩ ?_
 clear E; intro a E
 obtain ⟨r28, h29, hP⟩ := bind_inv hP
 obtain ⟨Fa30, Hc31, hb32⟩ := H.call [] [(0, false), (1, false), (2, false)] rfl rfl trivial
 refine e_call E rfl rfl Try.func32 rfl rfl rfl (attract_Ranks_calls A1 c2 A5 c6 A9 c10 aProps aAccept aGuard aNodes (s.1, s.2) hk3 hk7 hk11 Hc31 h29) ?_
 rintro v33 w34 a ⟨A37, c38, rfl, HR35⟩ E_
 replace E := E_ _ rfl; clear E_
 obtain ⟨H_, hc36⟩ := hb32 _ _ HR35 rfl
 replace H := H_; clear H_; try dsimp only [setn, addE, goneL] at H
 refine vr tbok 3 [] [(2, .pointer (some ⟨g13, 0, none⟩)), (3, .pointer (some ⟨g18, 0, none⟩)), (4, .pointer (some ⟨g23, 0, none⟩)), (23, .slice A37 (List.length r28.1) c38), (24, .int .i64 r28.2)] [] E (by kernel_rfl) trivial ?_
 clear E; intro a E
 refine h_alloc H E rfl rfl tbok rfl ?_
 intro w41 g40 a hc42 hg44 H_ E_
 replace E := E_ _ rfl; clear E_
 replace H := H_; clear H_; try dsimp only [setn, addE, goneL] at H
 refine h_store (g := g40) (off := 0) H 7 rfl E rfl rfl rfl rfl tbok rfl rfl rfl rfl rfl ?_
 clear E; intro w45 a hc46 H_ E
 replace H := H_; clear H_; try dsimp only [setn, addE, goneL] at H
 refine vr tbok 1 [] [(2, .pointer (some ⟨g13, 0, none⟩)), (3, .pointer (some ⟨g18, 0, none⟩)), (4, .pointer (some ⟨g23, 0, none⟩)), (6, .pointer (some ⟨g40, 0, none⟩)), (7, .int .i64 r28.2)] [] E (by kernel_rfl) trivial ?_
 clear E; intro a E
 refine wpList_nil ?_
 refine th_n ?_
 refine wp_seq ?_
 refine wp_seq ?_
 refine wp_region_lit ?_
 refine vr tbok 2 [] [(2, .pointer (some ⟨g13, 0, none⟩)), (3, .pointer (some ⟨g18, 0, none⟩)), (4, .pointer (some ⟨g23, 0, none⟩)), (6, .pointer (some ⟨g40, 0, none⟩)), (7, .int .i64 r28.2), (26, .bool ((r28.2 : Int) != 0))] [] E (by kernel_rfl) trivial ?_
 clear E; intro a E
 refine wpList_nil ?_
 refine th_n ?_
 refine E.cases (t := 26) rfl (fun hb_ E_ => ?_) (fun hb_ E_ => ?_)
 ·
  replace E := E_; clear E_
  have h47 : ¬ ((r28.2 : Int) = 0) := bne_iff_ne.1 hb_
  clear hb_; replace hP := ite_f h47 hP
  refine c_true E rfl ?_
  refine wp_seq ?_
  refine wp_region_lit ?_
  refine e_build (ps := []) (v := .agg #[.bool false, .slice none 0 0, .slice none 0 0, .slice none 0 0]) E rfl rfl tbok rfl (by kernel_rfl) rfl ?_
  clear E; intro a E
  refine vr tbok 1 [] [(4, .pointer (some ⟨g23, 0, none⟩)), (27, .agg #[.bool false, .slice none 0 0, .slice none 0 0, .slice none 0 0]), (28, .int .i64 r28.2)] [] E (by kernel_rfl) trivial ?_
  clear E; intro a E
  refine h_store (g := g23) (off := 0) H 5 rfl E rfl rfl rfl rfl tbok rfl rfl rfl rfl rfl ?_
  clear E; intro w48 a hc49 H_ E
  replace H := H_; clear H_; try dsimp only [setn, addE, goneL] at H
  refine vr tbok 1 [] [(4, .pointer (some ⟨g23, 0, none⟩)), (5, .int .i64 r28.2)] [] E (by kernel_rfl) trivial ?_
  clear E; intro a E
  refine wpList_nil ?_
  refine th_n ?_
  refine wp_ret ?_
  refine th_ret ?_
  replace H := H.nilrow (cInt .i64) 3; try dsimp only [setn, addE, goneL] at H
  replace H := H.nilrow (cSl (cInt .u8)) 31; try dsimp only [setn, addE, goneL] at H
  replace H := H.nilrow (cInt .u8) 27; try dsimp only [setn, addE, goneL] at H
  obtain rfl := Option.some.inj hP
  refine retV E [.cell 4 33, .tmp 5] [.agg #[.bool false, .slice none 0 0, .slice none 0 0, .slice none 0 0], .int .i64 r28.2] rfl ⟨⟨_, rfl, run_loadBx tbok (H.box 5 rfl) rfl rfl rfl 0 rfl rfl⟩, rfl, trivial⟩ (.inl rfl) ?_
  exact ⟨_, rfl, none, 0, none, 0, none, 0, rfl, H.sel [8, 9, 10] rfl⟩
 ·
  replace E := E_; clear E_
  have h53 : (r28.2 : Int) = 0 := bne_eq_false_iff_eq.1 hb_
  clear hb_; replace hP := ite_t h53 hP
  refine c_false E rfl ?_
  refine wp_skip ?_
  refine th_n ?_
  refine wp_seq ?_
  obtain ⟨g54, hP⟩ := ask_inv hP
  obtain ⟨b55, e_b55⟩ := H.raddr 6 rfl (idx_pos g54)
  subst e_b55
  refine meet_cut (fun a w66 => ∃ (g65 : Nat), Fr a 97 [(2, .pointer (some ⟨g13, 0, none⟩)), (3, .pointer (some ⟨g18, 0, none⟩)), (4, .pointer (some ⟨g23, 0, none⟩)), (6, .pointer (some ⟨g40, 0, none⟩)), (8, .pointer (some ⟨g65, 0, none⟩))] ∧ Hp S Fa w0 w66 [.ro false cBool A1 aAccept, .ro false (cInt .i64) A5 aGuard, .ro false cNode A9 aNodes, .box g13 26 [.int .i64 aProps, .slice A1 (List.length aAccept) c2, .slice A5 (List.length aGuard) c6, .slice A9 (List.length aNodes) c10], .box g18 29 [.int .u8 s.1, .int .u8 s.2], .box g23 33 [.bool false, .slice none 0 0, .slice none 0 0, .slice none 0 0], .row true (cInt .i64) 3 (some ⟨b55, 0, none⟩) c38 r28.1, .box g40 23 [.slice (some ⟨b55, 0, none⟩) (List.length r28.1) c38], .box g65 33 [.bool (decide (0 ≤ (List.getD r28.1 (Int.toNat (0 : Int)) 0))), .slice (some ⟨b55, 0, none⟩) (List.length r28.1) c38, .slice none 0 0, .slice none 0 0]]) ?_ ?_
  ·
   have HR70 := H
   refine dr_start (S := fun w_ => Chg (atL []) w45 w_) (by kernel_rfl) ?_
   intro w67 hc68
   have HS69 : Chg (atL []) w45 w67 := hc68.mono (fun _ _ h_ => h_.elim)
   replace H := H.ext hc68
   refine dr tbok (by kernel_rfl) [0, 1, 2, 3, 4] [.slice (some ⟨b55, 0, none⟩) (List.length r28.1) c38, .int .i64 (List.getD r28.1 (Int.toNat (0 : Int)) 0), .slice (some ⟨b55, 0, none⟩) (List.length r28.1) c38] [(2, .pointer (some ⟨g13, 0, none⟩)), (3, .pointer (some ⟨g18, 0, none⟩)), (4, .pointer (some ⟨g23, 0, none⟩)), (6, .pointer (some ⟨g40, 0, none⟩)), (32, .bool (decide (0 ≤ (List.getD r28.1 (Int.toNat (0 : Int)) 0)))), (33, .slice (some ⟨b55, 0, none⟩) (List.length r28.1) c38)] (fun w_ => [World.cell? w_ ⟨g40, 0, none⟩ = some (.slice (some ⟨b55, 0, none⟩) (List.length r28.1) c38), 0 ≤ (0 : Int) ∧ (0 : Int) < (((List.length r28.1) : Nat) : Int), World.cell? w_ ⟨b55, 0 + (Int.toNat (0 : Int)) * 1, none⟩ = some (.int .i64 (List.getD r28.1 (Int.toNat (0 : Int)) 0)), World.cell? w_ ⟨g40, 0, none⟩ = some (.slice (some ⟨b55, 0, none⟩) (List.length r28.1) c38)]) 3 E (fun _ _ => by kernel_rfl) (fun w_ hS_ => ⟨(HR70.boxk [] hS_ 7 rfl rfl).cell (j := 0) rfl, g54, Rds.at1 (HR70.rdk [] hS_ 6 rds_row rfl) 0 g54, (HR70.boxk [] hS_ 7 rfl rfl).cell (j := 0) rfl⟩) (by kernel_rfl) HS69 ?_
   clear E; intro a E
   refine wpAnyH_all (rs := [5, 6]) (by kernel_rfl) (by simp) ?_
   refine all2 ?_ ?_
   ·
    refine wpOp_of_list rfl ?_
    refine e_build (ps := [(0, .bool (decide (0 ≤ (List.getD r28.1 (Int.toNat (0 : Int)) 0)))), (1, .slice (some ⟨b55, 0, none⟩) (List.length r28.1) c38)]) (v := .agg #[.bool (decide (0 ≤ (List.getD r28.1 (Int.toNat (0 : Int)) 0))), .slice (some ⟨b55, 0, none⟩) (List.length r28.1) c38, .slice none 0 0, .slice none 0 0]) E rfl rfl tbok rfl (by kernel_rfl) rfl ?_
    clear E; intro a E
    refine wpList_nil ?_
    refine th_n ⟨HS69, ?_⟩
    refine wpAnyH_all (rs := [6]) (by kernel_rfl) (by simp) ?_
    refine all1 ?_
    ·
     refine wpOp_of_list rfl ?_
     refine h_alloc H E rfl rfl tbok rfl ?_
     intro w72 g71 a hc73 hg75 H_ E_
     replace E := E_ _ rfl; clear E_
     have hin76 : ∀ q_, q_ < w45.heap.size → q_ = g71 → (atL []) q_ := fun q_ h1_ h2_ => by have hs_ := HS69.size; have h4_ : q_ = g71 := h2_; exfalso; omega
     replace HS69 := HS69.ext hc73
     replace H := H_; clear H_; try dsimp only [setn, addE, goneL] at H
     refine wpList_nil ?_
     refine th_n ⟨HS69, ?_⟩
     refine wpAnyH_all (rs := [7]) (by kernel_rfl) (by simp) ?_
     refine all1 ?_
     ·
      refine wpOp_of_list rfl ?_
      refine h_store (g := g71) (off := 0) H 8 rfl E rfl rfl rfl rfl tbok rfl rfl rfl rfl rfl ?_
      clear E; intro w77 a hc78 H_ E
      replace HS69 := HS69.trans hc78 (fun k_ hk_ h_ => hin76 k_ hk_ h_)
      replace H := H_; clear H_; try dsimp only [setn, addE, goneL] at H
      refine wpList_nil ?_
      refine th_n ⟨HS69, ?_⟩
      refine dr_done (by kernel_rfl) ?_
      exact .inl ⟨rfl, g71, E.pick _ ⟨rfl, rfl, rfl, rfl, rfl, trivial⟩, H.sel [0, 1, 2, 3, 4, 5, 6, 7, 8] rfl⟩
   ·
    refine wpOp_of_list rfl ?_
    refine h_alloc H E rfl rfl tbok rfl ?_
    intro w80 g79 a hc81 hg83 H_ E_
    replace E := E_ _ rfl; clear E_
    have hin84 : ∀ q_, q_ < w45.heap.size → q_ = g79 → (atL []) q_ := fun q_ h1_ h2_ => by have hs_ := HS69.size; have h4_ : q_ = g79 := h2_; exfalso; omega
    replace HS69 := HS69.ext hc81
    replace H := H_; clear H_; try dsimp only [setn, addE, goneL] at H
    refine wpList_nil ?_
    refine th_n ⟨HS69, ?_⟩
    refine wpAnyH_all (rs := [5]) (by kernel_rfl) (by simp) ?_
    refine all1 ?_
    ·
     refine wpOp_of_list rfl ?_
     refine e_build (ps := [(0, .bool (decide (0 ≤ (List.getD r28.1 (Int.toNat (0 : Int)) 0)))), (1, .slice (some ⟨b55, 0, none⟩) (List.length r28.1) c38)]) (v := .agg #[.bool (decide (0 ≤ (List.getD r28.1 (Int.toNat (0 : Int)) 0))), .slice (some ⟨b55, 0, none⟩) (List.length r28.1) c38, .slice none 0 0, .slice none 0 0]) E rfl rfl tbok rfl (by kernel_rfl) rfl ?_
     clear E; intro a E
     refine wpList_nil ?_
     refine th_n ⟨HS69, ?_⟩
     refine wpAnyH_all (rs := [7]) (by kernel_rfl) (by simp) ?_
     refine all1 ?_
     ·
      refine wpOp_of_list rfl ?_
      refine h_store (g := g79) (off := 0) H 8 rfl E rfl rfl rfl rfl tbok rfl rfl rfl rfl rfl ?_
      clear E; intro w85 a hc86 H_ E
      replace HS69 := HS69.trans hc86 (fun k_ hk_ h_ => hin84 k_ hk_ h_)
      replace H := H_; clear H_; try dsimp only [setn, addE, goneL] at H
      refine wpList_nil ?_
      refine th_n ⟨HS69, ?_⟩
      refine dr_done (by kernel_rfl) ?_
      exact .inl ⟨rfl, g79, E.pick _ ⟨rfl, rfl, rfl, rfl, rfl, trivial⟩, H.sel [0, 1, 2, 3, 4, 5, 6, 7, 8] rfl⟩
  ·
   clear E H; rintro a w66 ⟨g65, E, H⟩
   refine th_n ?_
   refine wp_seq ?_
   obtain ⟨r87, h88, hP⟩ := bind_inv hP
   obtain ⟨r99, h100, hP⟩ := bind_inv hP
   have HR114 := H
   refine dr_start (S := fun w_ => Chg (atL []) w66 w_) (by kernel_rfl) ?_
   intro w111 hc112
   have HS113 : Chg (atL []) w66 w111 := hc112.mono (fun _ _ h_ => h_.elim)
   replace H := H.ext hc112
   refine dr tbok (by kernel_rfl) [0, 1, 3, 4] [.int .u8 s.1, .int .u8 s.2] [(2, .pointer (some ⟨g13, 0, none⟩)), (3, .pointer (some ⟨g18, 0, none⟩)), (4, .pointer (some ⟨g23, 0, none⟩)), (6, .pointer (some ⟨g40, 0, none⟩)), (8, .pointer (some ⟨g65, 0, none⟩)), (36, .int .u8 s.1), (39, .int .u8 s.2)] (fun w_ => [World.cell? w_ ⟨g18, 0, none⟩ = some (.int .u8 s.1), World.cell? w_ ⟨g18, 1, none⟩ = some (.int .u8 s.2)]) 4 E (fun _ _ => by kernel_rfl) (fun w_ hS_ => ⟨(HR114.boxk [] hS_ 4 rfl rfl).cell (j := 0) rfl, (HR114.boxk [] hS_ 4 rfl rfl).cell (j := 1) rfl⟩) (by kernel_rfl) HS113 ?_
   clear E; intro a E
   refine wpAnyH_all (rs := [2]) (by kernel_rfl) (by simp) ?_
   refine all1 ?_
   ·
    refine wpOp_of_list rfl ?_
    obtain ⟨Fa115, Hc116, hb117⟩ := H.call [] [] rfl rfl trivial
    refine e_call E rfl rfl Try.func33 rfl rfl rfl (board_Moves_calls  s.1  Hc116 h88) ?_
    rintro v118 w119 a ⟨A122, c123, rfl, HR120⟩ E_
    replace E := E_ _ rfl; clear E_
    obtain ⟨H_, hc121⟩ := hb117 _ _ HR120 rfl
    replace HS113 := HS113.ext (callS_ext hc121)
    replace H := H_; clear H_; try dsimp only [setn, addE, goneL] at H
    refine wpList_nil ?_
    refine th_n ⟨HS113, ?_⟩
    refine wpAnyH_all (rs := [5]) (by kernel_rfl) (by simp) ?_
    refine all1 ?_
    ·
     refine wpOp_of_list rfl ?_
     obtain ⟨Fa125, Hc126, hb127⟩ := H.call [] [] rfl rfl trivial
     refine e_call E rfl rfl Try.func33 rfl rfl rfl (board_Moves_calls  s.2  Hc126 h100) ?_
     rintro v128 w129 a ⟨A132, c133, rfl, HR130⟩ E_
     replace E := E_ _ rfl; clear E_
     obtain ⟨H_, hc131⟩ := hb127 _ _ HR130 rfl
     replace HS113 := HS113.ext (callS_ext hc131)
     replace H := H_; clear H_; try dsimp only [setn, addE, goneL] at H
     refine wpList_nil ?_
     refine th_n ⟨HS113, ?_⟩
     refine dr tbok (by kernel_rfl) [6, 7] [] [(2, .pointer (some ⟨g13, 0, none⟩)), (3, .pointer (some ⟨g18, 0, none⟩)), (4, .pointer (some ⟨g23, 0, none⟩)), (6, .pointer (some ⟨g40, 0, none⟩)), (8, .pointer (some ⟨g65, 0, none⟩)), (9, .slice A122 (List.length r87) c123), (10, .slice A132 (List.length r99) c133)] (fun w_ => []) 0 E (fun _ _ => by kernel_rfl) (fun w_ hS_ => trivial) (by kernel_rfl) HS113 ?_
     clear E; intro a E
     refine dr_done (by kernel_rfl) ?_
     clear HS113 HR114
     refine th_n ?_
     refine wp_seq ?_
     refine wp_seq ?_
     refine wp_region_lit ?_
     refine vr tbok 3 [.slice (some ⟨b55, 0, none⟩) (List.length r28.1) c38] [(2, .pointer (some ⟨g13, 0, none⟩)), (3, .pointer (some ⟨g18, 0, none⟩)), (4, .pointer (some ⟨g23, 0, none⟩)), (6, .pointer (some ⟨g40, 0, none⟩)), (8, .pointer (some ⟨g65, 0, none⟩)), (9, .slice A122 (List.length r87) c123), (10, .slice A132 (List.length r99) c133), (41, .slice (some ⟨b55, 0, none⟩) (List.length r28.1) c38), (42, .int .i64 (((List.length r28.1) : Nat) : Int)), (43, .int .i64 0)] [World.cell? w129 ⟨g40, 0, none⟩ = some (.slice (some ⟨b55, 0, none⟩) (List.length r28.1) c38)] E (by kernel_rfl) ((H.box 7 rfl).cell (j := 0) rfl) ?_
     clear E; intro a E
     refine wpList_nil ?_
     refine th_n ?_
     refine wp_block ?_
     obtain ⟨x729, hL730, hK731⟩ := bind_inv hP
     clear hP
     replace H := H.nilrow (cSl (cInt .u8)) 31; try dsimp only [setn, addE, goneL] at H
     replace H := H.nilrow (cInt .u8) 27; try dsimp only [setn, addE, goneL] at H
     refine loop_cut (fun i_ a w_ => (i_ = 0 ∧ ∃ (x736 : (List (List Int)) × (List Int)), ∃ (A722 : Option Addr) (c723 : Nat) (A726 : Option Addr) (c727 : Nat), Fr a 97 [(4, .pointer (some ⟨g23, 0, none⟩)), (8, .pointer (some ⟨g65, 0, none⟩))] ∧ Hp S Fa w0 w_ [.box g23 33 [.bool false, .slice none 0 0, .slice none 0 0, .slice none 0 0], .box g65 33 [.bool (decide (0 ≤ (List.getD r28.1 (Int.toNat (0 : Int)) 0))), .slice (some ⟨b55, 0, none⟩) (List.length r28.1) c38, .slice A722 (List.length x736.1) c723, .slice A726 (List.length x736.2) c727], .row true (cInt .i64) 3 (some ⟨b55, 0, none⟩) c38 r28.1, .row true (cSl (cInt .u8)) 31 A722 c723 x736.1, .row true (cInt .u8) 27 A726 c727 x736.2] ∧ x729 = x736)) ?_ ?_
     ·
      refine loopV (fun m735 a w734 => ∃ (x423 : List (List Int)) (x427 : List Int) (x430 : Int), ∃ (A424 : Option Addr) (c425 : Nat) (A428 : Option Addr) (c429 : Nat), Fr a 97 [(2, .pointer (some ⟨g13, 0, none⟩)), (3, .pointer (some ⟨g18, 0, none⟩)), (4, .pointer (some ⟨g23, 0, none⟩)), (6, .pointer (some ⟨g40, 0, none⟩)), (8, .pointer (some ⟨g65, 0, none⟩)), (9, .slice A122 (List.length r87) c123), (10, .slice A132 (List.length r99) c133), (41, .slice (some ⟨b55, 0, none⟩) (List.length r28.1) c38), (42, .int .i64 (((List.length r28.1) : Nat) : Int)), (43, .int .i64 x430)] ∧ Hp S Fa w0 w734 [.ro false cBool A1 aAccept, .ro false (cInt .i64) A5 aGuard, .ro false cNode A9 aNodes, .box g13 26 [.int .i64 aProps, .slice A1 (List.length aAccept) c2, .slice A5 (List.length aGuard) c6, .slice A9 (List.length aNodes) c10], .box g18 29 [.int .u8 s.1, .int .u8 s.2], .box g23 33 [.bool false, .slice none 0 0, .slice none 0 0, .slice none 0 0], .row true (cInt .i64) 3 (some ⟨b55, 0, none⟩) c38 r28.1, .box g40 23 [.slice (some ⟨b55, 0, none⟩) (List.length r28.1) c38], .box g65 33 [.bool (decide (0 ≤ (List.getD r28.1 (Int.toNat (0 : Int)) 0))), .slice (some ⟨b55, 0, none⟩) (List.length r28.1) c38, .slice A424 (List.length x423) c425, .slice A428 (List.length x427) c429], .row true (cSl (cInt .u8)) 31 A424 c425 x423, .row true (cInt .u8) 27 A428 c429 x427, .row true (cInt .u8) 27 A122 c123 r87, .row true (cInt .u8) 27 A132 c133 r99] ∧ strat_Of_l0 N aProps aAccept aGuard aNodes s r28 r87 r99 m735 x423 x427 x430 = some x729) N ?_ ?_
      ·
       exact ⟨[], [], 0, none, 0, none, 0, E.pick _ ⟨rfl, rfl, rfl, rfl, rfl, rfl, rfl, rfl, rfl, rfl, trivial⟩, H.sel [0, 1, 2, 3, 4, 5, 6, 7, 8, 11, 12, 9, 10] rfl, hL730⟩
      ·
       clear E H hL730; intro m735 a w734 hI_
       obtain ⟨x423, x427, x430, A424, c425, A428, c429, E, H, hP⟩ := hI_
       obtain ⟨m728, rfl⟩ : ∃ q_, m735 = q_ + 1 := by cases m735 with | zero => rw [strat_Of_l0] at hP; cases hP | succ q_ => exact ⟨q_, rfl⟩
       rw [strat_Of_l0] at hP
       refine wp_seq ?_
       refine wp_region_lit ?_
       refine vr tbok 1 [] [(2, .pointer (some ⟨g13, 0, none⟩)), (3, .pointer (some ⟨g18, 0, none⟩)), (4, .pointer (some ⟨g23, 0, none⟩)), (6, .pointer (some ⟨g40, 0, none⟩)), (8, .pointer (some ⟨g65, 0, none⟩)), (9, .slice A122 (List.length r87) c123), (10, .slice A132 (List.length r99) c133), (41, .slice (some ⟨b55, 0, none⟩) (List.length r28.1) c38), (42, .int .i64 (((List.length r28.1) : Nat) : Int)), (43, .int .i64 x430), (44, .bool (decide (x430 < (((List.length r28.1) : Nat) : Int))))] [] E (by kernel_rfl) trivial ?_
       clear E; intro a E
       refine wpList_nil ?_
       refine th_n ?_
       refine wp_seq ?_
       refine E.cases (t := 44) rfl (fun hb_ E_ => ?_) (fun hb_ E_ => ?_)
       ·
        replace E := E_; clear E_
        have h737 : x430 < (((List.length r28.1) : Nat) : Int) := of_decide_eq_true hb_
        clear hb_; replace hP := ite_t h737 hP
        refine c_true E rfl ?_
        refine wp_skip ?_
        refine th_n ?_
        refine wp_seq ?_
        refine wp_block ?_
        refine wp_seq ?_
        refine wp_region_lit ?_
        obtain ⟨g738, hP⟩ := ask_inv hP
        refine vr tbok 5 [.int .i64 (List.getD r28.1 (Int.toNat x430) 0)] [(2, .pointer (some ⟨g13, 0, none⟩)), (3, .pointer (some ⟨g18, 0, none⟩)), (4, .pointer (some ⟨g23, 0, none⟩)), (6, .pointer (some ⟨g40, 0, none⟩)), (8, .pointer (some ⟨g65, 0, none⟩)), (9, .slice A122 (List.length r87) c123), (10, .slice A132 (List.length r99) c133), (11, .int .i64 x430), (12, .int .i64 (List.getD r28.1 (Int.toNat x430) 0)), (41, .slice (some ⟨b55, 0, none⟩) (List.length r28.1) c38), (42, .int .i64 (((List.length r28.1) : Nat) : Int)), (43, .int .i64 x430)] [0 ≤ x430 ∧ x430 < (((List.length r28.1) : Nat) : Int), World.cell? w734 ⟨b55, 0 + (Int.toNat x430) * 1, none⟩ = some (.int .i64 (List.getD r28.1 (Int.toNat x430) 0))] E (by kernel_rfl) ⟨g738, Rds.at1 (H.rd 6 rds_row) 0 g738⟩ ?_
        clear E; intro a E
        refine wpList_nil ?_
        refine th_n ?_
        refine wp_seq ?_
        refine wp_region_lit ?_
        refine vr tbok 3 [.agg #[.int .i64 aProps, .slice A1 (List.length aAccept) c2, .slice A5 (List.length aGuard) c6, .slice A9 (List.length aNodes) c10], .agg #[.int .u8 s.1, .int .u8 s.2]] [(2, .pointer (some ⟨g13, 0, none⟩)), (3, .pointer (some ⟨g18, 0, none⟩)), (4, .pointer (some ⟨g23, 0, none⟩)), (6, .pointer (some ⟨g40, 0, none⟩)), (8, .pointer (some ⟨g65, 0, none⟩)), (9, .slice A122 (List.length r87) c123), (10, .slice A132 (List.length r99) c133), (12, .int .i64 (List.getD r28.1 (Int.toNat x430) 0)), (41, .slice (some ⟨b55, 0, none⟩) (List.length r28.1) c38), (42, .int .i64 (((List.length r28.1) : Nat) : Int)), (43, .int .i64 x430), (49, .agg #[.int .i64 aProps, .slice A1 (List.length aAccept) c2, .slice A5 (List.length aGuard) c6, .slice A9 (List.length aNodes) c10]), (50, .agg #[.int .u8 s.1, .int .u8 s.2]), (51, .int .i64 x430)] [cellsAt w734 g13 (0) [.int .i64 aProps, .slice A1 (List.length aAccept) c2, .slice A5 (List.length aGuard) c6, .slice A9 (List.length aNodes) c10], cellsAt w734 g18 (0) [.int .u8 s.1, .int .u8 s.2]] E (by kernel_rfl) ⟨(H.box 3 rfl).sub 0 _ rfl, (H.box 4 rfl).sub 0 _ rfl⟩ ?_
        clear E; intro a E
        obtain ⟨r739, h740, hP⟩ := bind_inv hP
        obtain ⟨Fa741, Hc742, hb743⟩ := H.call [] [(0, false), (1, false), (2, false)] rfl rfl trivial
        refine e_call E rfl rfl Try.func34 rfl rfl rfl (board_Goes_calls A1 c2 A5 c6 A9 c10 aProps aAccept aGuard aNodes (s.1, s.2) x430 hk3 hk7 hk11 Hc742 h740) ?_
        rintro v744 w745 a ⟨A748, c749, rfl, HR746⟩ E_
        replace E := E_ _ rfl; clear E_
        obtain ⟨H_, hc747⟩ := hb743 _ _ HR746 rfl
        replace H := H_; clear H_; try dsimp only [setn, addE, goneL] at H
        refine vr tbok 5 [] [(2, .pointer (some ⟨g13, 0, none⟩)), (3, .pointer (some ⟨g18, 0, none⟩)), (4, .pointer (some ⟨g23, 0, none⟩)), (6, .pointer (some ⟨g40, 0, none⟩)), (8, .pointer (some ⟨g65, 0, none⟩)), (9, .slice A122 (List.length r87) c123), (10, .slice A132 (List.length r99) c133), (12, .int .i64 (List.getD r28.1 (Int.toNat x430) 0)), (13, .slice A748 (List.length r739.1) c749), (41, .slice (some ⟨b55, 0, none⟩) (List.length r28.1) c38), (42, .int .i64 (((List.length r28.1) : Nat) : Int)), (43, .int .i64 x430)] [] E (by kernel_rfl) trivial ?_
        clear E; intro a E
        refine wpList_nil ?_
        refine th_n ?_
        refine wp_seq ?_
        refine wp_region_lit ?_
        refine vr tbok 1 [] [(2, .pointer (some ⟨g13, 0, none⟩)), (3, .pointer (some ⟨g18, 0, none⟩)), (4, .pointer (some ⟨g23, 0, none⟩)), (6, .pointer (some ⟨g40, 0, none⟩)), (8, .pointer (some ⟨g65, 0, none⟩)), (9, .slice A122 (List.length r87) c123), (10, .slice A132 (List.length r99) c133), (12, .int .i64 (List.getD r28.1 (Int.toNat x430) 0)), (13, .slice A748 (List.length r739.1) c749), (15, .slice none 0 0), (41, .slice (some ⟨b55, 0, none⟩) (List.length r28.1) c38), (42, .int .i64 (((List.length r28.1) : Nat) : Int)), (43, .int .i64 x430)] [] E (by kernel_rfl) trivial ?_
        clear E; intro a E
        refine wpList_nil ?_
        refine th_n ?_
        refine wp_seq ?_
        refine wp_region_lit ?_
        refine vr tbok 1 [] [(2, .pointer (some ⟨g13, 0, none⟩)), (3, .pointer (some ⟨g18, 0, none⟩)), (4, .pointer (some ⟨g23, 0, none⟩)), (6, .pointer (some ⟨g40, 0, none⟩)), (8, .pointer (some ⟨g65, 0, none⟩)), (9, .slice A122 (List.length r87) c123), (10, .slice A132 (List.length r99) c133), (12, .int .i64 (List.getD r28.1 (Int.toNat x430) 0)), (13, .slice A748 (List.length r739.1) c749), (15, .slice none 0 0), (16, .int .u8 0), (41, .slice (some ⟨b55, 0, none⟩) (List.length r28.1) c38), (42, .int .i64 (((List.length r28.1) : Nat) : Int)), (43, .int .i64 x430)] [] E (by kernel_rfl) trivial ?_
        clear E; intro a E
        refine wpList_nil ?_
        refine th_n ?_
        refine wp_seq ?_
        refine wp_block ?_
        refine wp_seq ?_
        refine wp_region_lit ?_
        refine vr tbok 3 [] [(2, .pointer (some ⟨g13, 0, none⟩)), (3, .pointer (some ⟨g18, 0, none⟩)), (4, .pointer (some ⟨g23, 0, none⟩)), (6, .pointer (some ⟨g40, 0, none⟩)), (8, .pointer (some ⟨g65, 0, none⟩)), (9, .slice A122 (List.length r87) c123), (10, .slice A132 (List.length r99) c133), (12, .int .i64 (List.getD r28.1 (Int.toNat x430) 0)), (13, .slice A748 (List.length r739.1) c749), (15, .slice none 0 0), (16, .int .u8 0), (41, .slice (some ⟨b55, 0, none⟩) (List.length r28.1) c38), (42, .int .i64 (((List.length r28.1) : Nat) : Int)), (43, .int .i64 x430), (55, .bool (decide (0 < (List.getD r28.1 (Int.toNat x430) 0))))] [] E (by kernel_rfl) trivial ?_
        clear E; intro a E
        refine wpList_nil ?_
        refine th_n ?_
        obtain ⟨x995, h996, hK997⟩ := bind_inv hP
        clear hP
        refine meet_cut (fun a w999 => ∃ (x998 : (List Int) × Int), ∃ (A992 : Option Addr) (c993 : Nat), Fr a 97 [(2, .pointer (some ⟨g13, 0, none⟩)), (3, .pointer (some ⟨g18, 0, none⟩)), (4, .pointer (some ⟨g23, 0, none⟩)), (6, .pointer (some ⟨g40, 0, none⟩)), (8, .pointer (some ⟨g65, 0, none⟩)), (9, .slice A122 (List.length r87) c123), (10, .slice A132 (List.length r99) c133), (15, .slice A992 (List.length x998.1) c993), (16, .int .u8 x998.2), (41, .slice (some ⟨b55, 0, none⟩) (List.length r28.1) c38), (42, .int .i64 (((List.length r28.1) : Nat) : Int)), (43, .int .i64 x430)] ∧ Hp S Fa w0 w999 [.ro false cBool A1 aAccept, .ro false (cInt .i64) A5 aGuard, .ro false cNode A9 aNodes, .box g13 26 [.int .i64 aProps, .slice A1 (List.length aAccept) c2, .slice A5 (List.length aGuard) c6, .slice A9 (List.length aNodes) c10], .box g18 29 [.int .u8 s.1, .int .u8 s.2], .box g23 33 [.bool false, .slice none 0 0, .slice none 0 0, .slice none 0 0], .row true (cInt .i64) 3 (some ⟨b55, 0, none⟩) c38 r28.1, .box g40 23 [.slice (some ⟨b55, 0, none⟩) (List.length r28.1) c38], .row true (cSl (cInt .u8)) 31 A424 c425 x423, .row true (cInt .u8) 27 A428 c429 x427, .box g65 33 [.bool (decide (0 ≤ (List.getD r28.1 (Int.toNat (0 : Int)) 0))), .slice (some ⟨b55, 0, none⟩) (List.length r28.1) c38, .slice A424 (List.length x423) c425, .slice A428 (List.length x427) c429], .row true (cInt .u8) 27 A122 c123 r87, .row true (cInt .u8) 27 A132 c133 r99, .row true (cInt .u8) 27 A992 c993 x998.1] ∧ x995 = x998) ?_ ?_
        ·
         have hP := h996; clear h996; rw [strat_Of_j1] at hP
         refine E.cases (t := 55) rfl (fun hb_ E_ => ?_) (fun hb_ E_ => ?_)
         ·
          replace E := E_; clear E_
          have h1000 : 0 < (List.getD r28.1 (Int.toNat x430) 0) := of_decide_eq_true hb_
          clear hb_; replace hP := ite_t h1000 hP
          refine c_true E rfl ?_
          refine wp_seq ?_
          refine wp_region_lit ?_
          refine vr tbok 3 [] [(2, .pointer (some ⟨g13, 0, none⟩)), (3, .pointer (some ⟨g18, 0, none⟩)), (4, .pointer (some ⟨g23, 0, none⟩)), (6, .pointer (some ⟨g40, 0, none⟩)), (8, .pointer (some ⟨g65, 0, none⟩)), (9, .slice A122 (List.length r87) c123), (10, .slice A132 (List.length r99) c133), (15, .slice none 0 0), (16, .int .u8 0), (41, .slice (some ⟨b55, 0, none⟩) (List.length r28.1) c38), (42, .int .i64 (((List.length r28.1) : Nat) : Int)), (43, .int .i64 x430), (58, .slice A748 (List.length r739.1) c749), (59, .int .i64 (((List.length r739.1) : Nat) : Int)), (60, .int .i64 0)] [] E (by kernel_rfl) trivial ?_
          clear E; intro a E
          refine wpList_nil ?_
          refine th_n ?_
          refine wp_block ?_
          obtain ⟨x1080, hL1081, hK1082⟩ := bind_inv hP
          clear hP
          replace H := H.nilrow (cInt .u8) 27; try dsimp only [setn, addE, goneL] at H
          refine loop_cut (fun i_ a w_ => (i_ = 3 ∧ ∃ (x1086 : List Int), ∃ (A1077 : Option Addr) (c1078 : Nat), Fr a 97 [(2, .pointer (some ⟨g13, 0, none⟩)), (3, .pointer (some ⟨g18, 0, none⟩)), (4, .pointer (some ⟨g23, 0, none⟩)), (6, .pointer (some ⟨g40, 0, none⟩)), (8, .pointer (some ⟨g65, 0, none⟩)), (9, .slice A122 (List.length r87) c123), (10, .slice A132 (List.length r99) c133), (15, .slice A1077 (List.length x1086) c1078), (16, .int .u8 0), (41, .slice (some ⟨b55, 0, none⟩) (List.length r28.1) c38), (42, .int .i64 (((List.length r28.1) : Nat) : Int)), (43, .int .i64 x430)] ∧ Hp S Fa w0 w_ [.ro false cBool A1 aAccept, .ro false (cInt .i64) A5 aGuard, .ro false cNode A9 aNodes, .box g13 26 [.int .i64 aProps, .slice A1 (List.length aAccept) c2, .slice A5 (List.length aGuard) c6, .slice A9 (List.length aNodes) c10], .box g18 29 [.int .u8 s.1, .int .u8 s.2], .box g23 33 [.bool false, .slice none 0 0, .slice none 0 0, .slice none 0 0], .row true (cInt .i64) 3 (some ⟨b55, 0, none⟩) c38 r28.1, .box g40 23 [.slice (some ⟨b55, 0, none⟩) (List.length r28.1) c38], .row true (cSl (cInt .u8)) 31 A424 c425 x423, .row true (cInt .u8) 27 A428 c429 x427, .box g65 33 [.bool (decide (0 ≤ (List.getD r28.1 (Int.toNat (0 : Int)) 0))), .slice (some ⟨b55, 0, none⟩) (List.length r28.1) c38, .slice A424 (List.length x423) c425, .slice A428 (List.length x427) c429], .row true (cInt .u8) 27 A122 c123 r87, .row true (cInt .u8) 27 A132 c133 r99, .row true (cInt .u8) 27 A1077 c1078 x1086] ∧ x1080 = x1086)) ?_ ?_
          ·
           refine loopV (fun m1085 a w1084 => ∃ (reply1036 : List Int) (x1039 : Int), ∃ (A1037 : Option Addr) (c1038 : Nat), Fr a 97 [(2, .pointer (some ⟨g13, 0, none⟩)), (3, .pointer (some ⟨g18, 0, none⟩)), (4, .pointer (some ⟨g23, 0, none⟩)), (6, .pointer (some ⟨g40, 0, none⟩)), (8, .pointer (some ⟨g65, 0, none⟩)), (9, .slice A122 (List.length r87) c123), (10, .slice A132 (List.length r99) c133), (15, .slice A1037 (List.length reply1036) c1038), (16, .int .u8 0), (41, .slice (some ⟨b55, 0, none⟩) (List.length r28.1) c38), (42, .int .i64 (((List.length r28.1) : Nat) : Int)), (43, .int .i64 x430), (58, .slice A748 (List.length r739.1) c749), (59, .int .i64 (((List.length r739.1) : Nat) : Int)), (60, .int .i64 x1039)] ∧ Hp S Fa w0 w1084 [.ro false cBool A1 aAccept, .ro false (cInt .i64) A5 aGuard, .ro false cNode A9 aNodes, .box g13 26 [.int .i64 aProps, .slice A1 (List.length aAccept) c2, .slice A5 (List.length aGuard) c6, .slice A9 (List.length aNodes) c10], .box g18 29 [.int .u8 s.1, .int .u8 s.2], .box g23 33 [.bool false, .slice none 0 0, .slice none 0 0, .slice none 0 0], .row true (cInt .i64) 3 (some ⟨b55, 0, none⟩) c38 r28.1, .box g40 23 [.slice (some ⟨b55, 0, none⟩) (List.length r28.1) c38], .row true (cSl (cInt .u8)) 31 A424 c425 x423, .row true (cInt .u8) 27 A428 c429 x427, .box g65 33 [.bool (decide (0 ≤ (List.getD r28.1 (Int.toNat (0 : Int)) 0))), .slice (some ⟨b55, 0, none⟩) (List.length r28.1) c38, .slice A424 (List.length x423) c425, .slice A428 (List.length x427) c429], .row true (cInt .u8) 27 A122 c123 r87, .row true (cInt .u8) 27 A132 c133 r99, .row true (cInt .u8) 27 A1037 c1038 reply1036, .row true (cSl (cInt .i64)) 23 A748 c749 r739.1] ∧ strat_Of_l2 N r28 r99 r739 m1085 reply1036 x1039 = some x1080) N ?_ ?_
           ·
            exact ⟨[], 0, none, 0, E.pick _ ⟨rfl, rfl, rfl, rfl, rfl, rfl, rfl, rfl, rfl, rfl, rfl, rfl, rfl, rfl, rfl, trivial⟩, H.sel [0, 1, 2, 3, 4, 5, 6, 7, 9, 10, 8, 11, 12, 14, 13] rfl, hL1081⟩
           ·
            clear E H hL1081; intro m1085 a w1084 hI_
            obtain ⟨reply1036, x1039, A1037, c1038, E, H, hP⟩ := hI_
            obtain ⟨m1079, rfl⟩ : ∃ q_, m1085 = q_ + 1 := by cases m1085 with | zero => rw [strat_Of_l2] at hP; cases hP | succ q_ => exact ⟨q_, rfl⟩
            rw [strat_Of_l2] at hP
            refine wp_seq ?_
            refine wp_region_lit ?_
            refine vr tbok 1 [] [(2, .pointer (some ⟨g13, 0, none⟩)), (3, .pointer (some ⟨g18, 0, none⟩)), (4, .pointer (some ⟨g23, 0, none⟩)), (6, .pointer (some ⟨g40, 0, none⟩)), (8, .pointer (some ⟨g65, 0, none⟩)), (9, .slice A122 (List.length r87) c123), (10, .slice A132 (List.length r99) c133), (15, .slice A1037 (List.length reply1036) c1038), (16, .int .u8 0), (41, .slice (some ⟨b55, 0, none⟩) (List.length r28.1) c38), (42, .int .i64 (((List.length r28.1) : Nat) : Int)), (43, .int .i64 x430), (58, .slice A748 (List.length r739.1) c749), (59, .int .i64 (((List.length r739.1) : Nat) : Int)), (60, .int .i64 x1039), (61, .bool (decide (x1039 < (((List.length r739.1) : Nat) : Int))))] [] E (by kernel_rfl) trivial ?_
            clear E; intro a E
            refine wpList_nil ?_
            refine th_n ?_
            refine wp_seq ?_
            refine E.cases (t := 61) rfl (fun hb_ E_ => ?_) (fun hb_ E_ => ?_)
            ·
             replace E := E_; clear E_
             have h1087 : x1039 < (((List.length r739.1) : Nat) : Int) := of_decide_eq_true hb_
             clear hb_; replace hP := ite_t h1087 hP
             refine c_true E rfl ?_
             refine wp_skip ?_
             refine th_n ?_
             refine wp_seq ?_
             refine wp_block ?_
             refine wp_seq ?_
             refine wp_region_lit ?_
             obtain ⟨g1088, hP⟩ := ask_inv hP
             obtain ⟨b1089, e_b1089⟩ := H.raddr 14 rfl (idx_pos g1088)
             subst e_b1089
             obtain ⟨A1091, c1092, hl1093, hk1094, H⟩ := H.subSl 14 true (el_row rfl) g1088
             try dsimp only [addE] at H
             refine vr tbok 3 [.slice A1091 (List.length (List.getD r739.1 (Int.toNat x1039) [])) c1092] [(2, .pointer (some ⟨g13, 0, none⟩)), (3, .pointer (some ⟨g18, 0, none⟩)), (4, .pointer (some ⟨g23, 0, none⟩)), (6, .pointer (some ⟨g40, 0, none⟩)), (8, .pointer (some ⟨g65, 0, none⟩)), (9, .slice A122 (List.length r87) c123), (10, .slice A132 (List.length r99) c133), (15, .slice A1037 (List.length reply1036) c1038), (16, .int .u8 0), (18, .slice A1091 (List.length (List.getD r739.1 (Int.toNat x1039) [])) c1092), (41, .slice (some ⟨b55, 0, none⟩) (List.length r28.1) c38), (42, .int .i64 (((List.length r28.1) : Nat) : Int)), (43, .int .i64 x430), (58, .slice (some ⟨b1089, 0, none⟩) (List.length r739.1) c749), (59, .int .i64 (((List.length r739.1) : Nat) : Int)), (60, .int .i64 x1039)] [0 ≤ x1039 ∧ x1039 < (((List.length r739.1) : Nat) : Int), World.cell? w1084 ⟨b1089, 0 + (Int.toNat x1039) * 1, none⟩ = some (.slice A1091 (List.length (List.getD r739.1 (Int.toNat x1039) [])) c1092)] E (by kernel_rfl) ⟨g1088, hl1093⟩ ?_
             clear E; intro a E
             refine wpList_nil ?_
             refine th_n ?_
             refine wp_region_lit ?_
             refine vr tbok 4 [.slice (some ⟨b55, 0, none⟩) (List.length r28.1) c38] [(2, .pointer (some ⟨g13, 0, none⟩)), (3, .pointer (some ⟨g18, 0, none⟩)), (4, .pointer (some ⟨g23, 0, none⟩)), (6, .pointer (some ⟨g40, 0, none⟩)), (8, .pointer (some ⟨g65, 0, none⟩)), (9, .slice A122 (List.length r87) c123), (10, .slice A132 (List.length r99) c133), (16, .int .u8 0), (41, .slice (some ⟨b55, 0, none⟩) (List.length r28.1) c38), (42, .int .i64 (((List.length r28.1) : Nat) : Int)), (43, .int .i64 x430), (58, .slice (some ⟨b1089, 0, none⟩) (List.length r739.1) c749), (59, .int .i64 (((List.length r739.1) : Nat) : Int)), (60, .int .i64 x1039), (64, .slice A1037 (List.length reply1036) c1038), (65, .slice A132 (List.length r99) c133), (66, .slice A1091 (List.length (List.getD r739.1 (Int.toNat x1039) [])) c1092), (67, .slice (some ⟨b55, 0, none⟩) (List.length r28.1) c38)] [World.cell? w1084 ⟨g40, 0, none⟩ = some (.slice (some ⟨b55, 0, none⟩) (List.length r28.1) c38)] E (by kernel_rfl) ((H.box 7 rfl).cell (j := 0) rfl) ?_
             clear E; intro a E
             obtain ⟨r1096, h1097, hP⟩ := bind_inv hP
             obtain ⟨Fa1098, Hc1099, hb1100⟩ := H.call [] [(15, false), (6, false)] rfl rfl trivial
             refine e_call E rfl rfl Try.func35 rfl rfl rfl (strat_best_calls A1091 c1092 (some ⟨b55, 0, none⟩) c38 (List.getD r739.1 (Int.toNat x1039) []) r28.1 hk1094 (H.rcap 6 rfl) Hc1099 h1097) ?_
             rintro v1101 w1102 a ⟨rfl, HR1103⟩ E_
             replace E := E_ _ rfl; clear E_
             obtain ⟨H_, hc1104⟩ := hb1100 _ _ HR1103 rfl
             replace H := H_; clear H_; try dsimp only [setn, addE, goneL] at H
             obtain ⟨g1105, hP⟩ := ask_inv hP
             obtain ⟨b1106, e_b1106⟩ := H.raddr 12 rfl (idx_pos g1105)
             subst e_b1106
             refine vr tbok 2 [.int .u8 (List.getD r99 (Int.toNat r1096) 0)] [(2, .pointer (some ⟨g13, 0, none⟩)), (3, .pointer (some ⟨g18, 0, none⟩)), (4, .pointer (some ⟨g23, 0, none⟩)), (6, .pointer (some ⟨g40, 0, none⟩)), (8, .pointer (some ⟨g65, 0, none⟩)), (9, .slice A122 (List.length r87) c123), (10, .slice (some ⟨b1106, 0, none⟩) (List.length r99) c133), (16, .int .u8 0), (41, .slice (some ⟨b55, 0, none⟩) (List.length r28.1) c38), (42, .int .i64 (((List.length r28.1) : Nat) : Int)), (43, .int .i64 x430), (58, .slice (some ⟨b1089, 0, none⟩) (List.length r739.1) c749), (59, .int .i64 (((List.length r739.1) : Nat) : Int)), (60, .int .i64 x1039), (64, .slice A1037 (List.length reply1036) c1038), (70, .int .u8 (List.getD r99 (Int.toNat r1096) 0))] [0 ≤ r1096 ∧ r1096 < (((List.length r99) : Nat) : Int), World.cell? w1102 ⟨b1106, 0 + (Int.toNat r1096) * 1, none⟩ = some (.int .u8 (List.getD r99 (Int.toNat r1096) 0))] E (by kernel_rfl) ⟨g1105, Rds.at1 (H.rd 12 rds_row) 0 g1105⟩ ?_
             clear E; intro a E
             refine h_buildSlice (ps := [(0, .int .u8 (List.getD r99 (Int.toNat r1096) 0))]) (cs := [.int .u8 (List.getD r99 (Int.toNat r1096) 0)]) H E rfl rfl tbok rfl rfl (by kernel_rfl) ?_
             intro w1109 g1108 a hc1110 hg1112 H_ E_
             replace E := E_ _ rfl; clear E_
             replace H := H_; clear H_; try dsimp only [setn, addE, goneL] at H
             obtain ⟨g1113, hP⟩ := ask_inv hP
             refine h_append (cInt .u8) (xs := reply1036) (ys := ([(List.getD r99 (Int.toNat r1096) 0)] : List Int)) (0 : Int) H 13 rfl E rfl rfl tbok rfl rfl rfl rfl rfl (fun _ _ => rfl) rfl rfl (fun _ HF_ => HF_.srcB 16 rfl (⟨_, _, rfl, rfl, rfl⟩)) g1113 ?_
             intro w1114 A1115 c1116 a hc1117 hA1118 H_ E_
             replace E := E_ _ rfl; clear E_
             replace H := H_; clear H_; try dsimp only [setn, addE, goneL] at H
             refine vr tbok 1 [] [(2, .pointer (some ⟨g13, 0, none⟩)), (3, .pointer (some ⟨g18, 0, none⟩)), (4, .pointer (some ⟨g23, 0, none⟩)), (6, .pointer (some ⟨g40, 0, none⟩)), (8, .pointer (some ⟨g65, 0, none⟩)), (9, .slice A122 (List.length r87) c123), (10, .slice (some ⟨b1106, 0, none⟩) (List.length r99) c133), (15, .slice A1115 (List.length (reply1036 ++ ([(List.getD r99 (Int.toNat r1096) 0)] : List Int))) c1116), (16, .int .u8 0), (41, .slice (some ⟨b55, 0, none⟩) (List.length r28.1) c38), (42, .int .i64 (((List.length r28.1) : Nat) : Int)), (43, .int .i64 x430), (58, .slice (some ⟨b1089, 0, none⟩) (List.length r739.1) c749), (59, .int .i64 (((List.length r739.1) : Nat) : Int)), (60, .int .i64 x1039)] [] E (by kernel_rfl) trivial ?_
             clear E; intro a E
             refine wpList_nil ?_
             refine bl_n ?_
             refine th_n ?_
             refine wp_region_lit ?_
             obtain ⟨g1119, hP⟩ := ask_inv hP
             refine vr tbok 2 [.int .i64 (x1039 + 1)] [(2, .pointer (some ⟨g13, 0, none⟩)), (3, .pointer (some ⟨g18, 0, none⟩)), (4, .pointer (some ⟨g23, 0, none⟩)), (6, .pointer (some ⟨g40, 0, none⟩)), (8, .pointer (some ⟨g65, 0, none⟩)), (9, .slice A122 (List.length r87) c123), (10, .slice (some ⟨b1106, 0, none⟩) (List.length r99) c133), (15, .slice A1115 (List.length (reply1036 ++ ([(List.getD r99 (Int.toNat r1096) 0)] : List Int))) c1116), (16, .int .u8 0), (41, .slice (some ⟨b55, 0, none⟩) (List.length r28.1) c38), (42, .int .i64 (((List.length r28.1) : Nat) : Int)), (43, .int .i64 x430), (58, .slice (some ⟨b1089, 0, none⟩) (List.length r739.1) c749), (59, .int .i64 (((List.length r739.1) : Nat) : Int)), (60, .int .i64 (x1039 + 1))] [IntKind.i64.wrap (x1039 + 1) = x1039 + 1] E (by kernel_rfl) (wrap_in g1119) ?_
             clear E; intro a E
             refine wpList_nil ?_
             exact th_n ⟨m1079, Nat.lt_succ_self _, reply1036 ++ ([(List.getD r99 (Int.toNat r1096) 0)] : List Int), x1039 + 1, A1115, c1116, E.pick _ ⟨rfl, rfl, rfl, rfl, rfl, rfl, rfl, rfl, rfl, rfl, rfl, rfl, rfl, rfl, rfl, trivial⟩, H.sel [0, 1, 2, 3, 4, 5, 6, 7, 8, 9, 10, 11, 12, 13, 14] rfl, hP⟩
            ·
             replace E := E_; clear E_
             have h1120 : ¬ (x1039 < (((List.length r739.1) : Nat) : Int)) := of_decide_eq_false hb_
             clear hb_; replace hP := ite_f h1120 hP
             refine c_false E rfl ?_
             refine wp_exit ?_
             refine th_exit ?_
             have hx_ := Option.some.inj hP
             refine th_exit (.inl ⟨3, rfl, ?_⟩)
             exact ⟨rfl, reply1036, A1037, c1038, E.pick _ ⟨rfl, rfl, rfl, rfl, rfl, rfl, rfl, rfl, rfl, rfl, rfl, rfl, trivial⟩, H.sel [0, 1, 2, 3, 4, 5, 6, 7, 8, 9, 10, 11, 12, 13] rfl, hx_.symm⟩
          ·
           clear E H hL1081; intro i_ a w1084 hM_
           obtain ⟨rfl, x1086, A1077, c1078, E, H, hx_⟩ := hM_
           subst hx_; have hP := hK1082; clear hK1082
           refine bl_hit ?_
           have hx_ := Option.some.inj hP
           exact .inl ⟨rfl, (x1080, 0), A1077, c1078, E.pick _ ⟨rfl, rfl, rfl, rfl, rfl, rfl, rfl, rfl, rfl, rfl, rfl, rfl, trivial⟩, H.sel [0, 1, 2, 3, 4, 5, 6, 7, 8, 9, 10, 11, 12, 13] rfl, hx_.symm⟩
         ·
          replace E := E_; clear E_
          have h1121 : ¬ (0 < (List.getD r28.1 (Int.toNat x430) 0)) := of_decide_eq_false hb_
          clear hb_; replace hP := ite_f h1121 hP
          refine c_false E rfl ?_
          refine wp_seq ?_
          refine wp_region_lit ?_
          refine vr tbok 3 [] [(2, .pointer (some ⟨g13, 0, none⟩)), (3, .pointer (some ⟨g18, 0, none⟩)), (4, .pointer (some ⟨g23, 0, none⟩)), (6, .pointer (some ⟨g40, 0, none⟩)), (8, .pointer (some ⟨g65, 0, none⟩)), (9, .slice A122 (List.length r87) c123), (10, .slice A132 (List.length r99) c133), (13, .slice A748 (List.length r739.1) c749), (15, .slice none 0 0), (16, .int .u8 0), (41, .slice (some ⟨b55, 0, none⟩) (List.length r28.1) c38), (42, .int .i64 (((List.length r28.1) : Nat) : Int)), (43, .int .i64 x430), (74, .bool (decide ((List.getD r28.1 (Int.toNat x430) 0) < 0)))] [] E (by kernel_rfl) trivial ?_
          clear E; intro a E
          refine wpList_nil ?_
          refine th_n ?_
          refine E.cases (t := 74) rfl (fun hb_ E_ => ?_) (fun hb_ E_ => ?_)
          ·
           replace E := E_; clear E_
           have h1122 : (List.getD r28.1 (Int.toNat x430) 0) < 0 := of_decide_eq_true hb_
           clear hb_; replace hP := ite_t h1122 hP
           refine c_true E rfl ?_
           refine wp_region_lit ?_
           refine vr tbok 2 [] [(2, .pointer (some ⟨g13, 0, none⟩)), (3, .pointer (some ⟨g18, 0, none⟩)), (4, .pointer (some ⟨g23, 0, none⟩)), (6, .pointer (some ⟨g40, 0, none⟩)), (8, .pointer (some ⟨g65, 0, none⟩)), (9, .slice A122 (List.length r87) c123), (10, .slice A132 (List.length r99) c133), (15, .slice none 0 0), (41, .slice (some ⟨b55, 0, none⟩) (List.length r28.1) c38), (42, .int .i64 (((List.length r28.1) : Nat) : Int)), (43, .int .i64 x430), (77, .slice A122 (List.length r87) c123), (78, .slice A748 (List.length r739.1) c749)] [] E (by kernel_rfl) trivial ?_
           clear E; intro a E
           refine e_makeFunc (vs := [.pointer (some ⟨g40, 0, none⟩)]) E rfl rfl rfl rfl ?_
           clear E; intro a E
           obtain ⟨x1198, h1199, hP⟩ := bind_inv hP
           refine e_call (R := fun v_ w_ => ∃ (x1200 : Int), v_ = .int .i64 x1200 ∧ Hp S Fa w0 w_ [.ro false cBool A1 aAccept, .ro false (cInt .i64) A5 aGuard, .ro false cNode A9 aNodes, .box g13 26 [.int .i64 aProps, .slice A1 (List.length aAccept) c2, .slice A5 (List.length aGuard) c6, .slice A9 (List.length aNodes) c10], .box g18 29 [.int .u8 s.1, .int .u8 s.2], .box g23 33 [.bool false, .slice none 0 0, .slice none 0 0, .slice none 0 0], .row true (cInt .i64) 3 (some ⟨b55, 0, none⟩) c38 r28.1, .box g40 23 [.slice (some ⟨b55, 0, none⟩) (List.length r28.1) c38], .row true (cSl (cInt .u8)) 31 A424 c425 x423, .row true (cInt .u8) 27 A428 c429 x427, .box g65 33 [.bool (decide (0 ≤ (List.getD r28.1 (Int.toNat (0 : Int)) 0))), .slice (some ⟨b55, 0, none⟩) (List.length r28.1) c38, .slice A424 (List.length x423) c425, .slice A428 (List.length x427) c429], .row true (cInt .u8) 27 A122 c123 r87, .row true (cInt .u8) 27 A132 c133 r99, .row true (cSl (cInt .i64)) 23 A748 c749 r739.1] ∧ x1198 = x1200) E rfl rfl Try.func36 rfl rfl rfl ?_ ?_
           ·
            clear E hP; have hP := h1199; clear h1199; rw [strat_Of_f3] at hP
            refine enterV (n := 19) Try.func36 rfl rfl rfl ?_
            intro a E
            replace E := E.pick [(0, .slice A748 (List.length r739.1) c749), (1, .func (.func 37) #[] #[.pointer (some ⟨g40, 0, none⟩)])] ⟨rfl, rfl, trivial⟩
            refine wp_seq ?_
            refine wp_region_lit ?_
            refine vr tbok 1 [] [(0, .slice A748 (List.length r739.1) c749), (1, .func (.func 37) #[] #[.pointer (some ⟨g40, 0, none⟩)])] [] E (by kernel_rfl) trivial ?_
            clear E; intro a E
            refine wpList_nil ?_
            refine th_n ?_
            refine wp_seq ?_
            refine wp_seq ?_
            refine wp_region_lit ?_
            refine vr tbok 3 [] [(0, .slice A748 (List.length r739.1) c749), (1, .func (.func 37) #[] #[.pointer (some ⟨g40, 0, none⟩)]), (7, .int .i64 (((List.length r739.1) : Nat) : Int)), (8, .int .i64 0)] [] E (by kernel_rfl) trivial ?_
            clear E; intro a E
            refine wpList_nil ?_
            refine th_n ?_
            refine wp_block ?_
            obtain ⟨x1276, hL1277, hK1278⟩ := bind_inv hP
            clear hP
            refine loop_cut (fun i_ a w_ => (i_ = 0 ∧ ∃ (x1281 : Unit), Fr a 19 [] ∧ Hp S Fa w0 w_ [.ro false cBool A1 aAccept, .ro false (cInt .i64) A5 aGuard, .ro false cNode A9 aNodes, .box g13 26 [.int .i64 aProps, .slice A1 (List.length aAccept) c2, .slice A5 (List.length aGuard) c6, .slice A9 (List.length aNodes) c10], .box g18 29 [.int .u8 s.1, .int .u8 s.2], .box g23 33 [.bool false, .slice none 0 0, .slice none 0 0, .slice none 0 0], .row true (cInt .i64) 3 (some ⟨b55, 0, none⟩) c38 r28.1, .box g40 23 [.slice (some ⟨b55, 0, none⟩) (List.length r28.1) c38], .row true (cSl (cInt .u8)) 31 A424 c425 x423, .row true (cInt .u8) 27 A428 c429 x427, .box g65 33 [.bool (decide (0 ≤ (List.getD r28.1 (Int.toNat (0 : Int)) 0))), .slice (some ⟨b55, 0, none⟩) (List.length r28.1) c38, .slice A424 (List.length x423) c425, .slice A428 (List.length x427) c429], .row true (cInt .u8) 27 A122 c123 r87, .row true (cInt .u8) 27 A132 c133 r99, .row true (cSl (cInt .i64)) 23 A748 c749 r739.1] ∧ x1276 = Sum.inl x1281)) ?_ ?_
            ·
             refine loopV (fun m1280 a w1279 => ∃ (x1237 : Int), Fr a 19 [(0, .slice A748 (List.length r739.1) c749), (1, .func (.func 37) #[] #[.pointer (some ⟨g40, 0, none⟩)]), (7, .int .i64 (((List.length r739.1) : Nat) : Int)), (8, .int .i64 x1237)] ∧ Hp S Fa w0 w1279 [.row true (cSl (cInt .i64)) 23 A748 c749 r739.1, .row true (cInt .i64) 3 (some ⟨b55, 0, none⟩) c38 r28.1, .box g40 23 [.slice (some ⟨b55, 0, none⟩) (List.length r28.1) c38], .ro false cBool A1 aAccept, .ro false (cInt .i64) A5 aGuard, .ro false cNode A9 aNodes, .box g13 26 [.int .i64 aProps, .slice A1 (List.length aAccept) c2, .slice A5 (List.length aGuard) c6, .slice A9 (List.length aNodes) c10], .box g18 29 [.int .u8 s.1, .int .u8 s.2], .box g23 33 [.bool false, .slice none 0 0, .slice none 0 0, .slice none 0 0], .row true (cSl (cInt .u8)) 31 A424 c425 x423, .row true (cInt .u8) 27 A428 c429 x427, .box g65 33 [.bool (decide (0 ≤ (List.getD r28.1 (Int.toNat (0 : Int)) 0))), .slice (some ⟨b55, 0, none⟩) (List.length r28.1) c38, .slice A424 (List.length x423) c425, .slice A428 (List.length x427) c429], .row true (cInt .u8) 27 A122 c123 r87, .row true (cInt .u8) 27 A132 c133 r99] ∧ strat_Of_l6 N r28 r739 m1280 x1237 = some x1276) N ?_ ?_
             ·
              exact ⟨0, E.pick _ ⟨rfl, rfl, rfl, rfl, trivial⟩, H.sel [13, 6, 7, 0, 1, 2, 3, 4, 5, 9, 10, 8, 11, 12] rfl, hL1277⟩
             ·
              clear E H hL1277; intro m1280 a w1279 hI_
              obtain ⟨x1237, E, H, hP⟩ := hI_
              obtain ⟨m1275, rfl⟩ : ∃ q_, m1280 = q_ + 1 := by cases m1280 with | zero => rw [strat_Of_l6] at hP; cases hP | succ q_ => exact ⟨q_, rfl⟩
              rw [strat_Of_l6] at hP
              refine wp_seq ?_
              refine wp_region_lit ?_
              refine vr tbok 1 [] [(0, .slice A748 (List.length r739.1) c749), (1, .func (.func 37) #[] #[.pointer (some ⟨g40, 0, none⟩)]), (7, .int .i64 (((List.length r739.1) : Nat) : Int)), (8, .int .i64 x1237), (9, .bool (decide (x1237 < (((List.length r739.1) : Nat) : Int))))] [] E (by kernel_rfl) trivial ?_
              clear E; intro a E
              refine wpList_nil ?_
              refine th_n ?_
              refine wp_seq ?_
              refine E.cases (t := 9) rfl (fun hb_ E_ => ?_) (fun hb_ E_ => ?_)
              ·
               replace E := E_; clear E_
               have h1282 : x1237 < (((List.length r739.1) : Nat) : Int) := of_decide_eq_true hb_
               clear hb_; replace hP := ite_t h1282 hP
               refine c_true E rfl ?_
               refine wp_skip ?_
               refine th_n ?_
               refine wp_seq ?_
               refine wp_block ?_
               refine wp_seq ?_
               refine wp_region_lit ?_
               refine vr tbok 2 [] [(0, .slice A748 (List.length r739.1) c749), (1, .func (.func 37) #[] #[.pointer (some ⟨g40, 0, none⟩)]), (5, .int .i64 x1237), (7, .int .i64 (((List.length r739.1) : Nat) : Int)), (8, .int .i64 x1237)] [] E (by kernel_rfl) trivial ?_
               clear E; intro a E
               refine wpList_nil ?_
               refine th_n ?_
               refine wp_seq ?_
               refine wp_region_lit ?_
               obtain ⟨g1283, hP⟩ := ask_inv hP
               obtain ⟨b1284, e_b1284⟩ := H.raddr 0 rfl (idx_pos g1283)
               subst e_b1284
               obtain ⟨A1286, c1287, hl1288, hk1289, H⟩ := H.subSl 0 true (el_row rfl) g1283
               try dsimp only [addE] at H
               refine vr tbok 5 [.slice A1286 (List.length (List.getD r739.1 (Int.toNat x1237) [])) c1287] [(0, .slice (some ⟨b1284, 0, none⟩) (List.length r739.1) c749), (1, .func (.func 37) #[] #[.pointer (some ⟨g40, 0, none⟩)]), (5, .int .i64 x1237), (7, .int .i64 (((List.length r739.1) : Nat) : Int)), (8, .int .i64 x1237), (11, .func (.func 37) #[] #[.pointer (some ⟨g40, 0, none⟩)]), (15, .slice A1286 (List.length (List.getD r739.1 (Int.toNat x1237) [])) c1287)] [0 ≤ x1237 ∧ x1237 < (((List.length r739.1) : Nat) : Int), World.cell? w1279 ⟨b1284, 0 + (Int.toNat x1237) * 1, none⟩ = some (.slice A1286 (List.length (List.getD r739.1 (Int.toNat x1237) [])) c1287)] E (by kernel_rfl) ⟨g1283, hl1288⟩ ?_
               clear E; intro a E
               obtain ⟨x1301, h1302, hP⟩ := bind_inv hP
               refine e_callv (R := fun v_ w_ => ∃ (x1303 : Bool), v_ = .bool x1303 ∧ Hp S Fa w0 w_ [.ro false cBool A1 aAccept, .ro false (cInt .i64) A5 aGuard, .ro false cNode A9 aNodes, .box g13 26 [.int .i64 aProps, .slice A1 (List.length aAccept) c2, .slice A5 (List.length aGuard) c6, .slice A9 (List.length aNodes) c10], .box g18 29 [.int .u8 s.1, .int .u8 s.2], .box g23 33 [.bool false, .slice none 0 0, .slice none 0 0, .slice none 0 0], .row true (cInt .i64) 3 (some ⟨b55, 0, none⟩) c38 r28.1, .box g40 23 [.slice (some ⟨b55, 0, none⟩) (List.length r28.1) c38], .row true (cSl (cInt .u8)) 31 A424 c425 x423, .row true (cInt .u8) 27 A428 c429 x427, .box g65 33 [.bool (decide (0 ≤ (List.getD r28.1 (Int.toNat (0 : Int)) 0))), .slice (some ⟨b55, 0, none⟩) (List.length r28.1) c38, .slice A424 (List.length x423) c425, .slice A428 (List.length x427) c429], .row true (cInt .u8) 27 A122 c123 r87, .row true (cInt .u8) 27 A132 c133 r99, .row true (cSl (cInt .i64)) 23 (some ⟨b1284, 0, none⟩) c749 r739.1, .ro true (cInt .i64) A1286 (List.getD r739.1 (Int.toNat x1237) [])] ∧ x1301 = x1303) E rfl rfl rfl Try.func37 rfl rfl rfl ?_ ?_
               ·
                clear E hP; have hP := h1302; clear h1302; rw [strat_Of_f7] at hP
                refine enterV (n := 7) Try.func37 rfl rfl rfl ?_
                intro a E
                replace E := E.pick [(0, .slice A1286 (List.length (List.getD r739.1 (Int.toNat x1237) [])) c1287), (1, .pointer (some ⟨g40, 0, none⟩))] ⟨rfl, rfl, trivial⟩
                refine wp_seq ?_
                refine wp_region_lit ?_
                refine vr tbok 1 [] [(0, .slice A1286 (List.length (List.getD r739.1 (Int.toNat x1237) [])) c1287), (1, .pointer (some ⟨g40, 0, none⟩))] [] E (by kernel_rfl) trivial ?_
                clear E; intro a E
                refine wpList_nil ?_
                refine th_n ?_
                refine wp_seq ?_
                refine wp_region_lit ?_
                refine vr tbok 2 [.slice (some ⟨b55, 0, none⟩) (List.length r28.1) c38] [(4, .slice A1286 (List.length (List.getD r739.1 (Int.toNat x1237) [])) c1287), (5, .slice (some ⟨b55, 0, none⟩) (List.length r28.1) c38)] [World.cell? w1279 ⟨g40, 0, none⟩ = some (.slice (some ⟨b55, 0, none⟩) (List.length r28.1) c38)] E (by kernel_rfl) ((H.box 2 rfl).cell (j := 0) rfl) ?_
                clear E; intro a E
                obtain ⟨r1304, h1305, hP⟩ := bind_inv hP
                obtain ⟨Fa1306, Hc1307, hb1308⟩ := H.call [] [(14, false), (1, false)] rfl rfl trivial
                refine e_call E rfl rfl Try.func38 rfl rfl rfl (strat_lost_calls A1286 c1287 (some ⟨b55, 0, none⟩) c38 (List.getD r739.1 (Int.toNat x1237) []) r28.1 hk1289 (H.rcap 1 rfl) Hc1307 h1305) ?_
                rintro v1309 w1310 a ⟨rfl, HR1311⟩ E_
                replace E := E_ _ rfl; clear E_
                obtain ⟨H_, hc1312⟩ := hb1308 _ _ HR1311 rfl
                replace H := H_; clear H_; try dsimp only [setn, addE, goneL] at H
                refine vr tbok 1 [] [(3, .bool r1304)] [] E (by kernel_rfl) trivial ?_
                clear E; intro a E
                refine wpList_nil ?_
                refine th_n ?_
                refine wp_ret ?_
                have hx_ := Option.some.inj hP
                refine ret1 E rfl rfl ?_
                exact ⟨_, rfl, r1304, rfl, H.sel [3, 4, 5, 6, 7, 8, 1, 2, 9, 10, 11, 12, 13, 0, 14] rfl, hx_.symm⟩
               ·
                clear H
                rintro v1314 w1313 a ⟨x1303, rfl, H, hx_⟩ E_
                subst hx_
                replace E := E_ _ rfl; clear E_
                refine wpList_nil ?_
                refine th_n ?_
                refine E.cases (t := 16) rfl (fun hb_ E_ => ?_) (fun hb_ E_ => ?_)
                ·
                 replace E := E_; clear E_
                 have h1315 : x1301 = true := hb_
                 clear hb_; replace hP := ite_t h1315 hP
                 refine c_true E rfl ?_
                 refine wp_seq ?_
                 refine wp_region_lit ?_
                 refine vr tbok 2 [] [(4, .int .i64 x1237)] [] E (by kernel_rfl) trivial ?_
                 clear E; intro a E
                 refine wpList_nil ?_
                 refine th_n ?_
                 refine wp_ret ?_
                 refine bl_ret ?_
                 refine th_ret ?_
                 refine th_ret ?_
                 refine .inr ⟨rfl, ?_⟩
                 refine bl_ret ?_
                 refine th_ret ?_
                 have hx_ := Option.some.inj hP; subst hx_
                 have hP : some (x1237) = some x1198 := hK1278
                 have hx_ := Option.some.inj hP
                 refine ret1 E rfl rfl ?_
                 exact ⟨_, rfl, x1237, rfl, H.sel [0, 1, 2, 3, 4, 5, 6, 7, 8, 9, 10, 11, 12, 13] rfl, hx_.symm⟩
                ·
                 replace E := E_; clear E_
                 have h1316 : ¬ (x1301 = true) := (ne_true_of_eq_false hb_)
                 clear hb_; replace hP := ite_f h1316 hP
                 refine c_false E rfl ?_
                 refine wp_skip ?_
                 refine bl_n ?_
                 refine th_n ?_
                 refine wp_region_lit ?_
                 obtain ⟨g1317, hP⟩ := ask_inv hP
                 refine vr tbok 2 [.int .i64 (x1237 + 1)] [(0, .slice (some ⟨b1284, 0, none⟩) (List.length r739.1) c749), (1, .func (.func 37) #[] #[.pointer (some ⟨g40, 0, none⟩)]), (7, .int .i64 (((List.length r739.1) : Nat) : Int)), (8, .int .i64 (x1237 + 1))] [IntKind.i64.wrap (x1237 + 1) = x1237 + 1] E (by kernel_rfl) (wrap_in g1317) ?_
                 clear E; intro a E
                 refine wpList_nil ?_
                 exact th_n ⟨m1275, Nat.lt_succ_self _, x1237 + 1, E.pick _ ⟨rfl, rfl, rfl, rfl, trivial⟩, H.sel [13, 6, 7, 0, 1, 2, 3, 4, 5, 8, 9, 10, 11, 12] rfl, hP⟩
              ·
               replace E := E_; clear E_
               have h1318 : ¬ (x1237 < (((List.length r739.1) : Nat) : Int)) := of_decide_eq_false hb_
               clear hb_; replace hP := ite_f h1318 hP
               refine c_false E rfl ?_
               refine wp_exit ?_
               refine th_exit ?_
               have hx_ := Option.some.inj hP
               refine th_exit (.inl ⟨0, rfl, ?_⟩)
               exact ⟨rfl, (), E.pick _ trivial, H.sel [3, 4, 5, 6, 7, 8, 1, 2, 9, 10, 11, 12, 13, 0] rfl, hx_.symm⟩
            ·
             clear E H hL1277; intro i_ a w1279 hM_
             obtain ⟨rfl, x1281, E, H, hx_⟩ := hM_
             subst hx_; have hP := elim_l hK1278
             clear hK1278
             refine bl_hit ?_
             refine th_n ?_
             refine wp_seq ?_
             refine wp_region_lit ?_
             refine vr tbok 1 [] [(4, .int .i64 (-1))] [] E (by kernel_rfl) trivial ?_
             clear E; intro a E
             refine wpList_nil ?_
             refine th_n ?_
             refine wp_ret ?_
             have hx_ := Option.some.inj hP
             refine ret1 E rfl rfl ?_
             exact ⟨_, rfl, -1, rfl, H.sel [0, 1, 2, 3, 4, 5, 6, 7, 8, 9, 10, 11, 12, 13] rfl, hx_.symm⟩
           ·
            clear H
            rintro v1321 w1320 a ⟨x1200, rfl, H, hx_⟩ E_
            subst hx_
            replace E := E_ _ rfl; clear E_
            obtain ⟨g1322, hP⟩ := ask_inv hP
            obtain ⟨b1323, e_b1323⟩ := H.raddr 11 rfl (idx_pos g1322)
            subst e_b1323
            refine vr tbok 3 [.int .u8 (List.getD r87 (Int.toNat x1198) 0)] [(2, .pointer (some ⟨g13, 0, none⟩)), (3, .pointer (some ⟨g18, 0, none⟩)), (4, .pointer (some ⟨g23, 0, none⟩)), (6, .pointer (some ⟨g40, 0, none⟩)), (8, .pointer (some ⟨g65, 0, none⟩)), (9, .slice (some ⟨b1323, 0, none⟩) (List.length r87) c123), (10, .slice A132 (List.length r99) c133), (15, .slice none 0 0), (16, .int .u8 (List.getD r87 (Int.toNat x1198) 0)), (41, .slice (some ⟨b55, 0, none⟩) (List.length r28.1) c38), (42, .int .i64 (((List.length r28.1) : Nat) : Int)), (43, .int .i64 x430)] [0 ≤ x1198 ∧ x1198 < (((List.length r87) : Nat) : Int), World.cell? w1320 ⟨b1323, 0 + (Int.toNat x1198) * 1, none⟩ = some (.int .u8 (List.getD r87 (Int.toNat x1198) 0))] E (by kernel_rfl) ⟨g1322, Rds.at1 (H.rd 11 rds_row) 0 g1322⟩ ?_
            clear E; intro a E
            refine wpList_nil ?_
            replace H := H.nilrow (cInt .u8) 27; try dsimp only [setn, addE, goneL] at H
            have hx_ := Option.some.inj hP
            exact .inl ⟨rfl, ([], (List.getD r87 (Int.toNat x1198) 0)), none, 0, E.pick _ ⟨rfl, rfl, rfl, rfl, rfl, rfl, rfl, rfl, rfl, rfl, rfl, rfl, trivial⟩, H.sel [0, 1, 2, 3, 4, 5, 6, 7, 8, 9, 10, 11, 12, 14] rfl, hx_.symm⟩
          ·
           replace E := E_; clear E_
           have h1326 : ¬ ((List.getD r28.1 (Int.toNat x430) 0) < 0) := of_decide_eq_false hb_
           clear hb_; replace hP := ite_f h1326 hP
           refine c_false E rfl ?_
           refine wp_skip ?_
           replace H := H.nilrow (cInt .u8) 27; try dsimp only [setn, addE, goneL] at H
           have hx_ := Option.some.inj hP
           exact .inl ⟨rfl, ([], 0), none, 0, E.pick _ ⟨rfl, rfl, rfl, rfl, rfl, rfl, rfl, rfl, rfl, rfl, rfl, rfl, trivial⟩, H.sel [0, 1, 2, 3, 4, 5, 6, 7, 9, 10, 8, 11, 12, 14] rfl, hx_.symm⟩
        ·
         clear E H h996; rintro a w999 ⟨x998, A992, c993, E, H, hx_⟩
         subst hx_; have hP := hK997; clear hK997
         refine bl_n ?_
         refine th_n ?_
         refine wp_seq ?_
         refine wp_region_lit ?_
         refine vr tbok 3 [.slice A424 (List.length x423) c425] [(2, .pointer (some ⟨g13, 0, none⟩)), (3, .pointer (some ⟨g18, 0, none⟩)), (4, .pointer (some ⟨g23, 0, none⟩)), (6, .pointer (some ⟨g40, 0, none⟩)), (8, .pointer (some ⟨g65, 0, none⟩)), (9, .slice A122 (List.length r87) c123), (10, .slice A132 (List.length r99) c133), (16, .int .u8 x995.2), (41, .slice (some ⟨b55, 0, none⟩) (List.length r28.1) c38), (42, .int .i64 (((List.length r28.1) : Nat) : Int)), (43, .int .i64 x430), (84, .slice A424 (List.length x423) c425), (85, .slice A992 (List.length x995.1) c993)] [World.cell? w999 ⟨g65, 2, none⟩ = some (.slice A424 (List.length x423) c425)] E (by kernel_rfl) ((H.box 10 rfl).cell (j := 2) rfl) ?_
         clear E; intro a E
         refine h_buildSlice (ps := [(0, .slice A992 (List.length x995.1) c993)]) (cs := [.slice A992 (List.length x995.1) c993]) H E rfl rfl tbok rfl rfl (by kernel_rfl) ?_
         intro w1329 g1328 a hc1330 hg1332 H_ E_
         replace E := E_ _ rfl; clear E_
         replace H := H_; clear H_; try dsimp only [setn, addE, goneL] at H
         have hk1333 := H.rcap 13 rfl
         replace H := H.frz 13 rfl; try dsimp only [setn, addE, goneL] at H
         obtain ⟨g1334, hP⟩ := ask_inv hP
         refine h_append (cSl (cInt .u8)) (xs := x423) (ys := ([x995.1] : List (List Int))) ([] : List Int) H 8 rfl E rfl rfl tbok rfl rfl rfl rfl rfl (fun _ _ => kSl_nil) rfl rfl (fun _ HF_ => HF_.srcB 14 rfl ⟨_, _, rfl, ⟨_, _, rfl, hk1333, (HF_.roC 13 rfl)⟩, rfl⟩) g1334 ?_
         intro w1335 A1336 c1337 a hc1338 hA1339 H_ E_
         replace E := E_ _ rfl; clear E_
         replace H := H_; clear H_; try dsimp only [setn, addE, goneL] at H
         refine vr tbok 1 [] [(2, .pointer (some ⟨g13, 0, none⟩)), (3, .pointer (some ⟨g18, 0, none⟩)), (4, .pointer (some ⟨g23, 0, none⟩)), (6, .pointer (some ⟨g40, 0, none⟩)), (8, .pointer (some ⟨g65, 0, none⟩)), (9, .slice A122 (List.length r87) c123), (10, .slice A132 (List.length r99) c133), (16, .int .u8 x995.2), (41, .slice (some ⟨b55, 0, none⟩) (List.length r28.1) c38), (42, .int .i64 (((List.length r28.1) : Nat) : Int)), (43, .int .i64 x430), (87, .slice A1336 (List.length (x423 ++ ([x995.1] : List (List Int)))) c1337), (88, .pointer (some ⟨g65, 2, none⟩))] [] E (by kernel_rfl) trivial ?_
         clear E; intro a E
         refine h_store (g := g65) (off := 2) H 10 rfl E rfl rfl rfl rfl tbok rfl rfl rfl rfl rfl ?_
         clear E; intro w1340 a hc1341 H_ E
         replace H := H_; clear H_; try dsimp only [setn, addE, goneL] at H
         refine wpList_nil ?_
         refine th_n ?_
         refine wp_region_lit ?_
         refine vr tbok 3 [.slice A428 (List.length x427) c429] [(2, .pointer (some ⟨g13, 0, none⟩)), (3, .pointer (some ⟨g18, 0, none⟩)), (4, .pointer (some ⟨g23, 0, none⟩)), (6, .pointer (some ⟨g40, 0, none⟩)), (8, .pointer (some ⟨g65, 0, none⟩)), (9, .slice A122 (List.length r87) c123), (10, .slice A132 (List.length r99) c133), (41, .slice (some ⟨b55, 0, none⟩) (List.length r28.1) c38), (42, .int .i64 (((List.length r28.1) : Nat) : Int)), (43, .int .i64 x430), (90, .slice A428 (List.length x427) c429), (91, .int .u8 x995.2)] [World.cell? w1340 ⟨g65, 3, none⟩ = some (.slice A428 (List.length x427) c429)] E (by kernel_rfl) ((H.box 10 rfl).cell (j := 3) rfl) ?_
         clear E; intro a E
         refine h_buildSlice (ps := [(0, .int .u8 x995.2)]) (cs := [.int .u8 x995.2]) H E rfl rfl tbok rfl rfl (by kernel_rfl) ?_
         intro w1343 g1342 a hc1344 hg1346 H_ E_
         replace E := E_ _ rfl; clear E_
         replace H := H_; clear H_; try dsimp only [setn, addE, goneL] at H
         obtain ⟨g1347, hP⟩ := ask_inv hP
         refine h_append (cInt .u8) (xs := x427) (ys := ([x995.2] : List Int)) (0 : Int) H 9 rfl E rfl rfl tbok rfl rfl rfl rfl rfl (fun _ _ => rfl) rfl rfl (fun _ HF_ => HF_.srcB 15 rfl (⟨_, _, rfl, rfl, rfl⟩)) g1347 ?_
         intro w1348 A1349 c1350 a hc1351 hA1352 H_ E_
         replace E := E_ _ rfl; clear E_
         replace H := H_; clear H_; try dsimp only [setn, addE, goneL] at H
         refine vr tbok 1 [] [(2, .pointer (some ⟨g13, 0, none⟩)), (3, .pointer (some ⟨g18, 0, none⟩)), (4, .pointer (some ⟨g23, 0, none⟩)), (6, .pointer (some ⟨g40, 0, none⟩)), (8, .pointer (some ⟨g65, 0, none⟩)), (9, .slice A122 (List.length r87) c123), (10, .slice A132 (List.length r99) c133), (41, .slice (some ⟨b55, 0, none⟩) (List.length r28.1) c38), (42, .int .i64 (((List.length r28.1) : Nat) : Int)), (43, .int .i64 x430), (93, .slice A1349 (List.length (x427 ++ ([x995.2] : List Int))) c1350), (94, .pointer (some ⟨g65, 3, none⟩))] [] E (by kernel_rfl) trivial ?_
         clear E; intro a E
         refine h_store (g := g65) (off := 3) H 10 rfl E rfl rfl rfl rfl tbok rfl rfl rfl rfl rfl ?_
         clear E; intro w1353 a hc1354 H_ E
         replace H := H_; clear H_; try dsimp only [setn, addE, goneL] at H
         refine wpList_nil ?_
         refine bl_n ?_
         refine th_n ?_
         refine wp_region_lit ?_
         obtain ⟨g1355, hP⟩ := ask_inv hP
         refine vr tbok 2 [.int .i64 (x430 + 1)] [(2, .pointer (some ⟨g13, 0, none⟩)), (3, .pointer (some ⟨g18, 0, none⟩)), (4, .pointer (some ⟨g23, 0, none⟩)), (6, .pointer (some ⟨g40, 0, none⟩)), (8, .pointer (some ⟨g65, 0, none⟩)), (9, .slice A122 (List.length r87) c123), (10, .slice A132 (List.length r99) c133), (41, .slice (some ⟨b55, 0, none⟩) (List.length r28.1) c38), (42, .int .i64 (((List.length r28.1) : Nat) : Int)), (43, .int .i64 (x430 + 1))] [IntKind.i64.wrap (x430 + 1) = x430 + 1] E (by kernel_rfl) (wrap_in g1355) ?_
         clear E; intro a E
         refine wpList_nil ?_
         exact th_n ⟨m728, Nat.lt_succ_self _, x423 ++ ([x995.1] : List (List Int)), x427 ++ ([x995.2] : List Int), x430 + 1, A1336, c1337, A1349, c1350, E.pick _ ⟨rfl, rfl, rfl, rfl, rfl, rfl, rfl, rfl, rfl, rfl, trivial⟩, H.sel [0, 1, 2, 3, 4, 5, 6, 7, 10, 8, 9, 11, 12] rfl, hP⟩
       ·
        replace E := E_; clear E_
        have h1356 : ¬ (x430 < (((List.length r28.1) : Nat) : Int)) := of_decide_eq_false hb_
        clear hb_; replace hP := ite_f h1356 hP
        refine c_false E rfl ?_
        refine wp_exit ?_
        refine th_exit ?_
        have hx_ := Option.some.inj hP
        refine th_exit (.inl ⟨0, rfl, ?_⟩)
        exact ⟨rfl, (x423, x427), A424, c425, A428, c429, E.pick _ ⟨rfl, rfl, trivial⟩, H.sel [5, 8, 6, 9, 10] rfl, hx_.symm⟩
     ·
      clear E H hL730; intro i_ a w734 hM_
      obtain ⟨rfl, x736, A722, c723, A726, c727, E, H, hx_⟩ := hM_
      subst hx_; have hP := hK731; clear hK731
      refine bl_hit ?_
      refine th_n ?_
      refine wp_seq ?_
      refine wp_region_lit ?_
      refine vr tbok 1 [.agg #[.bool (decide (0 ≤ (List.getD r28.1 (Int.toNat (0 : Int)) 0))), .slice (some ⟨b55, 0, none⟩) (List.length r28.1) c38, .slice A722 (List.length x729.1) c723, .slice A726 (List.length x729.2) c727]] [(4, .pointer (some ⟨g23, 0, none⟩)), (96, .agg #[.bool (decide (0 ≤ (List.getD r28.1 (Int.toNat (0 : Int)) 0))), .slice (some ⟨b55, 0, none⟩) (List.length r28.1) c38, .slice A722 (List.length x729.1) c723, .slice A726 (List.length x729.2) c727])] [cellsAt w734 g65 (0) [.bool (decide (0 ≤ (List.getD r28.1 (Int.toNat (0 : Int)) 0))), .slice (some ⟨b55, 0, none⟩) (List.length r28.1) c38, .slice A722 (List.length x729.1) c723, .slice A726 (List.length x729.2) c727]] E (by kernel_rfl) ((H.box 1 rfl).sub 0 _ rfl) ?_
      clear E; intro a E
      refine h_store (g := g23) (off := 0) H 0 rfl E rfl rfl rfl rfl tbok rfl rfl rfl rfl rfl ?_
      clear E; intro w1357 a hc1358 H_ E
      replace H := H_; clear H_; try dsimp only [setn, addE, goneL] at H
      refine vr tbok 1 [] [(4, .pointer (some ⟨g23, 0, none⟩)), (5, .int .i64 0)] [] E (by kernel_rfl) trivial ?_
      clear E; intro a E
      refine wpList_nil ?_
      refine th_n ?_
      refine wp_ret ?_
      obtain rfl := Option.some.inj hP
      refine retV E [.cell 4 33, .tmp 5] [.agg #[.bool (decide (0 ≤ (List.getD r28.1 (Int.toNat (0 : Int)) 0))), .slice (some ⟨b55, 0, none⟩) (List.length r28.1) c38, .slice A722 (List.length x729.1) c723, .slice A726 (List.length x729.2) c727], .int .i64 0] rfl ⟨⟨_, rfl, run_loadBx tbok (H.box 0 rfl) rfl rfl rfl 0 rfl rfl⟩, rfl, trivial⟩ (.inl rfl) ?_
      exact ⟨_, rfl, (some ⟨b55, 0, none⟩), c38, A722, c723, A726, c727, rfl, H.sel [2, 3, 4] rfl⟩

end Go.V
