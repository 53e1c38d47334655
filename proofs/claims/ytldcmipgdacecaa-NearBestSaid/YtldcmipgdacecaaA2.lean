/- Plain functions, and the calls that give them. -/
import Derived.Test.YtldcmipgdacecaaA1
set_option linter.all false
set_option linter.unusedVariables false
set_option linter.unnecessarySimpa false
set_option linter.unusedSimpArgs false
namespace Go.V
open Go Go.Proofs
/-! rejoinder/near.asked -/
def near_asked (N : Nat) (aProps : Int) (aAccept : List Bool) (aGuard : List Int) (aNodes : List Nd) (t : List Int) : Option Int :=
  Option.bind (guard_Check N aProps aAccept aGuard aNodes) fun r22 =>
  if (r22 : Int) = 0 then
    Option.bind (letter_Trace N aProps t) fun r33 =>
    some r33
  else
    some r22
set_option maxRecDepth 100000 in
set_option maxHeartbeats 4000000 in
theorem near_asked_calls {N : Nat} {S Fa : Nat → Prop} {w0 : World} {r : Int} (A1 : Option Addr) (c2 : Nat) (A5 : Option Addr) (c6 : Nat) (A9 : Option Addr) (c10 : Nat) (A13 : Option Addr) (c14 : Nat) (aProps : Int) (aAccept : List Bool) (aGuard : List Int) (aNodes : List Nd) (t : List Int) (hk3 : List.length aAccept ≤ c2) (hk7 : List.length aGuard ≤ c6) (hk11 : List.length aNodes ≤ c10) (hk15 : List.length t ≤ c14) (H : Hp S Fa w0 w0 [.ro false cBool A1 aAccept, .ro false (cInt .i64) A5 aGuard, .ro false cNode A9 aNodes, .ro false (cInt .u8) A13 t]) (hP : near_asked N aProps aAccept aGuard aNodes t = some r) :
    Calls Try.prog 31 #[.agg #[.int .i64 aProps, .slice A1 (List.length aAccept) c2, .slice A5 (List.length aGuard) c6, .slice A9 (List.length aNodes) c10], .slice A13 (List.length t) c14] w0 fun e w' => ∃ v, e = .returned v ∧ v = .int .i64 r ∧ Hp S Fa w0 w' [] := by
 refine enterV (n := 15) Try.func31 rfl rfl rfl ?_
 intro a E
 replace E := E.pick [(0, .agg #[.int .i64 aProps, .slice A1 (List.length aAccept) c2, .slice A5 (List.length aGuard) c6, .slice A9 (List.length aNodes) c10]), (1, .slice A13 (List.length t) c14)] ⟨rfl, rfl, trivial⟩
 rw [near_asked] at hP
 refine wp_seq ?_
 refine wp_region_lit ?_
 refine h_box H E rfl rfl rfl ?_
 intro w18 g17 a hc19 hg21 H_ E_
 replace E := E_ _ rfl; clear E_
 replace H := H_; clear H_; try dsimp only [setn, addE, goneL] at H
 refine vn tbok 1 [] [] [] E (by kernel_rfl) (by kernel_rfl) trivial ?_
 clear E; intro a E
 refine wpList_nil ?_
 refine th_n ?_
 refine wp_seq ?_
 refine wp_seq ?_
 refine wp_region_lit ?_
 refine vn tbok 1 [.agg #[.int .i64 aProps, .slice A1 (List.length aAccept) c2, .slice A5 (List.length aGuard) c6, .slice A9 (List.length aNodes) c10]] [(6, .agg #[.int .i64 aProps, .slice A1 (List.length aAccept) c2, .slice A5 (List.length aGuard) c6, .slice A9 (List.length aNodes) c10])] [cellsAt w18 g17 (0) [.int .i64 aProps, .slice A1 (List.length aAccept) c2, .slice A5 (List.length aGuard) c6, .slice A9 (List.length aNodes) c10]] E (by kernel_rfl) (by kernel_rfl) ((H.box 4 rfl).sub 0 _ rfl) ?_
 clear E; intro a E
 obtain ⟨r22, h23, hP⟩ := bind_inv hP
 obtain ⟨Fa24, Hc25, hb26⟩ := H.call [] [(0, false), (1, false), (2, false)] rfl rfl trivial
 refine e_call E rfl rfl Try.func49 rfl rfl rfl (guard_Check_calls A1 c2 A5 c6 A9 c10 aProps aAccept aGuard aNodes hk3 hk7 hk11 Hc25 h23) ?_
 rintro v27 w28 a ⟨rfl, HR29⟩ E_
 replace E := E_ _ rfl; clear E_
 obtain ⟨H_, hc30⟩ := hb26 _ _ HR29 rfl
 replace H := H_; clear H_; try dsimp only [setn, addE, goneL] at H
 refine vn tbok 1 [] [(5, .int .i64 r22)] [] E (by kernel_rfl) (by kernel_rfl) trivial ?_
 clear E; intro a E
 refine wpList_nil ?_
 refine th_n ?_
 refine wp_seq ?_
 refine wp_region_lit ?_
 refine vn tbok 2 [] [(9, .bool ((r22 : Int) != 0))] [] E (by kernel_rfl) (by kernel_rfl) trivial ?_
 clear E; intro a E
 refine wpList_nil ?_
 refine th_n ?_
 refine E.cases (t := 9) rfl (fun hb_ E_ => ?_) (fun hb_ E_ => ?_)
 ·
  replace E := E_; clear E_
  have h31 : ¬ ((r22 : Int) = 0) := bne_iff_ne.1 hb_
  clear hb_; replace hP := ite_f h31 hP
  refine c_true E rfl ?_
  refine wp_seq ?_
  refine wp_region_lit ?_
  refine vn tbok 2 [] [(4, .int .i64 r22)] [] E (by kernel_rfl) (by kernel_rfl) trivial ?_
  clear E; intro a E
  refine wpList_nil ?_
  refine th_n ?_
  refine wp_ret ?_
  refine th_ret ?_
  obtain rfl := Option.some.inj hP
  refine ret1 E rfl rfl ?_
  exact ⟨_, rfl, rfl, H.sel [] rfl⟩
 replace E := E_; clear E_
 have h32 : (r22 : Int) = 0 := bne_eq_false_iff_eq.1 hb_
 clear hb_; replace hP := ite_t h32 hP
 refine c_false E rfl ?_
 refine wp_skip ?_
 refine th_n ?_
 refine wp_seq ?_
 refine wp_region_lit ?_
 refine vn tbok 3 [.int .i64 aProps] [(12, .int .i64 aProps), (13, .slice A13 (List.length t) c14)] [World.cell? w28 ⟨g17, 0, none⟩ = some (.int .i64 aProps)] E (by kernel_rfl) (by kernel_rfl) ((H.box 4 rfl).cell (j := 0) rfl) ?_
 clear E; intro a E
 obtain ⟨r33, h34, hP⟩ := bind_inv hP
 obtain ⟨Fa35, Hc36, hb37⟩ := H.call [] [(3, false)] rfl rfl trivial
 refine e_call E rfl rfl Try.func26 rfl rfl rfl (letter_Trace_calls A13 c14 aProps t hk15 Hc36 h34) ?_
 rintro v38 w39 a ⟨rfl, HR40⟩ E_
 replace E := E_ _ rfl; clear E_
 obtain ⟨H_, hc41⟩ := hb37 _ _ HR40 rfl
 replace H := H_; clear H_; try dsimp only [setn, addE, goneL] at H
 refine vn tbok 1 [] [(4, .int .i64 r33)] [] E (by kernel_rfl) (by kernel_rfl) trivial ?_
 clear E; intro a E
 refine wpList_nil ?_
 refine th_n ?_
 refine wp_ret ?_
 obtain rfl := Option.some.inj hP
 refine ret1 E rfl rfl ?_
 exact ⟨_, rfl, rfl, H.sel [] rfl⟩

/-! rejoinder/guard.Go -/
def guard_Go_l0 (N : Nat) (nodes : List Nd) (ll : Int) : Nat → Int → Int → Option (Unit ⊕ (Int × Bool))
  | 0, _, _ => none
  | m55 + 1, ref27, x28 =>
    if x28 < 9 then
      if ref27 < 0 then
        ask (in64 ((-1) - ref27)) <|
        some (Sum.inr ((-1) - ref27, true))
      else
        if (((List.length nodes) : Nat) : Int) ≤ ref27 then
          some (Sum.inr (0, false))
        else
          ask (idx ref27 (List.length nodes)) <|
          if ((List.getD nodes (Int.toNat ref27) (default : Nd)).P) < 0 then
            some (Sum.inr (0, false))
          else
            if 8 ≤ ((List.getD nodes (Int.toNat ref27) (default : Nd)).P) then
              some (Sum.inr (0, false))
            else
              ask (0 ≤ ((List.getD nodes (Int.toNat ref27) (default : Nd)).P)) <|
              if (andV .u8 (shrV .u8 ll ((List.getD nodes (Int.toNat ref27) (default : Nd)).P)) 1 : Int) = 1 then
                ask (in64 (x28 + 1)) <|
                guard_Go_l0 N nodes ll m55 ((List.getD nodes (Int.toNat ref27) (default : Nd)).Hi) (x28 + 1)
              else
                ask (in64 (x28 + 1)) <|
                guard_Go_l0 N nodes ll m55 ((List.getD nodes (Int.toNat ref27) (default : Nd)).Lo) (x28 + 1)
    else
      some (Sum.inl ())
def guard_Go (N : Nat) (nodes : List Nd) (ref : Int) (ll : Int) : Option (Int × Bool) :=
  Option.bind (guard_Go_l0 N nodes ll N ref 0) fun x56 =>
  Sum.elim (fun x61 =>
    some (0, false))
   (fun x88 =>
    some x88) x56
set_option maxRecDepth 100000 in
set_option maxHeartbeats 4000000 in
theorem guard_Go_calls {N : Nat} {S Fa : Nat → Prop} {w0 : World} {r : Int × Bool} (A1 : Option Addr) (c2 : Nat) (nodes : List Nd) (ref : Int) (ll : Int) (hk3 : List.length nodes ≤ c2) (H : Hp S Fa w0 w0 [.ro false cNode A1 nodes]) (hP : guard_Go N nodes ref ll = some r) :
    Calls Try.prog 56 #[.slice A1 (List.length nodes) c2, .int .i64 ref, .int .u8 ll] w0 fun e w' => ∃ v, e = .returned v ∧ v = .tuple #[.int .i64 r.1, .bool r.2] ∧ Hp S Fa w0 w' [] := by
 refine enterV (n := 50) Try.func56 rfl rfl rfl ?_
 intro a E
 replace E := E.pick [(0, .slice A1 (List.length nodes) c2), (1, .int .i64 ref), (2, .int .u8 ll)] ⟨rfl, rfl, rfl, trivial⟩
 rw [guard_Go] at hP
 refine wp_seq ?_
 refine wp_region_lit ?_
 refine vn tbok 2 [] [] [] E (by kernel_rfl) (by kernel_rfl) trivial ?_
 clear E; intro a E
 refine wpList_nil ?_
 refine th_n ?_
 refine wp_seq ?_
 refine wp_seq ?_
 refine wp_region_lit ?_
 refine vn tbok 1 [] [(9, .int .i64 0)] [] E (by kernel_rfl) (by kernel_rfl) trivial ?_
 clear E; intro a E
 refine wpList_nil ?_
 refine th_n ?_
 refine wp_block ?_
 obtain ⟨x56, hL57, hK58⟩ := bind_inv hP
 clear hP
 refine loop_cut (fun i_ a w_ => (i_ = 0 ∧ ∃ (x61 : Unit), Fr a 50 [] ∧ Hp S Fa w0 w_ [] ∧ x56 = Sum.inl x61)) ?_ ?_
 ·
  refine loopV (fun m60 a w59 => ∃ (ref27 : Int) (x28 : Int), Fr a 50 [(0, .slice A1 (List.length nodes) c2), (1, .int .i64 ref27), (2, .int .u8 ll), (9, .int .i64 x28)] ∧ Hp S Fa w0 w59 [.ro false cNode A1 nodes] ∧ guard_Go_l0 N nodes ll m60 ref27 x28 = some x56) N ?_ ?_
  ·
   exact ⟨ref, 0, E.pick _ ⟨rfl, rfl, rfl, rfl, trivial⟩, H.sel [0] rfl, hL57⟩
  clear E H hL57; intro m60 a w59 hI_
  obtain ⟨ref27, x28, E, H, hP⟩ := hI_
  obtain ⟨m55, rfl⟩ : ∃ q_, m60 = q_ + 1 := by cases m60 with | zero => rw [guard_Go_l0] at hP; cases hP | succ q_ => exact ⟨q_, rfl⟩
  rw [guard_Go_l0] at hP
  refine wp_seq ?_
  refine wp_region_lit ?_
  refine vn tbok 1 [] [(10, .bool (decide (x28 < 9)))] [] E (by kernel_rfl) (by kernel_rfl) trivial ?_
  clear E; intro a E
  refine wpList_nil ?_
  refine th_n ?_
  refine wp_seq ?_
  refine E.cases (t := 10) rfl (fun hb_ E_ => ?_) (fun hb_ E_ => ?_)
  ·
   replace E := E_; clear E_
   have h62 : x28 < 9 := of_decide_eq_true hb_
   clear hb_; replace hP := ite_t h62 hP
   refine c_true E rfl ?_
   refine wp_skip ?_
   refine th_n ?_
   refine wp_seq ?_
   refine wp_block ?_
   refine wp_seq ?_
   refine wp_seq ?_
   refine wp_region_lit ?_
   refine vn tbok 2 [] [(12, .bool (decide (ref27 < 0)))] [] E (by kernel_rfl) (by kernel_rfl) trivial ?_
   clear E; intro a E
   refine wpList_nil ?_
   refine th_n ?_
   refine E.cases (t := 12) rfl (fun hb_ E_ => ?_) (fun hb_ E_ => ?_)
   ·
    replace E := E_; clear E_
    have h63 : ref27 < 0 := of_decide_eq_true hb_
    clear hb_; replace hP := ite_t h63 hP
    refine c_true E rfl ?_
    refine wp_seq ?_
    refine wp_region_lit ?_
    obtain ⟨g64, hP⟩ := ask_inv hP
    refine vn tbok 4 [.int .i64 ((-1) - ref27)] [(6, .int .i64 ((-1) - ref27)), (7, .bool true)] [IntKind.i64.wrap ((-1) - ref27) = (-1) - ref27] E (by kernel_rfl) (by kernel_rfl) (wrap_in g64) ?_
    clear E; intro a E
    refine wpList_nil ?_
    refine th_n ?_
    refine wp_ret ?_
    refine th_ret ?_
    refine bl_ret ?_
    refine th_ret ?_
    refine th_ret ?_
    refine .inr ⟨rfl, ?_⟩
    refine bl_ret ?_
    refine th_ret ?_
    have hx_ := Option.some.inj hP; subst hx_
    have hP : some (((-1) - ref27, true)) = some r := hK58
    obtain rfl := Option.some.inj hP
    refine ret2 E rfl rfl rfl ?_
    exact ⟨_, rfl, rfl, H.sel [] rfl⟩
   replace E := E_; clear E_
   have h65 : ¬ (ref27 < 0) := of_decide_eq_false hb_
   clear hb_; replace hP := ite_f h65 hP
   refine c_false E rfl ?_
   refine wp_skip ?_
   refine th_n ?_
   refine wp_seq ?_
   refine wp_seq ?_
   refine wp_region_lit ?_
   refine vn tbok 5 [] [(19, .bool (decide ((((List.length nodes) : Nat) : Int) ≤ ref27)))] [] E (by kernel_rfl) (by kernel_rfl) trivial ?_
   clear E; intro a E
   refine E.cases (t := 19) rfl (fun hb_ E_ => ?_) (fun hb_ E_ => ?_)
   ·
    replace E := E_; clear E_
    have h66 : (((List.length nodes) : Nat) : Int) ≤ ref27 := of_decide_eq_true hb_
    clear hb_; replace hP := ite_t h66 hP
    refine vn tbok 15 [] [(34, .bool true)] [] E (by kernel_rfl) (by kernel_rfl) trivial ?_
    clear E; intro a E
    refine wpList_nil ?_
    refine th_n ?_
    refine c_true E rfl ?_
    refine wp_seq ?_
    refine wp_region_lit ?_
    refine vn tbok 2 [] [(6, .int .i64 0), (7, .bool false)] [] E (by kernel_rfl) (by kernel_rfl) trivial ?_
    clear E; intro a E
    refine wpList_nil ?_
    refine th_n ?_
    refine wp_ret ?_
    refine th_ret ?_
    refine bl_ret ?_
    refine th_ret ?_
    refine th_ret ?_
    refine .inr ⟨rfl, ?_⟩
    refine bl_ret ?_
    refine th_ret ?_
    have hx_ := Option.some.inj hP; subst hx_
    have hP : some ((0, false)) = some r := hK58
    obtain rfl := Option.some.inj hP
    refine ret2 E rfl rfl rfl ?_
    exact ⟨_, rfl, rfl, H.sel [] rfl⟩
   replace E := E_; clear E_
   have h67 : ¬ ((((List.length nodes) : Nat) : Int) ≤ ref27) := of_decide_eq_false hb_
   clear hb_; replace hP := ite_f h67 hP
   obtain ⟨g68, hP⟩ := ask_inv hP
   obtain ⟨b69, o70, e_b69⟩ := (H.rd 0 rds_ro).addr (idx_pos g68)
   subst e_b69
   refine vn tbok 8 [.int .i64 ((List.getD nodes (Int.toNat ref27) (default : Nd)).P)] [(27, .bool (decide (((List.getD nodes (Int.toNat ref27) (default : Nd)).P) < 0)))] [0 ≤ ref27 ∧ ref27 < (((List.length nodes) : Nat) : Int), World.cell? w59 ⟨b69, o70 + (Int.toNat ref27) * 3, none⟩ = some (.int .i64 ((List.getD nodes (Int.toNat ref27) (default : Nd)).P))] E (by kernel_rfl) (by kernel_rfl) ⟨g68, (Rds.atP (H.rd 0 rds_ro) (default : Nd) g68).1⟩ ?_
   clear E; intro a E
   refine E.cases (t := 27) rfl (fun hb_ E_ => ?_) (fun hb_ E_ => ?_)
   ·
    replace E := E_; clear E_
    have h71 : ((List.getD nodes (Int.toNat ref27) (default : Nd)).P) < 0 := of_decide_eq_true hb_
    clear hb_; replace hP := ite_t h71 hP
    refine vn tbok 7 [] [(34, .bool true)] [] E (by kernel_rfl) (by kernel_rfl) trivial ?_
    clear E; intro a E
    refine wpList_nil ?_
    refine th_n ?_
    refine c_true E rfl ?_
    refine wp_seq ?_
    refine wp_region_lit ?_
    refine vn tbok 2 [] [(6, .int .i64 0), (7, .bool false)] [] E (by kernel_rfl) (by kernel_rfl) trivial ?_
    clear E; intro a E
    refine wpList_nil ?_
    refine th_n ?_
    refine wp_ret ?_
    refine th_ret ?_
    refine bl_ret ?_
    refine th_ret ?_
    refine th_ret ?_
    refine .inr ⟨rfl, ?_⟩
    refine bl_ret ?_
    refine th_ret ?_
    have hx_ := Option.some.inj hP; subst hx_
    have hP : some ((0, false)) = some r := hK58
    obtain rfl := Option.some.inj hP
    refine ret2 E rfl rfl rfl ?_
    exact ⟨_, rfl, rfl, H.sel [] rfl⟩
   replace E := E_; clear E_
   have h72 : ¬ (((List.getD nodes (Int.toNat ref27) (default : Nd)).P) < 0) := of_decide_eq_false hb_
   clear hb_; replace hP := ite_f h72 hP
   refine vn tbok 7 [.int .i64 ((List.getD nodes (Int.toNat ref27) (default : Nd)).P)] [(34, .bool (decide (8 ≤ ((List.getD nodes (Int.toNat ref27) (default : Nd)).P))))] [0 ≤ ref27 ∧ ref27 < (((List.length nodes) : Nat) : Int), World.cell? w59 ⟨b69, o70 + (Int.toNat ref27) * 3, none⟩ = some (.int .i64 ((List.getD nodes (Int.toNat ref27) (default : Nd)).P))] E (by kernel_rfl) (by kernel_rfl) ⟨g68, (Rds.atP (H.rd 0 rds_ro) (default : Nd) g68).1⟩ ?_
   clear E; intro a E
   refine wpList_nil ?_
   refine th_n ?_
   refine E.cases (t := 34) rfl (fun hb_ E_ => ?_) (fun hb_ E_ => ?_)
   ·
    replace E := E_; clear E_
    have h73 : 8 ≤ ((List.getD nodes (Int.toNat ref27) (default : Nd)).P) := of_decide_eq_true hb_
    clear hb_; replace hP := ite_t h73 hP
    refine c_true E rfl ?_
    refine wp_seq ?_
    refine wp_region_lit ?_
    refine vn tbok 2 [] [(6, .int .i64 0), (7, .bool false)] [] E (by kernel_rfl) (by kernel_rfl) trivial ?_
    clear E; intro a E
    refine wpList_nil ?_
    refine th_n ?_
    refine wp_ret ?_
    refine th_ret ?_
    refine bl_ret ?_
    refine th_ret ?_
    refine th_ret ?_
    refine .inr ⟨rfl, ?_⟩
    refine bl_ret ?_
    refine th_ret ?_
    have hx_ := Option.some.inj hP; subst hx_
    have hP : some ((0, false)) = some r := hK58
    obtain rfl := Option.some.inj hP
    refine ret2 E rfl rfl rfl ?_
    exact ⟨_, rfl, rfl, H.sel [] rfl⟩
   replace E := E_; clear E_
   have h74 : ¬ (8 ≤ ((List.getD nodes (Int.toNat ref27) (default : Nd)).P)) := of_decide_eq_false hb_
   clear hb_; replace hP := ite_f h74 hP
   refine c_false E rfl ?_
   refine wp_skip ?_
   refine th_n ?_
   refine wp_seq ?_
   refine wp_region_lit ?_
   refine vn tbok 4 [.agg #[.int .i64 ((List.getD nodes (Int.toNat ref27) (default : Nd)).P), .int .i64 ((List.getD nodes (Int.toNat ref27) (default : Nd)).Lo), .int .i64 ((List.getD nodes (Int.toNat ref27) (default : Nd)).Hi)]] [(38, .agg #[.int .i64 ((List.getD nodes (Int.toNat ref27) (default : Nd)).P), .int .i64 ((List.getD nodes (Int.toNat ref27) (default : Nd)).Lo), .int .i64 ((List.getD nodes (Int.toNat ref27) (default : Nd)).Hi)])] [0 ≤ ref27 ∧ ref27 < (((List.length nodes) : Nat) : Int), cellsAt w59 b69 (o70 + (Int.toNat ref27) * 3) [.int .i64 ((List.getD nodes (Int.toNat ref27) (default : Nd)).P), .int .i64 ((List.getD nodes (Int.toNat ref27) (default : Nd)).Lo), .int .i64 ((List.getD nodes (Int.toNat ref27) (default : Nd)).Hi)]] E (by kernel_rfl) (by kernel_rfl) ⟨g68, Rds.atP (H.rd 0 rds_ro) (default : Nd) g68⟩ ?_
   clear E; intro a E
   refine h_alloc H E rfl rfl tbok rfl ?_
   intro w76 g75 a hc77 hg79 H_ E_
   replace E := E_ _ rfl; clear E_
   replace H := H_; clear H_; try dsimp only [setn, addE, goneL] at H
   refine h_store (g := g75) (off := 0) H 1 rfl E rfl rfl rfl rfl tbok rfl rfl rfl rfl rfl ?_
   clear E; intro w80 a hc81 H_ E
   replace H := H_; clear H_; try dsimp only [setn, addE, goneL] at H
   refine wpList_nil ?_
   refine th_n ?_
   refine wp_seq ?_
   refine wp_region_lit ?_
   refine vn tbok 3 [.int .i64 ((List.getD nodes (Int.toNat ref27) (default : Nd)).Lo)] [(1, .int .i64 ((List.getD nodes (Int.toNat ref27) (default : Nd)).Lo))] [World.cell? w80 ⟨g75, 1, none⟩ = some (.int .i64 ((List.getD nodes (Int.toNat ref27) (default : Nd)).Lo))] E (by kernel_rfl) (by kernel_rfl) ((H.box 1 rfl).cell (j := 1) rfl) ?_
   clear E; intro a E
   refine wpList_nil ?_
   refine th_n ?_
   refine wp_seq ?_
   refine wp_region_lit ?_
   obtain ⟨g82, hP⟩ := ask_inv hP
   refine vn tbok 6 [.int .i64 ((List.getD nodes (Int.toNat ref27) (default : Nd)).P), .int .u8 (shrV .u8 ll ((List.getD nodes (Int.toNat ref27) (default : Nd)).P)), .int .u8 (andV .u8 (shrV .u8 ll ((List.getD nodes (Int.toNat ref27) (default : Nd)).P)) 1)] [(46, .bool ((andV .u8 (shrV .u8 ll ((List.getD nodes (Int.toNat ref27) (default : Nd)).P)) 1 : Int) == 1))] [World.cell? w80 ⟨g75, 0, none⟩ = some (.int .i64 ((List.getD nodes (Int.toNat ref27) (default : Nd)).P)), 0 ≤ ((List.getD nodes (Int.toNat ref27) (default : Nd)).P) ∧ Int.fdiv ll (2 ^ (min (Int.toNat ((List.getD nodes (Int.toNat ref27) (default : Nd)).P)) (IntKind.bits .u8))) = shrV .u8 ll ((List.getD nodes (Int.toNat ref27) (default : Nd)).P), IntKind.u8.wrap (BitVec.ofInt (IntKind.bits .u8) (shrV .u8 ll ((List.getD nodes (Int.toNat ref27) (default : Nd)).P)) &&& BitVec.ofInt (IntKind.bits .u8) 1).toNat = andV .u8 (shrV .u8 ll ((List.getD nodes (Int.toNat ref27) (default : Nd)).P)) 1] E (by kernel_rfl) (by kernel_rfl) ⟨(H.box 1 rfl).cell (j := 0) rfl, ⟨g82, rfl⟩, rfl⟩ ?_
   clear E; intro a E
   refine wpList_nil ?_
   refine th_n ?_
   refine E.cases (t := 46) rfl (fun hb_ E_ => ?_) (fun hb_ E_ => ?_)
   ·
    replace E := E_; clear E_
    have h83 : (andV .u8 (shrV .u8 ll ((List.getD nodes (Int.toNat ref27) (default : Nd)).P)) 1 : Int) = 1 := eq_of_beq hb_
    clear hb_; replace hP := ite_t h83 hP
    refine c_true E rfl ?_
    refine wp_region_lit ?_
    refine vn tbok 3 [.int .i64 ((List.getD nodes (Int.toNat ref27) (default : Nd)).Hi)] [(1, .int .i64 ((List.getD nodes (Int.toNat ref27) (default : Nd)).Hi))] [World.cell? w80 ⟨g75, 2, none⟩ = some (.int .i64 ((List.getD nodes (Int.toNat ref27) (default : Nd)).Hi))] E (by kernel_rfl) (by kernel_rfl) ((H.box 1 rfl).cell (j := 2) rfl) ?_
    clear E; intro a E
    refine wpList_nil ?_
    refine bl_n ?_
    refine th_n ?_
    refine wp_region_lit ?_
    obtain ⟨g84, hP⟩ := ask_inv hP
    refine vn tbok 2 [.int .i64 (x28 + 1)] [(9, .int .i64 (x28 + 1))] [IntKind.i64.wrap (x28 + 1) = x28 + 1] E (by kernel_rfl) (by kernel_rfl) (wrap_in g84) ?_
    clear E; intro a E
    refine wpList_nil ?_
    exact th_n ⟨m55, Nat.lt_succ_self _, (List.getD nodes (Int.toNat ref27) (default : Nd)).Hi, x28 + 1, E.pick _ ⟨rfl, rfl, rfl, rfl, trivial⟩, H.sel [0] rfl, hP⟩
   replace E := E_; clear E_
   have h85 : ¬ ((andV .u8 (shrV .u8 ll ((List.getD nodes (Int.toNat ref27) (default : Nd)).P)) 1 : Int) = 1) := ne_of_beq_false hb_
   clear hb_; replace hP := ite_f h85 hP
   refine c_false E rfl ?_
   refine wp_skip ?_
   refine bl_n ?_
   refine th_n ?_
   refine wp_region_lit ?_
   obtain ⟨g86, hP⟩ := ask_inv hP
   refine vn tbok 2 [.int .i64 (x28 + 1)] [(9, .int .i64 (x28 + 1))] [IntKind.i64.wrap (x28 + 1) = x28 + 1] E (by kernel_rfl) (by kernel_rfl) (wrap_in g86) ?_
   clear E; intro a E
   refine wpList_nil ?_
   exact th_n ⟨m55, Nat.lt_succ_self _, (List.getD nodes (Int.toNat ref27) (default : Nd)).Lo, x28 + 1, E.pick _ ⟨rfl, rfl, rfl, rfl, trivial⟩, H.sel [0] rfl, hP⟩
  replace E := E_; clear E_
  have h87 : ¬ (x28 < 9) := of_decide_eq_false hb_
  clear hb_; replace hP := ite_f h87 hP
  refine c_false E rfl ?_
  refine wp_exit ?_
  refine th_exit ?_
  have hx_ := Option.some.inj hP
  refine th_exit (.inl ⟨0, rfl, ?_⟩)
  exact ⟨rfl, (), E.pick _ trivial, H.sel [] rfl, hx_.symm⟩
 clear E H hL57; intro i_ a w59 hM_
 obtain ⟨rfl, x61, E, H, hx_⟩ := hM_
 subst hx_; have hP := elim_l hK58
 clear hK58
 refine bl_hit ?_
 refine th_n ?_
 refine wp_seq ?_
 refine wp_region_lit ?_
 refine vn tbok 2 [] [(6, .int .i64 0), (7, .bool false)] [] E (by kernel_rfl) (by kernel_rfl) trivial ?_
 clear E; intro a E
 refine wpList_nil ?_
 refine th_n ?_
 refine wp_ret ?_
 obtain rfl := Option.some.inj hP
 refine ret2 E rfl rfl rfl ?_
 exact ⟨_, rfl, rfl, H.sel [] rfl⟩

/-! rejoinder/guard.Table -/
def guard_Table_l0 (N : Nat) (n : Int) (nodes : List Nd) (ref : Int) : Nat → (List Int) → Int → Option ((List Int) ⊕ ((List Int) × Int))
  | 0, _, _ => none
  | m72 + 1, out38, x41 =>
    if x41 < (shlV .i64 1 n) then
      Option.bind (guard_Go N nodes ref (IntKind.u8.wrap x41)) fun r81 =>
      if r81.2 = true then
        ask (List.length out38 + List.length ([r81.1] : List Int) ≤ 1000000000) <|
        ask (in64 (x41 + 1)) <|
        guard_Table_l0 N n nodes ref m72 (out38 ++ ([r81.1] : List Int)) (x41 + 1)
      else
        some (Sum.inr ([], 12))
    else
      some (Sum.inl out38)
def guard_Table (N : Nat) (n : Int) (nodes : List Nd) (ref : Int) : Option ((List Int) × Int) :=
  if n < 0 then
    some ([], 2)
  else
    if 8 < n then
      some ([], 2)
    else
      ask (0 ≤ n) <|
      Option.bind (guard_Table_l0 N n nodes ref N [] 0) fun x73 =>
      Sum.elim (fun x79 =>
        some (x79, 0))
       (fun x106 =>
        some x106) x73
set_option maxRecDepth 100000 in
set_option maxHeartbeats 4000000 in
theorem guard_Table_calls {N : Nat} {S Fa : Nat → Prop} {w0 : World} {r : (List Int) × Int} (A1 : Option Addr) (c2 : Nat) (n : Int) (nodes : List Nd) (ref : Int) (hk3 : List.length nodes ≤ c2) (H : Hp S Fa w0 w0 [.ro false cNode A1 nodes]) (hP : guard_Table N n nodes ref = some r) :
    Calls Try.prog 50 #[.int .i64 n, .slice A1 (List.length nodes) c2, .int .i64 ref] w0 fun e w' => ∃ v, e = .returned v ∧ ∃ (A107 : Option Addr) (c108 : Nat), v = .tuple #[.slice A107 (List.length r.1) c108, .int .i64 r.2] ∧ Hp S Fa w0 w' [.row true (cInt .i64) 3 A107 c108 r.1] := by
 refine enterV (n := 39) Try.func50 rfl rfl rfl ?_
 intro a E
 replace E := E.pick [(0, .int .i64 n), (1, .slice A1 (List.length nodes) c2), (2, .int .i64 ref)] ⟨rfl, rfl, rfl, trivial⟩
 rw [guard_Table] at hP
 refine wp_seq ?_
 refine wp_region_lit ?_
 refine vn tbok 2 [] [] [] E (by kernel_rfl) (by kernel_rfl) trivial ?_
 clear E; intro a E
 refine wpList_nil ?_
 refine th_n ?_
 refine wp_seq ?_
 refine wp_seq ?_
 refine wp_region_lit ?_
 refine vn tbok 3 [] [(14, .bool (decide (n < 0)))] [] E (by kernel_rfl) (by kernel_rfl) trivial ?_
 clear E; intro a E
 refine E.cases (t := 14) rfl (fun hb_ E_ => ?_) (fun hb_ E_ => ?_)
 ·
  replace E := E_; clear E_
  have h5 : n < 0 := of_decide_eq_true hb_
  clear hb_; replace hP := ite_t h5 hP
  refine vn tbok 3 [] [(17, .bool true)] [] E (by kernel_rfl) (by kernel_rfl) trivial ?_
  clear E; intro a E
  refine wpList_nil ?_
  refine th_n ?_
  refine c_true E rfl ?_
  refine wp_seq ?_
  refine wp_region_lit ?_
  refine vn tbok 2 [] [(6, .slice none 0 0), (7, .int .i64 2)] [] E (by kernel_rfl) (by kernel_rfl) trivial ?_
  clear E; intro a E
  refine wpList_nil ?_
  refine th_n ?_
  refine wp_ret ?_
  refine th_ret ?_
  replace H := H.nilrow (cInt .i64) 3; try dsimp only [setn, addE, goneL] at H
  obtain rfl := Option.some.inj hP
  refine ret2 E rfl rfl rfl ?_
  exact ⟨_, rfl, none, 0, rfl, H.sel [1] rfl⟩
 replace E := E_; clear E_
 have h7 : ¬ (n < 0) := of_decide_eq_false hb_
 clear hb_; replace hP := ite_f h7 hP
 refine vn tbok 3 [] [(17, .bool (decide (8 < n)))] [] E (by kernel_rfl) (by kernel_rfl) trivial ?_
 clear E; intro a E
 refine wpList_nil ?_
 refine th_n ?_
 refine E.cases (t := 17) rfl (fun hb_ E_ => ?_) (fun hb_ E_ => ?_)
 ·
  replace E := E_; clear E_
  have h8 : 8 < n := of_decide_eq_true hb_
  clear hb_; replace hP := ite_t h8 hP
  refine c_true E rfl ?_
  refine wp_seq ?_
  refine wp_region_lit ?_
  refine vn tbok 2 [] [(6, .slice none 0 0), (7, .int .i64 2)] [] E (by kernel_rfl) (by kernel_rfl) trivial ?_
  clear E; intro a E
  refine wpList_nil ?_
  refine th_n ?_
  refine wp_ret ?_
  refine th_ret ?_
  replace H := H.nilrow (cInt .i64) 3; try dsimp only [setn, addE, goneL] at H
  obtain rfl := Option.some.inj hP
  refine ret2 E rfl rfl rfl ?_
  exact ⟨_, rfl, none, 0, rfl, H.sel [1] rfl⟩
 replace E := E_; clear E_
 have h10 : ¬ (8 < n) := of_decide_eq_false hb_
 clear hb_; replace hP := ite_f h10 hP
 refine c_false E rfl ?_
 refine wp_skip ?_
 refine th_n ?_
 refine wp_seq ?_
 refine wp_region_lit ?_
 refine vn tbok 1 [] [(8, .slice none 0 0)] [] E (by kernel_rfl) (by kernel_rfl) trivial ?_
 clear E; intro a E
 refine wpList_nil ?_
 refine th_n ?_
 refine wp_seq ?_
 refine wp_seq ?_
 refine wp_region_lit ?_
 obtain ⟨g11, hP⟩ := ask_inv hP
 refine vn tbok 3 [.int .i64 (shlV .i64 1 n)] [(19, .int .i64 (shlV .i64 1 n)), (20, .int .i64 0)] [0 ≤ n ∧ IntKind.i64.wrap (1 * 2 ^ (min (Int.toNat n) (IntKind.bits .i64))) = shlV .i64 1 n] E (by kernel_rfl) (by kernel_rfl) (⟨g11, rfl⟩) ?_
 clear E; intro a E
 refine wpList_nil ?_
 refine th_n ?_
 refine wp_block ?_
 obtain ⟨x73, hL74, hK75⟩ := bind_inv hP
 clear hP
 replace H := H.nilrow (cInt .i64) 3; try dsimp only [setn, addE, goneL] at H
 refine loop_cut (fun i_ a w_ => (i_ = 0 ∧ ∃ (x79 : List Int), ∃ (A70 : Option Addr) (c71 : Nat), Fr a 39 [(8, .slice A70 (List.length x79) c71)] ∧ Hp S Fa w0 w_ [.row true (cInt .i64) 3 A70 c71 x79] ∧ x73 = Sum.inl x79)) ?_ ?_
 ·
  refine loopV (fun m78 a w77 => ∃ (out38 : List Int) (x41 : Int), ∃ (A39 : Option Addr) (c40 : Nat), Fr a 39 [(1, .slice A1 (List.length nodes) c2), (2, .int .i64 ref), (8, .slice A39 (List.length out38) c40), (19, .int .i64 (shlV .i64 1 n)), (20, .int .i64 x41)] ∧ Hp S Fa w0 w77 [.ro false cNode A1 nodes, .row true (cInt .i64) 3 A39 c40 out38] ∧ guard_Table_l0 N n nodes ref m78 out38 x41 = some x73) N ?_ ?_
  ·
   exact ⟨[], 0, none, 0, E.pick _ ⟨rfl, rfl, rfl, rfl, rfl, trivial⟩, H.sel [0, 1] rfl, hL74⟩
  clear E H hL74; intro m78 a w77 hI_
  obtain ⟨out38, x41, A39, c40, E, H, hP⟩ := hI_
  obtain ⟨m72, rfl⟩ : ∃ q_, m78 = q_ + 1 := by cases m78 with | zero => rw [guard_Table_l0] at hP; cases hP | succ q_ => exact ⟨q_, rfl⟩
  rw [guard_Table_l0] at hP
  refine wp_seq ?_
  refine wp_region_lit ?_
  refine vn tbok 1 [] [(21, .bool (decide (x41 < (shlV .i64 1 n))))] [] E (by kernel_rfl) (by kernel_rfl) trivial ?_
  clear E; intro a E
  refine wpList_nil ?_
  refine th_n ?_
  refine wp_seq ?_
  refine E.cases (t := 21) rfl (fun hb_ E_ => ?_) (fun hb_ E_ => ?_)
  ·
   replace E := E_; clear E_
   have h80 : x41 < (shlV .i64 1 n) := of_decide_eq_true hb_
   clear hb_; replace hP := ite_t h80 hP
   refine c_true E rfl ?_
   refine wp_skip ?_
   refine th_n ?_
   refine wp_seq ?_
   refine wp_block ?_
   refine wp_seq ?_
   refine wp_region_lit ?_
   refine vn tbok 2 [] [(9, .int .i64 x41)] [] E (by kernel_rfl) (by kernel_rfl) trivial ?_
   clear E; intro a E
   refine wpList_nil ?_
   refine th_n ?_
   refine wp_seq ?_
   refine wp_region_lit ?_
   refine vn tbok 4 [.int .u8 (IntKind.u8.wrap x41)] [(24, .slice A1 (List.length nodes) c2), (25, .int .i64 ref), (27, .int .u8 (IntKind.u8.wrap x41))] [IntKind.u8.wrap x41 = (IntKind.u8.wrap x41)] E (by kernel_rfl) (by kernel_rfl) (rfl) ?_
   clear E; intro a E
   obtain ⟨r81, h82, hP⟩ := bind_inv hP
   obtain ⟨Fa83, Hc84, hb85⟩ := H.call [] [(0, false)] rfl rfl trivial
   refine e_call E rfl rfl Try.func56 rfl rfl rfl (guard_Go_calls A1 c2 nodes ref (IntKind.u8.wrap x41) hk3 Hc84 h82) ?_
   rintro v86 w87 a ⟨rfl, HR88⟩ E_
   replace E := E_ _ rfl; clear E_
   obtain ⟨H_, hc89⟩ := hb85 _ _ HR88 rfl
   replace H := H_; clear H_; try dsimp only [setn, addE, goneL] at H
   refine vn tbok 5 [] [(10, .int .i64 r81.1), (11, .bool r81.2)] [] E (by kernel_rfl) (by kernel_rfl) trivial ?_
   clear E; intro a E
   refine wpList_nil ?_
   refine th_n ?_
   refine wp_seq ?_
   refine wp_seq ?_
   refine wp_region_lit ?_
   refine vn tbok 2 [] [(32, .bool (!r81.2))] [] E (by kernel_rfl) (by kernel_rfl) trivial ?_
   clear E; intro a E
   refine wpList_nil ?_
   refine th_n ?_
   refine E.cases (t := 32) rfl (fun hb_ E_ => ?_) (fun hb_ E_ => ?_)
   ·
    replace E := E_; clear E_
    have h90 : ¬ (r81.2 = true) := (ne_true_of_eq_false (not_t hb_))
    clear hb_; replace hP := ite_f h90 hP
    refine c_true E rfl ?_
    refine wp_seq ?_
    refine wp_region_lit ?_
    refine vn tbok 2 [] [(6, .slice none 0 0), (7, .int .i64 12)] [] E (by kernel_rfl) (by kernel_rfl) trivial ?_
    clear E; intro a E
    refine wpList_nil ?_
    refine th_n ?_
    refine wp_ret ?_
    refine th_ret ?_
    refine bl_ret ?_
    refine th_ret ?_
    refine th_ret ?_
    refine .inr ⟨rfl, ?_⟩
    refine bl_ret ?_
    refine th_ret ?_
    replace H := H.nilrow (cInt .i64) 3; try dsimp only [setn, addE, goneL] at H
    have hx_ := Option.some.inj hP; subst hx_
    have hP : some (([], 12)) = some r := hK75
    obtain rfl := Option.some.inj hP
    refine ret2 E rfl rfl rfl ?_
    exact ⟨_, rfl, none, 0, rfl, H.sel [2] rfl⟩
   replace E := E_; clear E_
   have h92 : r81.2 = true := (not_f hb_)
   clear hb_; replace hP := ite_t h92 hP
   refine c_false E rfl ?_
   refine wp_skip ?_
   refine th_n ?_
   refine wp_region_lit ?_
   refine vn tbok 2 [] [(33, .slice A39 (List.length out38) c40), (34, .int .i64 r81.1)] [] E (by kernel_rfl) (by kernel_rfl) trivial ?_
   clear E; intro a E
   refine h_buildSlice (ps := [(0, .int .i64 r81.1)]) (cs := [.int .i64 r81.1]) H E rfl rfl tbok rfl rfl (by kernel_rfl) ?_
   intro w94 g93 a hc95 hg97 H_ E_
   replace E := E_ _ rfl; clear E_
   replace H := H_; clear H_; try dsimp only [setn, addE, goneL] at H
   obtain ⟨g98, hP⟩ := ask_inv hP
   refine h_append (cInt .i64) (xs := out38) (ys := ([r81.1] : List Int)) (0 : Int) H 1 rfl E rfl rfl tbok rfl rfl rfl rfl rfl (fun _ _ => rfl) rfl rfl (fun _ HF_ => HF_.srcB 2 rfl (⟨_, _, rfl, rfl, rfl⟩)) g98 ?_
   intro w99 A100 c101 a hc102 hA103 H_ E_
   replace E := E_ _ rfl; clear E_
   replace H := H_; clear H_; try dsimp only [setn, addE, goneL] at H
   refine vn tbok 1 [] [(8, .slice A100 (List.length (out38 ++ ([r81.1] : List Int))) c101)] [] E (by kernel_rfl) (by kernel_rfl) trivial ?_
   clear E; intro a E
   refine wpList_nil ?_
   refine bl_n ?_
   refine th_n ?_
   refine wp_region_lit ?_
   obtain ⟨g104, hP⟩ := ask_inv hP
   refine vn tbok 2 [.int .i64 (x41 + 1)] [(20, .int .i64 (x41 + 1))] [IntKind.i64.wrap (x41 + 1) = x41 + 1] E (by kernel_rfl) (by kernel_rfl) (wrap_in g104) ?_
   clear E; intro a E
   refine wpList_nil ?_
   exact th_n ⟨m72, Nat.lt_succ_self _, out38 ++ ([r81.1] : List Int), x41 + 1, A100, c101, E.pick _ ⟨rfl, rfl, rfl, rfl, rfl, trivial⟩, H.sel [0, 1] rfl, hP⟩
  replace E := E_; clear E_
  have h105 : ¬ (x41 < (shlV .i64 1 n)) := of_decide_eq_false hb_
  clear hb_; replace hP := ite_f h105 hP
  refine c_false E rfl ?_
  refine wp_exit ?_
  refine th_exit ?_
  have hx_ := Option.some.inj hP
  refine th_exit (.inl ⟨0, rfl, ?_⟩)
  exact ⟨rfl, out38, A39, c40, E.pick _ ⟨rfl, trivial⟩, H.sel [1] rfl, hx_.symm⟩
 clear E H hL74; intro i_ a w77 hM_
 obtain ⟨rfl, x79, A70, c71, E, H, hx_⟩ := hM_
 subst hx_; have hP := elim_l hK75
 clear hK75
 refine bl_hit ?_
 refine th_n ?_
 refine wp_seq ?_
 refine wp_region_lit ?_
 refine vn tbok 3 [] [(6, .slice A70 (List.length x79) c71), (7, .int .i64 0)] [] E (by kernel_rfl) (by kernel_rfl) trivial ?_
 clear E; intro a E
 refine wpList_nil ?_
 refine th_n ?_
 refine wp_ret ?_
 obtain rfl := Option.some.inj hP
 refine ret2 E rfl rfl rfl ?_
 exact ⟨_, rfl, A70, c71, rfl, H.sel [0] rfl⟩

/-! rejoinder/near.tables -/
def near_tables_l0 (N : Nat) (aProps : Int) (aGuard : List Int) (aNodes : List Nd) : Nat → (List (List Int)) → Int → Option (List (List Int))
  | 0, _, _ => none
  | m88 + 1, out49, x52 =>
    if x52 < (((List.length aGuard) : Nat) : Int) then
      ask (idx x52 (List.length aGuard)) <|
      Option.bind (guard_Table N aProps aNodes (List.getD aGuard (Int.toNat x52) 0)) fun r100 =>
      ask (List.length out49 + List.length ([r100.1] : List (List Int)) ≤ 1000000000) <|
      ask (in64 (x52 + 1)) <|
      near_tables_l0 N aProps aGuard aNodes m88 (out49 ++ ([r100.1] : List (List Int))) (x52 + 1)
    else
      some out49
def near_tables (N : Nat) (aProps : Int) (aAccept : List Bool) (aGuard : List Int) (aNodes : List Nd) : Option (List (List Int)) :=
  Option.bind (near_tables_l0 N aProps aGuard aNodes N [] 0) fun x89 =>
  some x89
set_option maxRecDepth 100000 in
set_option maxHeartbeats 4000000 in
theorem near_tables_calls {N : Nat} {S Fa : Nat → Prop} {w0 : World} {r : List (List Int)} (A1 : Option Addr) (c2 : Nat) (A5 : Option Addr) (c6 : Nat) (A9 : Option Addr) (c10 : Nat) (aProps : Int) (aAccept : List Bool) (aGuard : List Int) (aNodes : List Nd) (hk3 : List.length aAccept ≤ c2) (hk7 : List.length aGuard ≤ c6) (hk11 : List.length aNodes ≤ c10) (H : Hp S Fa w0 w0 [.ro false cBool A1 aAccept, .ro false (cInt .i64) A5 aGuard, .ro false cNode A9 aNodes]) (hP : near_tables N aProps aAccept aGuard aNodes = some r) :
    Calls Try.prog 32 #[.agg #[.int .i64 aProps, .slice A1 (List.length aAccept) c2, .slice A5 (List.length aGuard) c6, .slice A9 (List.length aNodes) c10]] w0 fun e w' => ∃ v, e = .returned v ∧ ∃ (A126 : Option Addr) (c127 : Nat), v = .slice A126 (List.length r) c127 ∧ Hp S Fa w0 w' [.row true (cSl (cInt .i64)) 31 A126 c127 r] := by
 refine enterV (n := 30) Try.func32 rfl rfl rfl ?_
 intro a E
 replace E := E.pick [(0, .agg #[.int .i64 aProps, .slice A1 (List.length aAccept) c2, .slice A5 (List.length aGuard) c6, .slice A9 (List.length aNodes) c10])] ⟨rfl, trivial⟩
 rw [near_tables] at hP
 refine wp_seq ?_
 refine wp_region_lit ?_
 refine h_box H E rfl rfl rfl ?_
 intro w14 g13 a hc15 hg17 H_ E_
 replace E := E_ _ rfl; clear E_
 replace H := H_; clear H_; try dsimp only [setn, addE, goneL] at H
 refine vn tbok 1 [] [] [] E (by kernel_rfl) (by kernel_rfl) trivial ?_
 clear E; intro a E
 refine wpList_nil ?_
 refine th_n ?_
 refine wp_seq ?_
 refine wp_region_lit ?_
 refine vn tbok 1 [] [(3, .slice none 0 0)] [] E (by kernel_rfl) (by kernel_rfl) trivial ?_
 clear E; intro a E
 refine wpList_nil ?_
 refine th_n ?_
 refine wp_seq ?_
 refine wp_seq ?_
 refine wp_region_lit ?_
 refine vn tbok 4 [.slice A5 (List.length aGuard) c6] [(9, .slice A5 (List.length aGuard) c6), (10, .int .i64 (((List.length aGuard) : Nat) : Int)), (11, .int .i64 0)] [World.cell? w14 ⟨g13, 2, none⟩ = some (.slice A5 (List.length aGuard) c6)] E (by kernel_rfl) (by kernel_rfl) ((H.box 3 rfl).cell (j := 2) rfl) ?_
 clear E; intro a E
 refine wpList_nil ?_
 refine th_n ?_
 refine wp_block ?_
 obtain ⟨x89, hL90, hK91⟩ := bind_inv hP
 clear hP
 replace H := H.nilrow (cSl (cInt .i64)) 31; try dsimp only [setn, addE, goneL] at H
 refine loop_cut (fun i_ a w_ => (i_ = 0 ∧ ∃ (x95 : List (List Int)), ∃ (A86 : Option Addr) (c87 : Nat), Fr a 30 [(3, .slice A86 (List.length x95) c87)] ∧ Hp S Fa w0 w_ [.row true (cSl (cInt .i64)) 31 A86 c87 x95] ∧ x89 = x95)) ?_ ?_
 ·
  refine loopV (fun m94 a w93 => ∃ (out49 : List (List Int)) (x52 : Int), ∃ (A50 : Option Addr) (c51 : Nat), Fr a 30 [(1, .pointer (some ⟨g13, 0, none⟩)), (3, .slice A50 (List.length out49) c51), (9, .slice A5 (List.length aGuard) c6), (10, .int .i64 (((List.length aGuard) : Nat) : Int)), (11, .int .i64 x52)] ∧ Hp S Fa w0 w93 [.ro false cBool A1 aAccept, .ro false (cInt .i64) A5 aGuard, .ro false cNode A9 aNodes, .box g13 34 [.int .i64 aProps, .slice A1 (List.length aAccept) c2, .slice A5 (List.length aGuard) c6, .slice A9 (List.length aNodes) c10], .row true (cSl (cInt .i64)) 31 A50 c51 out49] ∧ near_tables_l0 N aProps aGuard aNodes m94 out49 x52 = some x89) N ?_ ?_
  ·
   exact ⟨[], 0, none, 0, E.pick _ ⟨rfl, rfl, rfl, rfl, rfl, trivial⟩, H.sel [0, 1, 2, 3, 4] rfl, hL90⟩
  clear E H hL90; intro m94 a w93 hI_
  obtain ⟨out49, x52, A50, c51, E, H, hP⟩ := hI_
  obtain ⟨m88, rfl⟩ : ∃ q_, m94 = q_ + 1 := by cases m94 with | zero => rw [near_tables_l0] at hP; cases hP | succ q_ => exact ⟨q_, rfl⟩
  rw [near_tables_l0] at hP
  refine wp_seq ?_
  refine wp_region_lit ?_
  refine vn tbok 1 [] [(12, .bool (decide (x52 < (((List.length aGuard) : Nat) : Int))))] [] E (by kernel_rfl) (by kernel_rfl) trivial ?_
  clear E; intro a E
  refine wpList_nil ?_
  refine th_n ?_
  refine wp_seq ?_
  refine E.cases (t := 12) rfl (fun hb_ E_ => ?_) (fun hb_ E_ => ?_)
  ·
   replace E := E_; clear E_
   have h96 : x52 < (((List.length aGuard) : Nat) : Int) := of_decide_eq_true hb_
   clear hb_; replace hP := ite_t h96 hP
   refine c_true E rfl ?_
   refine wp_skip ?_
   refine th_n ?_
   refine wp_seq ?_
   refine wp_block ?_
   refine wp_seq ?_
   refine wp_region_lit ?_
   obtain ⟨g97, hP⟩ := ask_inv hP
   obtain ⟨b98, o99, e_b98⟩ := (H.rd 1 rds_ro).addr (idx_pos g97)
   subst e_b98
   refine vn tbok 3 [.int .i64 (List.getD aGuard (Int.toNat x52) 0)] [(5, .int .i64 (List.getD aGuard (Int.toNat x52) 0))] [0 ≤ x52 ∧ x52 < (((List.length aGuard) : Nat) : Int), World.cell? w93 ⟨b98, o99 + (Int.toNat x52) * 1, none⟩ = some (.int .i64 (List.getD aGuard (Int.toNat x52) 0))] E (by kernel_rfl) (by kernel_rfl) ⟨g97, Rds.at1 (H.rd 1 rds_ro) 0 g97⟩ ?_
   clear E; intro a E
   refine wpList_nil ?_
   refine th_n ?_
   refine wp_seq ?_
   refine wp_region_lit ?_
   refine vn tbok 5 [.int .i64 aProps, .slice A9 (List.length aNodes) c10] [(17, .int .i64 aProps), (19, .slice A9 (List.length aNodes) c10), (20, .int .i64 (List.getD aGuard (Int.toNat x52) 0))] [World.cell? w93 ⟨g13, 0, none⟩ = some (.int .i64 aProps), World.cell? w93 ⟨g13, 3, none⟩ = some (.slice A9 (List.length aNodes) c10)] E (by kernel_rfl) (by kernel_rfl) ⟨(H.box 3 rfl).cell (j := 0) rfl, (H.box 3 rfl).cell (j := 3) rfl⟩ ?_
   clear E; intro a E
   obtain ⟨r100, h101, hP⟩ := bind_inv hP
   obtain ⟨Fa102, Hc103, hb104⟩ := H.call [] [(2, false)] rfl rfl trivial
   refine e_call E rfl rfl Try.func50 rfl rfl rfl (guard_Table_calls A9 c10 aProps aNodes (List.getD aGuard (Int.toNat x52) 0) hk11 Hc103 h101) ?_
   rintro v105 w106 a ⟨A109, c110, rfl, HR107⟩ E_
   replace E := E_ _ rfl; clear E_
   obtain ⟨H_, hc108⟩ := hb104 _ _ HR107 rfl
   replace H := H_; clear H_; try dsimp only [setn, addE, goneL] at H
   refine vn tbok 5 [] [(6, .slice A109 (List.length r100.1) c110)] [] E (by kernel_rfl) (by kernel_rfl) trivial ?_
   clear E; intro a E
   refine wpList_nil ?_
   refine th_n ?_
   refine wp_region_lit ?_
   refine vn tbok 2 [] [(24, .slice A50 (List.length out49) c51), (25, .slice A109 (List.length r100.1) c110)] [] E (by kernel_rfl) (by kernel_rfl) trivial ?_
   clear E; intro a E
   refine h_buildSlice (ps := [(0, .slice A109 (List.length r100.1) c110)]) (cs := [.slice A109 (List.length r100.1) c110]) H E rfl rfl tbok rfl rfl (by kernel_rfl) ?_
   intro w113 g112 a hc114 hg116 H_ E_
   replace E := E_ _ rfl; clear E_
   replace H := H_; clear H_; try dsimp only [setn, addE, goneL] at H
   have hk117 := H.rcap 5 rfl
   replace H := H.frz 5 rfl; try dsimp only [setn, addE, goneL] at H
   obtain ⟨g118, hP⟩ := ask_inv hP
   refine h_append (cSl (cInt .i64)) (xs := out49) (ys := ([r100.1] : List (List Int))) ([] : List Int) H 4 rfl E rfl rfl tbok rfl rfl rfl rfl rfl (fun _ _ => kSl_nil) rfl rfl (fun _ HF_ => HF_.srcB 6 rfl ⟨_, _, rfl, ⟨_, _, rfl, hk117, (HF_.roC 5 rfl)⟩, rfl⟩) g118 ?_
   intro w119 A120 c121 a hc122 hA123 H_ E_
   replace E := E_ _ rfl; clear E_
   replace H := H_; clear H_; try dsimp only [setn, addE, goneL] at H
   refine vn tbok 1 [] [(3, .slice A120 (List.length (out49 ++ ([r100.1] : List (List Int)))) c121)] [] E (by kernel_rfl) (by kernel_rfl) trivial ?_
   clear E; intro a E
   refine wpList_nil ?_
   refine bl_n ?_
   refine th_n ?_
   refine wp_region_lit ?_
   obtain ⟨g124, hP⟩ := ask_inv hP
   refine vn tbok 2 [.int .i64 (x52 + 1)] [(11, .int .i64 (x52 + 1))] [IntKind.i64.wrap (x52 + 1) = x52 + 1] E (by kernel_rfl) (by kernel_rfl) (wrap_in g124) ?_
   clear E; intro a E
   refine wpList_nil ?_
   exact th_n ⟨m88, Nat.lt_succ_self _, out49 ++ ([r100.1] : List (List Int)), x52 + 1, A120, c121, E.pick _ ⟨rfl, rfl, rfl, rfl, rfl, trivial⟩, H.sel [0, 1, 2, 3, 4] rfl, hP⟩
  replace E := E_; clear E_
  have h125 : ¬ (x52 < (((List.length aGuard) : Nat) : Int)) := of_decide_eq_false hb_
  clear hb_; replace hP := ite_f h125 hP
  refine c_false E rfl ?_
  refine wp_exit ?_
  refine th_exit ?_
  have hx_ := Option.some.inj hP
  refine th_exit (.inl ⟨0, rfl, ?_⟩)
  exact ⟨rfl, out49, A50, c51, E.pick _ ⟨rfl, trivial⟩, H.sel [4] rfl, hx_.symm⟩
 clear E H hL90; intro i_ a w93 hM_
 obtain ⟨rfl, x95, A86, c87, E, H, hx_⟩ := hM_
 subst hx_; have hP := hK91; clear hK91
 refine bl_hit ?_
 refine th_n ?_
 refine wp_seq ?_
 refine wp_region_lit ?_
 refine vn tbok 2 [] [(2, .slice A86 (List.length x89) c87)] [] E (by kernel_rfl) (by kernel_rfl) trivial ?_
 clear E; intro a E
 refine wpList_nil ?_
 refine th_n ?_
 refine wp_ret ?_
 obtain rfl := Option.some.inj hP
 refine ret1 E rfl rfl ?_
 exact ⟨_, rfl, A86, c87, rfl, H.sel [0] rfl⟩

/-! rejoinder/near.costs -/
def near_costs_l0 (N : Nat) (aAccept : List Bool) (t : List Int) : Nat → (List (List Int)) → Int → Option (List (List Int))
  | 0, _, _ => none
  | m85 + 1, out60, x61 =>
    if x61 < (((List.length aAccept) : Nat) : Int) then
      ask (idx x61 (List.length aAccept)) <|
      if (List.getD aAccept (Int.toNat x61) false) = true then
        ask (in64 (x61 + 1)) <|
        near_costs_l0 N aAccept t m85 out60 (x61 + 1)
      else
        ask (idx (((List.length t) : Nat) : Int) (List.length out60)) <|
        ask (idx x61 (List.length (List.getD out60 (Int.toNat (((List.length t) : Nat) : Int)) []))) <|
        ask (in64 (x61 + 1)) <|
        near_costs_l0 N aAccept t m85 (List.set out60 (Int.toNat (((List.length t) : Nat) : Int)) (List.set (List.getD out60 (Int.toNat (((List.length t) : Nat) : Int)) []) (Int.toNat x61) (-1))) (x61 + 1)
    else
      some out60
def near_costs_l3 (N : Nat) (t : List Int) (where_ : List (List Int)) (i315 : Int) (out620 : List (List Int)) (x621 : Int) : Nat → Int → Int → Option Int
  | 0, _, _ => none
  | m809 + 1, best767, x768 =>
    if x768 < (((List.length (List.getD where_ (Int.toNat x621) [])) : Nat) : Int) then
      ask (idx x768 (List.length (List.getD where_ (Int.toNat x621) []))) <|
      ask (in64 (i315 + 1)) <|
      ask (idx (i315 + 1) (List.length out620)) <|
      ask (idx (List.getD (List.getD where_ (Int.toNat x621) []) (Int.toNat x768) 0) (List.length (List.getD out620 (Int.toNat (i315 + 1)) []))) <|
      if (List.getD (List.getD out620 (Int.toNat (i315 + 1)) []) (Int.toNat (List.getD (List.getD where_ (Int.toNat x621) []) (Int.toNat x768) 0)) 0) < 0 then
        ask (in64 (x768 + 1)) <|
        near_costs_l3 N t where_ i315 out620 x621 m809 best767 (x768 + 1)
      else
        ask (idx i315 (List.length t)) <|
        Option.bind (near_unlike N (IntKind.u8.wrap x768) (List.getD t (Int.toNat i315) 0)) fun r837 =>
        ask (in64 ((List.getD (List.getD out620 (Int.toNat (i315 + 1)) []) (Int.toNat (List.getD (List.getD where_ (Int.toNat x621) []) (Int.toNat x768) 0)) 0) + r837)) <|
        if best767 < 0 then
          ask (in64 (x768 + 1)) <|
          near_costs_l3 N t where_ i315 out620 x621 m809 ((List.getD (List.getD out620 (Int.toNat (i315 + 1)) []) (Int.toNat (List.getD (List.getD where_ (Int.toNat x621) []) (Int.toNat x768) 0)) 0) + r837) (x768 + 1)
        else
          if ((List.getD (List.getD out620 (Int.toNat (i315 + 1)) []) (Int.toNat (List.getD (List.getD where_ (Int.toNat x621) []) (Int.toNat x768) 0)) 0) + r837) < best767 then
            ask (in64 (x768 + 1)) <|
            near_costs_l3 N t where_ i315 out620 x621 m809 ((List.getD (List.getD out620 (Int.toNat (i315 + 1)) []) (Int.toNat (List.getD (List.getD where_ (Int.toNat x621) []) (Int.toNat x768) 0)) 0) + r837) (x768 + 1)
          else
            ask (in64 (x768 + 1)) <|
            near_costs_l3 N t where_ i315 out620 x621 m809 best767 (x768 + 1)
    else
      some best767
def near_costs_l2 (N : Nat) (aAccept : List Bool) (t : List Int) (where_ : List (List Int)) (i315 : Int) : Nat → (List (List Int)) → Int → Option (List (List Int))
  | 0, _, _ => none
  | m720 + 1, out620, x621 =>
    if x621 < (((List.length aAccept) : Nat) : Int) then
      ask (idx x621 (List.length where_)) <|
      Option.bind (near_costs_l3 N t where_ i315 out620 x621 N (-1) 0) fun x810 =>
      ask (idx i315 (List.length out620)) <|
      ask (idx x621 (List.length (List.getD out620 (Int.toNat i315) []))) <|
      ask (in64 (x621 + 1)) <|
      near_costs_l2 N aAccept t where_ i315 m720 (List.set out620 (Int.toNat i315) (List.set (List.getD out620 (Int.toNat i315) []) (Int.toNat x621) x810)) (x621 + 1)
    else
      some out620
def near_costs_l1 (N : Nat) (aAccept : List Bool) (t : List Int) (where_ : List (List Int)) : Nat → (List (List Int)) → Int → Option (List (List Int))
  | 0, _, _ => none
  | m516 + 1, out314, i315 =>
    if 0 ≤ i315 then
      Option.bind (near_costs_l2 N aAccept t where_ i315 N out314 0) fun x721 =>
      ask (in64 (i315 - 1)) <|
      near_costs_l1 N aAccept t where_ m516 x721 (i315 - 1)
    else
      some out314
def near_costs (N : Nat) (aProps : Int) (aAccept : List Bool) (aGuard : List Int) (aNodes : List Nd) (t : List Int) (where_ : List (List Int)) : Option (List (List Int)) :=
  ask (in64 ((((List.length t) : Nat) : Int) + 1)) <|
  Option.bind (near_made_int N ((((List.length t) : Nat) : Int) + 1) (((List.length aAccept) : Nat) : Int)) fun r27 =>
  Option.bind (near_costs_l0 N aAccept t N r27 0) fun x86 =>
  ask (in64 ((((List.length t) : Nat) : Int) - 1)) <|
  Option.bind (near_costs_l1 N aAccept t where_ N x86 ((((List.length t) : Nat) : Int) - 1)) fun x517 =>
  some x517
set_option maxRecDepth 100000 in
set_option maxHeartbeats 4000000 in
theorem near_costs_calls {N : Nat} {S Fa : Nat → Prop} {w0 : World} {r : List (List Int)} (A1 : Option Addr) (c2 : Nat) (A5 : Option Addr) (c6 : Nat) (A9 : Option Addr) (c10 : Nat) (A13 : Option Addr) (c14 : Nat) (A17 : Option Addr) (c18 : Nat) (aProps : Int) (aAccept : List Bool) (aGuard : List Int) (aNodes : List Nd) (t : List Int) (where_ : List (List Int)) (hk3 : List.length aAccept ≤ c2) (hk7 : List.length aGuard ≤ c6) (hk11 : List.length aNodes ≤ c10) (hk15 : List.length t ≤ c14) (hk19 : List.length where_ ≤ c18) (H : Hp S Fa w0 w0 [.ro false cBool A1 aAccept, .ro false (cInt .i64) A5 aGuard, .ro false cNode A9 aNodes, .ro false (cInt .u8) A13 t, .ro false (cSl (cInt .i64)) A17 where_]) (hP : near_costs N aProps aAccept aGuard aNodes t where_ = some r) :
    Calls Try.prog 33 #[.agg #[.int .i64 aProps, .slice A1 (List.length aAccept) c2, .slice A5 (List.length aGuard) c6, .slice A9 (List.length aNodes) c10], .slice A13 (List.length t) c14, .slice A17 (List.length where_) c18] w0 fun e w' => ∃ v, e = .returned v ∧ ∃ (A873 : Option Addr) (c874 : Nat), v = .slice A873 (List.length r) c874 ∧ List.length r ≤ c874 ∧ Hp S Fa w0 w' [.ro true (cSl (cInt .i64)) A873 r] := by
 refine enterV (n := 101) Try.func33 rfl rfl rfl ?_
 intro a E
 replace E := E.pick [(0, .agg #[.int .i64 aProps, .slice A1 (List.length aAccept) c2, .slice A5 (List.length aGuard) c6, .slice A9 (List.length aNodes) c10]), (1, .slice A13 (List.length t) c14), (2, .slice A17 (List.length where_) c18)] ⟨rfl, rfl, rfl, trivial⟩
 rw [near_costs] at hP
 refine wp_seq ?_
 refine wp_region_lit ?_
 refine h_box H E rfl rfl rfl ?_
 intro w22 g21 a hc23 hg25 H_ E_
 replace E := E_ _ rfl; clear E_
 replace H := H_; clear H_; try dsimp only [setn, addE, goneL] at H
 refine vn tbok 1 [] [] [] E (by kernel_rfl) (by kernel_rfl) trivial ?_
 clear E; intro a E
 refine wpList_nil ?_
 refine th_n ?_
 refine wp_seq ?_
 refine wp_region_lit ?_
 obtain ⟨g26, hP⟩ := ask_inv hP
 refine vn tbok 6 [.int .i64 ((((List.length t) : Nat) : Int) + 1), .slice A1 (List.length aAccept) c2] [(18, .int .i64 ((((List.length t) : Nat) : Int) + 1)), (21, .int .i64 (((List.length aAccept) : Nat) : Int))] [IntKind.i64.wrap ((((List.length t) : Nat) : Int) + 1) = (((List.length t) : Nat) : Int) + 1, World.cell? w22 ⟨g21, 1, none⟩ = some (.slice A1 (List.length aAccept) c2)] E (by kernel_rfl) (by kernel_rfl) ⟨wrap_in g26, (H.box 5 rfl).cell (j := 1) rfl⟩ ?_
 clear E; intro a E
 obtain ⟨r27, h28, hP⟩ := bind_inv hP
 obtain ⟨Fa29, Hc30, hb31⟩ := H.call [] [] rfl rfl trivial
 refine e_call E rfl rfl Try.func51 rfl rfl rfl (near_made_int_calls  ((((List.length t) : Nat) : Int) + 1) (((List.length aAccept) : Nat) : Int)  Hc30 h28) ?_
 rintro v32 w33 a ⟨g36, G37, c38, rfl, HR34⟩ E_
 replace E := E_ _ rfl; clear E_
 obtain ⟨H_, hc35⟩ := hb31 _ _ HR34 rfl
 replace H := H_; clear H_; try dsimp only [setn, addE, goneL] at H
 refine vn tbok 1 [] [(7, .slice (some ⟨g36, 0, none⟩) (List.length r27) c38)] [] E (by kernel_rfl) (by kernel_rfl) trivial ?_
 clear E; intro a E
 refine wpList_nil ?_
 refine th_n ?_
 refine wp_seq ?_
 refine wp_seq ?_
 refine wp_region_lit ?_
 refine vn tbok 4 [.slice A1 (List.length aAccept) c2] [(24, .slice A1 (List.length aAccept) c2), (25, .int .i64 (((List.length aAccept) : Nat) : Int)), (26, .int .i64 0)] [World.cell? w33 ⟨g21, 1, none⟩ = some (.slice A1 (List.length aAccept) c2)] E (by kernel_rfl) (by kernel_rfl) ((H.box 5 rfl).cell (j := 1) rfl) ?_
 clear E; intro a E
 refine wpList_nil ?_
 refine th_n ?_
 refine wp_block ?_
 obtain ⟨x86, hL87, hK88⟩ := bind_inv hP
 clear hP
 refine loop_cut (fun i_ a w_ => (i_ = 0 ∧ ∃ (x91 : List (List Int)), Fr a 101 [(1, .slice A13 (List.length t) c14), (2, .slice A17 (List.length where_) c18), (3, .pointer (some ⟨g21, 0, none⟩)), (7, .slice (some ⟨g36, 0, none⟩) (List.length x91) c38)] ∧ Hp S Fa w0 w_ [.ro false (cInt .u8) A13 t, .ro false (cSl (cInt .i64)) A17 where_, .ro false cBool A1 aAccept, .ro false (cInt .i64) A5 aGuard, .ro false cNode A9 aNodes, .box g21 34 [.int .i64 aProps, .slice A1 (List.length aAccept) c2, .slice A5 (List.length aGuard) c6, .slice A9 (List.length aNodes) c10], .mat (cInt .i64) 3 31 G37 g36 c38 x91] ∧ x86 = x91)) ?_ ?_
 ·
  refine loopV (fun m90 a w89 => ∃ (out60 : List (List Int)) (x61 : Int), Fr a 101 [(1, .slice A13 (List.length t) c14), (2, .slice A17 (List.length where_) c18), (3, .pointer (some ⟨g21, 0, none⟩)), (7, .slice (some ⟨g36, 0, none⟩) (List.length out60) c38), (24, .slice A1 (List.length aAccept) c2), (25, .int .i64 (((List.length aAccept) : Nat) : Int)), (26, .int .i64 x61)] ∧ Hp S Fa w0 w89 [.ro false (cInt .u8) A13 t, .ro false (cSl (cInt .i64)) A17 where_, .ro false cBool A1 aAccept, .ro false (cInt .i64) A5 aGuard, .ro false cNode A9 aNodes, .box g21 34 [.int .i64 aProps, .slice A1 (List.length aAccept) c2, .slice A5 (List.length aGuard) c6, .slice A9 (List.length aNodes) c10], .mat (cInt .i64) 3 31 G37 g36 c38 out60] ∧ near_costs_l0 N aAccept t m90 out60 x61 = some x86) N ?_ ?_
  ·
   exact ⟨r27, 0, E.pick _ ⟨rfl, rfl, rfl, rfl, rfl, rfl, rfl, trivial⟩, H.sel [3, 4, 0, 1, 2, 5, 6] rfl, hL87⟩
  clear E H hL87; intro m90 a w89 hI_
  obtain ⟨out60, x61, E, H, hP⟩ := hI_
  obtain ⟨m85, rfl⟩ : ∃ q_, m90 = q_ + 1 := by cases m90 with | zero => rw [near_costs_l0] at hP; cases hP | succ q_ => exact ⟨q_, rfl⟩
  rw [near_costs_l0] at hP
  refine wp_seq ?_
  refine wp_region_lit ?_
  refine vn tbok 1 [] [(27, .bool (decide (x61 < (((List.length aAccept) : Nat) : Int))))] [] E (by kernel_rfl) (by kernel_rfl) trivial ?_
  clear E; intro a E
  refine wpList_nil ?_
  refine th_n ?_
  refine wp_seq ?_
  refine E.cases (t := 27) rfl (fun hb_ E_ => ?_) (fun hb_ E_ => ?_)
  ·
   replace E := E_; clear E_
   have h92 : x61 < (((List.length aAccept) : Nat) : Int) := of_decide_eq_true hb_
   clear hb_; replace hP := ite_t h92 hP
   refine c_true E rfl ?_
   refine wp_skip ?_
   refine th_n ?_
   refine wp_seq ?_
   refine wp_block ?_
   refine wp_seq ?_
   refine wp_region_lit ?_
   obtain ⟨g93, hP⟩ := ask_inv hP
   obtain ⟨b94, o95, e_b94⟩ := (H.rd 2 rds_ro).addr (idx_pos g93)
   subst e_b94
   refine vn tbok 5 [.bool (List.getD aAccept (Int.toNat x61) false)] [(8, .int .i64 x61), (9, .bool (List.getD aAccept (Int.toNat x61) false))] [0 ≤ x61 ∧ x61 < (((List.length aAccept) : Nat) : Int), World.cell? w89 ⟨b94, o95 + (Int.toNat x61) * 1, none⟩ = some (.bool (List.getD aAccept (Int.toNat x61) false))] E (by kernel_rfl) (by kernel_rfl) ⟨g93, Rds.at1 (H.rd 2 rds_ro) false g93⟩ ?_
   clear E; intro a E
   refine wpList_nil ?_
   refine th_n ?_
   refine wp_seq ?_
   refine wp_region_lit ?_
   refine vn tbok 2 [] [(32, .bool (!(List.getD aAccept (Int.toNat x61) false)))] [] E (by kernel_rfl) (by kernel_rfl) trivial ?_
   clear E; intro a E
   refine wpList_nil ?_
   refine th_n ?_
   refine E.cases (t := 32) rfl (fun hb_ E_ => ?_) (fun hb_ E_ => ?_)
   ·
    replace E := E_; clear E_
    have h96 : ¬ ((List.getD aAccept (Int.toNat x61) false) = true) := (ne_true_of_eq_false (not_t hb_))
    clear hb_; replace hP := ite_f h96 hP
    refine c_true E rfl ?_
    refine wp_region_lit ?_
    obtain ⟨g97, hP⟩ := ask_inv hP
    obtain ⟨A98, c99, hl100, hr101, hm102⟩ := H.mrow (i := (((List.length t) : Nat) : Int)) 6 rfl g97
    obtain ⟨g104, hP⟩ := ask_inv hP
    obtain ⟨b105, e_b105⟩ := hm102.addr (idx_pos g104)
    subst e_b105
    refine vn tbok 7 [.slice (some ⟨b105, 0, none⟩) (List.length (List.getD out60 (Int.toNat (((List.length t) : Nat) : Int)) [])) c99] [(39, .pointer (some ⟨b105, 0 + (Int.toNat x61) * 1, none⟩))] [0 ≤ (((List.length t) : Nat) : Int) ∧ (((List.length t) : Nat) : Int) < (((List.length out60) : Nat) : Int), World.cell? w89 ⟨g36, 0 + (Int.toNat (((List.length t) : Nat) : Int)) * 1, none⟩ = some (.slice (some ⟨b105, 0, none⟩) (List.length (List.getD out60 (Int.toNat (((List.length t) : Nat) : Int)) [])) c99), 0 ≤ x61 ∧ x61 < (((List.length (List.getD out60 (Int.toNat (((List.length t) : Nat) : Int)) [])) : Nat) : Int)] E (by kernel_rfl) (by kernel_rfl) ⟨g97, hl100, g104⟩ ?_
    clear E; intro a E
    refine h_setM (g2 := b105) (i := (((List.length t) : Nat) : Int)) (q := x61) (-1) H 6 rfl hm102 E rfl rfl rfl rfl tbok rfl (fun _ _ => rfl) rfl g104 rfl ?_
    clear E; intro w107 a hc108 H_ E
    replace H := H_; clear H_; try dsimp only [setn, addE, goneL] at H
    have hn109 : (List.length out60) = (List.length (List.set out60 (Int.toNat (((List.length t) : Nat) : Int)) (List.set (List.getD out60 (Int.toNat (((List.length t) : Nat) : Int)) []) (Int.toNat x61) (-1)))) := by simp only [List.length_set]
    replace E := E.same (t := 7) (u := .slice (some ⟨g36, 0, none⟩) (List.length (List.set out60 (Int.toNat (((List.length t) : Nat) : Int)) (List.set (List.getD out60 (Int.toNat (((List.length t) : Nat) : Int)) []) (Int.toNat x61) (-1)))) c38) rfl (congrArg (fun n_ => Value.slice (some ⟨g36, 0, none⟩) n_ c38) hn109)
    refine wpList_nil ?_
    refine bl_n ?_
    refine th_n ?_
    refine wp_region_lit ?_
    obtain ⟨g110, hP⟩ := ask_inv hP
    refine vn tbok 2 [.int .i64 (x61 + 1)] [(26, .int .i64 (x61 + 1))] [IntKind.i64.wrap (x61 + 1) = x61 + 1] E (by kernel_rfl) (by kernel_rfl) (wrap_in g110) ?_
    clear E; intro a E
    refine wpList_nil ?_
    exact th_n ⟨m85, Nat.lt_succ_self _, List.set out60 (Int.toNat (((List.length t) : Nat) : Int)) (List.set (List.getD out60 (Int.toNat (((List.length t) : Nat) : Int)) []) (Int.toNat x61) (-1)), x61 + 1, E.pick _ ⟨rfl, rfl, rfl, rfl, rfl, rfl, rfl, trivial⟩, H.sel [0, 1, 2, 3, 4, 5, 6] rfl, hP⟩
   replace E := E_; clear E_
   have h111 : (List.getD aAccept (Int.toNat x61) false) = true := (not_f hb_)
   clear hb_; replace hP := ite_t h111 hP
   refine c_false E rfl ?_
   refine wp_skip ?_
   refine bl_n ?_
   refine th_n ?_
   refine wp_region_lit ?_
   obtain ⟨g112, hP⟩ := ask_inv hP
   refine vn tbok 2 [.int .i64 (x61 + 1)] [(26, .int .i64 (x61 + 1))] [IntKind.i64.wrap (x61 + 1) = x61 + 1] E (by kernel_rfl) (by kernel_rfl) (wrap_in g112) ?_
   clear E; intro a E
   refine wpList_nil ?_
   exact th_n ⟨m85, Nat.lt_succ_self _, out60, x61 + 1, E.pick _ ⟨rfl, rfl, rfl, rfl, rfl, rfl, rfl, trivial⟩, H.sel [0, 1, 2, 3, 4, 5, 6] rfl, hP⟩
  replace E := E_; clear E_
  have h113 : ¬ (x61 < (((List.length aAccept) : Nat) : Int)) := of_decide_eq_false hb_
  clear hb_; replace hP := ite_f h113 hP
  refine c_false E rfl ?_
  refine wp_exit ?_
  refine th_exit ?_
  have hx_ := Option.some.inj hP
  refine th_exit (.inl ⟨0, rfl, ?_⟩)
  exact ⟨rfl, out60, E.pick _ ⟨rfl, rfl, rfl, rfl, trivial⟩, H.sel [0, 1, 2, 3, 4, 5, 6] rfl, hx_.symm⟩
 clear E H hL87; intro i_ a w89 hM_
 obtain ⟨rfl, x91, E, H, hx_⟩ := hM_
 subst hx_; have hP := hK88; clear hK88
 refine bl_hit ?_
 refine th_n ?_
 refine wp_seq ?_
 refine wp_seq ?_
 refine wp_region_lit ?_
 obtain ⟨g114, hP⟩ := ask_inv hP
 refine vn tbok 4 [.int .i64 ((((List.length t) : Nat) : Int) - 1)] [(10, .int .i64 ((((List.length t) : Nat) : Int) - 1))] [IntKind.i64.wrap ((((List.length t) : Nat) : Int) - 1) = (((List.length t) : Nat) : Int) - 1] E (by kernel_rfl) (by kernel_rfl) (wrap_in g114) ?_
 clear E; intro a E
 refine wpList_nil ?_
 refine th_n ?_
 refine wp_block ?_
 obtain ⟨x517, hL518, hK519⟩ := bind_inv hP
 clear hP
 refine loop_cut (fun i_ a w_ => (i_ = 2 ∧ ∃ (x522 : List (List Int)), Fr a 101 [(7, .slice (some ⟨g36, 0, none⟩) (List.length x522) c38)] ∧ Hp S Fa w0 w_ [.mat (cInt .i64) 3 31 G37 g36 c38 x522] ∧ x517 = x522)) ?_ ?_
 ·
  refine loopV (fun m521 a w520 => ∃ (out314 : List (List Int)) (i315 : Int), Fr a 101 [(1, .slice A13 (List.length t) c14), (2, .slice A17 (List.length where_) c18), (3, .pointer (some ⟨g21, 0, none⟩)), (7, .slice (some ⟨g36, 0, none⟩) (List.length out314) c38), (10, .int .i64 i315)] ∧ Hp S Fa w0 w520 [.ro false (cInt .u8) A13 t, .ro false (cSl (cInt .i64)) A17 where_, .ro false cBool A1 aAccept, .ro false (cInt .i64) A5 aGuard, .ro false cNode A9 aNodes, .box g21 34 [.int .i64 aProps, .slice A1 (List.length aAccept) c2, .slice A5 (List.length aGuard) c6, .slice A9 (List.length aNodes) c10], .mat (cInt .i64) 3 31 G37 g36 c38 out314] ∧ near_costs_l1 N aAccept t where_ m521 out314 i315 = some x517) N ?_ ?_
  ·
   exact ⟨x86, (((List.length t) : Nat) : Int) - 1, E.pick _ ⟨rfl, rfl, rfl, rfl, rfl, trivial⟩, H.sel [0, 1, 2, 3, 4, 5, 6] rfl, hL518⟩
  clear E H hL518; intro m521 a w520 hI_
  obtain ⟨out314, i315, E, H, hP⟩ := hI_
  obtain ⟨m516, rfl⟩ : ∃ q_, m521 = q_ + 1 := by cases m521 with | zero => rw [near_costs_l1] at hP; cases hP | succ q_ => exact ⟨q_, rfl⟩
  rw [near_costs_l1] at hP
  refine wp_seq ?_
  refine wp_seq ?_
  refine wp_region_lit ?_
  refine vn tbok 2 [] [(45, .bool (decide (0 ≤ i315)))] [] E (by kernel_rfl) (by kernel_rfl) trivial ?_
  clear E; intro a E
  refine wpList_nil ?_
  refine th_n ?_
  refine E.cases (t := 45) rfl (fun hb_ E_ => ?_) (fun hb_ E_ => ?_)
  ·
   replace E := E_; clear E_
   have h523 : 0 ≤ i315 := of_decide_eq_true hb_
   clear hb_; replace hP := ite_t h523 hP
   refine c_true E rfl ?_
   refine wp_skip ?_
   refine th_n ?_
   refine wp_seq ?_
   refine wp_block ?_
   refine wp_seq ?_
   refine wp_region_lit ?_
   refine vn tbok 4 [.slice A1 (List.length aAccept) c2] [(50, .int .i64 (((List.length aAccept) : Nat) : Int)), (51, .int .i64 0)] [World.cell? w520 ⟨g21, 1, none⟩ = some (.slice A1 (List.length aAccept) c2)] E (by kernel_rfl) (by kernel_rfl) ((H.box 5 rfl).cell (j := 1) rfl) ?_
   clear E; intro a E
   refine wpList_nil ?_
   refine th_n ?_
   refine wp_block ?_
   obtain ⟨x721, hL722, hK723⟩ := bind_inv hP
   clear hP
   refine loop_cut (fun i_ a w_ => (i_ = 4 ∧ ∃ (x726 : List (List Int)), Fr a 101 [(1, .slice A13 (List.length t) c14), (2, .slice A17 (List.length where_) c18), (3, .pointer (some ⟨g21, 0, none⟩)), (7, .slice (some ⟨g36, 0, none⟩) (List.length x726) c38), (10, .int .i64 i315)] ∧ Hp S Fa w0 w_ [.ro false (cInt .u8) A13 t, .ro false (cSl (cInt .i64)) A17 where_, .ro false cBool A1 aAccept, .ro false (cInt .i64) A5 aGuard, .ro false cNode A9 aNodes, .box g21 34 [.int .i64 aProps, .slice A1 (List.length aAccept) c2, .slice A5 (List.length aGuard) c6, .slice A9 (List.length aNodes) c10], .mat (cInt .i64) 3 31 G37 g36 c38 x726] ∧ x721 = x726)) ?_ ?_
   ·
    refine loopV (fun m725 a w724 => ∃ (out620 : List (List Int)) (x621 : Int), Fr a 101 [(1, .slice A13 (List.length t) c14), (2, .slice A17 (List.length where_) c18), (3, .pointer (some ⟨g21, 0, none⟩)), (7, .slice (some ⟨g36, 0, none⟩) (List.length out620) c38), (10, .int .i64 i315), (50, .int .i64 (((List.length aAccept) : Nat) : Int)), (51, .int .i64 x621)] ∧ Hp S Fa w0 w724 [.ro false (cInt .u8) A13 t, .ro false (cSl (cInt .i64)) A17 where_, .ro false cBool A1 aAccept, .ro false (cInt .i64) A5 aGuard, .ro false cNode A9 aNodes, .box g21 34 [.int .i64 aProps, .slice A1 (List.length aAccept) c2, .slice A5 (List.length aGuard) c6, .slice A9 (List.length aNodes) c10], .mat (cInt .i64) 3 31 G37 g36 c38 out620] ∧ near_costs_l2 N aAccept t where_ i315 m725 out620 x621 = some x721) N ?_ ?_
    ·
     exact ⟨out314, 0, E.pick _ ⟨rfl, rfl, rfl, rfl, rfl, rfl, rfl, trivial⟩, H.sel [0, 1, 2, 3, 4, 5, 6] rfl, hL722⟩
    clear E H hL722; intro m725 a w724 hI_
    obtain ⟨out620, x621, E, H, hP⟩ := hI_
    obtain ⟨m720, rfl⟩ : ∃ q_, m725 = q_ + 1 := by cases m725 with | zero => rw [near_costs_l2] at hP; cases hP | succ q_ => exact ⟨q_, rfl⟩
    rw [near_costs_l2] at hP
    refine wp_seq ?_
    refine wp_region_lit ?_
    refine vn tbok 1 [] [(52, .bool (decide (x621 < (((List.length aAccept) : Nat) : Int))))] [] E (by kernel_rfl) (by kernel_rfl) trivial ?_
    clear E; intro a E
    refine wpList_nil ?_
    refine th_n ?_
    refine wp_seq ?_
    refine E.cases (t := 52) rfl (fun hb_ E_ => ?_) (fun hb_ E_ => ?_)
    ·
     replace E := E_; clear E_
     have h727 : x621 < (((List.length aAccept) : Nat) : Int) := of_decide_eq_true hb_
     clear hb_; replace hP := ite_t h727 hP
     refine c_true E rfl ?_
     refine wp_skip ?_
     refine th_n ?_
     refine wp_seq ?_
     refine wp_block ?_
     refine wp_seq ?_
     refine wp_region_lit ?_
     refine vn tbok 2 [] [(11, .int .i64 x621)] [] E (by kernel_rfl) (by kernel_rfl) trivial ?_
     clear E; intro a E
     refine wpList_nil ?_
     refine th_n ?_
     refine wp_seq ?_
     refine wp_region_lit ?_
     refine vn tbok 1 [] [(12, .int .i64 (-1))] [] E (by kernel_rfl) (by kernel_rfl) trivial ?_
     clear E; intro a E
     refine wpList_nil ?_
     refine th_n ?_
     refine wp_seq ?_
     refine wp_seq ?_
     refine wp_region_lit ?_
     obtain ⟨g728, hP⟩ := ask_inv hP
     obtain ⟨b729, o730, e_b729⟩ := (H.rd 1 rds_ro).addr (idx_pos g728)
     subst e_b729
     obtain ⟨A731, c732, hl733, hk734, H⟩ := H.subSl 1 false (el_ro rfl) g728
     try dsimp only [addE] at H
     refine vn tbok 6 [.slice A731 (List.length (List.getD where_ (Int.toNat x621) [])) c732] [(57, .slice A731 (List.length (List.getD where_ (Int.toNat x621) [])) c732), (58, .int .i64 (((List.length (List.getD where_ (Int.toNat x621) [])) : Nat) : Int)), (59, .int .i64 0)] [0 ≤ x621 ∧ x621 < (((List.length where_) : Nat) : Int), World.cell? w724 ⟨b729, o730 + (Int.toNat x621) * 1, none⟩ = some (.slice A731 (List.length (List.getD where_ (Int.toNat x621) [])) c732)] E (by kernel_rfl) (by kernel_rfl) ⟨g728, hl733⟩ ?_
     clear E; intro a E
     refine wpList_nil ?_
     refine th_n ?_
     refine wp_block ?_
     obtain ⟨x810, hL811, hK812⟩ := bind_inv hP
     clear hP
     refine loop_cut (fun i_ a w_ => (i_ = 6 ∧ ∃ (x815 : Int), Fr a 101 [(1, .slice A13 (List.length t) c14), (2, .slice (some ⟨b729, o730, none⟩) (List.length where_) c18), (3, .pointer (some ⟨g21, 0, none⟩)), (7, .slice (some ⟨g36, 0, none⟩) (List.length out620) c38), (10, .int .i64 i315), (11, .int .i64 x621), (12, .int .i64 x815), (50, .int .i64 (((List.length aAccept) : Nat) : Int)), (51, .int .i64 x621)] ∧ Hp S Fa w0 w_ [.ro false (cInt .u8) A13 t, .ro false (cSl (cInt .i64)) (some ⟨b729, o730, none⟩) where_, .ro false cBool A1 aAccept, .ro false (cInt .i64) A5 aGuard, .ro false cNode A9 aNodes, .box g21 34 [.int .i64 aProps, .slice A1 (List.length aAccept) c2, .slice A5 (List.length aGuard) c6, .slice A9 (List.length aNodes) c10], .mat (cInt .i64) 3 31 G37 g36 c38 out620] ∧ x810 = x815)) ?_ ?_
     ·
      refine loopV (fun m814 a w813 => ∃ (best767 : Int) (x768 : Int), Fr a 101 [(1, .slice A13 (List.length t) c14), (2, .slice (some ⟨b729, o730, none⟩) (List.length where_) c18), (3, .pointer (some ⟨g21, 0, none⟩)), (7, .slice (some ⟨g36, 0, none⟩) (List.length out620) c38), (10, .int .i64 i315), (11, .int .i64 x621), (12, .int .i64 best767), (50, .int .i64 (((List.length aAccept) : Nat) : Int)), (51, .int .i64 x621), (57, .slice A731 (List.length (List.getD where_ (Int.toNat x621) [])) c732), (58, .int .i64 (((List.length (List.getD where_ (Int.toNat x621) [])) : Nat) : Int)), (59, .int .i64 x768)] ∧ Hp S Fa w0 w813 [.ro false (cInt .u8) A13 t, .ro false (cSl (cInt .i64)) (some ⟨b729, o730, none⟩) where_, .ro false cBool A1 aAccept, .ro false (cInt .i64) A5 aGuard, .ro false cNode A9 aNodes, .box g21 34 [.int .i64 aProps, .slice A1 (List.length aAccept) c2, .slice A5 (List.length aGuard) c6, .slice A9 (List.length aNodes) c10], .mat (cInt .i64) 3 31 G37 g36 c38 out620, .ro false (cInt .i64) A731 (List.getD where_ (Int.toNat x621) [])] ∧ near_costs_l3 N t where_ i315 out620 x621 m814 best767 x768 = some x810) N ?_ ?_
      ·
       exact ⟨-1, 0, E.pick _ ⟨rfl, rfl, rfl, rfl, rfl, rfl, rfl, rfl, rfl, rfl, rfl, rfl, trivial⟩, H.sel [0, 1, 2, 3, 4, 5, 6, 7] rfl, hL811⟩
      clear E H hL811; intro m814 a w813 hI_
      obtain ⟨best767, x768, E, H, hP⟩ := hI_
      obtain ⟨m809, rfl⟩ : ∃ q_, m814 = q_ + 1 := by cases m814 with | zero => rw [near_costs_l3] at hP; cases hP | succ q_ => exact ⟨q_, rfl⟩
      rw [near_costs_l3] at hP
      refine wp_seq ?_
      refine wp_region_lit ?_
      refine vn tbok 1 [] [(60, .bool (decide (x768 < (((List.length (List.getD where_ (Int.toNat x621) [])) : Nat) : Int))))] [] E (by kernel_rfl) (by kernel_rfl) trivial ?_
      clear E; intro a E
      refine wpList_nil ?_
      refine th_n ?_
      refine wp_seq ?_
      refine E.cases (t := 60) rfl (fun hb_ E_ => ?_) (fun hb_ E_ => ?_)
      ·
       replace E := E_; clear E_
       have h816 : x768 < (((List.length (List.getD where_ (Int.toNat x621) [])) : Nat) : Int) := of_decide_eq_true hb_
       clear hb_; replace hP := ite_t h816 hP
       refine c_true E rfl ?_
       refine wp_skip ?_
       refine th_n ?_
       refine wp_seq ?_
       refine wp_block ?_
       refine wp_seq ?_
       refine wp_region_lit ?_
       obtain ⟨g817, hP⟩ := ask_inv hP
       obtain ⟨b818, o819, e_b818⟩ := (H.rd 7 rds_ro).addr (idx_pos g817)
       subst e_b818
       refine vn tbok 5 [.int .i64 (List.getD (List.getD where_ (Int.toNat x621) []) (Int.toNat x768) 0)] [(13, .int .i64 x768), (14, .int .i64 (List.getD (List.getD where_ (Int.toNat x621) []) (Int.toNat x768) 0))] [0 ≤ x768 ∧ x768 < (((List.length (List.getD where_ (Int.toNat x621) [])) : Nat) : Int), World.cell? w813 ⟨b818, o819 + (Int.toNat x768) * 1, none⟩ = some (.int .i64 (List.getD (List.getD where_ (Int.toNat x621) []) (Int.toNat x768) 0))] E (by kernel_rfl) (by kernel_rfl) ⟨g817, Rds.at1 (H.rd 7 rds_ro) 0 g817⟩ ?_
       clear E; intro a E
       refine wpList_nil ?_
       refine th_n ?_
       refine wp_seq ?_
       refine wp_region_lit ?_
       obtain ⟨g820, hP⟩ := ask_inv hP
       obtain ⟨g821, hP⟩ := ask_inv hP
       obtain ⟨A822, c823, hl824, hr825, hm826⟩ := H.mrow (i := i315 + 1) 6 rfl g821
       obtain ⟨g828, hP⟩ := ask_inv hP
       obtain ⟨b829, e_b829⟩ := hm826.addr (idx_pos g828)
       subst e_b829
       refine vn tbok 9 [.int .i64 (i315 + 1), .slice (some ⟨b829, 0, none⟩) (List.length (List.getD out620 (Int.toNat (i315 + 1)) [])) c823, .int .i64 (List.getD (List.getD out620 (Int.toNat (i315 + 1)) []) (Int.toNat (List.getD (List.getD where_ (Int.toNat x621) []) (Int.toNat x768) 0)) 0)] [(15, .int .i64 (List.getD (List.getD out620 (Int.toNat (i315 + 1)) []) (Int.toNat (List.getD (List.getD where_ (Int.toNat x621) []) (Int.toNat x768) 0)) 0))] [IntKind.i64.wrap (i315 + 1) = i315 + 1, 0 ≤ (i315 + 1) ∧ (i315 + 1) < (((List.length out620) : Nat) : Int), World.cell? w813 ⟨g36, 0 + (Int.toNat (i315 + 1)) * 1, none⟩ = some (.slice (some ⟨b829, 0, none⟩) (List.length (List.getD out620 (Int.toNat (i315 + 1)) [])) c823), 0 ≤ (List.getD (List.getD where_ (Int.toNat x621) []) (Int.toNat x768) 0) ∧ (List.getD (List.getD where_ (Int.toNat x621) []) (Int.toNat x768) 0) < (((List.length (List.getD out620 (Int.toNat (i315 + 1)) [])) : Nat) : Int), World.cell? w813 ⟨b829, 0 + (Int.toNat (List.getD (List.getD where_ (Int.toNat x621) []) (Int.toNat x768) 0)) * 1, none⟩ = some (.int .i64 (List.getD (List.getD out620 (Int.toNat (i315 + 1)) []) (Int.toNat (List.getD (List.getD where_ (Int.toNat x621) []) (Int.toNat x768) 0)) 0))] E (by kernel_rfl) (by kernel_rfl) ⟨wrap_in g820, g821, hl824, g828, Rds.at1 hr825 0 g828⟩ ?_
       clear E; intro a E
       refine wpList_nil ?_
       refine th_n ?_
       refine wp_seq ?_
       refine wp_seq ?_
       refine wp_region_lit ?_
       refine vn tbok 2 [] [(73, .bool (decide ((List.getD (List.getD out620 (Int.toNat (i315 + 1)) []) (Int.toNat (List.getD (List.getD where_ (Int.toNat x621) []) (Int.toNat x768) 0)) 0) < 0)))] [] E (by kernel_rfl) (by kernel_rfl) trivial ?_
       clear E; intro a E
       refine wpList_nil ?_
       refine th_n ?_
       refine E.cases (t := 73) rfl (fun hb_ E_ => ?_) (fun hb_ E_ => ?_)
       ·
        replace E := E_; clear E_
        have h831 : (List.getD (List.getD out620 (Int.toNat (i315 + 1)) []) (Int.toNat (List.getD (List.getD where_ (Int.toNat x621) []) (Int.toNat x768) 0)) 0) < 0 := of_decide_eq_true hb_
        clear hb_; replace hP := ite_t h831 hP
        refine c_true E rfl ?_
        refine wp_exit ?_
        refine th_exit ?_
        refine bl_hit ?_
        refine th_n ?_
        refine wp_region_lit ?_
        obtain ⟨g832, hP⟩ := ask_inv hP
        refine vn tbok 2 [.int .i64 (x768 + 1)] [(59, .int .i64 (x768 + 1))] [IntKind.i64.wrap (x768 + 1) = x768 + 1] E (by kernel_rfl) (by kernel_rfl) (wrap_in g832) ?_
        clear E; intro a E
        refine wpList_nil ?_
        exact th_n ⟨m809, Nat.lt_succ_self _, best767, x768 + 1, E.pick _ ⟨rfl, rfl, rfl, rfl, rfl, rfl, rfl, rfl, rfl, rfl, rfl, rfl, trivial⟩, H.sel [0, 1, 2, 3, 4, 5, 6, 7] rfl, hP⟩
       replace E := E_; clear E_
       have h833 : ¬ ((List.getD (List.getD out620 (Int.toNat (i315 + 1)) []) (Int.toNat (List.getD (List.getD where_ (Int.toNat x621) []) (Int.toNat x768) 0)) 0) < 0) := of_decide_eq_false hb_
       clear hb_; replace hP := ite_f h833 hP
       refine c_false E rfl ?_
       refine wp_skip ?_
       refine th_n ?_
       refine wp_seq ?_
       refine wp_region_lit ?_
       obtain ⟨g834, hP⟩ := ask_inv hP
       obtain ⟨b835, o836, e_b835⟩ := (H.rd 0 rds_ro).addr (idx_pos g834)
       subst e_b835
       refine vn tbok 7 [.int .u8 (IntKind.u8.wrap x768), .int .u8 (List.getD t (Int.toNat i315) 0)] [(74, .int .i64 (List.getD (List.getD out620 (Int.toNat (i315 + 1)) []) (Int.toNat (List.getD (List.getD where_ (Int.toNat x621) []) (Int.toNat x768) 0)) 0)), (76, .int .u8 (IntKind.u8.wrap x768)), (80, .int .u8 (List.getD t (Int.toNat i315) 0))] [IntKind.u8.wrap x768 = (IntKind.u8.wrap x768), 0 ≤ i315 ∧ i315 < (((List.length t) : Nat) : Int), World.cell? w813 ⟨b835, o836 + (Int.toNat i315) * 1, none⟩ = some (.int .u8 (List.getD t (Int.toNat i315) 0))] E (by kernel_rfl) (by kernel_rfl) ⟨rfl, g834, Rds.at1 (H.rd 0 rds_ro) 0 g834⟩ ?_
       clear E; intro a E
       obtain ⟨r837, h838, hP⟩ := bind_inv hP
       obtain ⟨Fa839, Hc840, hb841⟩ := H.call [] [] rfl rfl trivial
       refine e_call E rfl rfl Try.func27 rfl rfl rfl (near_unlike_calls  (IntKind.u8.wrap x768) (List.getD t (Int.toNat i315) 0)  Hc840 h838) ?_
       rintro v842 w843 a ⟨rfl, HR844⟩ E_
       replace E := E_ _ rfl; clear E_
       obtain ⟨H_, hc845⟩ := hb841 _ _ HR844 rfl
       replace H := H_; clear H_; try dsimp only [setn, addE, goneL] at H
       obtain ⟨g846, hP⟩ := ask_inv hP
       refine vn tbok 2 [.int .i64 ((List.getD (List.getD out620 (Int.toNat (i315 + 1)) []) (Int.toNat (List.getD (List.getD where_ (Int.toNat x621) []) (Int.toNat x768) 0)) 0) + r837)] [(15, .int .i64 ((List.getD (List.getD out620 (Int.toNat (i315 + 1)) []) (Int.toNat (List.getD (List.getD where_ (Int.toNat x621) []) (Int.toNat x768) 0)) 0) + r837))] [IntKind.i64.wrap ((List.getD (List.getD out620 (Int.toNat (i315 + 1)) []) (Int.toNat (List.getD (List.getD where_ (Int.toNat x621) []) (Int.toNat x768) 0)) 0) + r837) = (List.getD (List.getD out620 (Int.toNat (i315 + 1)) []) (Int.toNat (List.getD (List.getD where_ (Int.toNat x621) []) (Int.toNat x768) 0)) 0) + r837] E (by kernel_rfl) (by kernel_rfl) (wrap_in g846) ?_
       clear E; intro a E
       refine wpList_nil ?_
       refine th_n ?_
       refine wp_seq ?_
       refine wp_region_lit ?_
       refine vn tbok 3 [] [(85, .bool (decide (best767 < 0)))] [] E (by kernel_rfl) (by kernel_rfl) trivial ?_
       clear E; intro a E
       refine E.cases (t := 85) rfl (fun hb_ E_ => ?_) (fun hb_ E_ => ?_)
       ·
        replace E := E_; clear E_
        have h847 : best767 < 0 := of_decide_eq_true hb_
        clear hb_; replace hP := ite_t h847 hP
        refine vn tbok 4 [] [(89, .bool true)] [] E (by kernel_rfl) (by kernel_rfl) trivial ?_
        clear E; intro a E
        refine wpList_nil ?_
        refine th_n ?_
        refine c_true E rfl ?_
        refine wp_region_lit ?_
        refine vn tbok 2 [] [(12, .int .i64 ((List.getD (List.getD out620 (Int.toNat (i315 + 1)) []) (Int.toNat (List.getD (List.getD where_ (Int.toNat x621) []) (Int.toNat x768) 0)) 0) + r837))] [] E (by kernel_rfl) (by kernel_rfl) trivial ?_
        clear E; intro a E
        refine wpList_nil ?_
        refine bl_n ?_
        refine th_n ?_
        refine wp_region_lit ?_
        obtain ⟨g848, hP⟩ := ask_inv hP
        refine vn tbok 2 [.int .i64 (x768 + 1)] [(59, .int .i64 (x768 + 1))] [IntKind.i64.wrap (x768 + 1) = x768 + 1] E (by kernel_rfl) (by kernel_rfl) (wrap_in g848) ?_
        clear E; intro a E
        refine wpList_nil ?_
        exact th_n ⟨m809, Nat.lt_succ_self _, (List.getD (List.getD out620 (Int.toNat (i315 + 1)) []) (Int.toNat (List.getD (List.getD where_ (Int.toNat x621) []) (Int.toNat x768) 0)) 0) + r837, x768 + 1, E.pick _ ⟨rfl, rfl, rfl, rfl, rfl, rfl, rfl, rfl, rfl, rfl, rfl, rfl, trivial⟩, H.sel [0, 1, 2, 3, 4, 5, 6, 7] rfl, hP⟩
       replace E := E_; clear E_
       have h849 : ¬ (best767 < 0) := of_decide_eq_false hb_
       clear hb_; replace hP := ite_f h849 hP
       refine vn tbok 4 [] [(89, .bool (decide (((List.getD (List.getD out620 (Int.toNat (i315 + 1)) []) (Int.toNat (List.getD (List.getD where_ (Int.toNat x621) []) (Int.toNat x768) 0)) 0) + r837) < best767)))] [] E (by kernel_rfl) (by kernel_rfl) trivial ?_
       clear E; intro a E
       refine wpList_nil ?_
       refine th_n ?_
       refine E.cases (t := 89) rfl (fun hb_ E_ => ?_) (fun hb_ E_ => ?_)
       ·
        replace E := E_; clear E_
        have h850 : ((List.getD (List.getD out620 (Int.toNat (i315 + 1)) []) (Int.toNat (List.getD (List.getD where_ (Int.toNat x621) []) (Int.toNat x768) 0)) 0) + r837) < best767 := of_decide_eq_true hb_
        clear hb_; replace hP := ite_t h850 hP
        refine c_true E rfl ?_
        refine wp_region_lit ?_
        refine vn tbok 2 [] [(12, .int .i64 ((List.getD (List.getD out620 (Int.toNat (i315 + 1)) []) (Int.toNat (List.getD (List.getD where_ (Int.toNat x621) []) (Int.toNat x768) 0)) 0) + r837))] [] E (by kernel_rfl) (by kernel_rfl) trivial ?_
        clear E; intro a E
        refine wpList_nil ?_
        refine bl_n ?_
        refine th_n ?_
        refine wp_region_lit ?_
        obtain ⟨g851, hP⟩ := ask_inv hP
        refine vn tbok 2 [.int .i64 (x768 + 1)] [(59, .int .i64 (x768 + 1))] [IntKind.i64.wrap (x768 + 1) = x768 + 1] E (by kernel_rfl) (by kernel_rfl) (wrap_in g851) ?_
        clear E; intro a E
        refine wpList_nil ?_
        exact th_n ⟨m809, Nat.lt_succ_self _, (List.getD (List.getD out620 (Int.toNat (i315 + 1)) []) (Int.toNat (List.getD (List.getD where_ (Int.toNat x621) []) (Int.toNat x768) 0)) 0) + r837, x768 + 1, E.pick _ ⟨rfl, rfl, rfl, rfl, rfl, rfl, rfl, rfl, rfl, rfl, rfl, rfl, trivial⟩, H.sel [0, 1, 2, 3, 4, 5, 6, 7] rfl, hP⟩
       replace E := E_; clear E_
       have h852 : ¬ (((List.getD (List.getD out620 (Int.toNat (i315 + 1)) []) (Int.toNat (List.getD (List.getD where_ (Int.toNat x621) []) (Int.toNat x768) 0)) 0) + r837) < best767) := of_decide_eq_false hb_
       clear hb_; replace hP := ite_f h852 hP
       refine c_false E rfl ?_
       refine wp_skip ?_
       refine bl_n ?_
       refine th_n ?_
       refine wp_region_lit ?_
       obtain ⟨g853, hP⟩ := ask_inv hP
       refine vn tbok 2 [.int .i64 (x768 + 1)] [(59, .int .i64 (x768 + 1))] [IntKind.i64.wrap (x768 + 1) = x768 + 1] E (by kernel_rfl) (by kernel_rfl) (wrap_in g853) ?_
       clear E; intro a E
       refine wpList_nil ?_
       exact th_n ⟨m809, Nat.lt_succ_self _, best767, x768 + 1, E.pick _ ⟨rfl, rfl, rfl, rfl, rfl, rfl, rfl, rfl, rfl, rfl, rfl, rfl, trivial⟩, H.sel [0, 1, 2, 3, 4, 5, 6, 7] rfl, hP⟩
      replace E := E_; clear E_
      have h854 : ¬ (x768 < (((List.length (List.getD where_ (Int.toNat x621) [])) : Nat) : Int)) := of_decide_eq_false hb_
      clear hb_; replace hP := ite_f h854 hP
      refine c_false E rfl ?_
      refine wp_exit ?_
      refine th_exit ?_
      have hx_ := Option.some.inj hP
      refine th_exit (.inl ⟨6, rfl, ?_⟩)
      exact ⟨rfl, best767, E.pick _ ⟨rfl, rfl, rfl, rfl, rfl, rfl, rfl, rfl, rfl, trivial⟩, H.sel [0, 1, 2, 3, 4, 5, 6] rfl, hx_.symm⟩
     clear E H hL811; intro i_ a w813 hM_
     obtain ⟨rfl, x815, E, H, hx_⟩ := hM_
     subst hx_; have hP := hK812; clear hK812
     refine bl_hit ?_
     refine th_n ?_
     refine wp_region_lit ?_
     obtain ⟨g855, hP⟩ := ask_inv hP
     obtain ⟨A856, c857, hl858, hr859, hm860⟩ := H.mrow (i := i315) 6 rfl g855
     obtain ⟨g862, hP⟩ := ask_inv hP
     obtain ⟨b863, e_b863⟩ := hm860.addr (idx_pos g862)
     subst e_b863
     refine vn tbok 7 [.slice (some ⟨b863, 0, none⟩) (List.length (List.getD out620 (Int.toNat i315) [])) c857] [(97, .int .i64 x810), (98, .pointer (some ⟨b863, 0 + (Int.toNat x621) * 1, none⟩))] [0 ≤ i315 ∧ i315 < (((List.length out620) : Nat) : Int), World.cell? w813 ⟨g36, 0 + (Int.toNat i315) * 1, none⟩ = some (.slice (some ⟨b863, 0, none⟩) (List.length (List.getD out620 (Int.toNat i315) [])) c857), 0 ≤ x621 ∧ x621 < (((List.length (List.getD out620 (Int.toNat i315) [])) : Nat) : Int)] E (by kernel_rfl) (by kernel_rfl) ⟨g855, hl858, g862⟩ ?_
     clear E; intro a E
     refine h_setM (g2 := b863) (i := i315) (q := x621) x810 H 6 rfl hm860 E rfl rfl rfl rfl tbok rfl (fun _ _ => rfl) rfl g862 rfl ?_
     clear E; intro w865 a hc866 H_ E
     replace H := H_; clear H_; try dsimp only [setn, addE, goneL] at H
     have hn867 : (List.length out620) = (List.length (List.set out620 (Int.toNat i315) (List.set (List.getD out620 (Int.toNat i315) []) (Int.toNat x621) x810))) := by simp only [List.length_set]
     replace E := E.same (t := 7) (u := .slice (some ⟨g36, 0, none⟩) (List.length (List.set out620 (Int.toNat i315) (List.set (List.getD out620 (Int.toNat i315) []) (Int.toNat x621) x810))) c38) rfl (congrArg (fun n_ => Value.slice (some ⟨g36, 0, none⟩) n_ c38) hn867)
     refine wpList_nil ?_
     refine bl_n ?_
     refine th_n ?_
     refine wp_region_lit ?_
     obtain ⟨g868, hP⟩ := ask_inv hP
     refine vn tbok 2 [.int .i64 (x621 + 1)] [(51, .int .i64 (x621 + 1))] [IntKind.i64.wrap (x621 + 1) = x621 + 1] E (by kernel_rfl) (by kernel_rfl) (wrap_in g868) ?_
     clear E; intro a E
     refine wpList_nil ?_
     exact th_n ⟨m720, Nat.lt_succ_self _, List.set out620 (Int.toNat i315) (List.set (List.getD out620 (Int.toNat i315) []) (Int.toNat x621) x810), x621 + 1, E.pick _ ⟨rfl, rfl, rfl, rfl, rfl, rfl, rfl, trivial⟩, H.sel [0, 1, 2, 3, 4, 5, 6] rfl, hP⟩
    replace E := E_; clear E_
    have h869 : ¬ (x621 < (((List.length aAccept) : Nat) : Int)) := of_decide_eq_false hb_
    clear hb_; replace hP := ite_f h869 hP
    refine c_false E rfl ?_
    refine wp_exit ?_
    refine th_exit ?_
    have hx_ := Option.some.inj hP
    refine th_exit (.inl ⟨4, rfl, ?_⟩)
    exact ⟨rfl, out620, E.pick _ ⟨rfl, rfl, rfl, rfl, rfl, trivial⟩, H.sel [0, 1, 2, 3, 4, 5, 6] rfl, hx_.symm⟩
   clear E H hL722; intro i_ a w724 hM_
   obtain ⟨rfl, x726, E, H, hx_⟩ := hM_
   subst hx_; have hP := hK723; clear hK723
   refine bl_hit ?_
   refine bl_n ?_
   refine th_n ?_
   refine wp_region_lit ?_
   obtain ⟨g870, hP⟩ := ask_inv hP
   refine vn tbok 3 [.int .i64 (i315 - 1)] [(10, .int .i64 (i315 - 1))] [IntKind.i64.wrap (i315 - 1) = i315 - 1] E (by kernel_rfl) (by kernel_rfl) (wrap_in g870) ?_
   clear E; intro a E
   refine wpList_nil ?_
   exact th_n ⟨m516, Nat.lt_succ_self _, x721, i315 - 1, E.pick _ ⟨rfl, rfl, rfl, rfl, rfl, trivial⟩, H.sel [0, 1, 2, 3, 4, 5, 6] rfl, hP⟩
  replace E := E_; clear E_
  have h871 : ¬ (0 ≤ i315) := of_decide_eq_false hb_
  clear hb_; replace hP := ite_f h871 hP
  refine c_false E rfl ?_
  refine wp_exit ?_
  refine th_exit ?_
  have hx_ := Option.some.inj hP
  refine th_exit (.inl ⟨2, rfl, ?_⟩)
  exact ⟨rfl, out314, E.pick _ ⟨rfl, trivial⟩, H.sel [6] rfl, hx_.symm⟩
 clear E H hL518; intro i_ a w520 hM_
 obtain ⟨rfl, x522, E, H, hx_⟩ := hM_
 subst hx_; have hP := hK519; clear hK519
 refine bl_hit ?_
 refine th_n ?_
 refine wp_seq ?_
 refine wp_region_lit ?_
 refine vn tbok 2 [] [(6, .slice (some ⟨g36, 0, none⟩) (List.length x517) c38)] [] E (by kernel_rfl) (by kernel_rfl) trivial ?_
 clear E; intro a E
 refine wpList_nil ?_
 refine th_n ?_
 refine wp_ret ?_
 have hk872 := H.mcap 0 rfl
 replace H := H.frzM 0 rfl; try dsimp only [setn, addE, goneL] at H
 obtain rfl := Option.some.inj hP
 refine ret1 E rfl rfl ?_
 exact ⟨_, rfl, (some ⟨g36, 0, none⟩), c38, rfl, hk872, H.sel [0] rfl⟩

end Go.V
