/- Plain functions, and the calls that give them. -/
import Derived.Test.YtldjjbgnicknkaaA1
set_option linter.all false
set_option linter.unusedVariables false
set_option linter.unnecessarySimpa false
set_option linter.unusedSimpArgs false
namespace Go.V
open Go Go.Proofs
/-! rejoinder/part.asked -/
def part_asked_l0 (N : Nat) (aAccept : List Bool) (ll : List Int) : Nat → Int → Option (Unit ⊕ Int)
  | 0, _ => none
  | m53 + 1, x42 =>
    if x42 < (((List.length ll) : Nat) : Int) then
      ask (idx x42 (List.length ll)) <|
      if (List.getD ll (Int.toNat x42) 0) < 0 then
        some (Sum.inr 2)
      else
        if (((List.length aAccept) : Nat) : Int) ≤ (List.getD ll (Int.toNat x42) 0) then
          some (Sum.inr 2)
        else
          ask (in64 (x42 + 1)) <|
          part_asked_l0 N aAccept ll m53 (x42 + 1)
    else
      some (Sum.inl ())
def part_asked (N : Nat) (aProps : Int) (aAccept : List Bool) (aGuard : List Int) (aNodes : List Nd) (ll : List Int) : Option Int :=
  Option.bind (guard_Check N aProps aAccept aGuard aNodes) fun r22 =>
  if (r22 : Int) = 0 then
    Option.bind (part_asked_l0 N aAccept ll N 0) fun x54 =>
    Sum.elim (fun x59 =>
      some 0)
     (fun x70 =>
      some x70) x54
  else
    some r22
set_option maxRecDepth 100000 in
set_option maxHeartbeats 4000000 in
theorem part_asked_calls {N : Nat} {S Fa : Nat → Prop} {w0 : World} {r : Int} (A1 : Option Addr) (c2 : Nat) (A5 : Option Addr) (c6 : Nat) (A9 : Option Addr) (c10 : Nat) (A13 : Option Addr) (c14 : Nat) (aProps : Int) (aAccept : List Bool) (aGuard : List Int) (aNodes : List Nd) (ll : List Int) (hk3 : List.length aAccept ≤ c2) (hk7 : List.length aGuard ≤ c6) (hk11 : List.length aNodes ≤ c10) (hk15 : List.length ll ≤ c14) (H : Hp S Fa w0 w0 [.ro false cBool A1 aAccept, .ro false (cInt .i64) A5 aGuard, .ro false cNode A9 aNodes, .ro false (cInt .i64) A13 ll]) (hP : part_asked N aProps aAccept aGuard aNodes ll = some r) :
    Calls Try.prog 52 #[.agg #[.int .i64 aProps, .slice A1 (List.length aAccept) c2, .slice A5 (List.length aGuard) c6, .slice A9 (List.length aNodes) c10], .slice A13 (List.length ll) c14] w0 fun e w' => ∃ v, e = .returned v ∧ v = .int .i64 r ∧ Hp S Fa w0 w' [] := by
 refine enterV (n := 29) Try.func52 rfl rfl rfl ?_
 intro a E
 replace E := E.pick [(0, .agg #[.int .i64 aProps, .slice A1 (List.length aAccept) c2, .slice A5 (List.length aGuard) c6, .slice A9 (List.length aNodes) c10]), (1, .slice A13 (List.length ll) c14)] ⟨rfl, rfl, trivial⟩
 rw [part_asked] at hP
 refine wp_seq ?_
 refine wp_region_lit ?_
 refine h_box H E rfl rfl rfl ?_
 intro w18 g17 a hc19 hg21 H_ E_
 replace E := E_ _ rfl; clear E_
 replace H := H_; clear H_; try dsimp only [setn, addE, goneL] at H
 refine vr tbok 1 [] [(1, .slice A13 (List.length ll) c14), (2, .pointer (some ⟨g17, 0, none⟩))] [] E (by kernel_rfl) trivial ?_
 clear E; intro a E
 refine wpList_nil ?_
 refine th_n ?_
 refine wp_seq ?_
 refine wp_seq ?_
 refine wp_region_lit ?_
 refine vr tbok 1 [.agg #[.int .i64 aProps, .slice A1 (List.length aAccept) c2, .slice A5 (List.length aGuard) c6, .slice A9 (List.length aNodes) c10]] [(1, .slice A13 (List.length ll) c14), (2, .pointer (some ⟨g17, 0, none⟩)), (8, .agg #[.int .i64 aProps, .slice A1 (List.length aAccept) c2, .slice A5 (List.length aGuard) c6, .slice A9 (List.length aNodes) c10])] [cellsAt w18 g17 (0) [.int .i64 aProps, .slice A1 (List.length aAccept) c2, .slice A5 (List.length aGuard) c6, .slice A9 (List.length aNodes) c10]] E (by kernel_rfl) ((H.box 4 rfl).sub 0 _ rfl) ?_
 clear E; intro a E
 obtain ⟨r22, h23, hP⟩ := bind_inv hP
 obtain ⟨Fa24, Hc25, hb26⟩ := H.call [] [(0, false), (1, false), (2, false)] rfl rfl trivial
 refine e_call E rfl rfl Try.func28 rfl rfl rfl (guard_Check_calls A1 c2 A5 c6 A9 c10 aProps aAccept aGuard aNodes hk3 hk7 hk11 Hc25 h23) ?_
 rintro v27 w28 a ⟨rfl, HR29⟩ E_
 replace E := E_ _ rfl; clear E_
 obtain ⟨H_, hc30⟩ := hb26 _ _ HR29 rfl
 replace H := H_; clear H_; try dsimp only [setn, addE, goneL] at H
 refine vr tbok 1 [] [(1, .slice A13 (List.length ll) c14), (2, .pointer (some ⟨g17, 0, none⟩)), (5, .int .i64 r22)] [] E (by kernel_rfl) trivial ?_
 clear E; intro a E
 refine wpList_nil ?_
 refine th_n ?_
 refine wp_seq ?_
 refine wp_region_lit ?_
 refine vr tbok 2 [] [(1, .slice A13 (List.length ll) c14), (2, .pointer (some ⟨g17, 0, none⟩)), (5, .int .i64 r22), (11, .bool ((r22 : Int) != 0))] [] E (by kernel_rfl) trivial ?_
 clear E; intro a E
 refine wpList_nil ?_
 refine th_n ?_
 refine E.cases (t := 11) rfl (fun hb_ E_ => ?_) (fun hb_ E_ => ?_)
 ·
  replace E := E_; clear E_
  have h31 : ¬ ((r22 : Int) = 0) := bne_iff_ne.1 hb_
  clear hb_; replace hP := ite_f h31 hP
  refine c_true E rfl ?_
  refine wp_seq ?_
  refine wp_region_lit ?_
  refine vr tbok 2 [] [(4, .int .i64 r22)] [] E (by kernel_rfl) trivial ?_
  clear E; intro a E
  refine wpList_nil ?_
  refine th_n ?_
  refine wp_ret ?_
  refine th_ret ?_
  obtain rfl := Option.some.inj hP
  refine ret1 E rfl rfl ?_
  exact ⟨_, rfl, rfl, H.sel [] rfl⟩
 ·
  replace E := E_; clear E_
  have h32 : (r22 : Int) = 0 := bne_eq_false_iff_eq.1 hb_
  clear hb_; replace hP := ite_t h32 hP
  refine c_false E rfl ?_
  refine wp_skip ?_
  refine th_n ?_
  refine wp_seq ?_
  refine wp_seq ?_
  refine wp_region_lit ?_
  refine vr tbok 3 [] [(2, .pointer (some ⟨g17, 0, none⟩)), (13, .slice A13 (List.length ll) c14), (14, .int .i64 (((List.length ll) : Nat) : Int)), (15, .int .i64 0)] [] E (by kernel_rfl) trivial ?_
  clear E; intro a E
  refine wpList_nil ?_
  refine th_n ?_
  refine wp_block ?_
  obtain ⟨x54, hL55, hK56⟩ := bind_inv hP
  clear hP
  refine loop_cut (fun i_ a w_ => (i_ = 0 ∧ ∃ (x59 : Unit), Fr a 29 [] ∧ Hp S Fa w0 w_ [] ∧ x54 = Sum.inl x59)) ?_ ?_
  ·
   refine loopV (fun m58 a w57 => ∃ (x42 : Int), Fr a 29 [(2, .pointer (some ⟨g17, 0, none⟩)), (13, .slice A13 (List.length ll) c14), (14, .int .i64 (((List.length ll) : Nat) : Int)), (15, .int .i64 x42)] ∧ Hp S Fa w0 w57 [.ro false cBool A1 aAccept, .ro false (cInt .i64) A5 aGuard, .ro false cNode A9 aNodes, .box g17 26 [.int .i64 aProps, .slice A1 (List.length aAccept) c2, .slice A5 (List.length aGuard) c6, .slice A9 (List.length aNodes) c10], .ro false (cInt .i64) A13 ll] ∧ part_asked_l0 N aAccept ll m58 x42 = some x54) N ?_ ?_
   ·
    exact ⟨0, E.pick _ ⟨rfl, rfl, rfl, rfl, trivial⟩, H.sel [0, 1, 2, 4, 3] rfl, hL55⟩
   ·
    clear E H hL55; intro m58 a w57 hI_
    obtain ⟨x42, E, H, hP⟩ := hI_
    obtain ⟨m53, rfl⟩ : ∃ q_, m58 = q_ + 1 := by cases m58 with | zero => rw [part_asked_l0] at hP; cases hP | succ q_ => exact ⟨q_, rfl⟩
    rw [part_asked_l0] at hP
    refine wp_seq ?_
    refine wp_region_lit ?_
    refine vr tbok 1 [] [(2, .pointer (some ⟨g17, 0, none⟩)), (13, .slice A13 (List.length ll) c14), (14, .int .i64 (((List.length ll) : Nat) : Int)), (15, .int .i64 x42), (16, .bool (decide (x42 < (((List.length ll) : Nat) : Int))))] [] E (by kernel_rfl) trivial ?_
    clear E; intro a E
    refine wpList_nil ?_
    refine th_n ?_
    refine wp_seq ?_
    refine E.cases (t := 16) rfl (fun hb_ E_ => ?_) (fun hb_ E_ => ?_)
    ·
     replace E := E_; clear E_
     have h60 : x42 < (((List.length ll) : Nat) : Int) := of_decide_eq_true hb_
     clear hb_; replace hP := ite_t h60 hP
     refine c_true E rfl ?_
     refine wp_skip ?_
     refine th_n ?_
     refine wp_seq ?_
     refine wp_block ?_
     refine wp_seq ?_
     refine wp_region_lit ?_
     obtain ⟨g61, hP⟩ := ask_inv hP
     obtain ⟨b62, o63, e_b62⟩ := (H.rd 4 rds_ro).addr (idx_pos g61)
     subst e_b62
     refine vr tbok 3 [.int .i64 (List.getD ll (Int.toNat x42) 0)] [(2, .pointer (some ⟨g17, 0, none⟩)), (7, .int .i64 (List.getD ll (Int.toNat x42) 0)), (13, .slice (some ⟨b62, o63, none⟩) (List.length ll) c14), (14, .int .i64 (((List.length ll) : Nat) : Int)), (15, .int .i64 x42)] [0 ≤ x42 ∧ x42 < (((List.length ll) : Nat) : Int), World.cell? w57 ⟨b62, o63 + (Int.toNat x42) * 1, none⟩ = some (.int .i64 (List.getD ll (Int.toNat x42) 0))] E (by kernel_rfl) ⟨g61, Rds.at1 (H.rd 4 rds_ro) 0 g61⟩ ?_
     clear E; intro a E
     refine wpList_nil ?_
     refine th_n ?_
     refine wp_seq ?_
     refine wp_region_lit ?_
     refine vr tbok 3 [] [(2, .pointer (some ⟨g17, 0, none⟩)), (7, .int .i64 (List.getD ll (Int.toNat x42) 0)), (13, .slice (some ⟨b62, o63, none⟩) (List.length ll) c14), (14, .int .i64 (((List.length ll) : Nat) : Int)), (15, .int .i64 x42), (21, .bool (decide ((List.getD ll (Int.toNat x42) 0) < 0)))] [] E (by kernel_rfl) trivial ?_
     clear E; intro a E
     refine E.cases (t := 21) rfl (fun hb_ E_ => ?_) (fun hb_ E_ => ?_)
     ·
      replace E := E_; clear E_
      have h64 : (List.getD ll (Int.toNat x42) 0) < 0 := of_decide_eq_true hb_
      clear hb_; replace hP := ite_t h64 hP
      refine vr tbok 6 [] [(2, .pointer (some ⟨g17, 0, none⟩)), (13, .slice (some ⟨b62, o63, none⟩) (List.length ll) c14), (14, .int .i64 (((List.length ll) : Nat) : Int)), (15, .int .i64 x42), (22, .tuple #[]), (23, .tuple #[]), (24, .tuple #[]), (25, .tuple #[]), (26, .tuple #[]), (27, .bool true)] [] E (by kernel_rfl) trivial ?_
      clear E; intro a E
      refine wpList_nil ?_
      refine th_n ?_
      refine c_true E rfl ?_
      refine wp_seq ?_
      refine wp_region_lit ?_
      refine vr tbok 1 [] [(4, .int .i64 2)] [] E (by kernel_rfl) trivial ?_
      clear E; intro a E
      refine wpList_nil ?_
      refine th_n ?_
      refine wp_ret ?_
      refine bl_ret ?_
      refine th_ret ?_
      refine th_ret ?_
      refine .inr ⟨rfl, ?_⟩
      refine bl_ret ?_
      refine th_ret ?_
      have hx_ := Option.some.inj hP; subst hx_
      have hP : some (2) = some r := hK56
      obtain rfl := Option.some.inj hP
      refine ret1 E rfl rfl ?_
      exact ⟨_, rfl, rfl, H.sel [] rfl⟩
     ·
      replace E := E_; clear E_
      have h65 : ¬ ((List.getD ll (Int.toNat x42) 0) < 0) := of_decide_eq_false hb_
      clear hb_; replace hP := ite_f h65 hP
      refine vr tbok 6 [.slice A1 (List.length aAccept) c2] [(2, .pointer (some ⟨g17, 0, none⟩)), (13, .slice (some ⟨b62, o63, none⟩) (List.length ll) c14), (14, .int .i64 (((List.length ll) : Nat) : Int)), (15, .int .i64 x42), (22, .int .i64 (List.getD ll (Int.toNat x42) 0)), (23, .pointer (some ⟨g17, 1, none⟩)), (24, .slice A1 (List.length aAccept) c2), (25, .int .i64 (((List.length aAccept) : Nat) : Int)), (26, .bool (decide ((((List.length aAccept) : Nat) : Int) ≤ (List.getD ll (Int.toNat x42) 0)))), (27, .bool (decide ((((List.length aAccept) : Nat) : Int) ≤ (List.getD ll (Int.toNat x42) 0))))] [World.cell? w57 ⟨g17, 1, none⟩ = some (.slice A1 (List.length aAccept) c2)] E (by kernel_rfl) ((H.box 3 rfl).cell (j := 1) rfl) ?_
      clear E; intro a E
      refine wpList_nil ?_
      refine th_n ?_
      refine E.cases (t := 27) rfl (fun hb_ E_ => ?_) (fun hb_ E_ => ?_)
      ·
       replace E := E_; clear E_
       have h66 : (((List.length aAccept) : Nat) : Int) ≤ (List.getD ll (Int.toNat x42) 0) := of_decide_eq_true hb_
       clear hb_; replace hP := ite_t h66 hP
       refine c_true E rfl ?_
       refine wp_seq ?_
       refine wp_region_lit ?_
       refine vr tbok 1 [] [(4, .int .i64 2)] [] E (by kernel_rfl) trivial ?_
       clear E; intro a E
       refine wpList_nil ?_
       refine th_n ?_
       refine wp_ret ?_
       refine bl_ret ?_
       refine th_ret ?_
       refine th_ret ?_
       refine .inr ⟨rfl, ?_⟩
       refine bl_ret ?_
       refine th_ret ?_
       have hx_ := Option.some.inj hP; subst hx_
       have hP : some (2) = some r := hK56
       obtain rfl := Option.some.inj hP
       refine ret1 E rfl rfl ?_
       exact ⟨_, rfl, rfl, H.sel [] rfl⟩
      ·
       replace E := E_; clear E_
       have h67 : ¬ ((((List.length aAccept) : Nat) : Int) ≤ (List.getD ll (Int.toNat x42) 0)) := of_decide_eq_false hb_
       clear hb_; replace hP := ite_f h67 hP
       refine c_false E rfl ?_
       refine wp_skip ?_
       refine bl_n ?_
       refine th_n ?_
       refine wp_region_lit ?_
       obtain ⟨g68, hP⟩ := ask_inv hP
       refine vr tbok 2 [.int .i64 (x42 + 1)] [(2, .pointer (some ⟨g17, 0, none⟩)), (13, .slice (some ⟨b62, o63, none⟩) (List.length ll) c14), (14, .int .i64 (((List.length ll) : Nat) : Int)), (15, .int .i64 (x42 + 1)), (22, .int .i64 (List.getD ll (Int.toNat x42) 0)), (23, .pointer (some ⟨g17, 1, none⟩)), (24, .slice A1 (List.length aAccept) c2), (25, .int .i64 (((List.length aAccept) : Nat) : Int)), (26, .bool (decide ((((List.length aAccept) : Nat) : Int) ≤ (List.getD ll (Int.toNat x42) 0))))] [IntKind.i64.wrap (x42 + 1) = x42 + 1] E (by kernel_rfl) (wrap_in g68) ?_
       clear E; intro a E
       refine wpList_nil ?_
       exact th_n ⟨m53, Nat.lt_succ_self _, x42 + 1, E.pick _ ⟨rfl, rfl, rfl, rfl, trivial⟩, H.sel [0, 1, 2, 3, 4] rfl, hP⟩
    ·
     replace E := E_; clear E_
     have h69 : ¬ (x42 < (((List.length ll) : Nat) : Int)) := of_decide_eq_false hb_
     clear hb_; replace hP := ite_f h69 hP
     refine c_false E rfl ?_
     refine wp_exit ?_
     refine th_exit ?_
     have hx_ := Option.some.inj hP
     refine th_exit (.inl ⟨0, rfl, ?_⟩)
     exact ⟨rfl, (), E.pick _ trivial, H.sel [] rfl, hx_.symm⟩
  ·
   clear E H hL55; intro i_ a w57 hM_
   obtain ⟨rfl, x59, E, H, hx_⟩ := hM_
   subst hx_; have hP := elim_l hK56
   clear hK56
   refine bl_hit ?_
   refine th_n ?_
   refine wp_seq ?_
   refine wp_region_lit ?_
   refine vr tbok 1 [] [(4, .int .i64 0)] [] E (by kernel_rfl) trivial ?_
   clear E; intro a E
   refine wpList_nil ?_
   refine th_n ?_
   refine wp_ret ?_
   obtain rfl := Option.some.inj hP
   refine ret1 E rfl rfl ?_
   exact ⟨_, rfl, rfl, H.sel [] rfl⟩

/-! rejoinder/guard.Go -/
def guard_Go_l0 (N : Nat) (nodes : List Nd) (ll : Int) : Nat → Int → Int → Option (Unit ⊕ (Int × Bool))
  | 0, _, _ => none
  | m55 + 1, ref27, x28 =>
    if x28 < 9 then
      if ref27 < 0 then
        ask (in64 ((-1) - ref27)) <|
        some (Sum.inr ((-1) - ref27, true))
      else
        if (((List.length nodes) : Nat) : Int) ≤ ref27 then
          some (Sum.inr (0, false))
        else
          ask (idx ref27 (List.length nodes)) <|
          if ((List.getD nodes (Int.toNat ref27) (default : Nd)).P) < 0 then
            some (Sum.inr (0, false))
          else
            if 8 ≤ ((List.getD nodes (Int.toNat ref27) (default : Nd)).P) then
              some (Sum.inr (0, false))
            else
              ask (0 ≤ ((List.getD nodes (Int.toNat ref27) (default : Nd)).P)) <|
              if (andV .u8 (shrV .u8 ll ((List.getD nodes (Int.toNat ref27) (default : Nd)).P)) 1 : Int) = 1 then
                ask (in64 (x28 + 1)) <|
                guard_Go_l0 N nodes ll m55 ((List.getD nodes (Int.toNat ref27) (default : Nd)).Hi) (x28 + 1)
              else
                ask (in64 (x28 + 1)) <|
                guard_Go_l0 N nodes ll m55 ((List.getD nodes (Int.toNat ref27) (default : Nd)).Lo) (x28 + 1)
    else
      some (Sum.inl ())
def guard_Go (N : Nat) (nodes : List Nd) (ref : Int) (ll : Int) : Option (Int × Bool) :=
  Option.bind (guard_Go_l0 N nodes ll N ref 0) fun x56 =>
  Sum.elim (fun x61 =>
    some (0, false))
   (fun x88 =>
    some x88) x56
set_option maxRecDepth 100000 in
set_option maxHeartbeats 4000000 in
theorem guard_Go_calls {N : Nat} {S Fa : Nat → Prop} {w0 : World} {r : Int × Bool} (A1 : Option Addr) (c2 : Nat) (nodes : List Nd) (ref : Int) (ll : Int) (hk3 : List.length nodes ≤ c2) (H : Hp S Fa w0 w0 [.ro false cNode A1 nodes]) (hP : guard_Go N nodes ref ll = some r) :
    Calls Try.prog 30 #[.slice A1 (List.length nodes) c2, .int .i64 ref, .int .u8 ll] w0 fun e w' => ∃ v, e = .returned v ∧ v = .tuple #[.int .i64 r.1, .bool r.2] ∧ Hp S Fa w0 w' [] := by
 refine enterV (n := 50) Try.func30 rfl rfl rfl ?_
 intro a E
 replace E := E.pick [(0, .slice A1 (List.length nodes) c2), (1, .int .i64 ref), (2, .int .u8 ll)] ⟨rfl, rfl, rfl, trivial⟩
 rw [guard_Go] at hP
 refine wp_seq ?_
 refine wp_region_lit ?_
 refine vr tbok 2 [] [(0, .slice A1 (List.length nodes) c2), (1, .int .i64 ref), (2, .int .u8 ll)] [] E (by kernel_rfl) trivial ?_
 clear E; intro a E
 refine wpList_nil ?_
 refine th_n ?_
 refine wp_seq ?_
 refine wp_seq ?_
 refine wp_region_lit ?_
 refine vr tbok 1 [] [(0, .slice A1 (List.length nodes) c2), (1, .int .i64 ref), (2, .int .u8 ll), (9, .int .i64 0)] [] E (by kernel_rfl) trivial ?_
 clear E; intro a E
 refine wpList_nil ?_
 refine th_n ?_
 refine wp_block ?_
 obtain ⟨x56, hL57, hK58⟩ := bind_inv hP
 clear hP
 refine loop_cut (fun i_ a w_ => (i_ = 0 ∧ ∃ (x61 : Unit), Fr a 50 [] ∧ Hp S Fa w0 w_ [] ∧ x56 = Sum.inl x61)) ?_ ?_
 ·
  refine loopV (fun m60 a w59 => ∃ (ref27 : Int) (x28 : Int), Fr a 50 [(0, .slice A1 (List.length nodes) c2), (1, .int .i64 ref27), (2, .int .u8 ll), (9, .int .i64 x28)] ∧ Hp S Fa w0 w59 [.ro false cNode A1 nodes] ∧ guard_Go_l0 N nodes ll m60 ref27 x28 = some x56) N ?_ ?_
  ·
   exact ⟨ref, 0, E.pick _ ⟨rfl, rfl, rfl, rfl, trivial⟩, H.sel [0] rfl, hL57⟩
  ·
   clear E H hL57; intro m60 a w59 hI_
   obtain ⟨ref27, x28, E, H, hP⟩ := hI_
   obtain ⟨m55, rfl⟩ : ∃ q_, m60 = q_ + 1 := by cases m60 with | zero => rw [guard_Go_l0] at hP; cases hP | succ q_ => exact ⟨q_, rfl⟩
   rw [guard_Go_l0] at hP
   refine wp_seq ?_
   refine wp_region_lit ?_
   refine vr tbok 1 [] [(0, .slice A1 (List.length nodes) c2), (1, .int .i64 ref27), (2, .int .u8 ll), (9, .int .i64 x28), (10, .bool (decide (x28 < 9)))] [] E (by kernel_rfl) trivial ?_
   clear E; intro a E
   refine wpList_nil ?_
   refine th_n ?_
   refine wp_seq ?_
   refine E.cases (t := 10) rfl (fun hb_ E_ => ?_) (fun hb_ E_ => ?_)
   ·
    replace E := E_; clear E_
    have h62 : x28 < 9 := of_decide_eq_true hb_
    clear hb_; replace hP := ite_t h62 hP
    refine c_true E rfl ?_
    refine wp_skip ?_
    refine th_n ?_
    refine wp_seq ?_
    refine wp_block ?_
    refine wp_seq ?_
    refine wp_seq ?_
    refine wp_region_lit ?_
    refine vr tbok 2 [] [(0, .slice A1 (List.length nodes) c2), (1, .int .i64 ref27), (2, .int .u8 ll), (9, .int .i64 x28), (12, .bool (decide (ref27 < 0)))] [] E (by kernel_rfl) trivial ?_
    clear E; intro a E
    refine wpList_nil ?_
    refine th_n ?_
    refine E.cases (t := 12) rfl (fun hb_ E_ => ?_) (fun hb_ E_ => ?_)
    ·
     replace E := E_; clear E_
     have h63 : ref27 < 0 := of_decide_eq_true hb_
     clear hb_; replace hP := ite_t h63 hP
     refine c_true E rfl ?_
     refine wp_seq ?_
     refine wp_region_lit ?_
     obtain ⟨g64, hP⟩ := ask_inv hP
     refine vr tbok 4 [.int .i64 ((-1) - ref27)] [(6, .int .i64 ((-1) - ref27)), (7, .bool true)] [IntKind.i64.wrap ((-1) - ref27) = (-1) - ref27] E (by kernel_rfl) (wrap_in g64) ?_
     clear E; intro a E
     refine wpList_nil ?_
     refine th_n ?_
     refine wp_ret ?_
     refine th_ret ?_
     refine bl_ret ?_
     refine th_ret ?_
     refine th_ret ?_
     refine .inr ⟨rfl, ?_⟩
     refine bl_ret ?_
     refine th_ret ?_
     have hx_ := Option.some.inj hP; subst hx_
     have hP : some (((-1) - ref27, true)) = some r := hK58
     obtain rfl := Option.some.inj hP
     refine ret2 E rfl rfl rfl ?_
     exact ⟨_, rfl, rfl, H.sel [] rfl⟩
    ·
     replace E := E_; clear E_
     have h65 : ¬ (ref27 < 0) := of_decide_eq_false hb_
     clear hb_; replace hP := ite_f h65 hP
     refine c_false E rfl ?_
     refine wp_skip ?_
     refine th_n ?_
     refine wp_seq ?_
     refine wp_seq ?_
     refine wp_region_lit ?_
     refine vr tbok 5 [] [(0, .slice A1 (List.length nodes) c2), (1, .int .i64 ref27), (2, .int .u8 ll), (9, .int .i64 x28), (19, .bool (decide ((((List.length nodes) : Nat) : Int) ≤ ref27)))] [] E (by kernel_rfl) trivial ?_
     clear E; intro a E
     refine E.cases (t := 19) rfl (fun hb_ E_ => ?_) (fun hb_ E_ => ?_)
     ·
      replace E := E_; clear E_
      have h66 : (((List.length nodes) : Nat) : Int) ≤ ref27 := of_decide_eq_true hb_
      clear hb_; replace hP := ite_t h66 hP
      refine vr tbok 15 [] [(0, .slice A1 (List.length nodes) c2), (1, .int .i64 ref27), (2, .int .u8 ll), (9, .int .i64 x28), (20, .tuple #[]), (21, .tuple #[]), (22, .tuple #[]), (23, .tuple #[]), (24, .tuple #[]), (25, .tuple #[]), (28, .tuple #[]), (29, .tuple #[]), (30, .tuple #[]), (31, .tuple #[]), (32, .tuple #[]), (33, .tuple #[]), (34, .bool true)] [] E (by kernel_rfl) trivial ?_
      clear E; intro a E
      refine wpList_nil ?_
      refine th_n ?_
      refine c_true E rfl ?_
      refine wp_seq ?_
      refine wp_region_lit ?_
      refine vr tbok 2 [] [(6, .int .i64 0), (7, .bool false)] [] E (by kernel_rfl) trivial ?_
      clear E; intro a E
      refine wpList_nil ?_
      refine th_n ?_
      refine wp_ret ?_
      refine th_ret ?_
      refine bl_ret ?_
      refine th_ret ?_
      refine th_ret ?_
      refine .inr ⟨rfl, ?_⟩
      refine bl_ret ?_
      refine th_ret ?_
      have hx_ := Option.some.inj hP; subst hx_
      have hP : some ((0, false)) = some r := hK58
      obtain rfl := Option.some.inj hP
      refine ret2 E rfl rfl rfl ?_
      exact ⟨_, rfl, rfl, H.sel [] rfl⟩
     ·
      replace E := E_; clear E_
      have h67 : ¬ ((((List.length nodes) : Nat) : Int) ≤ ref27) := of_decide_eq_false hb_
      clear hb_; replace hP := ite_f h67 hP
      obtain ⟨g68, hP⟩ := ask_inv hP
      obtain ⟨b69, o70, e_b69⟩ := (H.rd 0 rds_ro).addr (idx_pos g68)
      subst e_b69
      refine vr tbok 8 [.int .i64 ((List.getD nodes (Int.toNat ref27) (default : Nd)).P)] [(0, .slice (some ⟨b69, o70, none⟩) (List.length nodes) c2), (1, .int .i64 ref27), (2, .int .u8 ll), (9, .int .i64 x28), (20, .slice (some ⟨b69, o70, none⟩) (List.length nodes) c2), (21, .int .i64 ref27), (22, .pointer (some ⟨b69, o70 + (Int.toNat ref27) * 3, none⟩)), (23, .pointer (some ⟨b69, o70 + (Int.toNat ref27) * 3, none⟩)), (24, .int .i64 ((List.getD nodes (Int.toNat ref27) (default : Nd)).P)), (25, .bool (decide (((List.getD nodes (Int.toNat ref27) (default : Nd)).P) < 0))), (27, .bool (decide (((List.getD nodes (Int.toNat ref27) (default : Nd)).P) < 0)))] [0 ≤ ref27 ∧ ref27 < (((List.length nodes) : Nat) : Int), World.cell? w59 ⟨b69, o70 + (Int.toNat ref27) * 3, none⟩ = some (.int .i64 ((List.getD nodes (Int.toNat ref27) (default : Nd)).P))] E (by kernel_rfl) ⟨g68, (Rds.atP (H.rd 0 rds_ro) (default : Nd) g68).1⟩ ?_
      clear E; intro a E
      refine E.cases (t := 27) rfl (fun hb_ E_ => ?_) (fun hb_ E_ => ?_)
      ·
       replace E := E_; clear E_
       have h71 : ((List.getD nodes (Int.toNat ref27) (default : Nd)).P) < 0 := of_decide_eq_true hb_
       clear hb_; replace hP := ite_t h71 hP
       refine vr tbok 7 [] [(0, .slice (some ⟨b69, o70, none⟩) (List.length nodes) c2), (1, .int .i64 ref27), (2, .int .u8 ll), (9, .int .i64 x28), (20, .slice (some ⟨b69, o70, none⟩) (List.length nodes) c2), (21, .int .i64 ref27), (22, .pointer (some ⟨b69, o70 + (Int.toNat ref27) * 3, none⟩)), (23, .pointer (some ⟨b69, o70 + (Int.toNat ref27) * 3, none⟩)), (24, .int .i64 ((List.getD nodes (Int.toNat ref27) (default : Nd)).P)), (25, .bool (decide (((List.getD nodes (Int.toNat ref27) (default : Nd)).P) < 0))), (28, .tuple #[]), (29, .tuple #[]), (30, .tuple #[]), (31, .tuple #[]), (32, .tuple #[]), (33, .tuple #[]), (34, .bool true)] [] E (by kernel_rfl) trivial ?_
       clear E; intro a E
       refine wpList_nil ?_
       refine th_n ?_
       refine c_true E rfl ?_
       refine wp_seq ?_
       refine wp_region_lit ?_
       refine vr tbok 2 [] [(6, .int .i64 0), (7, .bool false)] [] E (by kernel_rfl) trivial ?_
       clear E; intro a E
       refine wpList_nil ?_
       refine th_n ?_
       refine wp_ret ?_
       refine th_ret ?_
       refine bl_ret ?_
       refine th_ret ?_
       refine th_ret ?_
       refine .inr ⟨rfl, ?_⟩
       refine bl_ret ?_
       refine th_ret ?_
       have hx_ := Option.some.inj hP; subst hx_
       have hP : some ((0, false)) = some r := hK58
       obtain rfl := Option.some.inj hP
       refine ret2 E rfl rfl rfl ?_
       exact ⟨_, rfl, rfl, H.sel [] rfl⟩
      ·
       replace E := E_; clear E_
       have h72 : ¬ (((List.getD nodes (Int.toNat ref27) (default : Nd)).P) < 0) := of_decide_eq_false hb_
       clear hb_; replace hP := ite_f h72 hP
       refine vr tbok 7 [.int .i64 ((List.getD nodes (Int.toNat ref27) (default : Nd)).P)] [(0, .slice (some ⟨b69, o70, none⟩) (List.length nodes) c2), (1, .int .i64 ref27), (2, .int .u8 ll), (9, .int .i64 x28), (20, .slice (some ⟨b69, o70, none⟩) (List.length nodes) c2), (21, .int .i64 ref27), (22, .pointer (some ⟨b69, o70 + (Int.toNat ref27) * 3, none⟩)), (23, .pointer (some ⟨b69, o70 + (Int.toNat ref27) * 3, none⟩)), (24, .int .i64 ((List.getD nodes (Int.toNat ref27) (default : Nd)).P)), (25, .bool (decide (((List.getD nodes (Int.toNat ref27) (default : Nd)).P) < 0))), (28, .slice (some ⟨b69, o70, none⟩) (List.length nodes) c2), (29, .int .i64 ref27), (30, .pointer (some ⟨b69, o70 + (Int.toNat ref27) * 3, none⟩)), (31, .pointer (some ⟨b69, o70 + (Int.toNat ref27) * 3, none⟩)), (32, .int .i64 ((List.getD nodes (Int.toNat ref27) (default : Nd)).P)), (33, .bool (decide (8 ≤ ((List.getD nodes (Int.toNat ref27) (default : Nd)).P)))), (34, .bool (decide (8 ≤ ((List.getD nodes (Int.toNat ref27) (default : Nd)).P))))] [0 ≤ ref27 ∧ ref27 < (((List.length nodes) : Nat) : Int), World.cell? w59 ⟨b69, o70 + (Int.toNat ref27) * 3, none⟩ = some (.int .i64 ((List.getD nodes (Int.toNat ref27) (default : Nd)).P))] E (by kernel_rfl) ⟨g68, (Rds.atP (H.rd 0 rds_ro) (default : Nd) g68).1⟩ ?_
       clear E; intro a E
       refine wpList_nil ?_
       refine th_n ?_
       refine E.cases (t := 34) rfl (fun hb_ E_ => ?_) (fun hb_ E_ => ?_)
       ·
        replace E := E_; clear E_
        have h73 : 8 ≤ ((List.getD nodes (Int.toNat ref27) (default : Nd)).P) := of_decide_eq_true hb_
        clear hb_; replace hP := ite_t h73 hP
        refine c_true E rfl ?_
        refine wp_seq ?_
        refine wp_region_lit ?_
        refine vr tbok 2 [] [(6, .int .i64 0), (7, .bool false)] [] E (by kernel_rfl) trivial ?_
        clear E; intro a E
        refine wpList_nil ?_
        refine th_n ?_
        refine wp_ret ?_
        refine th_ret ?_
        refine bl_ret ?_
        refine th_ret ?_
        refine th_ret ?_
        refine .inr ⟨rfl, ?_⟩
        refine bl_ret ?_
        refine th_ret ?_
        have hx_ := Option.some.inj hP; subst hx_
        have hP : some ((0, false)) = some r := hK58
        obtain rfl := Option.some.inj hP
        refine ret2 E rfl rfl rfl ?_
        exact ⟨_, rfl, rfl, H.sel [] rfl⟩
       ·
        replace E := E_; clear E_
        have h74 : ¬ (8 ≤ ((List.getD nodes (Int.toNat ref27) (default : Nd)).P)) := of_decide_eq_false hb_
        clear hb_; replace hP := ite_f h74 hP
        refine c_false E rfl ?_
        refine wp_skip ?_
        refine th_n ?_
        refine wp_seq ?_
        refine wp_region_lit ?_
        refine vr tbok 4 [.agg #[.int .i64 ((List.getD nodes (Int.toNat ref27) (default : Nd)).P), .int .i64 ((List.getD nodes (Int.toNat ref27) (default : Nd)).Lo), .int .i64 ((List.getD nodes (Int.toNat ref27) (default : Nd)).Hi)]] [(0, .slice (some ⟨b69, o70, none⟩) (List.length nodes) c2), (2, .int .u8 ll), (9, .int .i64 x28), (20, .slice (some ⟨b69, o70, none⟩) (List.length nodes) c2), (21, .int .i64 ref27), (22, .pointer (some ⟨b69, o70 + (Int.toNat ref27) * 3, none⟩)), (23, .pointer (some ⟨b69, o70 + (Int.toNat ref27) * 3, none⟩)), (24, .int .i64 ((List.getD nodes (Int.toNat ref27) (default : Nd)).P)), (25, .bool (decide (((List.getD nodes (Int.toNat ref27) (default : Nd)).P) < 0))), (28, .slice (some ⟨b69, o70, none⟩) (List.length nodes) c2), (29, .int .i64 ref27), (30, .pointer (some ⟨b69, o70 + (Int.toNat ref27) * 3, none⟩)), (31, .pointer (some ⟨b69, o70 + (Int.toNat ref27) * 3, none⟩)), (32, .int .i64 ((List.getD nodes (Int.toNat ref27) (default : Nd)).P)), (33, .bool (decide (8 ≤ ((List.getD nodes (Int.toNat ref27) (default : Nd)).P)))), (38, .agg #[.int .i64 ((List.getD nodes (Int.toNat ref27) (default : Nd)).P), .int .i64 ((List.getD nodes (Int.toNat ref27) (default : Nd)).Lo), .int .i64 ((List.getD nodes (Int.toNat ref27) (default : Nd)).Hi)])] [0 ≤ ref27 ∧ ref27 < (((List.length nodes) : Nat) : Int), cellsAt w59 b69 (o70 + (Int.toNat ref27) * 3) [.int .i64 ((List.getD nodes (Int.toNat ref27) (default : Nd)).P), .int .i64 ((List.getD nodes (Int.toNat ref27) (default : Nd)).Lo), .int .i64 ((List.getD nodes (Int.toNat ref27) (default : Nd)).Hi)]] E (by kernel_rfl) ⟨g68, Rds.atP (H.rd 0 rds_ro) (default : Nd) g68⟩ ?_
        clear E; intro a E
        refine h_alloc H E rfl rfl tbok rfl ?_
        intro w76 g75 a hc77 hg79 H_ E_
        replace E := E_ _ rfl; clear E_
        replace H := H_; clear H_; try dsimp only [setn, addE, goneL] at H
        refine h_store (g := g75) (off := 0) H 1 rfl E rfl rfl rfl rfl tbok rfl rfl rfl rfl rfl ?_
        clear E; intro w80 a hc81 H_ E
        replace H := H_; clear H_; try dsimp only [setn, addE, goneL] at H
        refine wpList_nil ?_
        refine th_n ?_
        refine wp_seq ?_
        refine wp_region_lit ?_
        refine vr tbok 3 [.int .i64 ((List.getD nodes (Int.toNat ref27) (default : Nd)).Lo)] [(0, .slice (some ⟨b69, o70, none⟩) (List.length nodes) c2), (1, .int .i64 ((List.getD nodes (Int.toNat ref27) (default : Nd)).Lo)), (2, .int .u8 ll), (8, .pointer (some ⟨g75, 0, none⟩)), (9, .int .i64 x28), (20, .slice (some ⟨b69, o70, none⟩) (List.length nodes) c2), (21, .int .i64 ref27), (22, .pointer (some ⟨b69, o70 + (Int.toNat ref27) * 3, none⟩)), (23, .pointer (some ⟨b69, o70 + (Int.toNat ref27) * 3, none⟩)), (24, .int .i64 ((List.getD nodes (Int.toNat ref27) (default : Nd)).P)), (25, .bool (decide (((List.getD nodes (Int.toNat ref27) (default : Nd)).P) < 0))), (28, .slice (some ⟨b69, o70, none⟩) (List.length nodes) c2), (29, .int .i64 ref27), (30, .pointer (some ⟨b69, o70 + (Int.toNat ref27) * 3, none⟩)), (31, .pointer (some ⟨b69, o70 + (Int.toNat ref27) * 3, none⟩)), (32, .int .i64 ((List.getD nodes (Int.toNat ref27) (default : Nd)).P)), (33, .bool (decide (8 ≤ ((List.getD nodes (Int.toNat ref27) (default : Nd)).P))))] [World.cell? w80 ⟨g75, 1, none⟩ = some (.int .i64 ((List.getD nodes (Int.toNat ref27) (default : Nd)).Lo))] E (by kernel_rfl) ((H.box 1 rfl).cell (j := 1) rfl) ?_
        clear E; intro a E
        refine wpList_nil ?_
        refine th_n ?_
        refine wp_seq ?_
        refine wp_region_lit ?_
        obtain ⟨g82, hP⟩ := ask_inv hP
        refine vr tbok 6 [.int .i64 ((List.getD nodes (Int.toNat ref27) (default : Nd)).P), .int .u8 (shrV .u8 ll ((List.getD nodes (Int.toNat ref27) (default : Nd)).P)), .int .u8 (andV .u8 (shrV .u8 ll ((List.getD nodes (Int.toNat ref27) (default : Nd)).P)) 1)] [(0, .slice (some ⟨b69, o70, none⟩) (List.length nodes) c2), (1, .int .i64 ((List.getD nodes (Int.toNat ref27) (default : Nd)).Lo)), (2, .int .u8 ll), (8, .pointer (some ⟨g75, 0, none⟩)), (9, .int .i64 x28), (20, .slice (some ⟨b69, o70, none⟩) (List.length nodes) c2), (21, .int .i64 ref27), (22, .pointer (some ⟨b69, o70 + (Int.toNat ref27) * 3, none⟩)), (23, .pointer (some ⟨b69, o70 + (Int.toNat ref27) * 3, none⟩)), (24, .int .i64 ((List.getD nodes (Int.toNat ref27) (default : Nd)).P)), (25, .bool (decide (((List.getD nodes (Int.toNat ref27) (default : Nd)).P) < 0))), (28, .slice (some ⟨b69, o70, none⟩) (List.length nodes) c2), (29, .int .i64 ref27), (30, .pointer (some ⟨b69, o70 + (Int.toNat ref27) * 3, none⟩)), (31, .pointer (some ⟨b69, o70 + (Int.toNat ref27) * 3, none⟩)), (32, .int .i64 ((List.getD nodes (Int.toNat ref27) (default : Nd)).P)), (33, .bool (decide (8 ≤ ((List.getD nodes (Int.toNat ref27) (default : Nd)).P)))), (46, .bool ((andV .u8 (shrV .u8 ll ((List.getD nodes (Int.toNat ref27) (default : Nd)).P)) 1 : Int) == 1))] [World.cell? w80 ⟨g75, 0, none⟩ = some (.int .i64 ((List.getD nodes (Int.toNat ref27) (default : Nd)).P)), 0 ≤ ((List.getD nodes (Int.toNat ref27) (default : Nd)).P) ∧ Int.fdiv ll (2 ^ (min (Int.toNat ((List.getD nodes (Int.toNat ref27) (default : Nd)).P)) (IntKind.bits .u8))) = shrV .u8 ll ((List.getD nodes (Int.toNat ref27) (default : Nd)).P), IntKind.u8.wrap (BitVec.ofInt (IntKind.bits .u8) (shrV .u8 ll ((List.getD nodes (Int.toNat ref27) (default : Nd)).P)) &&& BitVec.ofInt (IntKind.bits .u8) 1).toNat = andV .u8 (shrV .u8 ll ((List.getD nodes (Int.toNat ref27) (default : Nd)).P)) 1] E (by kernel_rfl) ⟨(H.box 1 rfl).cell (j := 0) rfl, ⟨g82, rfl⟩, rfl⟩ ?_
        clear E; intro a E
        refine wpList_nil ?_
        refine th_n ?_
        refine E.cases (t := 46) rfl (fun hb_ E_ => ?_) (fun hb_ E_ => ?_)
        ·
         replace E := E_; clear E_
         have h83 : (andV .u8 (shrV .u8 ll ((List.getD nodes (Int.toNat ref27) (default : Nd)).P)) 1 : Int) = 1 := eq_of_beq hb_
         clear hb_; replace hP := ite_t h83 hP
         refine c_true E rfl ?_
         refine wp_region_lit ?_
         refine vr tbok 3 [.int .i64 ((List.getD nodes (Int.toNat ref27) (default : Nd)).Hi)] [(0, .slice (some ⟨b69, o70, none⟩) (List.length nodes) c2), (1, .int .i64 ((List.getD nodes (Int.toNat ref27) (default : Nd)).Hi)), (2, .int .u8 ll), (9, .int .i64 x28), (20, .slice (some ⟨b69, o70, none⟩) (List.length nodes) c2), (21, .int .i64 ref27), (22, .pointer (some ⟨b69, o70 + (Int.toNat ref27) * 3, none⟩)), (23, .pointer (some ⟨b69, o70 + (Int.toNat ref27) * 3, none⟩)), (24, .int .i64 ((List.getD nodes (Int.toNat ref27) (default : Nd)).P)), (25, .bool (decide (((List.getD nodes (Int.toNat ref27) (default : Nd)).P) < 0))), (28, .slice (some ⟨b69, o70, none⟩) (List.length nodes) c2), (29, .int .i64 ref27), (30, .pointer (some ⟨b69, o70 + (Int.toNat ref27) * 3, none⟩)), (31, .pointer (some ⟨b69, o70 + (Int.toNat ref27) * 3, none⟩)), (32, .int .i64 ((List.getD nodes (Int.toNat ref27) (default : Nd)).P)), (33, .bool (decide (8 ≤ ((List.getD nodes (Int.toNat ref27) (default : Nd)).P))))] [World.cell? w80 ⟨g75, 2, none⟩ = some (.int .i64 ((List.getD nodes (Int.toNat ref27) (default : Nd)).Hi))] E (by kernel_rfl) ((H.box 1 rfl).cell (j := 2) rfl) ?_
         clear E; intro a E
         refine wpList_nil ?_
         refine bl_n ?_
         refine th_n ?_
         refine wp_region_lit ?_
         obtain ⟨g84, hP⟩ := ask_inv hP
         refine vr tbok 2 [.int .i64 (x28 + 1)] [(0, .slice (some ⟨b69, o70, none⟩) (List.length nodes) c2), (1, .int .i64 ((List.getD nodes (Int.toNat ref27) (default : Nd)).Hi)), (2, .int .u8 ll), (9, .int .i64 (x28 + 1)), (20, .slice (some ⟨b69, o70, none⟩) (List.length nodes) c2), (21, .int .i64 ref27), (22, .pointer (some ⟨b69, o70 + (Int.toNat ref27) * 3, none⟩)), (23, .pointer (some ⟨b69, o70 + (Int.toNat ref27) * 3, none⟩)), (24, .int .i64 ((List.getD nodes (Int.toNat ref27) (default : Nd)).P)), (25, .bool (decide (((List.getD nodes (Int.toNat ref27) (default : Nd)).P) < 0))), (28, .slice (some ⟨b69, o70, none⟩) (List.length nodes) c2), (29, .int .i64 ref27), (30, .pointer (some ⟨b69, o70 + (Int.toNat ref27) * 3, none⟩)), (31, .pointer (some ⟨b69, o70 + (Int.toNat ref27) * 3, none⟩)), (32, .int .i64 ((List.getD nodes (Int.toNat ref27) (default : Nd)).P)), (33, .bool (decide (8 ≤ ((List.getD nodes (Int.toNat ref27) (default : Nd)).P))))] [IntKind.i64.wrap (x28 + 1) = x28 + 1] E (by kernel_rfl) (wrap_in g84) ?_
         clear E; intro a E
         refine wpList_nil ?_
         exact th_n ⟨m55, Nat.lt_succ_self _, (List.getD nodes (Int.toNat ref27) (default : Nd)).Hi, x28 + 1, E.pick _ ⟨rfl, rfl, rfl, rfl, trivial⟩, H.sel [0] rfl, hP⟩
        ·
         replace E := E_; clear E_
         have h85 : ¬ ((andV .u8 (shrV .u8 ll ((List.getD nodes (Int.toNat ref27) (default : Nd)).P)) 1 : Int) = 1) := ne_of_beq_false hb_
         clear hb_; replace hP := ite_f h85 hP
         refine c_false E rfl ?_
         refine wp_skip ?_
         refine bl_n ?_
         refine th_n ?_
         refine wp_region_lit ?_
         obtain ⟨g86, hP⟩ := ask_inv hP
         refine vr tbok 2 [.int .i64 (x28 + 1)] [(0, .slice (some ⟨b69, o70, none⟩) (List.length nodes) c2), (1, .int .i64 ((List.getD nodes (Int.toNat ref27) (default : Nd)).Lo)), (2, .int .u8 ll), (9, .int .i64 (x28 + 1)), (20, .slice (some ⟨b69, o70, none⟩) (List.length nodes) c2), (21, .int .i64 ref27), (22, .pointer (some ⟨b69, o70 + (Int.toNat ref27) * 3, none⟩)), (23, .pointer (some ⟨b69, o70 + (Int.toNat ref27) * 3, none⟩)), (24, .int .i64 ((List.getD nodes (Int.toNat ref27) (default : Nd)).P)), (25, .bool (decide (((List.getD nodes (Int.toNat ref27) (default : Nd)).P) < 0))), (28, .slice (some ⟨b69, o70, none⟩) (List.length nodes) c2), (29, .int .i64 ref27), (30, .pointer (some ⟨b69, o70 + (Int.toNat ref27) * 3, none⟩)), (31, .pointer (some ⟨b69, o70 + (Int.toNat ref27) * 3, none⟩)), (32, .int .i64 ((List.getD nodes (Int.toNat ref27) (default : Nd)).P)), (33, .bool (decide (8 ≤ ((List.getD nodes (Int.toNat ref27) (default : Nd)).P))))] [IntKind.i64.wrap (x28 + 1) = x28 + 1] E (by kernel_rfl) (wrap_in g86) ?_
         clear E; intro a E
         refine wpList_nil ?_
         exact th_n ⟨m55, Nat.lt_succ_self _, (List.getD nodes (Int.toNat ref27) (default : Nd)).Lo, x28 + 1, E.pick _ ⟨rfl, rfl, rfl, rfl, trivial⟩, H.sel [0] rfl, hP⟩
   ·
    replace E := E_; clear E_
    have h87 : ¬ (x28 < 9) := of_decide_eq_false hb_
    clear hb_; replace hP := ite_f h87 hP
    refine c_false E rfl ?_
    refine wp_exit ?_
    refine th_exit ?_
    have hx_ := Option.some.inj hP
    refine th_exit (.inl ⟨0, rfl, ?_⟩)
    exact ⟨rfl, (), E.pick _ trivial, H.sel [] rfl, hx_.symm⟩
 ·
  clear E H hL57; intro i_ a w59 hM_
  obtain ⟨rfl, x61, E, H, hx_⟩ := hM_
  subst hx_; have hP := elim_l hK58
  clear hK58
  refine bl_hit ?_
  refine th_n ?_
  refine wp_seq ?_
  refine wp_region_lit ?_
  refine vr tbok 2 [] [(6, .int .i64 0), (7, .bool false)] [] E (by kernel_rfl) trivial ?_
  clear E; intro a E
  refine wpList_nil ?_
  refine th_n ?_
  refine wp_ret ?_
  obtain rfl := Option.some.inj hP
  refine ret2 E rfl rfl rfl ?_
  exact ⟨_, rfl, rfl, H.sel [] rfl⟩

/-! rejoinder/guard.Table -/
def guard_Table_l0 (N : Nat) (n : Int) (nodes : List Nd) (ref : Int) : Nat → (List Int) → Int → Option ((List Int) ⊕ ((List Int) × Int))
  | 0, _, _ => none
  | m72 + 1, out38, x41 =>
    if x41 < (shlV .i64 1 n) then
      Option.bind (guard_Go N nodes ref (IntKind.u8.wrap x41)) fun r81 =>
      if r81.2 = true then
        ask (List.length out38 + List.length ([r81.1] : List Int) ≤ 1000000000) <|
        ask (in64 (x41 + 1)) <|
        guard_Table_l0 N n nodes ref m72 (out38 ++ ([r81.1] : List Int)) (x41 + 1)
      else
        some (Sum.inr ([], 12))
    else
      some (Sum.inl out38)
def guard_Table (N : Nat) (n : Int) (nodes : List Nd) (ref : Int) : Option ((List Int) × Int) :=
  if n < 0 then
    some ([], 2)
  else
    if 8 < n then
      some ([], 2)
    else
      ask (0 ≤ n) <|
      Option.bind (guard_Table_l0 N n nodes ref N [] 0) fun x73 =>
      Sum.elim (fun x79 =>
        some (x79, 0))
       (fun x106 =>
        some x106) x73
set_option maxRecDepth 100000 in
set_option maxHeartbeats 4000000 in
theorem guard_Table_calls {N : Nat} {S Fa : Nat → Prop} {w0 : World} {r : (List Int) × Int} (A1 : Option Addr) (c2 : Nat) (n : Int) (nodes : List Nd) (ref : Int) (hk3 : List.length nodes ≤ c2) (H : Hp S Fa w0 w0 [.ro false cNode A1 nodes]) (hP : guard_Table N n nodes ref = some r) :
    Calls Try.prog 61 #[.int .i64 n, .slice A1 (List.length nodes) c2, .int .i64 ref] w0 fun e w' => ∃ v, e = .returned v ∧ ∃ (A107 : Option Addr) (c108 : Nat), v = .tuple #[.slice A107 (List.length r.1) c108, .int .i64 r.2] ∧ Hp S Fa w0 w' [.row true (cInt .i64) 3 A107 c108 r.1] := by
 refine enterV (n := 39) Try.func61 rfl rfl rfl ?_
 intro a E
 replace E := E.pick [(0, .int .i64 n), (1, .slice A1 (List.length nodes) c2), (2, .int .i64 ref)] ⟨rfl, rfl, rfl, trivial⟩
 rw [guard_Table] at hP
 refine wp_seq ?_
 refine wp_region_lit ?_
 refine vr tbok 2 [] [(0, .int .i64 n), (1, .slice A1 (List.length nodes) c2), (2, .int .i64 ref)] [] E (by kernel_rfl) trivial ?_
 clear E; intro a E
 refine wpList_nil ?_
 refine th_n ?_
 refine wp_seq ?_
 refine wp_seq ?_
 refine wp_region_lit ?_
 refine vr tbok 3 [] [(0, .int .i64 n), (1, .slice A1 (List.length nodes) c2), (2, .int .i64 ref), (14, .bool (decide (n < 0)))] [] E (by kernel_rfl) trivial ?_
 clear E; intro a E
 refine E.cases (t := 14) rfl (fun hb_ E_ => ?_) (fun hb_ E_ => ?_)
 ·
  replace E := E_; clear E_
  have h5 : n < 0 := of_decide_eq_true hb_
  clear hb_; replace hP := ite_t h5 hP
  refine vr tbok 3 [] [(0, .int .i64 n), (1, .slice A1 (List.length nodes) c2), (2, .int .i64 ref), (17, .bool true)] [] E (by kernel_rfl) trivial ?_
  clear E; intro a E
  refine wpList_nil ?_
  refine th_n ?_
  refine c_true E rfl ?_
  refine wp_seq ?_
  refine wp_region_lit ?_
  refine vr tbok 2 [] [(6, .slice none 0 0), (7, .int .i64 2)] [] E (by kernel_rfl) trivial ?_
  clear E; intro a E
  refine wpList_nil ?_
  refine th_n ?_
  refine wp_ret ?_
  refine th_ret ?_
  replace H := H.nilrow (cInt .i64) 3; try dsimp only [setn, addE, goneL] at H
  obtain rfl := Option.some.inj hP
  refine ret2 E rfl rfl rfl ?_
  exact ⟨_, rfl, none, 0, rfl, H.sel [1] rfl⟩
 ·
  replace E := E_; clear E_
  have h7 : ¬ (n < 0) := of_decide_eq_false hb_
  clear hb_; replace hP := ite_f h7 hP
  refine vr tbok 3 [] [(0, .int .i64 n), (1, .slice A1 (List.length nodes) c2), (2, .int .i64 ref), (17, .bool (decide (8 < n)))] [] E (by kernel_rfl) trivial ?_
  clear E; intro a E
  refine wpList_nil ?_
  refine th_n ?_
  refine E.cases (t := 17) rfl (fun hb_ E_ => ?_) (fun hb_ E_ => ?_)
  ·
   replace E := E_; clear E_
   have h8 : 8 < n := of_decide_eq_true hb_
   clear hb_; replace hP := ite_t h8 hP
   refine c_true E rfl ?_
   refine wp_seq ?_
   refine wp_region_lit ?_
   refine vr tbok 2 [] [(6, .slice none 0 0), (7, .int .i64 2)] [] E (by kernel_rfl) trivial ?_
   clear E; intro a E
   refine wpList_nil ?_
   refine th_n ?_
   refine wp_ret ?_
   refine th_ret ?_
   replace H := H.nilrow (cInt .i64) 3; try dsimp only [setn, addE, goneL] at H
   obtain rfl := Option.some.inj hP
   refine ret2 E rfl rfl rfl ?_
   exact ⟨_, rfl, none, 0, rfl, H.sel [1] rfl⟩
  ·
   replace E := E_; clear E_
   have h10 : ¬ (8 < n) := of_decide_eq_false hb_
   clear hb_; replace hP := ite_f h10 hP
   refine c_false E rfl ?_
   refine wp_skip ?_
   refine th_n ?_
   refine wp_seq ?_
   refine wp_region_lit ?_
   refine vr tbok 1 [] [(0, .int .i64 n), (1, .slice A1 (List.length nodes) c2), (2, .int .i64 ref), (8, .slice none 0 0)] [] E (by kernel_rfl) trivial ?_
   clear E; intro a E
   refine wpList_nil ?_
   refine th_n ?_
   refine wp_seq ?_
   refine wp_seq ?_
   refine wp_region_lit ?_
   obtain ⟨g11, hP⟩ := ask_inv hP
   refine vr tbok 3 [.int .i64 (shlV .i64 1 n)] [(1, .slice A1 (List.length nodes) c2), (2, .int .i64 ref), (8, .slice none 0 0), (19, .int .i64 (shlV .i64 1 n)), (20, .int .i64 0)] [0 ≤ n ∧ IntKind.i64.wrap (1 * 2 ^ (min (Int.toNat n) (IntKind.bits .i64))) = shlV .i64 1 n] E (by kernel_rfl) (⟨g11, rfl⟩) ?_
   clear E; intro a E
   refine wpList_nil ?_
   refine th_n ?_
   refine wp_block ?_
   obtain ⟨x73, hL74, hK75⟩ := bind_inv hP
   clear hP
   replace H := H.nilrow (cInt .i64) 3; try dsimp only [setn, addE, goneL] at H
   refine loop_cut (fun i_ a w_ => (i_ = 0 ∧ ∃ (x79 : List Int), ∃ (A70 : Option Addr) (c71 : Nat), Fr a 39 [(8, .slice A70 (List.length x79) c71)] ∧ Hp S Fa w0 w_ [.row true (cInt .i64) 3 A70 c71 x79] ∧ x73 = Sum.inl x79)) ?_ ?_
   ·
    refine loopV (fun m78 a w77 => ∃ (out38 : List Int) (x41 : Int), ∃ (A39 : Option Addr) (c40 : Nat), Fr a 39 [(1, .slice A1 (List.length nodes) c2), (2, .int .i64 ref), (8, .slice A39 (List.length out38) c40), (19, .int .i64 (shlV .i64 1 n)), (20, .int .i64 x41)] ∧ Hp S Fa w0 w77 [.ro false cNode A1 nodes, .row true (cInt .i64) 3 A39 c40 out38] ∧ guard_Table_l0 N n nodes ref m78 out38 x41 = some x73) N ?_ ?_
    ·
     exact ⟨[], 0, none, 0, E.pick _ ⟨rfl, rfl, rfl, rfl, rfl, trivial⟩, H.sel [0, 1] rfl, hL74⟩
    ·
     clear E H hL74; intro m78 a w77 hI_
     obtain ⟨out38, x41, A39, c40, E, H, hP⟩ := hI_
     obtain ⟨m72, rfl⟩ : ∃ q_, m78 = q_ + 1 := by cases m78 with | zero => rw [guard_Table_l0] at hP; cases hP | succ q_ => exact ⟨q_, rfl⟩
     rw [guard_Table_l0] at hP
     refine wp_seq ?_
     refine wp_region_lit ?_
     refine vr tbok 1 [] [(1, .slice A1 (List.length nodes) c2), (2, .int .i64 ref), (8, .slice A39 (List.length out38) c40), (19, .int .i64 (shlV .i64 1 n)), (20, .int .i64 x41), (21, .bool (decide (x41 < (shlV .i64 1 n))))] [] E (by kernel_rfl) trivial ?_
     clear E; intro a E
     refine wpList_nil ?_
     refine th_n ?_
     refine wp_seq ?_
     refine E.cases (t := 21) rfl (fun hb_ E_ => ?_) (fun hb_ E_ => ?_)
     ·
      replace E := E_; clear E_
      have h80 : x41 < (shlV .i64 1 n) := of_decide_eq_true hb_
      clear hb_; replace hP := ite_t h80 hP
      refine c_true E rfl ?_
      refine wp_skip ?_
      refine th_n ?_
      refine wp_seq ?_
      refine wp_block ?_
      refine wp_seq ?_
      refine wp_region_lit ?_
      refine vr tbok 2 [] [(1, .slice A1 (List.length nodes) c2), (2, .int .i64 ref), (8, .slice A39 (List.length out38) c40), (9, .int .i64 x41), (19, .int .i64 (shlV .i64 1 n)), (20, .int .i64 x41)] [] E (by kernel_rfl) trivial ?_
      clear E; intro a E
      refine wpList_nil ?_
      refine th_n ?_
      refine wp_seq ?_
      refine wp_region_lit ?_
      refine vr tbok 4 [.int .u8 (IntKind.u8.wrap x41)] [(1, .slice A1 (List.length nodes) c2), (2, .int .i64 ref), (8, .slice A39 (List.length out38) c40), (19, .int .i64 (shlV .i64 1 n)), (20, .int .i64 x41), (24, .slice A1 (List.length nodes) c2), (25, .int .i64 ref), (27, .int .u8 (IntKind.u8.wrap x41))] [IntKind.u8.wrap x41 = (IntKind.u8.wrap x41)] E (by kernel_rfl) (rfl) ?_
      clear E; intro a E
      obtain ⟨r81, h82, hP⟩ := bind_inv hP
      obtain ⟨Fa83, Hc84, hb85⟩ := H.call [] [(0, false)] rfl rfl trivial
      refine e_call E rfl rfl Try.func30 rfl rfl rfl (guard_Go_calls A1 c2 nodes ref (IntKind.u8.wrap x41) hk3 Hc84 h82) ?_
      rintro v86 w87 a ⟨rfl, HR88⟩ E_
      replace E := E_ _ rfl; clear E_
      obtain ⟨H_, hc89⟩ := hb85 _ _ HR88 rfl
      replace H := H_; clear H_; try dsimp only [setn, addE, goneL] at H
      refine vr tbok 5 [] [(1, .slice A1 (List.length nodes) c2), (2, .int .i64 ref), (8, .slice A39 (List.length out38) c40), (10, .int .i64 r81.1), (11, .bool r81.2), (19, .int .i64 (shlV .i64 1 n)), (20, .int .i64 x41)] [] E (by kernel_rfl) trivial ?_
      clear E; intro a E
      refine wpList_nil ?_
      refine th_n ?_
      refine wp_seq ?_
      refine wp_seq ?_
      refine wp_region_lit ?_
      refine vr tbok 2 [] [(1, .slice A1 (List.length nodes) c2), (2, .int .i64 ref), (8, .slice A39 (List.length out38) c40), (10, .int .i64 r81.1), (19, .int .i64 (shlV .i64 1 n)), (20, .int .i64 x41), (32, .bool (!r81.2))] [] E (by kernel_rfl) trivial ?_
      clear E; intro a E
      refine wpList_nil ?_
      refine th_n ?_
      refine E.cases (t := 32) rfl (fun hb_ E_ => ?_) (fun hb_ E_ => ?_)
      ·
       replace E := E_; clear E_
       have h90 : ¬ (r81.2 = true) := (ne_true_of_eq_false (not_t hb_))
       clear hb_; replace hP := ite_f h90 hP
       refine c_true E rfl ?_
       refine wp_seq ?_
       refine wp_region_lit ?_
       refine vr tbok 2 [] [(6, .slice none 0 0), (7, .int .i64 12)] [] E (by kernel_rfl) trivial ?_
       clear E; intro a E
       refine wpList_nil ?_
       refine th_n ?_
       refine wp_ret ?_
       refine th_ret ?_
       refine bl_ret ?_
       refine th_ret ?_
       refine th_ret ?_
       refine .inr ⟨rfl, ?_⟩
       refine bl_ret ?_
       refine th_ret ?_
       replace H := H.nilrow (cInt .i64) 3; try dsimp only [setn, addE, goneL] at H
       have hx_ := Option.some.inj hP; subst hx_
       have hP : some (([], 12)) = some r := hK75
       obtain rfl := Option.some.inj hP
       refine ret2 E rfl rfl rfl ?_
       exact ⟨_, rfl, none, 0, rfl, H.sel [2] rfl⟩
      ·
       replace E := E_; clear E_
       have h92 : r81.2 = true := (not_f hb_)
       clear hb_; replace hP := ite_t h92 hP
       refine c_false E rfl ?_
       refine wp_skip ?_
       refine th_n ?_
       refine wp_region_lit ?_
       refine vr tbok 2 [] [(1, .slice A1 (List.length nodes) c2), (2, .int .i64 ref), (19, .int .i64 (shlV .i64 1 n)), (20, .int .i64 x41), (33, .slice A39 (List.length out38) c40), (34, .int .i64 r81.1)] [] E (by kernel_rfl) trivial ?_
       clear E; intro a E
       refine h_buildSlice (ps := [(0, .int .i64 r81.1)]) (cs := [.int .i64 r81.1]) H E rfl rfl tbok rfl rfl (by kernel_rfl) ?_
       intro w94 g93 a hc95 hg97 H_ E_
       replace E := E_ _ rfl; clear E_
       replace H := H_; clear H_; try dsimp only [setn, addE, goneL] at H
       obtain ⟨g98, hP⟩ := ask_inv hP
       refine h_append (cInt .i64) (xs := out38) (ys := ([r81.1] : List Int)) (0 : Int) H 1 rfl E rfl rfl tbok rfl rfl rfl rfl rfl (fun _ _ => rfl) rfl rfl (fun _ HF_ => HF_.srcB 2 rfl (⟨_, _, rfl, rfl, rfl⟩)) g98 ?_
       intro w99 A100 c101 a hc102 hA103 H_ E_
       replace E := E_ _ rfl; clear E_
       replace H := H_; clear H_; try dsimp only [setn, addE, goneL] at H
       refine vr tbok 1 [] [(1, .slice A1 (List.length nodes) c2), (2, .int .i64 ref), (8, .slice A100 (List.length (out38 ++ ([r81.1] : List Int))) c101), (19, .int .i64 (shlV .i64 1 n)), (20, .int .i64 x41)] [] E (by kernel_rfl) trivial ?_
       clear E; intro a E
       refine wpList_nil ?_
       refine bl_n ?_
       refine th_n ?_
       refine wp_region_lit ?_
       obtain ⟨g104, hP⟩ := ask_inv hP
       refine vr tbok 2 [.int .i64 (x41 + 1)] [(1, .slice A1 (List.length nodes) c2), (2, .int .i64 ref), (8, .slice A100 (List.length (out38 ++ ([r81.1] : List Int))) c101), (19, .int .i64 (shlV .i64 1 n)), (20, .int .i64 (x41 + 1))] [IntKind.i64.wrap (x41 + 1) = x41 + 1] E (by kernel_rfl) (wrap_in g104) ?_
       clear E; intro a E
       refine wpList_nil ?_
       exact th_n ⟨m72, Nat.lt_succ_self _, out38 ++ ([r81.1] : List Int), x41 + 1, A100, c101, E.pick _ ⟨rfl, rfl, rfl, rfl, rfl, trivial⟩, H.sel [0, 1] rfl, hP⟩
     ·
      replace E := E_; clear E_
      have h105 : ¬ (x41 < (shlV .i64 1 n)) := of_decide_eq_false hb_
      clear hb_; replace hP := ite_f h105 hP
      refine c_false E rfl ?_
      refine wp_exit ?_
      refine th_exit ?_
      have hx_ := Option.some.inj hP
      refine th_exit (.inl ⟨0, rfl, ?_⟩)
      exact ⟨rfl, out38, A39, c40, E.pick _ ⟨rfl, trivial⟩, H.sel [1] rfl, hx_.symm⟩
   ·
    clear E H hL74; intro i_ a w77 hM_
    obtain ⟨rfl, x79, A70, c71, E, H, hx_⟩ := hM_
    subst hx_; have hP := elim_l hK75
    clear hK75
    refine bl_hit ?_
    refine th_n ?_
    refine wp_seq ?_
    refine wp_region_lit ?_
    refine vr tbok 3 [] [(6, .slice A70 (List.length x79) c71), (7, .int .i64 0)] [] E (by kernel_rfl) trivial ?_
    clear E; intro a E
    refine wpList_nil ?_
    refine th_n ?_
    refine wp_ret ?_
    obtain rfl := Option.some.inj hP
    refine ret2 E rfl rfl rfl ?_
    exact ⟨_, rfl, A70, c71, rfl, H.sel [0] rfl⟩

/-! rejoinder/part.rows -/
def part_rows_l0 (N : Nat) (aProps : Int) (aGuard : List Int) (aNodes : List Nd) : Nat → (List (List Int)) → Int → Option (List (List Int))
  | 0, _, _ => none
  | m88 + 1, out49, x52 =>
    if x52 < (((List.length aGuard) : Nat) : Int) then
      ask (idx x52 (List.length aGuard)) <|
      Option.bind (guard_Table N aProps aNodes (List.getD aGuard (Int.toNat x52) 0)) fun r100 =>
      ask (List.length out49 + List.length ([r100.1] : List (List Int)) ≤ 1000000000) <|
      ask (in64 (x52 + 1)) <|
      part_rows_l0 N aProps aGuard aNodes m88 (out49 ++ ([r100.1] : List (List Int))) (x52 + 1)
    else
      some out49
def part_rows (N : Nat) (aProps : Int) (aAccept : List Bool) (aGuard : List Int) (aNodes : List Nd) : Option (List (List Int)) :=
  Option.bind (part_rows_l0 N aProps aGuard aNodes N [] 0) fun x89 =>
  some x89
set_option maxRecDepth 100000 in
set_option maxHeartbeats 4000000 in
theorem part_rows_calls {N : Nat} {S Fa : Nat → Prop} {w0 : World} {r : List (List Int)} (A1 : Option Addr) (c2 : Nat) (A5 : Option Addr) (c6 : Nat) (A9 : Option Addr) (c10 : Nat) (aProps : Int) (aAccept : List Bool) (aGuard : List Int) (aNodes : List Nd) (hk3 : List.length aAccept ≤ c2) (hk7 : List.length aGuard ≤ c6) (hk11 : List.length aNodes ≤ c10) (H : Hp S Fa w0 w0 [.ro false cBool A1 aAccept, .ro false (cInt .i64) A5 aGuard, .ro false cNode A9 aNodes]) (hP : part_rows N aProps aAccept aGuard aNodes = some r) :
    Calls Try.prog 54 #[.agg #[.int .i64 aProps, .slice A1 (List.length aAccept) c2, .slice A5 (List.length aGuard) c6, .slice A9 (List.length aNodes) c10]] w0 fun e w' => ∃ v, e = .returned v ∧ ∃ (A126 : Option Addr) (c127 : Nat), v = .slice A126 (List.length r) c127 ∧ Hp S Fa w0 w' [.row true (cSl (cInt .i64)) 23 A126 c127 r] := by
 refine enterV (n := 30) Try.func54 rfl rfl rfl ?_
 intro a E
 replace E := E.pick [(0, .agg #[.int .i64 aProps, .slice A1 (List.length aAccept) c2, .slice A5 (List.length aGuard) c6, .slice A9 (List.length aNodes) c10])] ⟨rfl, trivial⟩
 rw [part_rows] at hP
 refine wp_seq ?_
 refine wp_region_lit ?_
 refine h_box H E rfl rfl rfl ?_
 intro w14 g13 a hc15 hg17 H_ E_
 replace E := E_ _ rfl; clear E_
 replace H := H_; clear H_; try dsimp only [setn, addE, goneL] at H
 refine vr tbok 1 [] [(1, .pointer (some ⟨g13, 0, none⟩))] [] E (by kernel_rfl) trivial ?_
 clear E; intro a E
 refine wpList_nil ?_
 refine th_n ?_
 refine wp_seq ?_
 refine wp_region_lit ?_
 refine vr tbok 1 [] [(1, .pointer (some ⟨g13, 0, none⟩)), (3, .slice none 0 0)] [] E (by kernel_rfl) trivial ?_
 clear E; intro a E
 refine wpList_nil ?_
 refine th_n ?_
 refine wp_seq ?_
 refine wp_seq ?_
 refine wp_region_lit ?_
 refine vr tbok 4 [.slice A5 (List.length aGuard) c6] [(1, .pointer (some ⟨g13, 0, none⟩)), (3, .slice none 0 0), (9, .slice A5 (List.length aGuard) c6), (10, .int .i64 (((List.length aGuard) : Nat) : Int)), (11, .int .i64 0)] [World.cell? w14 ⟨g13, 2, none⟩ = some (.slice A5 (List.length aGuard) c6)] E (by kernel_rfl) ((H.box 3 rfl).cell (j := 2) rfl) ?_
 clear E; intro a E
 refine wpList_nil ?_
 refine th_n ?_
 refine wp_block ?_
 obtain ⟨x89, hL90, hK91⟩ := bind_inv hP
 clear hP
 replace H := H.nilrow (cSl (cInt .i64)) 23; try dsimp only [setn, addE, goneL] at H
 refine loop_cut (fun i_ a w_ => (i_ = 0 ∧ ∃ (x95 : List (List Int)), ∃ (A86 : Option Addr) (c87 : Nat), Fr a 30 [(3, .slice A86 (List.length x95) c87)] ∧ Hp S Fa w0 w_ [.row true (cSl (cInt .i64)) 23 A86 c87 x95] ∧ x89 = x95)) ?_ ?_
 ·
  refine loopV (fun m94 a w93 => ∃ (out49 : List (List Int)) (x52 : Int), ∃ (A50 : Option Addr) (c51 : Nat), Fr a 30 [(1, .pointer (some ⟨g13, 0, none⟩)), (3, .slice A50 (List.length out49) c51), (9, .slice A5 (List.length aGuard) c6), (10, .int .i64 (((List.length aGuard) : Nat) : Int)), (11, .int .i64 x52)] ∧ Hp S Fa w0 w93 [.ro false cBool A1 aAccept, .ro false (cInt .i64) A5 aGuard, .ro false cNode A9 aNodes, .box g13 26 [.int .i64 aProps, .slice A1 (List.length aAccept) c2, .slice A5 (List.length aGuard) c6, .slice A9 (List.length aNodes) c10], .row true (cSl (cInt .i64)) 23 A50 c51 out49] ∧ part_rows_l0 N aProps aGuard aNodes m94 out49 x52 = some x89) N ?_ ?_
  ·
   exact ⟨[], 0, none, 0, E.pick _ ⟨rfl, rfl, rfl, rfl, rfl, trivial⟩, H.sel [0, 1, 2, 3, 4] rfl, hL90⟩
  ·
   clear E H hL90; intro m94 a w93 hI_
   obtain ⟨out49, x52, A50, c51, E, H, hP⟩ := hI_
   obtain ⟨m88, rfl⟩ : ∃ q_, m94 = q_ + 1 := by cases m94 with | zero => rw [part_rows_l0] at hP; cases hP | succ q_ => exact ⟨q_, rfl⟩
   rw [part_rows_l0] at hP
   refine wp_seq ?_
   refine wp_region_lit ?_
   refine vr tbok 1 [] [(1, .pointer (some ⟨g13, 0, none⟩)), (3, .slice A50 (List.length out49) c51), (9, .slice A5 (List.length aGuard) c6), (10, .int .i64 (((List.length aGuard) : Nat) : Int)), (11, .int .i64 x52), (12, .bool (decide (x52 < (((List.length aGuard) : Nat) : Int))))] [] E (by kernel_rfl) trivial ?_
   clear E; intro a E
   refine wpList_nil ?_
   refine th_n ?_
   refine wp_seq ?_
   refine E.cases (t := 12) rfl (fun hb_ E_ => ?_) (fun hb_ E_ => ?_)
   ·
    replace E := E_; clear E_
    have h96 : x52 < (((List.length aGuard) : Nat) : Int) := of_decide_eq_true hb_
    clear hb_; replace hP := ite_t h96 hP
    refine c_true E rfl ?_
    refine wp_skip ?_
    refine th_n ?_
    refine wp_seq ?_
    refine wp_block ?_
    refine wp_seq ?_
    refine wp_region_lit ?_
    obtain ⟨g97, hP⟩ := ask_inv hP
    obtain ⟨b98, o99, e_b98⟩ := (H.rd 1 rds_ro).addr (idx_pos g97)
    subst e_b98
    refine vr tbok 3 [.int .i64 (List.getD aGuard (Int.toNat x52) 0)] [(1, .pointer (some ⟨g13, 0, none⟩)), (3, .slice A50 (List.length out49) c51), (5, .int .i64 (List.getD aGuard (Int.toNat x52) 0)), (9, .slice (some ⟨b98, o99, none⟩) (List.length aGuard) c6), (10, .int .i64 (((List.length aGuard) : Nat) : Int)), (11, .int .i64 x52)] [0 ≤ x52 ∧ x52 < (((List.length aGuard) : Nat) : Int), World.cell? w93 ⟨b98, o99 + (Int.toNat x52) * 1, none⟩ = some (.int .i64 (List.getD aGuard (Int.toNat x52) 0))] E (by kernel_rfl) ⟨g97, Rds.at1 (H.rd 1 rds_ro) 0 g97⟩ ?_
    clear E; intro a E
    refine wpList_nil ?_
    refine th_n ?_
    refine wp_seq ?_
    refine wp_region_lit ?_
    refine vr tbok 5 [.int .i64 aProps, .slice A9 (List.length aNodes) c10] [(1, .pointer (some ⟨g13, 0, none⟩)), (3, .slice A50 (List.length out49) c51), (9, .slice (some ⟨b98, o99, none⟩) (List.length aGuard) c6), (10, .int .i64 (((List.length aGuard) : Nat) : Int)), (11, .int .i64 x52), (17, .int .i64 aProps), (19, .slice A9 (List.length aNodes) c10), (20, .int .i64 (List.getD aGuard (Int.toNat x52) 0))] [World.cell? w93 ⟨g13, 0, none⟩ = some (.int .i64 aProps), World.cell? w93 ⟨g13, 3, none⟩ = some (.slice A9 (List.length aNodes) c10)] E (by kernel_rfl) ⟨(H.box 3 rfl).cell (j := 0) rfl, (H.box 3 rfl).cell (j := 3) rfl⟩ ?_
    clear E; intro a E
    obtain ⟨r100, h101, hP⟩ := bind_inv hP
    obtain ⟨Fa102, Hc103, hb104⟩ := H.call [] [(2, false)] rfl rfl trivial
    refine e_call E rfl rfl Try.func61 rfl rfl rfl (guard_Table_calls A9 c10 aProps aNodes (List.getD aGuard (Int.toNat x52) 0) hk11 Hc103 h101) ?_
    rintro v105 w106 a ⟨A109, c110, rfl, HR107⟩ E_
    replace E := E_ _ rfl; clear E_
    obtain ⟨H_, hc108⟩ := hb104 _ _ HR107 rfl
    replace H := H_; clear H_; try dsimp only [setn, addE, goneL] at H
    refine vr tbok 5 [] [(1, .pointer (some ⟨g13, 0, none⟩)), (3, .slice A50 (List.length out49) c51), (6, .slice A109 (List.length r100.1) c110), (9, .slice (some ⟨b98, o99, none⟩) (List.length aGuard) c6), (10, .int .i64 (((List.length aGuard) : Nat) : Int)), (11, .int .i64 x52)] [] E (by kernel_rfl) trivial ?_
    clear E; intro a E
    refine wpList_nil ?_
    refine th_n ?_
    refine wp_region_lit ?_
    refine vr tbok 2 [] [(1, .pointer (some ⟨g13, 0, none⟩)), (9, .slice (some ⟨b98, o99, none⟩) (List.length aGuard) c6), (10, .int .i64 (((List.length aGuard) : Nat) : Int)), (11, .int .i64 x52), (24, .slice A50 (List.length out49) c51), (25, .slice A109 (List.length r100.1) c110)] [] E (by kernel_rfl) trivial ?_
    clear E; intro a E
    refine h_buildSlice (ps := [(0, .slice A109 (List.length r100.1) c110)]) (cs := [.slice A109 (List.length r100.1) c110]) H E rfl rfl tbok rfl rfl (by kernel_rfl) ?_
    intro w113 g112 a hc114 hg116 H_ E_
    replace E := E_ _ rfl; clear E_
    replace H := H_; clear H_; try dsimp only [setn, addE, goneL] at H
    have hk117 := H.rcap 5 rfl
    replace H := H.frz 5 rfl; try dsimp only [setn, addE, goneL] at H
    obtain ⟨g118, hP⟩ := ask_inv hP
    refine h_append (cSl (cInt .i64)) (xs := out49) (ys := ([r100.1] : List (List Int))) ([] : List Int) H 4 rfl E rfl rfl tbok rfl rfl rfl rfl rfl (fun _ _ => kSl_nil) rfl rfl (fun _ HF_ => HF_.srcB 6 rfl ⟨_, _, rfl, ⟨_, _, rfl, hk117, (HF_.roC 5 rfl)⟩, rfl⟩) g118 ?_
    intro w119 A120 c121 a hc122 hA123 H_ E_
    replace E := E_ _ rfl; clear E_
    replace H := H_; clear H_; try dsimp only [setn, addE, goneL] at H
    refine vr tbok 1 [] [(1, .pointer (some ⟨g13, 0, none⟩)), (3, .slice A120 (List.length (out49 ++ ([r100.1] : List (List Int)))) c121), (9, .slice (some ⟨b98, o99, none⟩) (List.length aGuard) c6), (10, .int .i64 (((List.length aGuard) : Nat) : Int)), (11, .int .i64 x52)] [] E (by kernel_rfl) trivial ?_
    clear E; intro a E
    refine wpList_nil ?_
    refine bl_n ?_
    refine th_n ?_
    refine wp_region_lit ?_
    obtain ⟨g124, hP⟩ := ask_inv hP
    refine vr tbok 2 [.int .i64 (x52 + 1)] [(1, .pointer (some ⟨g13, 0, none⟩)), (3, .slice A120 (List.length (out49 ++ ([r100.1] : List (List Int)))) c121), (9, .slice (some ⟨b98, o99, none⟩) (List.length aGuard) c6), (10, .int .i64 (((List.length aGuard) : Nat) : Int)), (11, .int .i64 (x52 + 1))] [IntKind.i64.wrap (x52 + 1) = x52 + 1] E (by kernel_rfl) (wrap_in g124) ?_
    clear E; intro a E
    refine wpList_nil ?_
    exact th_n ⟨m88, Nat.lt_succ_self _, out49 ++ ([r100.1] : List (List Int)), x52 + 1, A120, c121, E.pick _ ⟨rfl, rfl, rfl, rfl, rfl, trivial⟩, H.sel [0, 1, 2, 3, 4] rfl, hP⟩
   ·
    replace E := E_; clear E_
    have h125 : ¬ (x52 < (((List.length aGuard) : Nat) : Int)) := of_decide_eq_false hb_
    clear hb_; replace hP := ite_f h125 hP
    refine c_false E rfl ?_
    refine wp_exit ?_
    refine th_exit ?_
    have hx_ := Option.some.inj hP
    refine th_exit (.inl ⟨0, rfl, ?_⟩)
    exact ⟨rfl, out49, A50, c51, E.pick _ ⟨rfl, trivial⟩, H.sel [4] rfl, hx_.symm⟩
 ·
  clear E H hL90; intro i_ a w93 hM_
  obtain ⟨rfl, x95, A86, c87, E, H, hx_⟩ := hM_
  subst hx_; have hP := hK91; clear hK91
  refine bl_hit ?_
  refine th_n ?_
  refine wp_seq ?_
  refine wp_region_lit ?_
  refine vr tbok 2 [] [(2, .slice A86 (List.length x89) c87)] [] E (by kernel_rfl) trivial ?_
  clear E; intro a E
  refine wpList_nil ?_
  refine th_n ?_
  refine wp_ret ?_
  obtain rfl := Option.some.inj hP
  refine ret1 E rfl rfl ?_
  exact ⟨_, rfl, A86, c87, rfl, H.sel [0] rfl⟩

end Go.V
