/- Plain functions, and the calls that give them. -/
import Derived.Test.YtljkomkejdngcaaA5
set_option linter.all false
set_option linter.unusedVariables false
set_option linter.unnecessarySimpa false
set_option linter.unusedSimpArgs false
namespace Go.V
open Go Go.Proofs
/-! rejoinder/rejoinderref01.Trace -/
/-! rejoinder/rejoinderref14.bit -/
def ref14_bit_l0 (N : Nat) (p : Int) : Nat → Int → Int → Option Int
  | 0, _, _ => none
  | m10 + 1, v4, i5 =>
    if i5 < p then
      ask (in64 (i5 + 1)) <|
      ref14_bit_l0 N p m10 (IntKind.i64.wrap (Int.tdiv v4 2)) (i5 + 1)
    else
      some v4
def ref14_bit (N : Nat) (ll : Int) (p : Int) : Option Bool :=
  ask (in64 ll) <|
  Option.bind (ref14_bit_l0 N p N ll 0) fun x11 =>
  some ((Int.tmod x11 2 : Int) == 1)
set_option maxRecDepth 100000 in
set_option maxHeartbeats 4000000 in
theorem ref14_bit_calls {N : Nat} {S Fa : Nat → Prop} {w0 : World} {r : Bool} (ll : Int) (p : Int) (H : Hp S Fa w0 w0 []) (hP : ref14_bit N ll p = some r) :
    Calls Try.prog 63 #[.int .u8 ll, .int .i64 p] w0 fun e w' => ∃ v, e = .returned v ∧ v = .bool r ∧ Hp S Fa w0 w' [] := by
 refine enterV (n := 19) Try.func63 rfl rfl rfl ?_
 intro a E
 replace E := E.pick [(0, .int .u8 ll), (1, .int .i64 p)] ⟨rfl, rfl, trivial⟩
 rw [ref14_bit] at hP
 refine wp_seq ?_
 refine wp_region_lit ?_
 refine vn tbok 1 [] [] [] E (by kernel_rfl) (by kernel_rfl) trivial ?_
 clear E; intro a E
 refine wpList_nil ?_
 refine th_n ?_
 refine wp_seq ?_
 refine wp_region_lit ?_
 obtain ⟨g1, hP⟩ := ask_inv hP
 refine vn tbok 3 [.int .i64 ll] [(5, .int .i64 ll)] [IntKind.i64.wrap ll = ll] E (by kernel_rfl) (by kernel_rfl) (wrap_in g1) ?_
 clear E; intro a E
 refine wpList_nil ?_
 refine th_n ?_
 refine wp_seq ?_
 refine wp_seq ?_
 refine wp_region_lit ?_
 refine vn tbok 1 [] [(6, .int .i64 0)] [] E (by kernel_rfl) (by kernel_rfl) trivial ?_
 clear E; intro a E
 refine wpList_nil ?_
 refine th_n ?_
 refine wp_block ?_
 obtain ⟨x11, hL12, hK13⟩ := bind_inv hP
 clear hP
 refine loop_cut (fun i_ a w_ => (i_ = 0 ∧ ∃ (x16 : Int), Fr a 19 [(5, .int .i64 x16)] ∧ Hp S Fa w0 w_ [] ∧ x11 = x16)) ?_ ?_
 ·
  refine loopV (fun m15 a w14 => ∃ (v4 : Int) (i5 : Int), Fr a 19 [(1, .int .i64 p), (5, .int .i64 v4), (6, .int .i64 i5)] ∧ Hp S Fa w0 w14 [] ∧ ref14_bit_l0 N p m15 v4 i5 = some x11) N ?_ ?_
  ·
   exact ⟨ll, 0, E.pick _ ⟨rfl, rfl, rfl, trivial⟩, H.sel [] rfl, hL12⟩
  clear E H hL12; intro m15 a w14 hI_
  obtain ⟨v4, i5, E, H, hP⟩ := hI_
  obtain ⟨m10, rfl⟩ : ∃ q_, m15 = q_ + 1 := by cases m15 with | zero => rw [ref14_bit_l0] at hP; cases hP | succ q_ => exact ⟨q_, rfl⟩
  rw [ref14_bit_l0] at hP
  refine wp_seq ?_
  refine wp_seq ?_
  refine wp_region_lit ?_
  refine vn tbok 3 [] [(11, .bool (decide (i5 < p)))] [] E (by kernel_rfl) (by kernel_rfl) trivial ?_
  clear E; intro a E
  refine wpList_nil ?_
  refine th_n ?_
  refine E.cases (t := 11) rfl (fun hb_ E_ => ?_) (fun hb_ E_ => ?_)
  ·
   replace E := E_; clear E_
   have h17 : i5 < p := of_decide_eq_true hb_
   clear hb_; replace hP := ite_t h17 hP
   refine c_true E rfl ?_
   refine wp_skip ?_
   refine th_n ?_
   refine wp_seq ?_
   refine wp_block ?_
   refine wp_region_lit ?_
   refine vn tbok 3 [.int .i64 (IntKind.i64.wrap (Int.tdiv v4 2))] [(5, .int .i64 (IntKind.i64.wrap (Int.tdiv v4 2)))] [(2 : Int) ≠ 0 ∧ IntKind.i64.wrap (Int.tdiv v4 2) = IntKind.i64.wrap (Int.tdiv v4 2)] E (by kernel_rfl) (by kernel_rfl) (⟨by decide, rfl⟩) ?_
   clear E; intro a E
   refine wpList_nil ?_
   refine bl_n ?_
   refine th_n ?_
   refine wp_region_lit ?_
   obtain ⟨g18, hP⟩ := ask_inv hP
   refine vn tbok 3 [.int .i64 (i5 + 1)] [(6, .int .i64 (i5 + 1))] [IntKind.i64.wrap (i5 + 1) = i5 + 1] E (by kernel_rfl) (by kernel_rfl) (wrap_in g18) ?_
   clear E; intro a E
   refine wpList_nil ?_
   exact th_n ⟨m10, Nat.lt_succ_self _, IntKind.i64.wrap (Int.tdiv v4 2), i5 + 1, E.pick _ ⟨rfl, rfl, rfl, trivial⟩, H.sel [] rfl, hP⟩
  replace E := E_; clear E_
  have h19 : ¬ (i5 < p) := of_decide_eq_false hb_
  clear hb_; replace hP := ite_f h19 hP
  refine c_false E rfl ?_
  refine wp_exit ?_
  refine th_exit ?_
  have hx_ := Option.some.inj hP
  refine th_exit (.inl ⟨0, rfl, ?_⟩)
  exact ⟨rfl, v4, E.pick _ ⟨rfl, trivial⟩, H.sel [] rfl, hx_.symm⟩
 clear E H hL12; intro i_ a w14 hM_
 obtain ⟨rfl, x16, E, H, hx_⟩ := hM_
 subst hx_; have hP := hK13; clear hK13
 refine bl_hit ?_
 refine th_n ?_
 refine wp_seq ?_
 refine wp_region_lit ?_
 refine vn tbok 4 [.int .i64 (Int.tmod x11 2)] [(4, .bool ((Int.tmod x11 2 : Int) == 1))] [(2 : Int) ≠ 0 ∧ Int.tmod x11 2 = Int.tmod x11 2] E (by kernel_rfl) (by kernel_rfl) (⟨by decide, rfl⟩) ?_
 clear E; intro a E
 refine wpList_nil ?_
 refine th_n ?_
 refine wp_ret ?_
 obtain rfl := Option.some.inj hP
 refine ret1 E rfl rfl ?_
 exact ⟨_, rfl, rfl, H.sel [] rfl⟩

/-! rejoinder/rejoinderref14.Go -/
def ref14_Go_l0 (N : Nat) (nodes : List Nd) (ll : Int) : Nat → Int → Int → Option (Unit ⊕ (Int × Bool))
  | 0, _, _ => none
  | m59 + 1, ref28, k29 =>
    if k29 < 9 then
      if ref28 < 0 then
        ask (in64 ((-1) - ref28)) <|
        some (Sum.inr ((-1) - ref28, true))
      else
        if (((List.length nodes) : Nat) : Int) ≤ ref28 then
          some (Sum.inr (0, false))
        else
          ask (idx ref28 (List.length nodes)) <|
          if ((List.getD nodes (Int.toNat ref28) (default : Nd)).P) < 0 then
            some (Sum.inr (0, false))
          else
            if 7 < ((List.getD nodes (Int.toNat ref28) (default : Nd)).P) then
              some (Sum.inr (0, false))
            else
              if (k29 : Int) = 8 then
                some (Sum.inr (0, false))
              else
                Option.bind (ref14_bit N ll ((List.getD nodes (Int.toNat ref28) (default : Nd)).P)) fun r81 =>
                if r81 = true then
                  ask (in64 (k29 + 1)) <|
                  ref14_Go_l0 N nodes ll m59 ((List.getD nodes (Int.toNat ref28) (default : Nd)).Hi) (k29 + 1)
                else
                  ask (in64 (k29 + 1)) <|
                  ref14_Go_l0 N nodes ll m59 ((List.getD nodes (Int.toNat ref28) (default : Nd)).Lo) (k29 + 1)
    else
      some (Sum.inl ())
def ref14_Go (N : Nat) (nodes : List Nd) (ref : Int) (ll : Int) : Option (Int × Bool) :=
  Option.bind (ref14_Go_l0 N nodes ll N ref 0) fun x60 =>
  Sum.elim (fun x65 =>
    some (0, false))
   (fun x95 =>
    some x95) x60
set_option maxRecDepth 100000 in
set_option maxHeartbeats 4000000 in
theorem ref14_Go_calls {N : Nat} {S Fa : Nat → Prop} {w0 : World} {r : Int × Bool} (A1 : Option Addr) (c2 : Nat) (nodes : List Nd) (ref : Int) (ll : Int) (hk3 : List.length nodes ≤ c2) (H : Hp S Fa w0 w0 [.ro false cNode A1 nodes]) (hP : ref14_Go N nodes ref ll = some r) :
    Calls Try.prog 62 #[.slice A1 (List.length nodes) c2, .int .i64 ref, .int .u8 ll] w0 fun e w' => ∃ v, e = .returned v ∧ v = .tuple #[.int .i64 r.1, .bool r.2] ∧ Hp S Fa w0 w' [] := by
 refine enterV (n := 58) Try.func62 rfl rfl rfl ?_
 intro a E
 replace E := E.pick [(0, .slice A1 (List.length nodes) c2), (1, .int .i64 ref), (2, .int .u8 ll)] ⟨rfl, rfl, rfl, trivial⟩
 rw [ref14_Go] at hP
 refine wp_seq ?_
 refine wp_region_lit ?_
 refine vn tbok 2 [] [] [] E (by kernel_rfl) (by kernel_rfl) trivial ?_
 clear E; intro a E
 refine wpList_nil ?_
 refine th_n ?_
 refine wp_seq ?_
 refine wp_seq ?_
 refine wp_region_lit ?_
 refine vn tbok 1 [] [(8, .int .i64 0)] [] E (by kernel_rfl) (by kernel_rfl) trivial ?_
 clear E; intro a E
 refine wpList_nil ?_
 refine th_n ?_
 refine wp_block ?_
 obtain ⟨x60, hL61, hK62⟩ := bind_inv hP
 clear hP
 refine loop_cut (fun i_ a w_ => (i_ = 0 ∧ ∃ (x65 : Unit), Fr a 58 [] ∧ Hp S Fa w0 w_ [] ∧ x60 = Sum.inl x65)) ?_ ?_
 ·
  refine loopV (fun m64 a w63 => ∃ (ref28 : Int) (k29 : Int), Fr a 58 [(0, .slice A1 (List.length nodes) c2), (1, .int .i64 ref28), (2, .int .u8 ll), (8, .int .i64 k29)] ∧ Hp S Fa w0 w63 [.ro false cNode A1 nodes] ∧ ref14_Go_l0 N nodes ll m64 ref28 k29 = some x60) N ?_ ?_
  ·
   exact ⟨ref, 0, E.pick _ ⟨rfl, rfl, rfl, rfl, trivial⟩, H.sel [0] rfl, hL61⟩
  clear E H hL61; intro m64 a w63 hI_
  obtain ⟨ref28, k29, E, H, hP⟩ := hI_
  obtain ⟨m59, rfl⟩ : ∃ q_, m64 = q_ + 1 := by cases m64 with | zero => rw [ref14_Go_l0] at hP; cases hP | succ q_ => exact ⟨q_, rfl⟩
  rw [ref14_Go_l0] at hP
  refine wp_seq ?_
  refine wp_seq ?_
  refine wp_region_lit ?_
  refine vn tbok 2 [] [(10, .bool (decide (k29 < 9)))] [] E (by kernel_rfl) (by kernel_rfl) trivial ?_
  clear E; intro a E
  refine wpList_nil ?_
  refine th_n ?_
  refine E.cases (t := 10) rfl (fun hb_ E_ => ?_) (fun hb_ E_ => ?_)
  ·
   replace E := E_; clear E_
   have h66 : k29 < 9 := of_decide_eq_true hb_
   clear hb_; replace hP := ite_t h66 hP
   refine c_true E rfl ?_
   refine wp_skip ?_
   refine th_n ?_
   refine wp_seq ?_
   refine wp_block ?_
   refine wp_seq ?_
   refine wp_seq ?_
   refine wp_region_lit ?_
   refine vn tbok 2 [] [(14, .bool (decide (ref28 < 0)))] [] E (by kernel_rfl) (by kernel_rfl) trivial ?_
   clear E; intro a E
   refine wpList_nil ?_
   refine th_n ?_
   refine E.cases (t := 14) rfl (fun hb_ E_ => ?_) (fun hb_ E_ => ?_)
   ·
    replace E := E_; clear E_
    have h67 : ref28 < 0 := of_decide_eq_true hb_
    clear hb_; replace hP := ite_t h67 hP
    refine c_true E rfl ?_
    refine wp_seq ?_
    refine wp_region_lit ?_
    obtain ⟨g68, hP⟩ := ask_inv hP
    refine vn tbok 4 [.int .i64 ((-1) - ref28)] [(6, .int .i64 ((-1) - ref28)), (7, .bool true)] [IntKind.i64.wrap ((-1) - ref28) = (-1) - ref28] E (by kernel_rfl) (by kernel_rfl) (wrap_in g68) ?_
    clear E; intro a E
    refine wpList_nil ?_
    refine th_n ?_
    refine wp_ret ?_
    refine th_ret ?_
    refine bl_ret ?_
    refine th_ret ?_
    refine th_ret ?_
    refine .inr ⟨rfl, ?_⟩
    refine bl_ret ?_
    refine th_ret ?_
    have hx_ := Option.some.inj hP; subst hx_
    have hP : some (((-1) - ref28, true)) = some r := hK62
    obtain rfl := Option.some.inj hP
    refine ret2 E rfl rfl rfl ?_
    exact ⟨_, rfl, rfl, H.sel [] rfl⟩
   replace E := E_; clear E_
   have h69 : ¬ (ref28 < 0) := of_decide_eq_false hb_
   clear hb_; replace hP := ite_f h69 hP
   refine c_false E rfl ?_
   refine wp_skip ?_
   refine th_n ?_
   refine wp_seq ?_
   refine wp_seq ?_
   refine wp_region_lit ?_
   refine vn tbok 5 [] [(21, .bool (decide ((((List.length nodes) : Nat) : Int) ≤ ref28)))] [] E (by kernel_rfl) (by kernel_rfl) trivial ?_
   clear E; intro a E
   refine E.cases (t := 21) rfl (fun hb_ E_ => ?_) (fun hb_ E_ => ?_)
   ·
    replace E := E_; clear E_
    have h70 : (((List.length nodes) : Nat) : Int) ≤ ref28 := of_decide_eq_true hb_
    clear hb_; replace hP := ite_t h70 hP
    refine vn tbok 19 [] [(40, .bool true)] [] E (by kernel_rfl) (by kernel_rfl) trivial ?_
    clear E; intro a E
    refine wpList_nil ?_
    refine th_n ?_
    refine c_true E rfl ?_
    refine wp_seq ?_
    refine wp_region_lit ?_
    refine vn tbok 2 [] [(6, .int .i64 0), (7, .bool false)] [] E (by kernel_rfl) (by kernel_rfl) trivial ?_
    clear E; intro a E
    refine wpList_nil ?_
    refine th_n ?_
    refine wp_ret ?_
    refine th_ret ?_
    refine bl_ret ?_
    refine th_ret ?_
    refine th_ret ?_
    refine .inr ⟨rfl, ?_⟩
    refine bl_ret ?_
    refine th_ret ?_
    have hx_ := Option.some.inj hP; subst hx_
    have hP : some ((0, false)) = some r := hK62
    obtain rfl := Option.some.inj hP
    refine ret2 E rfl rfl rfl ?_
    exact ⟨_, rfl, rfl, H.sel [] rfl⟩
   replace E := E_; clear E_
   have h71 : ¬ ((((List.length nodes) : Nat) : Int) ≤ ref28) := of_decide_eq_false hb_
   clear hb_; replace hP := ite_f h71 hP
   obtain ⟨g72, hP⟩ := ask_inv hP
   obtain ⟨b73, o74, e_b73⟩ := (H.rd 0 rds_ro).addr (idx_pos g72)
   subst e_b73
   refine vn tbok 8 [.int .i64 ((List.getD nodes (Int.toNat ref28) (default : Nd)).P)] [(29, .bool (decide (((List.getD nodes (Int.toNat ref28) (default : Nd)).P) < 0)))] [0 ≤ ref28 ∧ ref28 < (((List.length nodes) : Nat) : Int), World.cell? w63 ⟨b73, o74 + (Int.toNat ref28) * 3, none⟩ = some (.int .i64 ((List.getD nodes (Int.toNat ref28) (default : Nd)).P))] E (by kernel_rfl) (by kernel_rfl) ⟨g72, (Rds.atP (H.rd 0 rds_ro) (default : Nd) g72).1⟩ ?_
   clear E; intro a E
   refine E.cases (t := 29) rfl (fun hb_ E_ => ?_) (fun hb_ E_ => ?_)
   ·
    replace E := E_; clear E_
    have h75 : ((List.getD nodes (Int.toNat ref28) (default : Nd)).P) < 0 := of_decide_eq_true hb_
    clear hb_; replace hP := ite_t h75 hP
    refine vn tbok 11 [] [(40, .bool true)] [] E (by kernel_rfl) (by kernel_rfl) trivial ?_
    clear E; intro a E
    refine wpList_nil ?_
    refine th_n ?_
    refine c_true E rfl ?_
    refine wp_seq ?_
    refine wp_region_lit ?_
    refine vn tbok 2 [] [(6, .int .i64 0), (7, .bool false)] [] E (by kernel_rfl) (by kernel_rfl) trivial ?_
    clear E; intro a E
    refine wpList_nil ?_
    refine th_n ?_
    refine wp_ret ?_
    refine th_ret ?_
    refine bl_ret ?_
    refine th_ret ?_
    refine th_ret ?_
    refine .inr ⟨rfl, ?_⟩
    refine bl_ret ?_
    refine th_ret ?_
    have hx_ := Option.some.inj hP; subst hx_
    have hP : some ((0, false)) = some r := hK62
    obtain rfl := Option.some.inj hP
    refine ret2 E rfl rfl rfl ?_
    exact ⟨_, rfl, rfl, H.sel [] rfl⟩
   replace E := E_; clear E_
   have h76 : ¬ (((List.getD nodes (Int.toNat ref28) (default : Nd)).P) < 0) := of_decide_eq_false hb_
   clear hb_; replace hP := ite_f h76 hP
   refine vn tbok 8 [.int .i64 ((List.getD nodes (Int.toNat ref28) (default : Nd)).P)] [(37, .bool (decide (7 < ((List.getD nodes (Int.toNat ref28) (default : Nd)).P))))] [0 ≤ ref28 ∧ ref28 < (((List.length nodes) : Nat) : Int), World.cell? w63 ⟨b73, o74 + (Int.toNat ref28) * 3, none⟩ = some (.int .i64 ((List.getD nodes (Int.toNat ref28) (default : Nd)).P))] E (by kernel_rfl) (by kernel_rfl) ⟨g72, (Rds.atP (H.rd 0 rds_ro) (default : Nd) g72).1⟩ ?_
   clear E; intro a E
   refine E.cases (t := 37) rfl (fun hb_ E_ => ?_) (fun hb_ E_ => ?_)
   ·
    replace E := E_; clear E_
    have h77 : 7 < ((List.getD nodes (Int.toNat ref28) (default : Nd)).P) := of_decide_eq_true hb_
    clear hb_; replace hP := ite_t h77 hP
    refine vn tbok 3 [] [(40, .bool true)] [] E (by kernel_rfl) (by kernel_rfl) trivial ?_
    clear E; intro a E
    refine wpList_nil ?_
    refine th_n ?_
    refine c_true E rfl ?_
    refine wp_seq ?_
    refine wp_region_lit ?_
    refine vn tbok 2 [] [(6, .int .i64 0), (7, .bool false)] [] E (by kernel_rfl) (by kernel_rfl) trivial ?_
    clear E; intro a E
    refine wpList_nil ?_
    refine th_n ?_
    refine wp_ret ?_
    refine th_ret ?_
    refine bl_ret ?_
    refine th_ret ?_
    refine th_ret ?_
    refine .inr ⟨rfl, ?_⟩
    refine bl_ret ?_
    refine th_ret ?_
    have hx_ := Option.some.inj hP; subst hx_
    have hP : some ((0, false)) = some r := hK62
    obtain rfl := Option.some.inj hP
    refine ret2 E rfl rfl rfl ?_
    exact ⟨_, rfl, rfl, H.sel [] rfl⟩
   replace E := E_; clear E_
   have h78 : ¬ (7 < ((List.getD nodes (Int.toNat ref28) (default : Nd)).P)) := of_decide_eq_false hb_
   clear hb_; replace hP := ite_f h78 hP
   refine vn tbok 3 [] [(40, .bool ((k29 : Int) == 8))] [] E (by kernel_rfl) (by kernel_rfl) trivial ?_
   clear E; intro a E
   refine wpList_nil ?_
   refine th_n ?_
   refine E.cases (t := 40) rfl (fun hb_ E_ => ?_) (fun hb_ E_ => ?_)
   ·
    replace E := E_; clear E_
    have h79 : (k29 : Int) = 8 := eq_of_beq hb_
    clear hb_; replace hP := ite_t h79 hP
    refine c_true E rfl ?_
    refine wp_seq ?_
    refine wp_region_lit ?_
    refine vn tbok 2 [] [(6, .int .i64 0), (7, .bool false)] [] E (by kernel_rfl) (by kernel_rfl) trivial ?_
    clear E; intro a E
    refine wpList_nil ?_
    refine th_n ?_
    refine wp_ret ?_
    refine th_ret ?_
    refine bl_ret ?_
    refine th_ret ?_
    refine th_ret ?_
    refine .inr ⟨rfl, ?_⟩
    refine bl_ret ?_
    refine th_ret ?_
    have hx_ := Option.some.inj hP; subst hx_
    have hP : some ((0, false)) = some r := hK62
    obtain rfl := Option.some.inj hP
    refine ret2 E rfl rfl rfl ?_
    exact ⟨_, rfl, rfl, H.sel [] rfl⟩
   replace E := E_; clear E_
   have h80 : ¬ ((k29 : Int) = 8) := ne_of_beq_false hb_
   clear hb_; replace hP := ite_f h80 hP
   refine c_false E rfl ?_
   refine wp_skip ?_
   refine th_n ?_
   refine wp_seq ?_
   refine wp_region_lit ?_
   refine vn tbok 6 [.int .i64 ((List.getD nodes (Int.toNat ref28) (default : Nd)).P)] [(41, .int .u8 ll), (46, .int .i64 ((List.getD nodes (Int.toNat ref28) (default : Nd)).P))] [0 ≤ ref28 ∧ ref28 < (((List.length nodes) : Nat) : Int), World.cell? w63 ⟨b73, o74 + (Int.toNat ref28) * 3, none⟩ = some (.int .i64 ((List.getD nodes (Int.toNat ref28) (default : Nd)).P))] E (by kernel_rfl) (by kernel_rfl) ⟨g72, (Rds.atP (H.rd 0 rds_ro) (default : Nd) g72).1⟩ ?_
   clear E; intro a E
   obtain ⟨r81, h82, hP⟩ := bind_inv hP
   obtain ⟨Fa83, Hc84, hb85⟩ := H.call [] [] rfl rfl trivial
   refine e_call E rfl rfl Try.func63 rfl rfl rfl (ref14_bit_calls  ll ((List.getD nodes (Int.toNat ref28) (default : Nd)).P)  Hc84 h82) ?_
   rintro v86 w87 a ⟨rfl, HR88⟩ E_
   replace E := E_ _ rfl; clear E_
   obtain ⟨H_, hc89⟩ := hb85 _ _ HR88 rfl
   replace H := H_; clear H_; try dsimp only [setn, addE, goneL] at H
   refine wpList_nil ?_
   refine th_n ?_
   refine E.cases (t := 47) rfl (fun hb_ E_ => ?_) (fun hb_ E_ => ?_)
   ·
    replace E := E_; clear E_
    have h90 : r81 = true := hb_
    clear hb_; replace hP := ite_t h90 hP
    refine c_true E rfl ?_
    refine wp_region_lit ?_
    refine vn tbok 6 [.int .i64 ((List.getD nodes (Int.toNat ref28) (default : Nd)).Hi)] [(1, .int .i64 ((List.getD nodes (Int.toNat ref28) (default : Nd)).Hi))] [0 ≤ ref28 ∧ ref28 < (((List.length nodes) : Nat) : Int), World.cell? w87 ⟨b73, o74 + (Int.toNat ref28) * 3 + 2, none⟩ = some (.int .i64 ((List.getD nodes (Int.toNat ref28) (default : Nd)).Hi))] E (by kernel_rfl) (by kernel_rfl) ⟨g72, Rds.atF (H.rd 0 rds_ro) (default : Nd) g72 2 rfl⟩ ?_
    clear E; intro a E
    refine wpList_nil ?_
    refine bl_n ?_
    refine th_n ?_
    refine wp_region_lit ?_
    obtain ⟨g91, hP⟩ := ask_inv hP
    refine vn tbok 3 [.int .i64 (k29 + 1)] [(8, .int .i64 (k29 + 1))] [IntKind.i64.wrap (k29 + 1) = k29 + 1] E (by kernel_rfl) (by kernel_rfl) (wrap_in g91) ?_
    clear E; intro a E
    refine wpList_nil ?_
    exact th_n ⟨m59, Nat.lt_succ_self _, (List.getD nodes (Int.toNat ref28) (default : Nd)).Hi, k29 + 1, E.pick _ ⟨rfl, rfl, rfl, rfl, trivial⟩, H.sel [0] rfl, hP⟩
   replace E := E_; clear E_
   have h92 : ¬ (r81 = true) := (ne_true_of_eq_false hb_)
   clear hb_; replace hP := ite_f h92 hP
   refine c_false E rfl ?_
   refine wp_region_lit ?_
   refine vn tbok 6 [.int .i64 ((List.getD nodes (Int.toNat ref28) (default : Nd)).Lo)] [(1, .int .i64 ((List.getD nodes (Int.toNat ref28) (default : Nd)).Lo))] [0 ≤ ref28 ∧ ref28 < (((List.length nodes) : Nat) : Int), World.cell? w87 ⟨b73, o74 + (Int.toNat ref28) * 3 + 1, none⟩ = some (.int .i64 ((List.getD nodes (Int.toNat ref28) (default : Nd)).Lo))] E (by kernel_rfl) (by kernel_rfl) ⟨g72, Rds.atF (H.rd 0 rds_ro) (default : Nd) g72 1 rfl⟩ ?_
   clear E; intro a E
   refine wpList_nil ?_
   refine bl_n ?_
   refine th_n ?_
   refine wp_region_lit ?_
   obtain ⟨g93, hP⟩ := ask_inv hP
   refine vn tbok 3 [.int .i64 (k29 + 1)] [(8, .int .i64 (k29 + 1))] [IntKind.i64.wrap (k29 + 1) = k29 + 1] E (by kernel_rfl) (by kernel_rfl) (wrap_in g93) ?_
   clear E; intro a E
   refine wpList_nil ?_
   exact th_n ⟨m59, Nat.lt_succ_self _, (List.getD nodes (Int.toNat ref28) (default : Nd)).Lo, k29 + 1, E.pick _ ⟨rfl, rfl, rfl, rfl, trivial⟩, H.sel [0] rfl, hP⟩
  replace E := E_; clear E_
  have h94 : ¬ (k29 < 9) := of_decide_eq_false hb_
  clear hb_; replace hP := ite_f h94 hP
  refine c_false E rfl ?_
  refine wp_exit ?_
  refine th_exit ?_
  have hx_ := Option.some.inj hP
  refine th_exit (.inl ⟨0, rfl, ?_⟩)
  exact ⟨rfl, (), E.pick _ trivial, H.sel [] rfl, hx_.symm⟩
 clear E H hL61; intro i_ a w63 hM_
 obtain ⟨rfl, x65, E, H, hx_⟩ := hM_
 subst hx_; have hP := elim_l hK62
 clear hK62
 refine bl_hit ?_
 refine th_n ?_
 refine wp_seq ?_
 refine wp_region_lit ?_
 refine vn tbok 2 [] [(6, .int .i64 0), (7, .bool false)] [] E (by kernel_rfl) (by kernel_rfl) trivial ?_
 clear E; intro a E
 refine wpList_nil ?_
 refine th_n ?_
 refine wp_ret ?_
 obtain rfl := Option.some.inj hP
 refine ret2 E rfl rfl rfl ?_
 exact ⟨_, rfl, rfl, H.sel [] rfl⟩

/-! rejoinder/rejoinderref14.Next -/
def ref14_Next (N : Nat) (aProps : Int) (aAccept : List Bool) (aGuard : List Int) (aNodes : List Nd) (q : Int) (ll : Int) : Option Int :=
  ask (idx q (List.length aGuard)) <|
  Option.bind (ref14_Go N aNodes (List.getD aGuard (Int.toNat q) 0) ll) fun r21 =>
  some r21.1
set_option maxRecDepth 100000 in
set_option maxHeartbeats 4000000 in
theorem ref14_Next_calls {N : Nat} {S Fa : Nat → Prop} {w0 : World} {r : Int} (A1 : Option Addr) (c2 : Nat) (A5 : Option Addr) (c6 : Nat) (A9 : Option Addr) (c10 : Nat) (aProps : Int) (aAccept : List Bool) (aGuard : List Int) (aNodes : List Nd) (q : Int) (ll : Int) (hk3 : List.length aAccept ≤ c2) (hk7 : List.length aGuard ≤ c6) (hk11 : List.length aNodes ≤ c10) (H : Hp S Fa w0 w0 [.ro false cBool A1 aAccept, .ro false (cInt .i64) A5 aGuard, .ro false cNode A9 aNodes]) (hP : ref14_Next N aProps aAccept aGuard aNodes q ll = some r) :
    Calls Try.prog 56 #[.agg #[.int .i64 aProps, .slice A1 (List.length aAccept) c2, .slice A5 (List.length aGuard) c6, .slice A9 (List.length aNodes) c10], .int .i64 q, .int .u8 ll] w0 fun e w' => ∃ v, e = .returned v ∧ v = .int .i64 r ∧ Hp S Fa w0 w' [] := by
 refine enterV (n := 22) Try.func56 rfl rfl rfl ?_
 intro a E
 replace E := E.pick [(0, .agg #[.int .i64 aProps, .slice A1 (List.length aAccept) c2, .slice A5 (List.length aGuard) c6, .slice A9 (List.length aNodes) c10]), (1, .int .i64 q), (2, .int .u8 ll)] ⟨rfl, rfl, rfl, trivial⟩
 rw [ref14_Next] at hP
 refine wp_seq ?_
 refine wp_region_lit ?_
 refine h_box H E rfl rfl rfl ?_
 intro w14 g13 a hc15 hg17 H_ E_
 replace E := E_ _ rfl; clear E_
 replace H := H_; clear H_; try dsimp only [setn, addE, goneL] at H
 refine vn tbok 1 [] [] [] E (by kernel_rfl) (by kernel_rfl) trivial ?_
 clear E; intro a E
 refine wpList_nil ?_
 refine th_n ?_
 refine wp_seq ?_
 obtain ⟨g18, hP⟩ := ask_inv hP
 obtain ⟨b19, o20, e_b19⟩ := (H.rd 1 rds_ro).addr (idx_pos g18)
 subst e_b19
 obtain ⟨r21, h22, hP⟩ := bind_inv hP
 have HR33 := H
 refine dr_start (S := fun w_ => Chg (atL []) w14 w_) (by kernel_rfl) ?_
 intro w30 hc31
 have HS32 : Chg (atL []) w14 w30 := hc31.mono (fun _ _ h_ => h_.elim)
 replace H := H.ext hc31
 refine dn tbok (by kernel_rfl) [0, 1, 2, 3, 4, 5, 6, 7] [.slice A9 (List.length aNodes) c10, .slice (some ⟨b19, o20, none⟩) (List.length aGuard) c6, .int .i64 (List.getD aGuard (Int.toNat q) 0)] [(11, .slice A9 (List.length aNodes) c10), (16, .int .i64 (List.getD aGuard (Int.toNat q) 0)), (17, .int .u8 ll)] (fun w_ => [World.cell? w_ ⟨g13, 3, none⟩ = some (.slice A9 (List.length aNodes) c10), World.cell? w_ ⟨g13, 2, none⟩ = some (.slice (some ⟨b19, o20, none⟩) (List.length aGuard) c6), 0 ≤ q ∧ q < (((List.length aGuard) : Nat) : Int), World.cell? w_ ⟨b19, o20 + (Int.toNat q) * 1, none⟩ = some (.int .i64 (List.getD aGuard (Int.toNat q) 0))]) 6 E (fun _ _ => by kernel_rfl) (by kernel_rfl) (fun w_ hS_ => ⟨(HR33.boxk [] hS_ 3 rfl rfl).cell (j := 3) rfl, (HR33.boxk [] hS_ 3 rfl rfl).cell (j := 2) rfl, g18, Rds.at1 (HR33.rdk [] hS_ 1 rds_ro rfl) 0 g18⟩) (by kernel_rfl) HS32 ?_
 clear E; intro a E
 refine wpAnyH_all (rs := [8]) (by kernel_rfl) (by simp) ?_
 refine all1 ?_
 refine wpOp_of_list rfl ?_
 obtain ⟨Fa34, Hc35, hb36⟩ := H.call [] [(2, false)] rfl rfl trivial
 refine e_call E rfl rfl Try.func62 rfl rfl rfl (ref14_Go_calls A9 c10 aNodes (List.getD aGuard (Int.toNat q) 0) ll hk11 Hc35 h22) ?_
 rintro v37 w38 a ⟨rfl, HR39⟩ E_
 replace E := E_ _ rfl; clear E_
 obtain ⟨H_, hc40⟩ := hb36 _ _ HR39 rfl
 replace HS32 := HS32.ext (callS_ext hc40)
 replace H := H_; clear H_; try dsimp only [setn, addE, goneL] at H
 refine wpList_nil ?_
 refine th_n ⟨HS32, ?_⟩
 refine dn tbok (by kernel_rfl) [9, 10, 11, 12, 13] [] [(7, .int .i64 r21.1)] (fun w_ => []) 0 E (fun _ _ => by kernel_rfl) (by kernel_rfl) (fun w_ hS_ => trivial) (by kernel_rfl) HS32 ?_
 clear E; intro a E
 refine dr_done (by kernel_rfl) ?_
 clear HS32 HR33
 refine th_n ?_
 refine wp_seq ?_
 refine wp_region_lit ?_
 refine vn tbok 2 [] [(6, .int .i64 r21.1)] [] E (by kernel_rfl) (by kernel_rfl) trivial ?_
 clear E; intro a E
 refine wpList_nil ?_
 refine th_n ?_
 refine wp_ret ?_
 obtain rfl := Option.some.inj hP
 refine ret1 E rfl rfl ?_
 exact ⟨_, rfl, rfl, H.sel [] rfl⟩

/-! rejoinder/rejoinderref21.reached -/
def ref21_reached_l1 (N : Nat) (aProps : Int) (aAccept : List Bool) (aGuard : List Int) (aNodes : List Nd) (i171 : Int) : Nat → (List Int) → (List Int) → (List Bool) → Int → Option ((List Int) × (List Int) × (List Bool))
  | 0, _, _, _, _ => none
  | m455 + 1, out380, far383, seen386, l387 =>
    ask (0 ≤ aProps) <|
    if l387 < (shlV .i64 1 aProps) then
      ask (idx i171 (List.length out380)) <|
      Option.bind (ref14_Next N aProps aAccept aGuard aNodes (List.getD out380 (Int.toNat i171) 0) (IntKind.u8.wrap l387)) fun r467 =>
      ask (idx r467 (List.length seen386)) <|
      if (List.getD seen386 (Int.toNat r467) false) = true then
        ask (in64 (l387 + 1)) <|
        ref21_reached_l1 N aProps aAccept aGuard aNodes i171 m455 out380 far383 seen386 (l387 + 1)
      else
        ask (List.length out380 + List.length ([r467] : List Int) ≤ 1000000000) <|
        ask (idx i171 (List.length far383)) <|
        ask (in64 ((List.getD far383 (Int.toNat i171) 0) + 1)) <|
        ask (List.length far383 + List.length ([(List.getD far383 (Int.toNat i171) 0) + 1] : List Int) ≤ 1000000000) <|
        ask (in64 (l387 + 1)) <|
        ref21_reached_l1 N aProps aAccept aGuard aNodes i171 m455 (out380 ++ ([r467] : List Int)) (far383 ++ ([(List.getD far383 (Int.toNat i171) 0) + 1] : List Int)) (List.set seen386 (Int.toNat r467) true) (l387 + 1)
    else
      some (out380, far383, seen386)
def ref21_reached_l0 (N : Nat) (aProps : Int) (aAccept : List Bool) (aGuard : List Int) (aNodes : List Nd) : Nat → (List Int) → (List Int) → (List Bool) → Int → Option ((List Int) × (List Int))
  | 0, _, _, _, _ => none
  | m314 + 1, out164, far167, seen170, i171 =>
    if i171 < (((List.length out164) : Nat) : Int) then
      Option.bind (ref21_reached_l1 N aProps aAccept aGuard aNodes i171 N out164 far167 seen170 0) fun x456 =>
      ask (in64 (i171 + 1)) <|
      ref21_reached_l0 N aProps aAccept aGuard aNodes m314 x456.1 x456.2.1 x456.2.2 (i171 + 1)
    else
      some (out164, far167)
def ref21_reached (N : Nat) (aProps : Int) (aAccept : List Bool) (aGuard : List Int) (aNodes : List Nd) (q : Int) : Option ((List Int) × (List Int)) :=
  ask (0 ≤ (((List.length aAccept) : Nat) : Int) ∧ (((List.length aAccept) : Nat) : Int) ≤ 1000000000) <|
  ask (idx q (List.length (List.replicate (Int.toNat (((List.length aAccept) : Nat) : Int)) (false : Bool)))) <|
  Option.bind (ref21_reached_l0 N aProps aAccept aGuard aNodes N ([q] : List Int) ([0] : List Int) (List.set (List.replicate (Int.toNat (((List.length aAccept) : Nat) : Int)) (false : Bool)) (Int.toNat q) true) 0) fun x315 =>
  some (x315.1, x315.2)
set_option maxRecDepth 100000 in
set_option maxHeartbeats 4000000 in
theorem ref21_reached_calls {N : Nat} {S Fa : Nat → Prop} {w0 : World} {r : (List Int) × (List Int)} (A1 : Option Addr) (c2 : Nat) (A5 : Option Addr) (c6 : Nat) (A9 : Option Addr) (c10 : Nat) (aProps : Int) (aAccept : List Bool) (aGuard : List Int) (aNodes : List Nd) (q : Int) (hk3 : List.length aAccept ≤ c2) (hk7 : List.length aGuard ≤ c6) (hk11 : List.length aNodes ≤ c10) (H : Hp S Fa w0 w0 [.ro false cBool A1 aAccept, .ro false (cInt .i64) A5 aGuard, .ro false cNode A9 aNodes]) (hP : ref21_reached N aProps aAccept aGuard aNodes q = some r) :
    Calls Try.prog 55 #[.agg #[.int .i64 aProps, .slice A1 (List.length aAccept) c2, .slice A5 (List.length aGuard) c6, .slice A9 (List.length aNodes) c10], .int .i64 q] w0 fun e w' => ∃ v, e = .returned v ∧ ∃ (A524 : Option Addr) (c525 : Nat) (A526 : Option Addr) (c527 : Nat), v = .tuple #[.slice A524 (List.length r.1) c525, .slice A526 (List.length r.2) c527] ∧ Hp S Fa w0 w' [.row true (cInt .i64) 3 A524 c525 r.1, .row true (cInt .i64) 3 A526 c527 r.2] := by
 refine enterV (n := 65) Try.func55 rfl rfl rfl ?_
 intro a E
 replace E := E.pick [(0, .agg #[.int .i64 aProps, .slice A1 (List.length aAccept) c2, .slice A5 (List.length aGuard) c6, .slice A9 (List.length aNodes) c10]), (1, .int .i64 q)] ⟨rfl, rfl, trivial⟩
 rw [ref21_reached] at hP
 refine wp_seq ?_
 refine wp_region_lit ?_
 refine h_box H E rfl rfl rfl ?_
 intro w14 g13 a hc15 hg17 H_ E_
 replace E := E_ _ rfl; clear E_
 replace H := H_; clear H_; try dsimp only [setn, addE, goneL] at H
 refine vn tbok 2 [] [] [] E (by kernel_rfl) (by kernel_rfl) trivial ?_
 clear E; intro a E
 refine wpList_nil ?_
 refine th_n ?_
 refine wp_seq ?_
 refine wp_region_lit ?_
 refine vn tbok 1 [] [(12, .int .i64 q)] [] E (by kernel_rfl) (by kernel_rfl) trivial ?_
 clear E; intro a E
 refine h_buildSlice (ps := [(0, .int .i64 q)]) (cs := [.int .i64 q]) H E rfl rfl tbok rfl rfl (by kernel_rfl) ?_
 intro w19 g18 a hc20 hg22 H_ E_
 replace E := E_ _ rfl; clear E_
 replace H := H_; clear H_; try dsimp only [setn, addE, goneL] at H
 refine vn tbok 1 [] [(6, .slice (some ⟨g18, 0, none⟩) 1 1)] [] E (by kernel_rfl) (by kernel_rfl) trivial ?_
 clear E; intro a E
 refine wpList_nil ?_
 refine th_n ?_
 refine wp_seq ?_
 refine wp_region_lit ?_
 refine h_buildSlice (ps := [(0, .int .i64 0)]) (cs := [.int .i64 0]) H E rfl rfl tbok rfl rfl (by kernel_rfl) ?_
 intro w24 g23 a hc25 hg27 H_ E_
 replace E := E_ _ rfl; clear E_
 replace H := H_; clear H_; try dsimp only [setn, addE, goneL] at H
 refine vn tbok 1 [] [(7, .slice (some ⟨g23, 0, none⟩) 1 1)] [] E (by kernel_rfl) (by kernel_rfl) trivial ?_
 clear E; intro a E
 refine wpList_nil ?_
 refine th_n ?_
 refine wp_seq ?_
 refine wp_region_lit ?_
 refine vn tbok 3 [.slice A1 (List.length aAccept) c2] [(17, .int .i64 (((List.length aAccept) : Nat) : Int))] [World.cell? w24 ⟨g13, 1, none⟩ = some (.slice A1 (List.length aAccept) c2)] E (by kernel_rfl) (by kernel_rfl) ((H.box 3 rfl).cell (j := 1) rfl) ?_
 clear E; intro a E
 obtain ⟨g28, hP⟩ := ask_inv hP
 refine h_make cBool (false : Bool) H E rfl rfl tbok rfl rfl rfl rfl ⟨g28.1, Int.le_refl _, g28.2⟩ rfl rfl rfl (fun _ _ => rfl) ?_
 intro w30 g29 a hc31 hg33 H_ E_
 replace E := E_ _ rfl; clear E_
 replace H := H_; clear H_; try dsimp only [setn, addE, goneL] at H
 refine vn tbok 1 [] [(8, .slice (some ⟨g29, 0, none⟩) (List.length (List.replicate (Int.toNat (((List.length aAccept) : Nat) : Int)) (false : Bool))) (Int.toNat (((List.length aAccept) : Nat) : Int)))] [] E (by kernel_rfl) (by kernel_rfl) trivial ?_
 clear E; intro a E
 refine wpList_nil ?_
 refine th_n ?_
 refine wp_seq ?_
 refine wp_region_lit ?_
 obtain ⟨g34, hP⟩ := ask_inv hP
 refine vn tbok 3 [] [(21, .pointer (some ⟨g29, 0 + (Int.toNat q) * 1, none⟩))] [0 ≤ q ∧ q < (((List.length (List.replicate (Int.toNat (((List.length aAccept) : Nat) : Int)) (false : Bool))) : Nat) : Int)] E (by kernel_rfl) (by kernel_rfl) (g34) ?_
 clear E; intro a E
 refine h_setx (g := g29) (i := q) true H 6 rfl E rfl rfl rfl rfl tbok rfl (fun _ HF_ => rfl) rfl g34 rfl ?_
 clear E; intro w35 a hc36 H_ E
 replace H := H_; clear H_; try dsimp only [setn, addE, goneL] at H
 have hn37 : (List.length (List.replicate (Int.toNat (((List.length aAccept) : Nat) : Int)) (false : Bool))) = (List.length (List.set (List.replicate (Int.toNat (((List.length aAccept) : Nat) : Int)) (false : Bool)) (Int.toNat q) true)) := by simp only [List.length_set]
 replace E := E.same (t := 8) (u := .slice (some ⟨g29, 0, none⟩) (List.length (List.set (List.replicate (Int.toNat (((List.length aAccept) : Nat) : Int)) (false : Bool)) (Int.toNat q) true)) (Int.toNat (((List.length aAccept) : Nat) : Int))) rfl (congrArg (fun n_ => Value.slice (some ⟨g29, 0, none⟩) n_ (Int.toNat (((List.length aAccept) : Nat) : Int))) hn37)
 refine wpList_nil ?_
 refine th_n ?_
 refine wp_seq ?_
 refine wp_seq ?_
 refine wp_region_lit ?_
 refine vn tbok 1 [] [(9, .int .i64 0)] [] E (by kernel_rfl) (by kernel_rfl) trivial ?_
 clear E; intro a E
 refine wpList_nil ?_
 refine th_n ?_
 refine wp_block ?_
 obtain ⟨x315, hL316, hK317⟩ := bind_inv hP
 clear hP
 replace H := H.boxRow (cInt .i64) true ([q] : List Int) 4 rfl (fun _ _ => ⟨_, _, rfl, rfl, rfl⟩) (Nat.le_of_ble_eq_true rfl); try dsimp only [setn, addE, goneL] at H
 replace H := H.rowx 4 rfl; try dsimp only [setn, addE, goneL] at H
 replace H := H.boxRow (cInt .i64) true ([0] : List Int) 5 rfl (fun _ _ => ⟨_, _, rfl, rfl, rfl⟩) (Nat.le_of_ble_eq_true rfl); try dsimp only [setn, addE, goneL] at H
 replace H := H.rowx 5 rfl; try dsimp only [setn, addE, goneL] at H
 refine loop_cut (fun i_ a w_ => (i_ = 0 ∧ ∃ (x320 : (List Int) × (List Int)), ∃ (A309 : Option Addr) (c310 : Nat) (A312 : Option Addr) (c313 : Nat), Fr a 65 [(6, .slice A309 (List.length x320.1) c310), (7, .slice A312 (List.length x320.2) c313)] ∧ Hp S Fa w0 w_ [.row true (cInt .i64) 3 A309 c310 x320.1, .row true (cInt .i64) 3 A312 c313 x320.2] ∧ x315 = x320)) ?_ ?_
 ·
  refine loopV (fun m319 a w318 => ∃ (out164 : List Int) (far167 : List Int) (seen170 : List Bool) (i171 : Int), ∃ (A165 : Option Addr) (c166 : Nat) (A168 : Option Addr) (c169 : Nat), Fr a 65 [(2, .pointer (some ⟨g13, 0, none⟩)), (6, .slice A165 (List.length out164) c166), (7, .slice A168 (List.length far167) c169), (8, .slice (some ⟨g29, 0, none⟩) (List.length seen170) (Int.toNat (((List.length aAccept) : Nat) : Int))), (9, .int .i64 i171)] ∧ Hp S Fa w0 w318 [.ro false cBool A1 aAccept, .ro false (cInt .i64) A5 aGuard, .ro false cNode A9 aNodes, .box g13 43 [.int .i64 aProps, .slice A1 (List.length aAccept) c2, .slice A5 (List.length aGuard) c6, .slice A9 (List.length aNodes) c10], .row true (cInt .i64) 3 A165 c166 out164, .row true (cInt .i64) 3 A168 c169 far167, .rowx true cBool 4 (some ⟨g29, 0, none⟩) (Int.toNat (((List.length aAccept) : Nat) : Int)) seen170 (List.replicate (Int.toNat (((List.length aAccept) : Nat) : Int) - Int.toNat (((List.length aAccept) : Nat) : Int)) (false : Bool))] ∧ ref21_reached_l0 N aProps aAccept aGuard aNodes m319 out164 far167 seen170 i171 = some x315) N ?_ ?_
  ·
   exact ⟨([q] : List Int), ([0] : List Int), List.set (List.replicate (Int.toNat (((List.length aAccept) : Nat) : Int)) (false : Bool)) (Int.toNat q) true, 0, (some ⟨g18, 0, none⟩), (List.length ([q] : List Int)), (some ⟨g23, 0, none⟩), (List.length ([0] : List Int)), E.pick _ ⟨rfl, rfl, rfl, rfl, rfl, trivial⟩, H.sel [0, 1, 2, 3, 4, 5, 6] rfl, hL316⟩
  clear E H hL316; intro m319 a w318 hI_
  obtain ⟨out164, far167, seen170, i171, A165, c166, A168, c169, E, H, hP⟩ := hI_
  obtain ⟨m314, rfl⟩ : ∃ q_, m319 = q_ + 1 := by cases m319 with | zero => rw [ref21_reached_l0] at hP; cases hP | succ q_ => exact ⟨q_, rfl⟩
  rw [ref21_reached_l0] at hP
  refine wp_seq ?_
  refine wp_seq ?_
  refine wp_region_lit ?_
  refine vn tbok 4 [] [(25, .bool (decide (i171 < (((List.length out164) : Nat) : Int))))] [] E (by kernel_rfl) (by kernel_rfl) trivial ?_
  clear E; intro a E
  refine wpList_nil ?_
  refine th_n ?_
  refine E.cases (t := 25) rfl (fun hb_ E_ => ?_) (fun hb_ E_ => ?_)
  ·
   replace E := E_; clear E_
   have h321 : i171 < (((List.length out164) : Nat) : Int) := of_decide_eq_true hb_
   clear hb_; replace hP := ite_t h321 hP
   refine c_true E rfl ?_
   refine wp_skip ?_
   refine th_n ?_
   refine wp_seq ?_
   refine wp_block ?_
   refine wp_seq ?_
   refine wp_region_lit ?_
   refine vn tbok 1 [] [(10, .int .i64 0)] [] E (by kernel_rfl) (by kernel_rfl) trivial ?_
   clear E; intro a E
   refine wpList_nil ?_
   refine th_n ?_
   refine wp_block ?_
   obtain ⟨x456, hL457, hK458⟩ := bind_inv hP
   clear hP
   refine loop_cut (fun i_ a w_ => (i_ = 2 ∧ ∃ (x461 : (List Int) × (List Int) × (List Bool)), ∃ (A449 : Option Addr) (c450 : Nat) (A452 : Option Addr) (c453 : Nat), Fr a 65 [(2, .pointer (some ⟨g13, 0, none⟩)), (6, .slice A449 (List.length x461.1) c450), (7, .slice A452 (List.length x461.2.1) c453), (8, .slice (some ⟨g29, 0, none⟩) (List.length x461.2.2) (Int.toNat (((List.length aAccept) : Nat) : Int))), (9, .int .i64 i171)] ∧ Hp S Fa w0 w_ [.ro false cBool A1 aAccept, .ro false (cInt .i64) A5 aGuard, .ro false cNode A9 aNodes, .box g13 43 [.int .i64 aProps, .slice A1 (List.length aAccept) c2, .slice A5 (List.length aGuard) c6, .slice A9 (List.length aNodes) c10], .row true (cInt .i64) 3 A449 c450 x461.1, .row true (cInt .i64) 3 A452 c453 x461.2.1, .rowx true cBool 4 (some ⟨g29, 0, none⟩) (Int.toNat (((List.length aAccept) : Nat) : Int)) x461.2.2 (List.replicate (Int.toNat (((List.length aAccept) : Nat) : Int) - Int.toNat (((List.length aAccept) : Nat) : Int)) (false : Bool))] ∧ x456 = x461)) ?_ ?_
   ·
    refine loopV (fun m460 a w459 => ∃ (out380 : List Int) (far383 : List Int) (seen386 : List Bool) (l387 : Int), ∃ (A381 : Option Addr) (c382 : Nat) (A384 : Option Addr) (c385 : Nat), Fr a 65 [(2, .pointer (some ⟨g13, 0, none⟩)), (6, .slice A381 (List.length out380) c382), (7, .slice A384 (List.length far383) c385), (8, .slice (some ⟨g29, 0, none⟩) (List.length seen386) (Int.toNat (((List.length aAccept) : Nat) : Int))), (9, .int .i64 i171), (10, .int .i64 l387)] ∧ Hp S Fa w0 w459 [.ro false cBool A1 aAccept, .ro false (cInt .i64) A5 aGuard, .ro false cNode A9 aNodes, .box g13 43 [.int .i64 aProps, .slice A1 (List.length aAccept) c2, .slice A5 (List.length aGuard) c6, .slice A9 (List.length aNodes) c10], .row true (cInt .i64) 3 A381 c382 out380, .row true (cInt .i64) 3 A384 c385 far383, .rowx true cBool 4 (some ⟨g29, 0, none⟩) (Int.toNat (((List.length aAccept) : Nat) : Int)) seen386 (List.replicate (Int.toNat (((List.length aAccept) : Nat) : Int) - Int.toNat (((List.length aAccept) : Nat) : Int)) (false : Bool))] ∧ ref21_reached_l1 N aProps aAccept aGuard aNodes i171 m460 out380 far383 seen386 l387 = some x456) N ?_ ?_
    ·
     exact ⟨out164, far167, seen170, 0, A165, c166, A168, c169, E.pick _ ⟨rfl, rfl, rfl, rfl, rfl, rfl, trivial⟩, H.sel [0, 1, 2, 3, 4, 5, 6] rfl, hL457⟩
    clear E H hL457; intro m460 a w459 hI_
    obtain ⟨out380, far383, seen386, l387, A381, c382, A384, c385, E, H, hP⟩ := hI_
    obtain ⟨m455, rfl⟩ : ∃ q_, m460 = q_ + 1 := by cases m460 with | zero => rw [ref21_reached_l1] at hP; cases hP | succ q_ => exact ⟨q_, rfl⟩
    rw [ref21_reached_l1] at hP
    refine wp_seq ?_
    refine wp_seq ?_
    refine wp_region_lit ?_
    obtain ⟨g462, hP⟩ := ask_inv hP
    refine vn tbok 5 [.int .i64 aProps, .int .i64 (shlV .i64 1 aProps)] [(32, .bool (decide (l387 < (shlV .i64 1 aProps))))] [World.cell? w459 ⟨g13, 0, none⟩ = some (.int .i64 aProps), 0 ≤ aProps ∧ IntKind.i64.wrap (1 * 2 ^ (min (Int.toNat aProps) (IntKind.bits .i64))) = shlV .i64 1 aProps] E (by kernel_rfl) (by kernel_rfl) ⟨(H.box 3 rfl).cell (j := 0) rfl, ⟨g462, rfl⟩⟩ ?_
    clear E; intro a E
    refine wpList_nil ?_
    refine th_n ?_
    refine E.cases (t := 32) rfl (fun hb_ E_ => ?_) (fun hb_ E_ => ?_)
    ·
     replace E := E_; clear E_
     have h463 : l387 < (shlV .i64 1 aProps) := of_decide_eq_true hb_
     clear hb_; replace hP := ite_t h463 hP
     refine c_true E rfl ?_
     refine wp_skip ?_
     refine th_n ?_
     refine wp_seq ?_
     refine wp_block ?_
     refine wp_seq ?_
     obtain ⟨g464, hP⟩ := ask_inv hP
     obtain ⟨b465, e_b465⟩ := H.raddr 4 rfl (idx_pos g464)
     subst e_b465
     obtain ⟨r467, h468, hP⟩ := bind_inv hP
     have HR479 := H
     refine dr_start (S := fun w_ => Chg (atL []) w459 w_) (by kernel_rfl) ?_
     intro w476 hc477
     have HS478 : Chg (atL []) w459 w476 := hc477.mono (fun _ _ h_ => h_.elim)
     replace H := H.ext hc477
     refine dn tbok (by kernel_rfl) [0, 1, 2, 3, 4, 5, 6] [.agg #[.int .i64 aProps, .slice A1 (List.length aAccept) c2, .slice A5 (List.length aGuard) c6, .slice A9 (List.length aNodes) c10], .int .i64 (List.getD out380 (Int.toNat i171) 0), .int .u8 (IntKind.u8.wrap l387)] [(35, .agg #[.int .i64 aProps, .slice A1 (List.length aAccept) c2, .slice A5 (List.length aGuard) c6, .slice A9 (List.length aNodes) c10]), (39, .int .i64 (List.getD out380 (Int.toNat i171) 0)), (41, .int .u8 (IntKind.u8.wrap l387))] (fun w_ => [cellsAt w_ g13 (0) [.int .i64 aProps, .slice A1 (List.length aAccept) c2, .slice A5 (List.length aGuard) c6, .slice A9 (List.length aNodes) c10], 0 ≤ i171 ∧ i171 < (((List.length out380) : Nat) : Int), World.cell? w_ ⟨b465, 0 + (Int.toNat i171) * 1, none⟩ = some (.int .i64 (List.getD out380 (Int.toNat i171) 0)), IntKind.u8.wrap l387 = (IntKind.u8.wrap l387)]) 2 E (fun _ _ => by kernel_rfl) (by kernel_rfl) (fun w_ hS_ => ⟨(HR479.boxk [] hS_ 3 rfl rfl).sub 0 _ rfl, g464, Rds.at1 (HR479.rdk [] hS_ 4 rds_row rfl) 0 g464, rfl⟩) (by kernel_rfl) HS478 ?_
     clear E; intro a E
     refine wpAnyH_all (rs := [7]) (by kernel_rfl) (by simp) ?_
     refine all1 ?_
     refine wpOp_of_list rfl ?_
     obtain ⟨Fa480, Hc481, hb482⟩ := H.call [] [(0, false), (1, false), (2, false)] rfl rfl trivial
     refine e_call E rfl rfl Try.func56 rfl rfl rfl (ref14_Next_calls A1 c2 A5 c6 A9 c10 aProps aAccept aGuard aNodes (List.getD out380 (Int.toNat i171) 0) (IntKind.u8.wrap l387) hk3 hk7 hk11 Hc481 h468) ?_
     rintro v483 w484 a ⟨rfl, HR485⟩ E_
     replace E := E_ _ rfl; clear E_
     obtain ⟨H_, hc486⟩ := hb482 _ _ HR485 rfl
     replace HS478 := HS478.ext (callS_ext hc486)
     replace H := H_; clear H_; try dsimp only [setn, addE, goneL] at H
     refine wpList_nil ?_
     refine th_n ⟨HS478, ?_⟩
     refine dn tbok (by kernel_rfl) [8] [] [(11, .int .i64 r467)] (fun w_ => []) 0 E (fun _ _ => by kernel_rfl) (by kernel_rfl) (fun w_ hS_ => trivial) (by kernel_rfl) HS478 ?_
     clear E; intro a E
     refine dr_done (by kernel_rfl) ?_
     clear HS478 HR479
     refine th_n ?_
     refine wp_seq ?_
     refine wp_region_lit ?_
     obtain ⟨g487, hP⟩ := ask_inv hP
     refine vn tbok 5 [.bool (List.getD seen386 (Int.toNat r467) false)] [(47, .bool (!(List.getD seen386 (Int.toNat r467) false)))] [0 ≤ r467 ∧ r467 < (((List.length seen386) : Nat) : Int), World.cell? w484 ⟨g29, 0 + (Int.toNat r467) * 1, none⟩ = some (.bool (List.getD seen386 (Int.toNat r467) false))] E (by kernel_rfl) (by kernel_rfl) ⟨g487, Rds.at1 (H.rd 6 rds_rowx) false g487⟩ ?_
     clear E; intro a E
     refine wpList_nil ?_
     refine th_n ?_
     refine E.cases (t := 47) rfl (fun hb_ E_ => ?_) (fun hb_ E_ => ?_)
     ·
      replace E := E_; clear E_
      have h488 : ¬ ((List.getD seen386 (Int.toNat r467) false) = true) := (ne_true_of_eq_false (not_t hb_))
      clear hb_; replace hP := ite_f h488 hP
      refine c_true E rfl ?_
      refine wp_seq ?_
      refine wp_region_lit ?_
      refine vn tbok 3 [] [(50, .pointer (some ⟨g29, 0 + (Int.toNat r467) * 1, none⟩))] [0 ≤ r467 ∧ r467 < (((List.length seen386) : Nat) : Int)] E (by kernel_rfl) (by kernel_rfl) (g487) ?_
      clear E; intro a E
      refine h_setx (g := g29) (i := r467) true H 6 rfl E rfl rfl rfl rfl tbok rfl (fun _ HF_ => rfl) rfl g487 rfl ?_
      clear E; intro w489 a hc490 H_ E
      replace H := H_; clear H_; try dsimp only [setn, addE, goneL] at H
      have hn491 : (List.length seen386) = (List.length (List.set seen386 (Int.toNat r467) true)) := by simp only [List.length_set]
      replace E := E.same (t := 8) (u := .slice (some ⟨g29, 0, none⟩) (List.length (List.set seen386 (Int.toNat r467) true)) (Int.toNat (((List.length aAccept) : Nat) : Int))) rfl (congrArg (fun n_ => Value.slice (some ⟨g29, 0, none⟩) n_ (Int.toNat (((List.length aAccept) : Nat) : Int))) hn491)
      refine wpList_nil ?_
      refine th_n ?_
      refine wp_seq ?_
      refine wp_region_lit ?_
      refine vn tbok 2 [] [(51, .slice (some ⟨b465, 0, none⟩) (List.length out380) c382), (52, .int .i64 r467)] [] E (by kernel_rfl) (by kernel_rfl) trivial ?_
      clear E; intro a E
      refine h_buildSlice (ps := [(0, .int .i64 r467)]) (cs := [.int .i64 r467]) H E rfl rfl tbok rfl rfl (by kernel_rfl) ?_
      intro w493 g492 a hc494 hg496 H_ E_
      replace E := E_ _ rfl; clear E_
      replace H := H_; clear H_; try dsimp only [setn, addE, goneL] at H
      obtain ⟨g497, hP⟩ := ask_inv hP
      refine h_append (cInt .i64) (xs := out380) (ys := ([r467] : List Int)) (0 : Int) H 4 rfl E rfl rfl tbok rfl rfl rfl rfl rfl (fun _ _ => rfl) rfl rfl (fun _ HF_ => HF_.srcB 7 rfl (⟨_, _, rfl, rfl, rfl⟩)) g497 ?_
      intro w498 A499 c500 a hc501 hA502 H_ E_
      replace E := E_ _ rfl; clear E_
      replace H := H_; clear H_; try dsimp only [setn, addE, goneL] at H
      refine vn tbok 1 [] [(6, .slice A499 (List.length (out380 ++ ([r467] : List Int))) c500)] [] E (by kernel_rfl) (by kernel_rfl) trivial ?_
      clear E; intro a E
      refine wpList_nil ?_
      refine th_n ?_
      refine wp_region_lit ?_
      obtain ⟨g503, hP⟩ := ask_inv hP
      obtain ⟨b504, e_b504⟩ := H.raddr 5 rfl (idx_pos g503)
      subst e_b504
      obtain ⟨g506, hP⟩ := ask_inv hP
      refine vn tbok 6 [.int .i64 (List.getD far383 (Int.toNat i171) 0), .int .i64 ((List.getD far383 (Int.toNat i171) 0) + 1)] [(55, .slice (some ⟨b504, 0, none⟩) (List.length far383) c385), (60, .int .i64 ((List.getD far383 (Int.toNat i171) 0) + 1))] [0 ≤ i171 ∧ i171 < (((List.length far383) : Nat) : Int), World.cell? w498 ⟨b504, 0 + (Int.toNat i171) * 1, none⟩ = some (.int .i64 (List.getD far383 (Int.toNat i171) 0)), IntKind.i64.wrap ((List.getD far383 (Int.toNat i171) 0) + 1) = (List.getD far383 (Int.toNat i171) 0) + 1] E (by kernel_rfl) (by kernel_rfl) ⟨g503, Rds.at1 (H.rd 5 rds_row) 0 g503, wrap_in g506⟩ ?_
      clear E; intro a E
      refine h_buildSlice (ps := [(0, .int .i64 ((List.getD far383 (Int.toNat i171) 0) + 1))]) (cs := [.int .i64 ((List.getD far383 (Int.toNat i171) 0) + 1)]) H E rfl rfl tbok rfl rfl (by kernel_rfl) ?_
      intro w508 g507 a hc509 hg511 H_ E_
      replace E := E_ _ rfl; clear E_
      replace H := H_; clear H_; try dsimp only [setn, addE, goneL] at H
      obtain ⟨g512, hP⟩ := ask_inv hP
      refine h_append (cInt .i64) (xs := far383) (ys := ([(List.getD far383 (Int.toNat i171) 0) + 1] : List Int)) (0 : Int) H 5 rfl E rfl rfl tbok rfl rfl rfl rfl rfl (fun _ _ => rfl) rfl rfl (fun _ HF_ => HF_.srcB 8 rfl (⟨_, _, rfl, rfl, rfl⟩)) g512 ?_
      intro w513 A514 c515 a hc516 hA517 H_ E_
      replace E := E_ _ rfl; clear E_
      replace H := H_; clear H_; try dsimp only [setn, addE, goneL] at H
      refine vn tbok 1 [] [(7, .slice A514 (List.length (far383 ++ ([(List.getD far383 (Int.toNat i171) 0) + 1] : List Int))) c515)] [] E (by kernel_rfl) (by kernel_rfl) trivial ?_
      clear E; intro a E
      refine wpList_nil ?_
      refine bl_n ?_
      refine th_n ?_
      refine wp_region_lit ?_
      obtain ⟨g518, hP⟩ := ask_inv hP
      refine vn tbok 3 [.int .i64 (l387 + 1)] [(10, .int .i64 (l387 + 1))] [IntKind.i64.wrap (l387 + 1) = l387 + 1] E (by kernel_rfl) (by kernel_rfl) (wrap_in g518) ?_
      clear E; intro a E
      refine wpList_nil ?_
      exact th_n ⟨m455, Nat.lt_succ_self _, out380 ++ ([r467] : List Int), far383 ++ ([(List.getD far383 (Int.toNat i171) 0) + 1] : List Int), List.set seen386 (Int.toNat r467) true, l387 + 1, A499, c500, A514, c515, E.pick _ ⟨rfl, rfl, rfl, rfl, rfl, rfl, trivial⟩, H.sel [0, 1, 2, 3, 4, 5, 6] rfl, hP⟩
     replace E := E_; clear E_
     have h519 : (List.getD seen386 (Int.toNat r467) false) = true := (not_f hb_)
     clear hb_; replace hP := ite_t h519 hP
     refine c_false E rfl ?_
     refine wp_skip ?_
     refine bl_n ?_
     refine th_n ?_
     refine wp_region_lit ?_
     obtain ⟨g520, hP⟩ := ask_inv hP
     refine vn tbok 3 [.int .i64 (l387 + 1)] [(10, .int .i64 (l387 + 1))] [IntKind.i64.wrap (l387 + 1) = l387 + 1] E (by kernel_rfl) (by kernel_rfl) (wrap_in g520) ?_
     clear E; intro a E
     refine wpList_nil ?_
     exact th_n ⟨m455, Nat.lt_succ_self _, out380, far383, seen386, l387 + 1, (some ⟨b465, 0, none⟩), c382, A384, c385, E.pick _ ⟨rfl, rfl, rfl, rfl, rfl, rfl, trivial⟩, H.sel [0, 1, 2, 3, 4, 5, 6] rfl, hP⟩
    replace E := E_; clear E_
    have h521 : ¬ (l387 < (shlV .i64 1 aProps)) := of_decide_eq_false hb_
    clear hb_; replace hP := ite_f h521 hP
    refine c_false E rfl ?_
    refine wp_exit ?_
    refine th_exit ?_
    have hx_ := Option.some.inj hP
    refine th_exit (.inl ⟨2, rfl, ?_⟩)
    exact ⟨rfl, (out380, far383, seen386), A381, c382, A384, c385, E.pick _ ⟨rfl, rfl, rfl, rfl, rfl, trivial⟩, H.sel [0, 1, 2, 3, 4, 5, 6] rfl, hx_.symm⟩
   clear E H hL457; intro i_ a w459 hM_
   obtain ⟨rfl, x461, A449, c450, A452, c453, E, H, hx_⟩ := hM_
   subst hx_; have hP := hK458; clear hK458
   refine bl_hit ?_
   refine bl_n ?_
   refine th_n ?_
   refine wp_region_lit ?_
   obtain ⟨g522, hP⟩ := ask_inv hP
   refine vn tbok 3 [.int .i64 (i171 + 1)] [(9, .int .i64 (i171 + 1))] [IntKind.i64.wrap (i171 + 1) = i171 + 1] E (by kernel_rfl) (by kernel_rfl) (wrap_in g522) ?_
   clear E; intro a E
   refine wpList_nil ?_
   exact th_n ⟨m314, Nat.lt_succ_self _, x456.1, x456.2.1, x456.2.2, i171 + 1, A449, c450, A452, c453, E.pick _ ⟨rfl, rfl, rfl, rfl, rfl, trivial⟩, H.sel [0, 1, 2, 3, 4, 5, 6] rfl, hP⟩
  replace E := E_; clear E_
  have h523 : ¬ (i171 < (((List.length out164) : Nat) : Int)) := of_decide_eq_false hb_
  clear hb_; replace hP := ite_f h523 hP
  refine c_false E rfl ?_
  refine wp_exit ?_
  refine th_exit ?_
  have hx_ := Option.some.inj hP
  refine th_exit (.inl ⟨0, rfl, ?_⟩)
  exact ⟨rfl, (out164, far167), A165, c166, A168, c169, E.pick _ ⟨rfl, rfl, trivial⟩, H.sel [4, 5] rfl, hx_.symm⟩
 clear E H hL316; intro i_ a w318 hM_
 obtain ⟨rfl, x320, A309, c310, A312, c313, E, H, hx_⟩ := hM_
 subst hx_; have hP := hK317; clear hK317
 refine bl_hit ?_
 refine th_n ?_
 refine wp_seq ?_
 refine wp_region_lit ?_
 refine vn tbok 4 [] [(4, .slice A309 (List.length x315.1) c310), (5, .slice A312 (List.length x315.2) c313)] [] E (by kernel_rfl) (by kernel_rfl) trivial ?_
 clear E; intro a E
 refine wpList_nil ?_
 refine th_n ?_
 refine wp_ret ?_
 obtain rfl := Option.some.inj hP
 refine ret2 E rfl rfl rfl ?_
 exact ⟨_, rfl, A309, c310, A312, c313, rfl, H.sel [0, 1] rfl⟩

/-! rejoinder/rejoinderref21.Verdict -/
def ref21_Verdict_l0 (N : Nat) (aAccept : List Bool) (r18 : (List Int) × (List Int)) : Nat → Int → Int → Option Int
  | 0, _, _ => none
  | m67 + 1, n47, i48 =>
    if i48 < (((List.length r18.1) : Nat) : Int) then
      ask (idx i48 (List.length r18.1)) <|
      ask (idx (List.getD r18.1 (Int.toNat i48) 0) (List.length aAccept)) <|
      if (List.getD aAccept (Int.toNat (List.getD r18.1 (Int.toNat i48) 0)) false) = true then
        ask (in64 (n47 + 1)) <|
        ask (in64 (i48 + 1)) <|
        ref21_Verdict_l0 N aAccept r18 m67 (n47 + 1) (i48 + 1)
      else
        ask (in64 (i48 + 1)) <|
        ref21_Verdict_l0 N aAccept r18 m67 n47 (i48 + 1)
    else
      some n47
def ref21_Verdict (N : Nat) (aProps : Int) (aAccept : List Bool) (aGuard : List Int) (aNodes : List Nd) (q : Int) : Option Int :=
  Option.bind (ref21_reached N aProps aAccept aGuard aNodes q) fun r18 =>
  Option.bind (ref21_Verdict_l0 N aAccept r18 N 0 0) fun x68 =>
  if (x68 : Int) = (((List.length r18.1) : Nat) : Int) then
    some 3
  else
    if (x68 : Int) = 0 then
      some 2
    else
      ask (idx q (List.length aAccept)) <|
      if (List.getD aAccept (Int.toNat q) false) = true then
        some 1
      else
        some 0
set_option maxRecDepth 100000 in
set_option maxHeartbeats 4000000 in
theorem ref21_Verdict_calls {N : Nat} {S Fa : Nat → Prop} {w0 : World} {r : Int} (A1 : Option Addr) (c2 : Nat) (A5 : Option Addr) (c6 : Nat) (A9 : Option Addr) (c10 : Nat) (aProps : Int) (aAccept : List Bool) (aGuard : List Int) (aNodes : List Nd) (q : Int) (hk3 : List.length aAccept ≤ c2) (hk7 : List.length aGuard ≤ c6) (hk11 : List.length aNodes ≤ c10) (H : Hp S Fa w0 w0 [.ro false cBool A1 aAccept, .ro false (cInt .i64) A5 aGuard, .ro false cNode A9 aNodes]) (hP : ref21_Verdict N aProps aAccept aGuard aNodes q = some r) :
    Calls Try.prog 40 #[.agg #[.int .i64 aProps, .slice A1 (List.length aAccept) c2, .slice A5 (List.length aGuard) c6, .slice A9 (List.length aNodes) c10], .int .i64 q] w0 fun e w' => ∃ v, e = .returned v ∧ v = .int .u8 r ∧ Hp S Fa w0 w' [] := by
 refine enterV (n := 42) Try.func40 rfl rfl rfl ?_
 intro a E
 replace E := E.pick [(0, .agg #[.int .i64 aProps, .slice A1 (List.length aAccept) c2, .slice A5 (List.length aGuard) c6, .slice A9 (List.length aNodes) c10]), (1, .int .i64 q)] ⟨rfl, rfl, trivial⟩
 rw [ref21_Verdict] at hP
 refine wp_seq ?_
 refine wp_region_lit ?_
 refine h_box H E rfl rfl rfl ?_
 intro w14 g13 a hc15 hg17 H_ E_
 replace E := E_ _ rfl; clear E_
 replace H := H_; clear H_; try dsimp only [setn, addE, goneL] at H
 refine vn tbok 1 [] [] [] E (by kernel_rfl) (by kernel_rfl) trivial ?_
 clear E; intro a E
 refine wpList_nil ?_
 refine th_n ?_
 refine wp_seq ?_
 refine wp_region_lit ?_
 refine vn tbok 2 [.agg #[.int .i64 aProps, .slice A1 (List.length aAccept) c2, .slice A5 (List.length aGuard) c6, .slice A9 (List.length aNodes) c10]] [(10, .agg #[.int .i64 aProps, .slice A1 (List.length aAccept) c2, .slice A5 (List.length aGuard) c6, .slice A9 (List.length aNodes) c10]), (11, .int .i64 q)] [cellsAt w14 g13 (0) [.int .i64 aProps, .slice A1 (List.length aAccept) c2, .slice A5 (List.length aGuard) c6, .slice A9 (List.length aNodes) c10]] E (by kernel_rfl) (by kernel_rfl) ((H.box 3 rfl).sub 0 _ rfl) ?_
 clear E; intro a E
 obtain ⟨r18, h19, hP⟩ := bind_inv hP
 obtain ⟨Fa20, Hc21, hb22⟩ := H.call [] [(0, false), (1, false), (2, false)] rfl rfl trivial
 refine e_call E rfl rfl Try.func55 rfl rfl rfl (ref21_reached_calls A1 c2 A5 c6 A9 c10 aProps aAccept aGuard aNodes q hk3 hk7 hk11 Hc21 h19) ?_
 rintro v23 w24 a ⟨A27, c28, A30, c31, rfl, HR25⟩ E_
 replace E := E_ _ rfl; clear E_
 obtain ⟨H_, hc26⟩ := hb22 _ _ HR25 rfl
 replace H := H_; clear H_; try dsimp only [setn, addE, goneL] at H
 refine vn tbok 5 [] [(5, .slice A27 (List.length r18.1) c28)] [] E (by kernel_rfl) (by kernel_rfl) trivial ?_
 clear E; intro a E
 refine wpList_nil ?_
 refine th_n ?_
 refine wp_seq ?_
 refine wp_region_lit ?_
 refine vn tbok 1 [] [(7, .int .i64 0)] [] E (by kernel_rfl) (by kernel_rfl) trivial ?_
 clear E; intro a E
 refine wpList_nil ?_
 refine th_n ?_
 refine wp_seq ?_
 refine wp_seq ?_
 refine wp_region_lit ?_
 refine vn tbok 1 [] [(8, .int .i64 0)] [] E (by kernel_rfl) (by kernel_rfl) trivial ?_
 clear E; intro a E
 refine wpList_nil ?_
 refine th_n ?_
 refine wp_block ?_
 obtain ⟨x68, hL69, hK70⟩ := bind_inv hP
 clear hP
 refine loop_cut (fun i_ a w_ => (i_ = 0 ∧ ∃ (x73 : Int), Fr a 42 [(1, .int .i64 q), (2, .pointer (some ⟨g13, 0, none⟩)), (5, .slice A27 (List.length r18.1) c28), (7, .int .i64 x73)] ∧ Hp S Fa w0 w_ [.ro false cBool A1 aAccept, .ro false (cInt .i64) A5 aGuard, .ro false cNode A9 aNodes, .box g13 43 [.int .i64 aProps, .slice A1 (List.length aAccept) c2, .slice A5 (List.length aGuard) c6, .slice A9 (List.length aNodes) c10], .row true (cInt .i64) 3 A27 c28 r18.1] ∧ x68 = x73)) ?_ ?_
 ·
  refine loopV (fun m72 a w71 => ∃ (n47 : Int) (i48 : Int), Fr a 42 [(1, .int .i64 q), (2, .pointer (some ⟨g13, 0, none⟩)), (5, .slice A27 (List.length r18.1) c28), (7, .int .i64 n47), (8, .int .i64 i48)] ∧ Hp S Fa w0 w71 [.ro false cBool A1 aAccept, .ro false (cInt .i64) A5 aGuard, .ro false cNode A9 aNodes, .box g13 43 [.int .i64 aProps, .slice A1 (List.length aAccept) c2, .slice A5 (List.length aGuard) c6, .slice A9 (List.length aNodes) c10], .row true (cInt .i64) 3 A27 c28 r18.1] ∧ ref21_Verdict_l0 N aAccept r18 m72 n47 i48 = some x68) N ?_ ?_
  ·
   exact ⟨0, 0, E.pick _ ⟨rfl, rfl, rfl, rfl, rfl, trivial⟩, H.sel [0, 1, 2, 3, 4] rfl, hL69⟩
  clear E H hL69; intro m72 a w71 hI_
  obtain ⟨n47, i48, E, H, hP⟩ := hI_
  obtain ⟨m67, rfl⟩ : ∃ q_, m72 = q_ + 1 := by cases m72 with | zero => rw [ref21_Verdict_l0] at hP; cases hP | succ q_ => exact ⟨q_, rfl⟩
  rw [ref21_Verdict_l0] at hP
  refine wp_seq ?_
  refine wp_seq ?_
  refine wp_region_lit ?_
  refine vn tbok 4 [] [(18, .bool (decide (i48 < (((List.length r18.1) : Nat) : Int))))] [] E (by kernel_rfl) (by kernel_rfl) trivial ?_
  clear E; intro a E
  refine wpList_nil ?_
  refine th_n ?_
  refine E.cases (t := 18) rfl (fun hb_ E_ => ?_) (fun hb_ E_ => ?_)
  ·
   replace E := E_; clear E_
   have h74 : i48 < (((List.length r18.1) : Nat) : Int) := of_decide_eq_true hb_
   clear hb_; replace hP := ite_t h74 hP
   refine c_true E rfl ?_
   refine wp_skip ?_
   refine th_n ?_
   refine wp_seq ?_
   refine wp_block ?_
   refine wp_seq ?_
   obtain ⟨g75, hP⟩ := ask_inv hP
   obtain ⟨b76, e_b76⟩ := H.raddr 4 rfl (idx_pos g75)
   subst e_b76
   obtain ⟨g78, hP⟩ := ask_inv hP
   obtain ⟨b79, o80, e_b79⟩ := (H.rd 0 rds_ro).addr (idx_pos g78)
   subst e_b79
   have HR84 := H
   refine dr_start (S := fun w_ => Chg (atL []) w71 w_) (by kernel_rfl) ?_
   intro w81 hc82
   have HS83 : Chg (atL []) w71 w81 := hc82.mono (fun _ _ h_ => h_.elim)
   replace H := H.ext hc82
   refine dn tbok (by kernel_rfl) [0, 1, 2, 3, 4, 5, 6, 7] [.slice (some ⟨b79, o80, none⟩) (List.length aAccept) c2, .int .i64 (List.getD r18.1 (Int.toNat i48) 0), .bool (List.getD aAccept (Int.toNat (List.getD r18.1 (Int.toNat i48) 0)) false)] [(28, .bool (List.getD aAccept (Int.toNat (List.getD r18.1 (Int.toNat i48) 0)) false))] (fun w_ => [World.cell? w_ ⟨g13, 1, none⟩ = some (.slice (some ⟨b79, o80, none⟩) (List.length aAccept) c2), 0 ≤ i48 ∧ i48 < (((List.length r18.1) : Nat) : Int), World.cell? w_ ⟨b76, 0 + (Int.toNat i48) * 1, none⟩ = some (.int .i64 (List.getD r18.1 (Int.toNat i48) 0)), 0 ≤ (List.getD r18.1 (Int.toNat i48) 0) ∧ (List.getD r18.1 (Int.toNat i48) 0) < (((List.length aAccept) : Nat) : Int), World.cell? w_ ⟨b79, o80 + (Int.toNat (List.getD r18.1 (Int.toNat i48) 0)) * 1, none⟩ = some (.bool (List.getD aAccept (Int.toNat (List.getD r18.1 (Int.toNat i48) 0)) false))]) 0 E (fun _ _ => by kernel_rfl) (by kernel_rfl) (fun w_ hS_ => ⟨(HR84.boxk [] hS_ 3 rfl rfl).cell (j := 1) rfl, g75, Rds.at1 (HR84.rdk [] hS_ 4 rds_row rfl) 0 g75, g78, Rds.at1 (HR84.rdk [] hS_ 0 rds_ro rfl) false g78⟩) (by kernel_rfl) HS83 ?_
   clear E; intro a E
   refine dr_done (by kernel_rfl) ?_
   clear HS83 HR84
   refine th_n ?_
   refine E.cases (t := 28) rfl (fun hb_ E_ => ?_) (fun hb_ E_ => ?_)
   ·
    replace E := E_; clear E_
    have h85 : (List.getD aAccept (Int.toNat (List.getD r18.1 (Int.toNat i48) 0)) false) = true := hb_
    clear hb_; replace hP := ite_t h85 hP
    refine c_true E rfl ?_
    refine wp_region_lit ?_
    obtain ⟨g86, hP⟩ := ask_inv hP
    refine vn tbok 3 [.int .i64 (n47 + 1)] [(7, .int .i64 (n47 + 1))] [IntKind.i64.wrap (n47 + 1) = n47 + 1] E (by kernel_rfl) (by kernel_rfl) (wrap_in g86) ?_
    clear E; intro a E
    refine wpList_nil ?_
    refine bl_n ?_
    refine th_n ?_
    refine wp_region_lit ?_
    obtain ⟨g87, hP⟩ := ask_inv hP
    refine vn tbok 3 [.int .i64 (i48 + 1)] [(8, .int .i64 (i48 + 1))] [IntKind.i64.wrap (i48 + 1) = i48 + 1] E (by kernel_rfl) (by kernel_rfl) (wrap_in g87) ?_
    clear E; intro a E
    refine wpList_nil ?_
    exact th_n ⟨m67, Nat.lt_succ_self _, n47 + 1, i48 + 1, E.pick _ ⟨rfl, rfl, rfl, rfl, rfl, trivial⟩, H.sel [0, 1, 2, 3, 4] rfl, hP⟩
   replace E := E_; clear E_
   have h88 : ¬ ((List.getD aAccept (Int.toNat (List.getD r18.1 (Int.toNat i48) 0)) false) = true) := (ne_true_of_eq_false hb_)
   clear hb_; replace hP := ite_f h88 hP
   refine c_false E rfl ?_
   refine wp_skip ?_
   refine bl_n ?_
   refine th_n ?_
   refine wp_region_lit ?_
   obtain ⟨g89, hP⟩ := ask_inv hP
   refine vn tbok 3 [.int .i64 (i48 + 1)] [(8, .int .i64 (i48 + 1))] [IntKind.i64.wrap (i48 + 1) = i48 + 1] E (by kernel_rfl) (by kernel_rfl) (wrap_in g89) ?_
   clear E; intro a E
   refine wpList_nil ?_
   exact th_n ⟨m67, Nat.lt_succ_self _, n47, i48 + 1, E.pick _ ⟨rfl, rfl, rfl, rfl, rfl, trivial⟩, H.sel [0, 1, 2, 3, 4] rfl, hP⟩
  replace E := E_; clear E_
  have h90 : ¬ (i48 < (((List.length r18.1) : Nat) : Int)) := of_decide_eq_false hb_
  clear hb_; replace hP := ite_f h90 hP
  refine c_false E rfl ?_
  refine wp_exit ?_
  refine th_exit ?_
  have hx_ := Option.some.inj hP
  refine th_exit (.inl ⟨0, rfl, ?_⟩)
  exact ⟨rfl, n47, E.pick _ ⟨rfl, rfl, rfl, rfl, trivial⟩, H.sel [0, 1, 2, 3, 4] rfl, hx_.symm⟩
 clear E H hL69; intro i_ a w71 hM_
 obtain ⟨rfl, x73, E, H, hx_⟩ := hM_
 subst hx_; have hP := hK70; clear hK70
 refine bl_hit ?_
 refine th_n ?_
 refine wp_seq ?_
 refine wp_seq ?_
 refine wp_region_lit ?_
 refine vn tbok 4 [] [(34, .bool ((x68 : Int) == (((List.length r18.1) : Nat) : Int)))] [] E (by kernel_rfl) (by kernel_rfl) trivial ?_
 clear E; intro a E
 refine wpList_nil ?_
 refine th_n ?_
 refine E.cases (t := 34) rfl (fun hb_ E_ => ?_) (fun hb_ E_ => ?_)
 ·
  replace E := E_; clear E_
  have h91 : (x68 : Int) = (((List.length r18.1) : Nat) : Int) := eq_of_beq hb_
  clear hb_; replace hP := ite_t h91 hP
  refine c_true E rfl ?_
  refine wp_seq ?_
  refine wp_region_lit ?_
  refine vn tbok 1 [] [(4, .int .u8 3)] [] E (by kernel_rfl) (by kernel_rfl) trivial ?_
  clear E; intro a E
  refine wpList_nil ?_
  refine th_n ?_
  refine wp_ret ?_
  refine th_ret ?_
  obtain rfl := Option.some.inj hP
  refine ret1 E rfl rfl ?_
  exact ⟨_, rfl, rfl, H.sel [] rfl⟩
 replace E := E_; clear E_
 have h92 : ¬ ((x68 : Int) = (((List.length r18.1) : Nat) : Int)) := ne_of_beq_false hb_
 clear hb_; replace hP := ite_f h92 hP
 refine c_false E rfl ?_
 refine wp_skip ?_
 refine th_n ?_
 refine wp_seq ?_
 refine wp_seq ?_
 refine wp_region_lit ?_
 refine vn tbok 2 [] [(36, .bool ((x68 : Int) == 0))] [] E (by kernel_rfl) (by kernel_rfl) trivial ?_
 clear E; intro a E
 refine wpList_nil ?_
 refine th_n ?_
 refine E.cases (t := 36) rfl (fun hb_ E_ => ?_) (fun hb_ E_ => ?_)
 ·
  replace E := E_; clear E_
  have h93 : (x68 : Int) = 0 := eq_of_beq hb_
  clear hb_; replace hP := ite_t h93 hP
  refine c_true E rfl ?_
  refine wp_seq ?_
  refine wp_region_lit ?_
  refine vn tbok 1 [] [(4, .int .u8 2)] [] E (by kernel_rfl) (by kernel_rfl) trivial ?_
  clear E; intro a E
  refine wpList_nil ?_
  refine th_n ?_
  refine wp_ret ?_
  refine th_ret ?_
  obtain rfl := Option.some.inj hP
  refine ret1 E rfl rfl ?_
  exact ⟨_, rfl, rfl, H.sel [] rfl⟩
 replace E := E_; clear E_
 have h94 : ¬ ((x68 : Int) = 0) := ne_of_beq_false hb_
 clear hb_; replace hP := ite_f h94 hP
 refine c_false E rfl ?_
 refine wp_skip ?_
 refine th_n ?_
 refine wp_seq ?_
 refine wp_seq ?_
 refine wp_region_lit ?_
 obtain ⟨g95, hP⟩ := ask_inv hP
 obtain ⟨b96, o97, e_b96⟩ := (H.rd 0 rds_ro).addr (idx_pos g95)
 subst e_b96
 refine vn tbok 5 [.slice (some ⟨b96, o97, none⟩) (List.length aAccept) c2, .bool (List.getD aAccept (Int.toNat q) false)] [(41, .bool (List.getD aAccept (Int.toNat q) false))] [World.cell? w71 ⟨g13, 1, none⟩ = some (.slice (some ⟨b96, o97, none⟩) (List.length aAccept) c2), 0 ≤ q ∧ q < (((List.length aAccept) : Nat) : Int), World.cell? w71 ⟨b96, o97 + (Int.toNat q) * 1, none⟩ = some (.bool (List.getD aAccept (Int.toNat q) false))] E (by kernel_rfl) (by kernel_rfl) ⟨(H.box 3 rfl).cell (j := 1) rfl, g95, Rds.at1 (H.rd 0 rds_ro) false g95⟩ ?_
 clear E; intro a E
 refine wpList_nil ?_
 refine th_n ?_
 refine E.cases (t := 41) rfl (fun hb_ E_ => ?_) (fun hb_ E_ => ?_)
 ·
  replace E := E_; clear E_
  have h98 : (List.getD aAccept (Int.toNat q) false) = true := hb_
  clear hb_; replace hP := ite_t h98 hP
  refine c_true E rfl ?_
  refine wp_seq ?_
  refine wp_region_lit ?_
  refine vn tbok 1 [] [(4, .int .u8 1)] [] E (by kernel_rfl) (by kernel_rfl) trivial ?_
  clear E; intro a E
  refine wpList_nil ?_
  refine th_n ?_
  refine wp_ret ?_
  refine th_ret ?_
  obtain rfl := Option.some.inj hP
  refine ret1 E rfl rfl ?_
  exact ⟨_, rfl, rfl, H.sel [] rfl⟩
 replace E := E_; clear E_
 have h99 : ¬ ((List.getD aAccept (Int.toNat q) false) = true) := (ne_true_of_eq_false hb_)
 clear hb_; replace hP := ite_f h99 hP
 refine c_false E rfl ?_
 refine wp_skip ?_
 refine th_n ?_
 refine wp_seq ?_
 refine wp_region_lit ?_
 refine vn tbok 1 [] [(4, .int .u8 0)] [] E (by kernel_rfl) (by kernel_rfl) trivial ?_
 clear E; intro a E
 refine wpList_nil ?_
 refine th_n ?_
 refine wp_ret ?_
 obtain rfl := Option.some.inj hP
 refine ret1 E rfl rfl ?_
 exact ⟨_, rfl, rfl, H.sel [] rfl⟩

end Go.V
