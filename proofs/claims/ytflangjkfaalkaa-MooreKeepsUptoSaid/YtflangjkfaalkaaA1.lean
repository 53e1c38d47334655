/- Plain functions, and the calls that give them. -/
import Derived.Test.YtflangjkfaalkaaA0
set_option linter.all false
set_option linter.unusedVariables false
set_option linter.unnecessarySimpa false
set_option linter.unusedSimpArgs false
namespace Go.V
open Go Go.Proofs
/-! rejoinder/guard.good -/
def guard_good (N : Nat) (aProps : Int) (aAccept : List Bool) (aGuard : List Int) (aNodes : List Nd) (ref : Int) (below : Int) (above : Int) : Option Bool :=
  if ref < 0 then
    ask (in64 (-(((List.length aAccept) : Nat) : Int))) <|
    some (decide ((-(((List.length aAccept) : Nat) : Int)) ≤ ref))
  else
    if ref < below then
      ask (idx ref (List.length aNodes)) <|
      some (decide (above < ((List.getD aNodes (Int.toNat ref) (default : Nd)).P)))
    else
      some false
set_option maxRecDepth 100000 in
set_option maxHeartbeats 4000000 in
theorem guard_good_calls {N : Nat} {S Fa : Nat → Prop} {w0 : World} {r : Bool} (A1 : Option Addr) (c2 : Nat) (A5 : Option Addr) (c6 : Nat) (A9 : Option Addr) (c10 : Nat) (aProps : Int) (aAccept : List Bool) (aGuard : List Int) (aNodes : List Nd) (ref : Int) (below : Int) (above : Int) (hk3 : List.length aAccept ≤ c2) (hk7 : List.length aGuard ≤ c6) (hk11 : List.length aNodes ≤ c10) (H : Hp S Fa w0 w0 [.ro false cBool A1 aAccept, .ro false (cInt .i64) A5 aGuard, .ro false cNode A9 aNodes]) (hP : guard_good N aProps aAccept aGuard aNodes ref below above = some r) :
    Calls Try.prog 78 #[.agg #[.int .i64 aProps, .slice A1 (List.length aAccept) c2, .slice A5 (List.length aGuard) c6, .slice A9 (List.length aNodes) c10], .int .i64 ref, .int .i64 below, .int .i64 above] w0 fun e w' => ∃ v, e = .returned v ∧ v = .bool r ∧ Hp S Fa w0 w' [] := by
 refine enterV (n := 30) Try.func78 rfl rfl rfl ?_
 intro a E
 replace E := E.pick [(0, .agg #[.int .i64 aProps, .slice A1 (List.length aAccept) c2, .slice A5 (List.length aGuard) c6, .slice A9 (List.length aNodes) c10]), (1, .int .i64 ref), (2, .int .i64 below), (3, .int .i64 above)] ⟨rfl, rfl, rfl, rfl, trivial⟩
 rw [guard_good] at hP
 refine wp_seq ?_
 refine wp_region_lit ?_
 refine h_box H E rfl rfl rfl ?_
 intro w14 g13 a hc15 hg17 H_ E_
 replace E := E_ _ rfl; clear E_
 replace H := H_; clear H_; try dsimp only [setn, addE, goneL] at H
 refine vn tbok 1 [] [] [] E (by kernel_rfl) (by kernel_rfl) trivial ?_
 clear E; intro a E
 refine wpList_nil ?_
 refine th_n ?_
 refine wp_seq ?_
 refine wp_seq ?_
 refine wp_region_lit ?_
 refine vn tbok 2 [] [(10, .bool (decide (ref < 0)))] [] E (by kernel_rfl) (by kernel_rfl) trivial ?_
 clear E; intro a E
 refine wpList_nil ?_
 refine th_n ?_
 refine E.cases (t := 10) rfl (fun hb_ E_ => ?_) (fun hb_ E_ => ?_)
 ·
  replace E := E_; clear E_
  have h18 : ref < 0 := of_decide_eq_true hb_
  clear hb_; replace hP := ite_t h18 hP
  refine c_true E rfl ?_
  refine wp_seq ?_
  refine wp_region_lit ?_
  obtain ⟨g19, hP⟩ := ask_inv hP
  refine vn tbok 7 [.slice A1 (List.length aAccept) c2, .int .i64 (-(((List.length aAccept) : Nat) : Int))] [(8, .bool (decide ((-(((List.length aAccept) : Nat) : Int)) ≤ ref)))] [World.cell? w14 ⟨g13, 1, none⟩ = some (.slice A1 (List.length aAccept) c2), IntKind.i64.wrap (0 - (((List.length aAccept) : Nat) : Int)) = -(((List.length aAccept) : Nat) : Int)] E (by kernel_rfl) (by kernel_rfl) ⟨(H.box 3 rfl).cell (j := 1) rfl, neg_in g19⟩ ?_
  clear E; intro a E
  refine wpList_nil ?_
  refine th_n ?_
  refine wp_ret ?_
  refine th_ret ?_
  obtain rfl := Option.some.inj hP
  refine ret1 E rfl rfl ?_
  exact ⟨_, rfl, rfl, H.sel [] rfl⟩
 replace E := E_; clear E_
 have h20 : ¬ (ref < 0) := of_decide_eq_false hb_
 clear hb_; replace hP := ite_f h20 hP
 refine c_false E rfl ?_
 refine wp_skip ?_
 refine th_n ?_
 refine wp_seq ?_
 refine wp_region_lit ?_
 refine vn tbok 4 [] [(20, .bool (decide (ref < below)))] [] E (by kernel_rfl) (by kernel_rfl) trivial ?_
 clear E; intro a E
 refine E.cases (t := 20) rfl (fun hb_ E_ => ?_) (fun hb_ E_ => ?_)
 ·
  replace E := E_; clear E_
  have h21 : ref < below := of_decide_eq_true hb_
  clear hb_; replace hP := ite_t h21 hP
  obtain ⟨g22, hP⟩ := ask_inv hP
  obtain ⟨b23, o24, e_b23⟩ := (H.rd 2 rds_ro).addr (idx_pos g22)
  subst e_b23
  refine vn tbok 10 [.slice (some ⟨b23, o24, none⟩) (List.length aNodes) c10, .int .i64 ((List.getD aNodes (Int.toNat ref) (default : Nd)).P)] [(8, .bool (decide (above < ((List.getD aNodes (Int.toNat ref) (default : Nd)).P))))] [World.cell? w14 ⟨g13, 3, none⟩ = some (.slice (some ⟨b23, o24, none⟩) (List.length aNodes) c10), 0 ≤ ref ∧ ref < (((List.length aNodes) : Nat) : Int), World.cell? w14 ⟨b23, o24 + (Int.toNat ref) * 3, none⟩ = some (.int .i64 ((List.getD aNodes (Int.toNat ref) (default : Nd)).P))] E (by kernel_rfl) (by kernel_rfl) ⟨(H.box 3 rfl).cell (j := 3) rfl, g22, (Rds.atP (H.rd 2 rds_ro) (default : Nd) g22).1⟩ ?_
  clear E; intro a E
  refine wpList_nil ?_
  refine th_n ?_
  refine wp_ret ?_
  obtain rfl := Option.some.inj hP
  refine ret1 E rfl rfl ?_
  exact ⟨_, rfl, rfl, H.sel [] rfl⟩
 replace E := E_; clear E_
 have h25 : ¬ (ref < below) := of_decide_eq_false hb_
 clear hb_; replace hP := ite_f h25 hP
 refine vn tbok 10 [] [(8, .bool false)] [] E (by kernel_rfl) (by kernel_rfl) trivial ?_
 clear E; intro a E
 refine wpList_nil ?_
 refine th_n ?_
 refine wp_ret ?_
 obtain rfl := Option.some.inj hP
 refine ret1 E rfl rfl ?_
 exact ⟨_, rfl, rfl, H.sel [] rfl⟩

/-! rejoinder/guard.Check -/
def guard_Check_l0 (N : Nat) (aProps : Int) (aAccept : List Bool) (aGuard : List Int) (aNodes : List Nd) : Nat → (List (Nd × Bool)) → Int → Option (Unit ⊕ Int)
  | 0, _, _ => none
  | m130 + 1, met81, x82 =>
    if x82 < (((List.length aNodes) : Nat) : Int) then
      ask (idx x82 (List.length aNodes)) <|
      if ((List.getD aNodes (Int.toNat x82) (default : Nd)).P) < 0 then
        some (Sum.inr 12)
      else
        if aProps ≤ ((List.getD aNodes (Int.toNat x82) (default : Nd)).P) then
          some (Sum.inr 12)
        else
          if ((List.getD aNodes (Int.toNat x82) (default : Nd)).Lo : Int) = (List.getD aNodes (Int.toNat x82) (default : Nd)).Hi then
            some (Sum.inr 12)
          else
            ask (ndOk (⟨(List.getD aNodes (Int.toNat x82) (default : Nd)).P, (List.getD aNodes (Int.toNat x82) (default : Nd)).Lo, (List.getD aNodes (Int.toNat x82) (default : Nd)).Hi⟩ : Nd)) <|
            if (Option.getD (mget met81 (⟨(List.getD aNodes (Int.toNat x82) (default : Nd)).P, (List.getD aNodes (Int.toNat x82) (default : Nd)).Lo, (List.getD aNodes (Int.toNat x82) (default : Nd)).Hi⟩ : Nd)) false) = true then
              some (Sum.inr 12)
            else
              Option.bind (guard_good N aProps aAccept aGuard aNodes ((List.getD aNodes (Int.toNat x82) (default : Nd)).Lo) x82 ((List.getD aNodes (Int.toNat x82) (default : Nd)).P)) fun r157 =>
              if r157 = true then
                Option.bind (guard_good N aProps aAccept aGuard aNodes ((List.getD aNodes (Int.toNat x82) (default : Nd)).Hi) x82 ((List.getD aNodes (Int.toNat x82) (default : Nd)).P)) fun r168 =>
                if r168 = true then
                  ask (mget met81 (⟨(List.getD aNodes (Int.toNat x82) (default : Nd)).P, (List.getD aNodes (Int.toNat x82) (default : Nd)).Lo, (List.getD aNodes (Int.toNat x82) (default : Nd)).Hi⟩ : Nd) = none) <|
                  ask (in64 (x82 + 1)) <|
                  guard_Check_l0 N aProps aAccept aGuard aNodes m130 (met81 ++ [((⟨(List.getD aNodes (Int.toNat x82) (default : Nd)).P, (List.getD aNodes (Int.toNat x82) (default : Nd)).Lo, (List.getD aNodes (Int.toNat x82) (default : Nd)).Hi⟩ : Nd), true)]) (x82 + 1)
                else
                  some (Sum.inr 12)
              else
                some (Sum.inr 12)
    else
      some (Sum.inl ())
def guard_Check_l1 (N : Nat) (aProps : Int) (aAccept : List Bool) (aGuard : List Int) (aNodes : List Nd) : Nat → Int → Option (Unit ⊕ Int)
  | 0, _ => none
  | m219 + 1, x201 =>
    if x201 < (((List.length aGuard) : Nat) : Int) then
      ask (idx x201 (List.length aGuard)) <|
      Option.bind (guard_good N aProps aAccept aGuard aNodes (List.getD aGuard (Int.toNat x201) 0) (((List.length aNodes) : Nat) : Int) (-1)) fun r230 =>
      if r230 = true then
        ask (in64 (x201 + 1)) <|
        guard_Check_l1 N aProps aAccept aGuard aNodes m219 (x201 + 1)
      else
        some (Sum.inr 12)
    else
      some (Sum.inl ())
def guard_Check (N : Nat) (aProps : Int) (aAccept : List Bool) (aGuard : List Int) (aNodes : List Nd) : Option Int :=
  if aProps < 0 then
    some 12
  else
    if 8 < aProps then
      some 12
    else
      if (((List.length aAccept) : Nat) : Int) < 1 then
        some 12
      else
        if 256 < (((List.length aAccept) : Nat) : Int) then
          some 12
        else
          if ((((List.length aGuard) : Nat) : Int) : Int) = (((List.length aAccept) : Nat) : Int) then
            if 4096 < (((List.length aNodes) : Nat) : Int) then
              some 12
            else
              Option.bind (guard_Check_l0 N aProps aAccept aGuard aNodes N ([] : List (Nd × Bool)) 0) fun x131 =>
              Sum.elim (fun x136 =>
                Option.bind (guard_Check_l1 N aProps aAccept aGuard aNodes N 0) fun x220 =>
                Sum.elim (fun x225 =>
                  some 0)
                 (fun x243 =>
                  some x243) x220)
               (fun x184 =>
                some x184) x131
          else
            some 12
set_option maxRecDepth 100000 in
set_option maxHeartbeats 4000000 in
theorem guard_Check_calls {N : Nat} {S Fa : Nat → Prop} {w0 : World} {r : Int} (A1 : Option Addr) (c2 : Nat) (A5 : Option Addr) (c6 : Nat) (A9 : Option Addr) (c10 : Nat) (aProps : Int) (aAccept : List Bool) (aGuard : List Int) (aNodes : List Nd) (hk3 : List.length aAccept ≤ c2) (hk7 : List.length aGuard ≤ c6) (hk11 : List.length aNodes ≤ c10) (H : Hp S Fa w0 w0 [.ro false cBool A1 aAccept, .ro false (cInt .i64) A5 aGuard, .ro false cNode A9 aNodes]) (hP : guard_Check N aProps aAccept aGuard aNodes = some r) :
    Calls Try.prog 56 #[.agg #[.int .i64 aProps, .slice A1 (List.length aAccept) c2, .slice A5 (List.length aGuard) c6, .slice A9 (List.length aNodes) c10]] w0 fun e w' => ∃ v, e = .returned v ∧ v = .int .i64 r ∧ Hp S Fa w0 w' [] := by
 refine enterV (n := 110) Try.func56 rfl rfl rfl ?_
 intro a E
 replace E := E.pick [(0, .agg #[.int .i64 aProps, .slice A1 (List.length aAccept) c2, .slice A5 (List.length aGuard) c6, .slice A9 (List.length aNodes) c10])] ⟨rfl, trivial⟩
 rw [guard_Check] at hP
 refine wp_seq ?_
 refine wp_region_lit ?_
 refine h_box H E rfl rfl rfl ?_
 intro w14 g13 a hc15 hg17 H_ E_
 replace E := E_ _ rfl; clear E_
 replace H := H_; clear H_; try dsimp only [setn, addE, goneL] at H
 refine vn tbok 1 [] [] [] E (by kernel_rfl) (by kernel_rfl) trivial ?_
 clear E; intro a E
 refine wpList_nil ?_
 refine th_n ?_
 refine wp_seq ?_
 refine wp_region_lit ?_
 refine vn tbok 4 [.slice A1 (List.length aAccept) c2] [(3, .int .i64 (((List.length aAccept) : Nat) : Int))] [World.cell? w14 ⟨g13, 1, none⟩ = some (.slice A1 (List.length aAccept) c2)] E (by kernel_rfl) (by kernel_rfl) ((H.box 3 rfl).cell (j := 1) rfl) ?_
 clear E; intro a E
 refine wpList_nil ?_
 refine th_n ?_
 refine wp_seq ?_
 refine wp_seq ?_
 refine wp_region_lit ?_
 refine vn tbok 4 [.int .i64 aProps] [(15, .bool (decide (aProps < 0)))] [World.cell? w14 ⟨g13, 0, none⟩ = some (.int .i64 aProps)] E (by kernel_rfl) (by kernel_rfl) ((H.box 3 rfl).cell (j := 0) rfl) ?_
 clear E; intro a E
 refine E.cases (t := 15) rfl (fun hb_ E_ => ?_) (fun hb_ E_ => ?_)
 ·
  replace E := E_; clear E_
  have h18 : aProps < 0 := of_decide_eq_true hb_
  clear hb_; replace hP := ite_t h18 hP
  refine vn tbok 25 [] [(40, .bool true)] [] E (by kernel_rfl) (by kernel_rfl) trivial ?_
  clear E; intro a E
  refine wpList_nil ?_
  refine th_n ?_
  refine c_true E rfl ?_
  refine wp_seq ?_
  refine wp_region_lit ?_
  refine vn tbok 1 [] [(2, .int .i64 12)] [] E (by kernel_rfl) (by kernel_rfl) trivial ?_
  clear E; intro a E
  refine wpList_nil ?_
  refine th_n ?_
  refine wp_ret ?_
  refine th_ret ?_
  obtain rfl := Option.some.inj hP
  refine ret1 E rfl rfl ?_
  exact ⟨_, rfl, rfl, H.sel [] rfl⟩
 replace E := E_; clear E_
 have h19 : ¬ (aProps < 0) := of_decide_eq_false hb_
 clear hb_; replace hP := ite_f h19 hP
 refine vn tbok 5 [.int .i64 aProps] [(20, .bool (decide (8 < aProps)))] [World.cell? w14 ⟨g13, 0, none⟩ = some (.int .i64 aProps)] E (by kernel_rfl) (by kernel_rfl) ((H.box 3 rfl).cell (j := 0) rfl) ?_
 clear E; intro a E
 refine E.cases (t := 20) rfl (fun hb_ E_ => ?_) (fun hb_ E_ => ?_)
 ·
  replace E := E_; clear E_
  have h20 : 8 < aProps := of_decide_eq_true hb_
  clear hb_; replace hP := ite_t h20 hP
  refine vn tbok 20 [] [(40, .bool true)] [] E (by kernel_rfl) (by kernel_rfl) trivial ?_
  clear E; intro a E
  refine wpList_nil ?_
  refine th_n ?_
  refine c_true E rfl ?_
  refine wp_seq ?_
  refine wp_region_lit ?_
  refine vn tbok 1 [] [(2, .int .i64 12)] [] E (by kernel_rfl) (by kernel_rfl) trivial ?_
  clear E; intro a E
  refine wpList_nil ?_
  refine th_n ?_
  refine wp_ret ?_
  refine th_ret ?_
  obtain rfl := Option.some.inj hP
  refine ret1 E rfl rfl ?_
  exact ⟨_, rfl, rfl, H.sel [] rfl⟩
 replace E := E_; clear E_
 have h21 : ¬ (8 < aProps) := of_decide_eq_false hb_
 clear hb_; replace hP := ite_f h21 hP
 refine vn tbok 4 [] [(24, .bool (decide ((((List.length aAccept) : Nat) : Int) < 1)))] [] E (by kernel_rfl) (by kernel_rfl) trivial ?_
 clear E; intro a E
 refine E.cases (t := 24) rfl (fun hb_ E_ => ?_) (fun hb_ E_ => ?_)
 ·
  replace E := E_; clear E_
  have h22 : (((List.length aAccept) : Nat) : Int) < 1 := of_decide_eq_true hb_
  clear hb_; replace hP := ite_t h22 hP
  refine vn tbok 16 [] [(40, .bool true)] [] E (by kernel_rfl) (by kernel_rfl) trivial ?_
  clear E; intro a E
  refine wpList_nil ?_
  refine th_n ?_
  refine c_true E rfl ?_
  refine wp_seq ?_
  refine wp_region_lit ?_
  refine vn tbok 1 [] [(2, .int .i64 12)] [] E (by kernel_rfl) (by kernel_rfl) trivial ?_
  clear E; intro a E
  refine wpList_nil ?_
  refine th_n ?_
  refine wp_ret ?_
  refine th_ret ?_
  obtain rfl := Option.some.inj hP
  refine ret1 E rfl rfl ?_
  exact ⟨_, rfl, rfl, H.sel [] rfl⟩
 replace E := E_; clear E_
 have h23 : ¬ ((((List.length aAccept) : Nat) : Int) < 1) := of_decide_eq_false hb_
 clear hb_; replace hP := ite_f h23 hP
 refine vn tbok 4 [] [(28, .bool (decide (256 < (((List.length aAccept) : Nat) : Int))))] [] E (by kernel_rfl) (by kernel_rfl) trivial ?_
 clear E; intro a E
 refine E.cases (t := 28) rfl (fun hb_ E_ => ?_) (fun hb_ E_ => ?_)
 ·
  replace E := E_; clear E_
  have h24 : 256 < (((List.length aAccept) : Nat) : Int) := of_decide_eq_true hb_
  clear hb_; replace hP := ite_t h24 hP
  refine vn tbok 12 [] [(40, .bool true)] [] E (by kernel_rfl) (by kernel_rfl) trivial ?_
  clear E; intro a E
  refine wpList_nil ?_
  refine th_n ?_
  refine c_true E rfl ?_
  refine wp_seq ?_
  refine wp_region_lit ?_
  refine vn tbok 1 [] [(2, .int .i64 12)] [] E (by kernel_rfl) (by kernel_rfl) trivial ?_
  clear E; intro a E
  refine wpList_nil ?_
  refine th_n ?_
  refine wp_ret ?_
  refine th_ret ?_
  obtain rfl := Option.some.inj hP
  refine ret1 E rfl rfl ?_
  exact ⟨_, rfl, rfl, H.sel [] rfl⟩
 replace E := E_; clear E_
 have h25 : ¬ (256 < (((List.length aAccept) : Nat) : Int)) := of_decide_eq_false hb_
 clear hb_; replace hP := ite_f h25 hP
 refine vn tbok 7 [.slice A5 (List.length aGuard) c6] [(35, .bool (((((List.length aGuard) : Nat) : Int) : Int) != (((List.length aAccept) : Nat) : Int)))] [World.cell? w14 ⟨g13, 2, none⟩ = some (.slice A5 (List.length aGuard) c6)] E (by kernel_rfl) (by kernel_rfl) ((H.box 3 rfl).cell (j := 2) rfl) ?_
 clear E; intro a E
 refine E.cases (t := 35) rfl (fun hb_ E_ => ?_) (fun hb_ E_ => ?_)
 ·
  replace E := E_; clear E_
  have h26 : ¬ (((((List.length aGuard) : Nat) : Int) : Int) = (((List.length aAccept) : Nat) : Int)) := bne_iff_ne.1 hb_
  clear hb_; replace hP := ite_f h26 hP
  refine vn tbok 5 [] [(40, .bool true)] [] E (by kernel_rfl) (by kernel_rfl) trivial ?_
  clear E; intro a E
  refine wpList_nil ?_
  refine th_n ?_
  refine c_true E rfl ?_
  refine wp_seq ?_
  refine wp_region_lit ?_
  refine vn tbok 1 [] [(2, .int .i64 12)] [] E (by kernel_rfl) (by kernel_rfl) trivial ?_
  clear E; intro a E
  refine wpList_nil ?_
  refine th_n ?_
  refine wp_ret ?_
  refine th_ret ?_
  obtain rfl := Option.some.inj hP
  refine ret1 E rfl rfl ?_
  exact ⟨_, rfl, rfl, H.sel [] rfl⟩
 replace E := E_; clear E_
 have h27 : ((((List.length aGuard) : Nat) : Int) : Int) = (((List.length aAccept) : Nat) : Int) := bne_eq_false_iff_eq.1 hb_
 clear hb_; replace hP := ite_t h27 hP
 refine vn tbok 5 [.slice A9 (List.length aNodes) c10] [(40, .bool (decide (4096 < (((List.length aNodes) : Nat) : Int))))] [World.cell? w14 ⟨g13, 3, none⟩ = some (.slice A9 (List.length aNodes) c10)] E (by kernel_rfl) (by kernel_rfl) ((H.box 3 rfl).cell (j := 3) rfl) ?_
 clear E; intro a E
 refine wpList_nil ?_
 refine th_n ?_
 refine E.cases (t := 40) rfl (fun hb_ E_ => ?_) (fun hb_ E_ => ?_)
 ·
  replace E := E_; clear E_
  have h28 : 4096 < (((List.length aNodes) : Nat) : Int) := of_decide_eq_true hb_
  clear hb_; replace hP := ite_t h28 hP
  refine c_true E rfl ?_
  refine wp_seq ?_
  refine wp_region_lit ?_
  refine vn tbok 1 [] [(2, .int .i64 12)] [] E (by kernel_rfl) (by kernel_rfl) trivial ?_
  clear E; intro a E
  refine wpList_nil ?_
  refine th_n ?_
  refine wp_ret ?_
  refine th_ret ?_
  obtain rfl := Option.some.inj hP
  refine ret1 E rfl rfl ?_
  exact ⟨_, rfl, rfl, H.sel [] rfl⟩
 replace E := E_; clear E_
 have h29 : ¬ (4096 < (((List.length aNodes) : Nat) : Int)) := of_decide_eq_false hb_
 clear hb_; replace hP := ite_f h29 hP
 refine c_false E rfl ?_
 refine wp_skip ?_
 refine th_n ?_
 refine wp_seq ?_
 refine wp_region_lit ?_
 refine h_makeMap (P := Try.prog) (k0 := 57) H E rfl rfl ?_
 intro w31 g30 a hc32 hg33 H_ E_
 replace E := E_ _ rfl; clear E_
 replace H := H_; clear H_; try dsimp only [setn, addE, goneL] at H
 refine vn tbok 1 [] [(4, .map (some g30))] [] E (by kernel_rfl) (by kernel_rfl) trivial ?_
 clear E; intro a E
 refine wpList_nil ?_
 refine th_n ?_
 refine wp_seq ?_
 refine wp_seq ?_
 refine wp_region_lit ?_
 refine vn tbok 4 [.slice A9 (List.length aNodes) c10] [(43, .slice A9 (List.length aNodes) c10), (44, .int .i64 (((List.length aNodes) : Nat) : Int)), (45, .int .i64 0)] [World.cell? w31 ⟨g13, 3, none⟩ = some (.slice A9 (List.length aNodes) c10)] E (by kernel_rfl) (by kernel_rfl) ((H.box 3 rfl).cell (j := 3) rfl) ?_
 clear E; intro a E
 refine wpList_nil ?_
 refine th_n ?_
 refine wp_block ?_
 obtain ⟨x131, hL132, hK133⟩ := bind_inv hP
 clear hP
 refine loop_cut (fun i_ a w_ => (i_ = 0 ∧ ∃ (x136 : Unit), Fr a 110 [(1, .pointer (some ⟨g13, 0, none⟩))] ∧ Hp S Fa w0 w_ [.ro false cBool A1 aAccept, .ro false (cInt .i64) A5 aGuard, .ro false cNode A9 aNodes, .box g13 26 [.int .i64 aProps, .slice A1 (List.length aAccept) c2, .slice A5 (List.length aGuard) c6, .slice A9 (List.length aNodes) c10]] ∧ x131 = Sum.inl x136)) ?_ ?_
 ·
  refine loopV (fun m135 a w134 => ∃ (met81 : List (Nd × Bool)) (x82 : Int), Fr a 110 [(1, .pointer (some ⟨g13, 0, none⟩)), (4, .map (some g30)), (43, .slice A9 (List.length aNodes) c10), (44, .int .i64 (((List.length aNodes) : Nat) : Int)), (45, .int .i64 x82)] ∧ Hp S Fa w0 w134 [.ro false cBool A1 aAccept, .ro false (cInt .i64) A5 aGuard, .ro false cNode A9 aNodes, .box g13 26 [.int .i64 aProps, .slice A1 (List.length aAccept) c2, .slice A5 (List.length aGuard) c6, .slice A9 (List.length aNodes) c10], .mp Try.prog 57 g30 (List.map (fun p_ => (ndV p_.1, (fun u_ : Bool => .bool u_) p_.2)) met81)] ∧ guard_Check_l0 N aProps aAccept aGuard aNodes m135 met81 x82 = some x131) N ?_ ?_
  ·
   exact ⟨([] : List (Nd × Bool)), 0, E.pick _ ⟨rfl, rfl, rfl, rfl, rfl, trivial⟩, H.sel [0, 1, 2, 3, 4] rfl, hL132⟩
  clear E H hL132; intro m135 a w134 hI_
  obtain ⟨met81, x82, E, H, hP⟩ := hI_
  obtain ⟨m130, rfl⟩ : ∃ q_, m135 = q_ + 1 := by cases m135 with | zero => rw [guard_Check_l0] at hP; cases hP | succ q_ => exact ⟨q_, rfl⟩
  rw [guard_Check_l0] at hP
  refine wp_seq ?_
  refine wp_region_lit ?_
  refine vn tbok 1 [] [(46, .bool (decide (x82 < (((List.length aNodes) : Nat) : Int))))] [] E (by kernel_rfl) (by kernel_rfl) trivial ?_
  clear E; intro a E
  refine wpList_nil ?_
  refine th_n ?_
  refine wp_seq ?_
  refine E.cases (t := 46) rfl (fun hb_ E_ => ?_) (fun hb_ E_ => ?_)
  ·
   replace E := E_; clear E_
   have h137 : x82 < (((List.length aNodes) : Nat) : Int) := of_decide_eq_true hb_
   clear hb_; replace hP := ite_t h137 hP
   refine c_true E rfl ?_
   refine wp_skip ?_
   refine th_n ?_
   refine wp_seq ?_
   refine wp_block ?_
   refine wp_seq ?_
   refine wp_region_lit ?_
   obtain ⟨g138, hP⟩ := ask_inv hP
   obtain ⟨b139, o140, e_b139⟩ := (H.rd 2 rds_ro).addr (idx_pos g138)
   subst e_b139
   refine vn tbok 3 [.agg #[.int .i64 ((List.getD aNodes (Int.toNat x82) (default : Nd)).P), .int .i64 ((List.getD aNodes (Int.toNat x82) (default : Nd)).Lo), .int .i64 ((List.getD aNodes (Int.toNat x82) (default : Nd)).Hi)]] [(47, .int .i64 x82), (49, .agg #[.int .i64 ((List.getD aNodes (Int.toNat x82) (default : Nd)).P), .int .i64 ((List.getD aNodes (Int.toNat x82) (default : Nd)).Lo), .int .i64 ((List.getD aNodes (Int.toNat x82) (default : Nd)).Hi)])] [0 ≤ x82 ∧ x82 < (((List.length aNodes) : Nat) : Int), cellsAt w134 b139 (o140 + (Int.toNat x82) * 3) [.int .i64 ((List.getD aNodes (Int.toNat x82) (default : Nd)).P), .int .i64 ((List.getD aNodes (Int.toNat x82) (default : Nd)).Lo), .int .i64 ((List.getD aNodes (Int.toNat x82) (default : Nd)).Hi)]] E (by kernel_rfl) (by kernel_rfl) ⟨g138, Rds.atP (H.rd 2 rds_ro) (default : Nd) g138⟩ ?_
   clear E; intro a E
   refine h_alloc H E rfl rfl tbok rfl ?_
   intro w142 g141 a hc143 hg145 H_ E_
   replace E := E_ _ rfl; clear E_
   replace H := H_; clear H_; try dsimp only [setn, addE, goneL] at H
   refine vn tbok 1 [] [(5, .int .i64 x82)] [] E (by kernel_rfl) (by kernel_rfl) trivial ?_
   clear E; intro a E
   refine h_store (g := g141) (off := 0) H 5 rfl E rfl rfl rfl rfl tbok rfl rfl rfl rfl rfl ?_
   clear E; intro w146 a hc147 H_ E
   replace H := H_; clear H_; try dsimp only [setn, addE, goneL] at H
   refine wpList_nil ?_
   refine th_n ?_
   refine wp_seq ?_
   refine wp_seq ?_
   refine wp_region_lit ?_
   refine vn tbok 4 [.int .i64 ((List.getD aNodes (Int.toNat x82) (default : Nd)).P)] [(53, .bool (decide (((List.getD aNodes (Int.toNat x82) (default : Nd)).P) < 0)))] [World.cell? w146 ⟨g141, 0, none⟩ = some (.int .i64 ((List.getD aNodes (Int.toNat x82) (default : Nd)).P))] E (by kernel_rfl) (by kernel_rfl) ((H.box 5 rfl).cell (j := 0) rfl) ?_
   clear E; intro a E
   refine E.cases (t := 53) rfl (fun hb_ E_ => ?_) (fun hb_ E_ => ?_)
   ·
    replace E := E_; clear E_
    have h148 : ((List.getD aNodes (Int.toNat x82) (default : Nd)).P) < 0 := of_decide_eq_true hb_
    clear hb_; replace hP := ite_t h148 hP
    refine vn tbok 38 [] [(91, .bool true)] [] E (by kernel_rfl) (by kernel_rfl) trivial ?_
    clear E; intro a E
    refine wpList_nil ?_
    refine th_n ?_
    refine c_true E rfl ?_
    refine wp_seq ?_
    refine wp_region_lit ?_
    refine vn tbok 1 [] [(2, .int .i64 12)] [] E (by kernel_rfl) (by kernel_rfl) trivial ?_
    clear E; intro a E
    refine wpList_nil ?_
    refine th_n ?_
    refine wp_ret ?_
    refine th_ret ?_
    refine bl_ret ?_
    refine th_ret ?_
    refine th_ret ?_
    refine .inr ⟨rfl, ?_⟩
    refine bl_ret ?_
    refine th_ret ?_
    have hx_ := Option.some.inj hP; subst hx_
    have hP : some (12) = some r := hK133
    obtain rfl := Option.some.inj hP
    refine ret1 E rfl rfl ?_
    exact ⟨_, rfl, rfl, H.sel [] rfl⟩
   replace E := E_; clear E_
   have h149 : ¬ (((List.getD aNodes (Int.toNat x82) (default : Nd)).P) < 0) := of_decide_eq_false hb_
   clear hb_; replace hP := ite_f h149 hP
   refine vn tbok 7 [.int .i64 ((List.getD aNodes (Int.toNat x82) (default : Nd)).P), .int .i64 aProps] [(60, .bool (decide (aProps ≤ ((List.getD aNodes (Int.toNat x82) (default : Nd)).P))))] [World.cell? w146 ⟨g141, 0, none⟩ = some (.int .i64 ((List.getD aNodes (Int.toNat x82) (default : Nd)).P)), World.cell? w146 ⟨g13, 0, none⟩ = some (.int .i64 aProps)] E (by kernel_rfl) (by kernel_rfl) ⟨(H.box 5 rfl).cell (j := 0) rfl, (H.box 3 rfl).cell (j := 0) rfl⟩ ?_
   clear E; intro a E
   refine E.cases (t := 60) rfl (fun hb_ E_ => ?_) (fun hb_ E_ => ?_)
   ·
    replace E := E_; clear E_
    have h150 : aProps ≤ ((List.getD aNodes (Int.toNat x82) (default : Nd)).P) := of_decide_eq_true hb_
    clear hb_; replace hP := ite_t h150 hP
    refine vn tbok 31 [] [(91, .bool true)] [] E (by kernel_rfl) (by kernel_rfl) trivial ?_
    clear E; intro a E
    refine wpList_nil ?_
    refine th_n ?_
    refine c_true E rfl ?_
    refine wp_seq ?_
    refine wp_region_lit ?_
    refine vn tbok 1 [] [(2, .int .i64 12)] [] E (by kernel_rfl) (by kernel_rfl) trivial ?_
    clear E; intro a E
    refine wpList_nil ?_
    refine th_n ?_
    refine wp_ret ?_
    refine th_ret ?_
    refine bl_ret ?_
    refine th_ret ?_
    refine th_ret ?_
    refine .inr ⟨rfl, ?_⟩
    refine bl_ret ?_
    refine th_ret ?_
    have hx_ := Option.some.inj hP; subst hx_
    have hP : some (12) = some r := hK133
    obtain rfl := Option.some.inj hP
    refine ret1 E rfl rfl ?_
    exact ⟨_, rfl, rfl, H.sel [] rfl⟩
   replace E := E_; clear E_
   have h151 : ¬ (aProps ≤ ((List.getD aNodes (Int.toNat x82) (default : Nd)).P)) := of_decide_eq_false hb_
   clear hb_; replace hP := ite_f h151 hP
   refine vn tbok 7 [.int .i64 ((List.getD aNodes (Int.toNat x82) (default : Nd)).Lo), .int .i64 ((List.getD aNodes (Int.toNat x82) (default : Nd)).Hi)] [(67, .bool (((List.getD aNodes (Int.toNat x82) (default : Nd)).Lo : Int) == ((List.getD aNodes (Int.toNat x82) (default : Nd)).Hi)))] [World.cell? w146 ⟨g141, 1, none⟩ = some (.int .i64 ((List.getD aNodes (Int.toNat x82) (default : Nd)).Lo)), World.cell? w146 ⟨g141, 2, none⟩ = some (.int .i64 ((List.getD aNodes (Int.toNat x82) (default : Nd)).Hi))] E (by kernel_rfl) (by kernel_rfl) ⟨(H.box 5 rfl).cell (j := 1) rfl, (H.box 5 rfl).cell (j := 2) rfl⟩ ?_
   clear E; intro a E
   refine E.cases (t := 67) rfl (fun hb_ E_ => ?_) (fun hb_ E_ => ?_)
   ·
    replace E := E_; clear E_
    have h152 : ((List.getD aNodes (Int.toNat x82) (default : Nd)).Lo : Int) = (List.getD aNodes (Int.toNat x82) (default : Nd)).Hi := eq_of_beq hb_
    clear hb_; replace hP := ite_t h152 hP
    refine vn tbok 24 [] [(91, .bool true)] [] E (by kernel_rfl) (by kernel_rfl) trivial ?_
    clear E; intro a E
    refine wpList_nil ?_
    refine th_n ?_
    refine c_true E rfl ?_
    refine wp_seq ?_
    refine wp_region_lit ?_
    refine vn tbok 1 [] [(2, .int .i64 12)] [] E (by kernel_rfl) (by kernel_rfl) trivial ?_
    clear E; intro a E
    refine wpList_nil ?_
    refine th_n ?_
    refine wp_ret ?_
    refine th_ret ?_
    refine bl_ret ?_
    refine th_ret ?_
    refine th_ret ?_
    refine .inr ⟨rfl, ?_⟩
    refine bl_ret ?_
    refine th_ret ?_
    have hx_ := Option.some.inj hP; subst hx_
    have hP : some (12) = some r := hK133
    obtain rfl := Option.some.inj hP
    refine ret1 E rfl rfl ?_
    exact ⟨_, rfl, rfl, H.sel [] rfl⟩
   replace E := E_; clear E_
   have h153 : ¬ (((List.getD aNodes (Int.toNat x82) (default : Nd)).Lo : Int) = (List.getD aNodes (Int.toNat x82) (default : Nd)).Hi) := ne_of_beq_false hb_
   clear hb_; replace hP := ite_f h153 hP
   refine vn tbok 2 [.agg #[.int .i64 ((List.getD aNodes (Int.toNat x82) (default : Nd)).P), .int .i64 ((List.getD aNodes (Int.toNat x82) (default : Nd)).Lo), .int .i64 ((List.getD aNodes (Int.toNat x82) (default : Nd)).Hi)]] [(68, .map (some g30)), (69, .agg #[.int .i64 ((List.getD aNodes (Int.toNat x82) (default : Nd)).P), .int .i64 ((List.getD aNodes (Int.toNat x82) (default : Nd)).Lo), .int .i64 ((List.getD aNodes (Int.toNat x82) (default : Nd)).Hi)])] [cellsAt w146 g141 (0) [.int .i64 ((List.getD aNodes (Int.toNat x82) (default : Nd)).P), .int .i64 ((List.getD aNodes (Int.toNat x82) (default : Nd)).Lo), .int .i64 ((List.getD aNodes (Int.toNat x82) (default : Nd)).Hi)]] E (by kernel_rfl) (by kernel_rfl) ((H.box 5 rfl).sub 0 _ rfl) ?_
   clear E; intro a E
   obtain ⟨g154, hP⟩ := ask_inv hP
   refine h_lookup1 ndV (fun u_ : Bool => .bool u_) (⟨(List.getD aNodes (Int.toNat x82) (default : Nd)).P, (List.getD aNodes (Int.toNat x82) (default : Nd)).Lo, (List.getD aNodes (Int.toNat x82) (default : Nd)).Hi⟩ : Nd) false H 4 rfl E rfl rfl tbok rfl rfl kNd rfl rfl rfl g154 (fun _ => ⟨_, rfl⟩) ?_
   clear E; intro a E_; replace E := E_ _ rfl; clear E_
   refine vn tbok 2 [] [(72, .bool (Option.getD (mget met81 (⟨(List.getD aNodes (Int.toNat x82) (default : Nd)).P, (List.getD aNodes (Int.toNat x82) (default : Nd)).Lo, (List.getD aNodes (Int.toNat x82) (default : Nd)).Hi⟩ : Nd)) false))] [] E (by kernel_rfl) (by kernel_rfl) trivial ?_
   clear E; intro a E
   refine E.cases (t := 72) rfl (fun hb_ E_ => ?_) (fun hb_ E_ => ?_)
   ·
    replace E := E_; clear E_
    have h155 : (Option.getD (mget met81 (⟨(List.getD aNodes (Int.toNat x82) (default : Nd)).P, (List.getD aNodes (Int.toNat x82) (default : Nd)).Lo, (List.getD aNodes (Int.toNat x82) (default : Nd)).Hi⟩ : Nd)) false) = true := hb_
    clear hb_; replace hP := ite_t h155 hP
    refine vn tbok 19 [] [(91, .bool true)] [] E (by kernel_rfl) (by kernel_rfl) trivial ?_
    clear E; intro a E
    refine wpList_nil ?_
    refine th_n ?_
    refine c_true E rfl ?_
    refine wp_seq ?_
    refine wp_region_lit ?_
    refine vn tbok 1 [] [(2, .int .i64 12)] [] E (by kernel_rfl) (by kernel_rfl) trivial ?_
    clear E; intro a E
    refine wpList_nil ?_
    refine th_n ?_
    refine wp_ret ?_
    refine th_ret ?_
    refine bl_ret ?_
    refine th_ret ?_
    refine th_ret ?_
    refine .inr ⟨rfl, ?_⟩
    refine bl_ret ?_
    refine th_ret ?_
    have hx_ := Option.some.inj hP; subst hx_
    have hP : some (12) = some r := hK133
    obtain rfl := Option.some.inj hP
    refine ret1 E rfl rfl ?_
    exact ⟨_, rfl, rfl, H.sel [] rfl⟩
   replace E := E_; clear E_
   have h156 : ¬ ((Option.getD (mget met81 (⟨(List.getD aNodes (Int.toNat x82) (default : Nd)).P, (List.getD aNodes (Int.toNat x82) (default : Nd)).Lo, (List.getD aNodes (Int.toNat x82) (default : Nd)).Hi⟩ : Nd)) false) = true) := (ne_true_of_eq_false hb_)
   clear hb_; replace hP := ite_f h156 hP
   refine vn tbok 6 [.agg #[.int .i64 aProps, .slice A1 (List.length aAccept) c2, .slice A5 (List.length aGuard) c6, .slice (some ⟨b139, o140, none⟩) (List.length aNodes) c10], .int .i64 ((List.getD aNodes (Int.toNat x82) (default : Nd)).Lo), .int .i64 ((List.getD aNodes (Int.toNat x82) (default : Nd)).P)] [(73, .agg #[.int .i64 aProps, .slice A1 (List.length aAccept) c2, .slice A5 (List.length aGuard) c6, .slice (some ⟨b139, o140, none⟩) (List.length aNodes) c10]), (75, .int .i64 ((List.getD aNodes (Int.toNat x82) (default : Nd)).Lo)), (76, .int .i64 x82), (78, .int .i64 ((List.getD aNodes (Int.toNat x82) (default : Nd)).P))] [cellsAt w146 g13 (0) [.int .i64 aProps, .slice A1 (List.length aAccept) c2, .slice A5 (List.length aGuard) c6, .slice (some ⟨b139, o140, none⟩) (List.length aNodes) c10], World.cell? w146 ⟨g141, 1, none⟩ = some (.int .i64 ((List.getD aNodes (Int.toNat x82) (default : Nd)).Lo)), World.cell? w146 ⟨g141, 0, none⟩ = some (.int .i64 ((List.getD aNodes (Int.toNat x82) (default : Nd)).P))] E (by kernel_rfl) (by kernel_rfl) ⟨(H.box 3 rfl).sub 0 _ rfl, (H.box 5 rfl).cell (j := 1) rfl, (H.box 5 rfl).cell (j := 0) rfl⟩ ?_
   clear E; intro a E
   obtain ⟨r157, h158, hP⟩ := bind_inv hP
   obtain ⟨Fa159, Hc160, hb161⟩ := H.call [] [(0, false), (1, false), (2, false)] rfl rfl trivial
   refine e_call E rfl rfl Try.func78 rfl rfl rfl (guard_good_calls A1 c2 A5 c6 (some ⟨b139, o140, none⟩) c10 aProps aAccept aGuard aNodes ((List.getD aNodes (Int.toNat x82) (default : Nd)).Lo) x82 ((List.getD aNodes (Int.toNat x82) (default : Nd)).P) hk3 hk7 hk11 Hc160 h158) ?_
   rintro v162 w163 a ⟨rfl, HR164⟩ E_
   replace E := E_ _ rfl; clear E_
   obtain ⟨H_, hc165⟩ := hb161 _ _ HR164 rfl
   replace H := H_; clear H_; try dsimp only [setn, addE, goneL] at H
   refine vn tbok 3 [] [(82, .bool (!r157))] [] E (by kernel_rfl) (by kernel_rfl) trivial ?_
   clear E; intro a E
   refine E.cases (t := 82) rfl (fun hb_ E_ => ?_) (fun hb_ E_ => ?_)
   ·
    replace E := E_; clear E_
    have h166 : ¬ (r157 = true) := (ne_true_of_eq_false (not_t hb_))
    clear hb_; replace hP := ite_f h166 hP
    refine vn tbok 9 [] [(91, .bool true)] [] E (by kernel_rfl) (by kernel_rfl) trivial ?_
    clear E; intro a E
    refine wpList_nil ?_
    refine th_n ?_
    refine c_true E rfl ?_
    refine wp_seq ?_
    refine wp_region_lit ?_
    refine vn tbok 1 [] [(2, .int .i64 12)] [] E (by kernel_rfl) (by kernel_rfl) trivial ?_
    clear E; intro a E
    refine wpList_nil ?_
    refine th_n ?_
    refine wp_ret ?_
    refine th_ret ?_
    refine bl_ret ?_
    refine th_ret ?_
    refine th_ret ?_
    refine .inr ⟨rfl, ?_⟩
    refine bl_ret ?_
    refine th_ret ?_
    have hx_ := Option.some.inj hP; subst hx_
    have hP : some (12) = some r := hK133
    obtain rfl := Option.some.inj hP
    refine ret1 E rfl rfl ?_
    exact ⟨_, rfl, rfl, H.sel [] rfl⟩
   replace E := E_; clear E_
   have h167 : r157 = true := (not_f hb_)
   clear hb_; replace hP := ite_t h167 hP
   refine vn tbok 6 [.agg #[.int .i64 aProps, .slice A1 (List.length aAccept) c2, .slice A5 (List.length aGuard) c6, .slice (some ⟨b139, o140, none⟩) (List.length aNodes) c10], .int .i64 ((List.getD aNodes (Int.toNat x82) (default : Nd)).Hi), .int .i64 ((List.getD aNodes (Int.toNat x82) (default : Nd)).P)] [(83, .agg #[.int .i64 aProps, .slice A1 (List.length aAccept) c2, .slice A5 (List.length aGuard) c6, .slice (some ⟨b139, o140, none⟩) (List.length aNodes) c10]), (85, .int .i64 ((List.getD aNodes (Int.toNat x82) (default : Nd)).Hi)), (86, .int .i64 x82), (88, .int .i64 ((List.getD aNodes (Int.toNat x82) (default : Nd)).P))] [cellsAt w163 g13 (0) [.int .i64 aProps, .slice A1 (List.length aAccept) c2, .slice A5 (List.length aGuard) c6, .slice (some ⟨b139, o140, none⟩) (List.length aNodes) c10], World.cell? w163 ⟨g141, 2, none⟩ = some (.int .i64 ((List.getD aNodes (Int.toNat x82) (default : Nd)).Hi)), World.cell? w163 ⟨g141, 0, none⟩ = some (.int .i64 ((List.getD aNodes (Int.toNat x82) (default : Nd)).P))] E (by kernel_rfl) (by kernel_rfl) ⟨(H.box 3 rfl).sub 0 _ rfl, (H.box 5 rfl).cell (j := 2) rfl, (H.box 5 rfl).cell (j := 0) rfl⟩ ?_
   clear E; intro a E
   obtain ⟨r168, h169, hP⟩ := bind_inv hP
   obtain ⟨Fa170, Hc171, hb172⟩ := H.call [] [(0, false), (1, false), (2, false)] rfl rfl trivial
   refine e_call E rfl rfl Try.func78 rfl rfl rfl (guard_good_calls A1 c2 A5 c6 (some ⟨b139, o140, none⟩) c10 aProps aAccept aGuard aNodes ((List.getD aNodes (Int.toNat x82) (default : Nd)).Hi) x82 ((List.getD aNodes (Int.toNat x82) (default : Nd)).P) hk3 hk7 hk11 Hc171 h169) ?_
   rintro v173 w174 a ⟨rfl, HR175⟩ E_
   replace E := E_ _ rfl; clear E_
   obtain ⟨H_, hc176⟩ := hb172 _ _ HR175 rfl
   replace H := H_; clear H_; try dsimp only [setn, addE, goneL] at H
   refine vn tbok 2 [] [(91, .bool (!r168))] [] E (by kernel_rfl) (by kernel_rfl) trivial ?_
   clear E; intro a E
   refine wpList_nil ?_
   refine th_n ?_
   refine E.cases (t := 91) rfl (fun hb_ E_ => ?_) (fun hb_ E_ => ?_)
   ·
    replace E := E_; clear E_
    have h177 : ¬ (r168 = true) := (ne_true_of_eq_false (not_t hb_))
    clear hb_; replace hP := ite_f h177 hP
    refine c_true E rfl ?_
    refine wp_seq ?_
    refine wp_region_lit ?_
    refine vn tbok 1 [] [(2, .int .i64 12)] [] E (by kernel_rfl) (by kernel_rfl) trivial ?_
    clear E; intro a E
    refine wpList_nil ?_
    refine th_n ?_
    refine wp_ret ?_
    refine th_ret ?_
    refine bl_ret ?_
    refine th_ret ?_
    refine th_ret ?_
    refine .inr ⟨rfl, ?_⟩
    refine bl_ret ?_
    refine th_ret ?_
    have hx_ := Option.some.inj hP; subst hx_
    have hP : some (12) = some r := hK133
    obtain rfl := Option.some.inj hP
    refine ret1 E rfl rfl ?_
    exact ⟨_, rfl, rfl, H.sel [] rfl⟩
   replace E := E_; clear E_
   have h178 : r168 = true := (not_f hb_)
   clear hb_; replace hP := ite_t h178 hP
   refine c_false E rfl ?_
   refine wp_skip ?_
   refine th_n ?_
   refine wp_region_lit ?_
   refine vn tbok 2 [.agg #[.int .i64 ((List.getD aNodes (Int.toNat x82) (default : Nd)).P), .int .i64 ((List.getD aNodes (Int.toNat x82) (default : Nd)).Lo), .int .i64 ((List.getD aNodes (Int.toNat x82) (default : Nd)).Hi)]] [(92, .map (some g30)), (93, .agg #[.int .i64 ((List.getD aNodes (Int.toNat x82) (default : Nd)).P), .int .i64 ((List.getD aNodes (Int.toNat x82) (default : Nd)).Lo), .int .i64 ((List.getD aNodes (Int.toNat x82) (default : Nd)).Hi)])] [cellsAt w174 g141 (0) [.int .i64 ((List.getD aNodes (Int.toNat x82) (default : Nd)).P), .int .i64 ((List.getD aNodes (Int.toNat x82) (default : Nd)).Lo), .int .i64 ((List.getD aNodes (Int.toNat x82) (default : Nd)).Hi)]] E (by kernel_rfl) (by kernel_rfl) ((H.box 5 rfl).sub 0 _ rfl) ?_
   clear E; intro a E
   obtain ⟨g179, hP⟩ := ask_inv hP
   refine h_mapUpdate ndV (fun u_ : Bool => .bool u_) (⟨(List.getD aNodes (Int.toNat x82) (default : Nd)).P, (List.getD aNodes (Int.toNat x82) (default : Nd)).Lo, (List.getD aNodes (Int.toNat x82) (default : Nd)).Hi⟩ : Nd) true H 4 rfl E rfl rfl tbok rfl kNd rfl rfl rfl g154 g179 rfl ?_
   clear E; intro w180 a hc181 H_ E
   replace H := H_; clear H_; try dsimp only [setn, addE, goneL] at H
   refine wpList_nil ?_
   refine bl_n ?_
   refine th_n ?_
   refine wp_region_lit ?_
   obtain ⟨g182, hP⟩ := ask_inv hP
   refine vn tbok 2 [.int .i64 (x82 + 1)] [(45, .int .i64 (x82 + 1))] [IntKind.i64.wrap (x82 + 1) = x82 + 1] E (by kernel_rfl) (by kernel_rfl) (wrap_in g182) ?_
   clear E; intro a E
   refine wpList_nil ?_
   exact th_n ⟨m130, Nat.lt_succ_self _, met81 ++ [((⟨(List.getD aNodes (Int.toNat x82) (default : Nd)).P, (List.getD aNodes (Int.toNat x82) (default : Nd)).Lo, (List.getD aNodes (Int.toNat x82) (default : Nd)).Hi⟩ : Nd), true)], x82 + 1, E.pick _ ⟨rfl, rfl, rfl, rfl, rfl, trivial⟩, H.sel [0, 1, 2, 3, 4] rfl, hP⟩
  replace E := E_; clear E_
  have h183 : ¬ (x82 < (((List.length aNodes) : Nat) : Int)) := of_decide_eq_false hb_
  clear hb_; replace hP := ite_f h183 hP
  refine c_false E rfl ?_
  refine wp_exit ?_
  refine th_exit ?_
  have hx_ := Option.some.inj hP
  refine th_exit (.inl ⟨0, rfl, ?_⟩)
  exact ⟨rfl, (), E.pick _ ⟨rfl, trivial⟩, H.sel [0, 1, 2, 3] rfl, hx_.symm⟩
 clear E H hL132; intro i_ a w134 hM_
 obtain ⟨rfl, x136, E, H, hx_⟩ := hM_
 subst hx_; have hP := elim_l hK133
 clear hK133
 refine bl_hit ?_
 refine th_n ?_
 refine wp_seq ?_
 refine wp_seq ?_
 refine wp_region_lit ?_
 refine vn tbok 4 [.slice A5 (List.length aGuard) c6] [(96, .slice A5 (List.length aGuard) c6), (97, .int .i64 (((List.length aGuard) : Nat) : Int)), (98, .int .i64 0)] [World.cell? w134 ⟨g13, 2, none⟩ = some (.slice A5 (List.length aGuard) c6)] E (by kernel_rfl) (by kernel_rfl) ((H.box 3 rfl).cell (j := 2) rfl) ?_
 clear E; intro a E
 refine wpList_nil ?_
 refine th_n ?_
 refine wp_block ?_
 obtain ⟨x220, hL221, hK222⟩ := bind_inv hP
 clear hP
 refine loop_cut (fun i_ a w_ => (i_ = 2 ∧ ∃ (x225 : Unit), Fr a 110 [] ∧ Hp S Fa w0 w_ [] ∧ x220 = Sum.inl x225)) ?_ ?_
 ·
  refine loopV (fun m224 a w223 => ∃ (x201 : Int), Fr a 110 [(1, .pointer (some ⟨g13, 0, none⟩)), (96, .slice A5 (List.length aGuard) c6), (97, .int .i64 (((List.length aGuard) : Nat) : Int)), (98, .int .i64 x201)] ∧ Hp S Fa w0 w223 [.ro false cBool A1 aAccept, .ro false (cInt .i64) A5 aGuard, .ro false cNode A9 aNodes, .box g13 26 [.int .i64 aProps, .slice A1 (List.length aAccept) c2, .slice A5 (List.length aGuard) c6, .slice A9 (List.length aNodes) c10]] ∧ guard_Check_l1 N aProps aAccept aGuard aNodes m224 x201 = some x220) N ?_ ?_
  ·
   exact ⟨0, E.pick _ ⟨rfl, rfl, rfl, rfl, trivial⟩, H.sel [0, 1, 2, 3] rfl, hL221⟩
  clear E H hL221; intro m224 a w223 hI_
  obtain ⟨x201, E, H, hP⟩ := hI_
  obtain ⟨m219, rfl⟩ : ∃ q_, m224 = q_ + 1 := by cases m224 with | zero => rw [guard_Check_l1] at hP; cases hP | succ q_ => exact ⟨q_, rfl⟩
  rw [guard_Check_l1] at hP
  refine wp_seq ?_
  refine wp_region_lit ?_
  refine vn tbok 1 [] [(99, .bool (decide (x201 < (((List.length aGuard) : Nat) : Int))))] [] E (by kernel_rfl) (by kernel_rfl) trivial ?_
  clear E; intro a E
  refine wpList_nil ?_
  refine th_n ?_
  refine wp_seq ?_
  refine E.cases (t := 99) rfl (fun hb_ E_ => ?_) (fun hb_ E_ => ?_)
  ·
   replace E := E_; clear E_
   have h226 : x201 < (((List.length aGuard) : Nat) : Int) := of_decide_eq_true hb_
   clear hb_; replace hP := ite_t h226 hP
   refine c_true E rfl ?_
   refine wp_skip ?_
   refine th_n ?_
   refine wp_seq ?_
   refine wp_block ?_
   refine wp_seq ?_
   refine wp_region_lit ?_
   obtain ⟨g227, hP⟩ := ask_inv hP
   obtain ⟨b228, o229, e_b228⟩ := (H.rd 1 rds_ro).addr (idx_pos g227)
   subst e_b228
   refine vn tbok 3 [.int .i64 (List.getD aGuard (Int.toNat x201) 0)] [(8, .int .i64 (List.getD aGuard (Int.toNat x201) 0))] [0 ≤ x201 ∧ x201 < (((List.length aGuard) : Nat) : Int), World.cell? w223 ⟨b228, o229 + (Int.toNat x201) * 1, none⟩ = some (.int .i64 (List.getD aGuard (Int.toNat x201) 0))] E (by kernel_rfl) (by kernel_rfl) ⟨g227, Rds.at1 (H.rd 1 rds_ro) 0 g227⟩ ?_
   clear E; intro a E
   refine wpList_nil ?_
   refine th_n ?_
   refine wp_seq ?_
   refine wp_region_lit ?_
   refine vn tbok 5 [.agg #[.int .i64 aProps, .slice A1 (List.length aAccept) c2, .slice (some ⟨b228, o229, none⟩) (List.length aGuard) c6, .slice A9 (List.length aNodes) c10], .slice A9 (List.length aNodes) c10] [(102, .agg #[.int .i64 aProps, .slice A1 (List.length aAccept) c2, .slice (some ⟨b228, o229, none⟩) (List.length aGuard) c6, .slice A9 (List.length aNodes) c10]), (103, .int .i64 (List.getD aGuard (Int.toNat x201) 0)), (106, .int .i64 (((List.length aNodes) : Nat) : Int))] [cellsAt w223 g13 (0) [.int .i64 aProps, .slice A1 (List.length aAccept) c2, .slice (some ⟨b228, o229, none⟩) (List.length aGuard) c6, .slice A9 (List.length aNodes) c10], World.cell? w223 ⟨g13, 3, none⟩ = some (.slice A9 (List.length aNodes) c10)] E (by kernel_rfl) (by kernel_rfl) ⟨(H.box 3 rfl).sub 0 _ rfl, (H.box 3 rfl).cell (j := 3) rfl⟩ ?_
   clear E; intro a E
   obtain ⟨r230, h231, hP⟩ := bind_inv hP
   obtain ⟨Fa232, Hc233, hb234⟩ := H.call [] [(0, false), (1, false), (2, false)] rfl rfl trivial
   refine e_call E rfl rfl Try.func78 rfl rfl rfl (guard_good_calls A1 c2 (some ⟨b228, o229, none⟩) c6 A9 c10 aProps aAccept aGuard aNodes (List.getD aGuard (Int.toNat x201) 0) (((List.length aNodes) : Nat) : Int) (-1) hk3 hk7 hk11 Hc233 h231) ?_
   rintro v235 w236 a ⟨rfl, HR237⟩ E_
   replace E := E_ _ rfl; clear E_
   obtain ⟨H_, hc238⟩ := hb234 _ _ HR237 rfl
   replace H := H_; clear H_; try dsimp only [setn, addE, goneL] at H
   refine vn tbok 1 [] [(108, .bool (!r230))] [] E (by kernel_rfl) (by kernel_rfl) trivial ?_
   clear E; intro a E
   refine wpList_nil ?_
   refine th_n ?_
   refine E.cases (t := 108) rfl (fun hb_ E_ => ?_) (fun hb_ E_ => ?_)
   ·
    replace E := E_; clear E_
    have h239 : ¬ (r230 = true) := (ne_true_of_eq_false (not_t hb_))
    clear hb_; replace hP := ite_f h239 hP
    refine c_true E rfl ?_
    refine wp_seq ?_
    refine wp_region_lit ?_
    refine vn tbok 1 [] [(2, .int .i64 12)] [] E (by kernel_rfl) (by kernel_rfl) trivial ?_
    clear E; intro a E
    refine wpList_nil ?_
    refine th_n ?_
    refine wp_ret ?_
    refine bl_ret ?_
    refine th_ret ?_
    refine th_ret ?_
    refine .inr ⟨rfl, ?_⟩
    refine bl_ret ?_
    refine th_ret ?_
    have hx_ := Option.some.inj hP; subst hx_
    have hP : some (12) = some r := hK222
    obtain rfl := Option.some.inj hP
    refine ret1 E rfl rfl ?_
    exact ⟨_, rfl, rfl, H.sel [] rfl⟩
   replace E := E_; clear E_
   have h240 : r230 = true := (not_f hb_)
   clear hb_; replace hP := ite_t h240 hP
   refine c_false E rfl ?_
   refine wp_skip ?_
   refine bl_n ?_
   refine th_n ?_
   refine wp_region_lit ?_
   obtain ⟨g241, hP⟩ := ask_inv hP
   refine vn tbok 2 [.int .i64 (x201 + 1)] [(98, .int .i64 (x201 + 1))] [IntKind.i64.wrap (x201 + 1) = x201 + 1] E (by kernel_rfl) (by kernel_rfl) (wrap_in g241) ?_
   clear E; intro a E
   refine wpList_nil ?_
   exact th_n ⟨m219, Nat.lt_succ_self _, x201 + 1, E.pick _ ⟨rfl, rfl, rfl, rfl, trivial⟩, H.sel [0, 1, 2, 3] rfl, hP⟩
  replace E := E_; clear E_
  have h242 : ¬ (x201 < (((List.length aGuard) : Nat) : Int)) := of_decide_eq_false hb_
  clear hb_; replace hP := ite_f h242 hP
  refine c_false E rfl ?_
  refine wp_exit ?_
  refine th_exit ?_
  have hx_ := Option.some.inj hP
  refine th_exit (.inl ⟨2, rfl, ?_⟩)
  exact ⟨rfl, (), E.pick _ trivial, H.sel [] rfl, hx_.symm⟩
 clear E H hL221; intro i_ a w223 hM_
 obtain ⟨rfl, x225, E, H, hx_⟩ := hM_
 subst hx_; have hP := elim_l hK222
 clear hK222
 refine bl_hit ?_
 refine th_n ?_
 refine wp_seq ?_
 refine wp_region_lit ?_
 refine vn tbok 1 [] [(2, .int .i64 0)] [] E (by kernel_rfl) (by kernel_rfl) trivial ?_
 clear E; intro a E
 refine wpList_nil ?_
 refine th_n ?_
 refine wp_ret ?_
 obtain rfl := Option.some.inj hP
 refine ret1 E rfl rfl ?_
 exact ⟨_, rfl, rfl, H.sel [] rfl⟩

/-! rejoinder/board.Check -/
def board_Check (N : Nat) (aProps : Int) (aAccept : List Bool) (aGuard : List Int) (aNodes : List Nd) (s : Int × Int) : Option Int :=
  Option.bind (guard_Check N aProps aAccept aGuard aNodes) fun r23 =>
  if (r23 : Int) = 0 then
    ask (idx (0 : Int) (List.length aAccept)) <|
    if (List.getD aAccept (Int.toNat (0 : Int)) false) = true then
      some 12
    else
      if (andV .u8 s.1 s.2 : Int) = 0 then
        ask (in64 (orV .u8 s.1 s.2)) <|
        ask (0 ≤ aProps) <|
        ask (in64 ((shlV .i64 1 aProps) - 1)) <|
        if (orV .u8 s.1 s.2 : Int) = (shlV .i64 1 aProps) - 1 then
          some 0
        else
          some 13
      else
        some 13
  else
    some r23
set_option maxRecDepth 100000 in
set_option maxHeartbeats 4000000 in
theorem board_Check_calls {N : Nat} {S Fa : Nat → Prop} {w0 : World} {r : Int} (A1 : Option Addr) (c2 : Nat) (A5 : Option Addr) (c6 : Nat) (A9 : Option Addr) (c10 : Nat) (aProps : Int) (aAccept : List Bool) (aGuard : List Int) (aNodes : List Nd) (s : Int × Int) (hk3 : List.length aAccept ≤ c2) (hk7 : List.length aGuard ≤ c6) (hk11 : List.length aNodes ≤ c10) (H : Hp S Fa w0 w0 [.ro false cBool A1 aAccept, .ro false (cInt .i64) A5 aGuard, .ro false cNode A9 aNodes]) (hP : board_Check N aProps aAccept aGuard aNodes s = some r) :
    Calls Try.prog 28 #[.agg #[.int .i64 aProps, .slice A1 (List.length aAccept) c2, .slice A5 (List.length aGuard) c6, .slice A9 (List.length aNodes) c10], .agg #[.int .u8 s.1, .int .u8 s.2]] w0 fun e w' => ∃ v, e = .returned v ∧ v = .int .i64 r ∧ Hp S Fa w0 w' [] := by
 refine enterV (n := 34) Try.func28 rfl rfl rfl ?_
 intro a E
 replace E := E.pick [(0, .agg #[.int .i64 aProps, .slice A1 (List.length aAccept) c2, .slice A5 (List.length aGuard) c6, .slice A9 (List.length aNodes) c10]), (1, .agg #[.int .u8 s.1, .int .u8 s.2])] ⟨rfl, rfl, trivial⟩
 rw [board_Check] at hP
 refine wp_seq ?_
 refine wp_region_lit ?_
 refine h_box H E rfl rfl rfl ?_
 intro w14 g13 a hc15 hg17 H_ E_
 replace E := E_ _ rfl; clear E_
 replace H := H_; clear H_; try dsimp only [setn, addE, goneL] at H
 refine h_box H E rfl rfl rfl ?_
 intro w19 g18 a hc20 hg22 H_ E_
 replace E := E_ _ rfl; clear E_
 replace H := H_; clear H_; try dsimp only [setn, addE, goneL] at H
 refine vn tbok 1 [] [] [] E (by kernel_rfl) (by kernel_rfl) trivial ?_
 clear E; intro a E
 refine wpList_nil ?_
 refine th_n ?_
 refine wp_seq ?_
 refine wp_seq ?_
 refine wp_region_lit ?_
 refine vn tbok 1 [.agg #[.int .i64 aProps, .slice A1 (List.length aAccept) c2, .slice A5 (List.length aGuard) c6, .slice A9 (List.length aNodes) c10]] [(6, .agg #[.int .i64 aProps, .slice A1 (List.length aAccept) c2, .slice A5 (List.length aGuard) c6, .slice A9 (List.length aNodes) c10])] [cellsAt w19 g13 (0) [.int .i64 aProps, .slice A1 (List.length aAccept) c2, .slice A5 (List.length aGuard) c6, .slice A9 (List.length aNodes) c10]] E (by kernel_rfl) (by kernel_rfl) ((H.box 3 rfl).sub 0 _ rfl) ?_
 clear E; intro a E
 obtain ⟨r23, h24, hP⟩ := bind_inv hP
 obtain ⟨Fa25, Hc26, hb27⟩ := H.call [] [(0, false), (1, false), (2, false)] rfl rfl trivial
 refine e_call E rfl rfl Try.func56 rfl rfl rfl (guard_Check_calls A1 c2 A5 c6 A9 c10 aProps aAccept aGuard aNodes hk3 hk7 hk11 Hc26 h24) ?_
 rintro v28 w29 a ⟨rfl, HR30⟩ E_
 replace E := E_ _ rfl; clear E_
 obtain ⟨H_, hc31⟩ := hb27 _ _ HR30 rfl
 replace H := H_; clear H_; try dsimp only [setn, addE, goneL] at H
 refine vn tbok 1 [] [(5, .int .i64 r23)] [] E (by kernel_rfl) (by kernel_rfl) trivial ?_
 clear E; intro a E
 refine wpList_nil ?_
 refine th_n ?_
 refine wp_seq ?_
 refine wp_region_lit ?_
 refine vn tbok 2 [] [(9, .bool ((r23 : Int) != 0))] [] E (by kernel_rfl) (by kernel_rfl) trivial ?_
 clear E; intro a E
 refine wpList_nil ?_
 refine th_n ?_
 refine E.cases (t := 9) rfl (fun hb_ E_ => ?_) (fun hb_ E_ => ?_)
 ·
  replace E := E_; clear E_
  have h32 : ¬ ((r23 : Int) = 0) := bne_iff_ne.1 hb_
  clear hb_; replace hP := ite_f h32 hP
  refine c_true E rfl ?_
  refine wp_seq ?_
  refine wp_region_lit ?_
  refine vn tbok 2 [] [(4, .int .i64 r23)] [] E (by kernel_rfl) (by kernel_rfl) trivial ?_
  clear E; intro a E
  refine wpList_nil ?_
  refine th_n ?_
  refine wp_ret ?_
  refine th_ret ?_
  obtain rfl := Option.some.inj hP
  refine ret1 E rfl rfl ?_
  exact ⟨_, rfl, rfl, H.sel [] rfl⟩
 replace E := E_; clear E_
 have h33 : (r23 : Int) = 0 := bne_eq_false_iff_eq.1 hb_
 clear hb_; replace hP := ite_t h33 hP
 refine c_false E rfl ?_
 refine wp_skip ?_
 refine th_n ?_
 refine wp_seq ?_
 refine wp_seq ?_
 refine wp_region_lit ?_
 obtain ⟨g34, hP⟩ := ask_inv hP
 obtain ⟨b35, o36, e_b35⟩ := (H.rd 0 rds_ro).addr (idx_pos g34)
 subst e_b35
 refine vn tbok 4 [.slice (some ⟨b35, o36, none⟩) (List.length aAccept) c2, .bool (List.getD aAccept (Int.toNat (0 : Int)) false)] [(14, .bool (List.getD aAccept (Int.toNat (0 : Int)) false))] [World.cell? w29 ⟨g13, 1, none⟩ = some (.slice (some ⟨b35, o36, none⟩) (List.length aAccept) c2), 0 ≤ (0 : Int) ∧ (0 : Int) < (((List.length aAccept) : Nat) : Int), World.cell? w29 ⟨b35, o36 + (Int.toNat (0 : Int)) * 1, none⟩ = some (.bool (List.getD aAccept (Int.toNat (0 : Int)) false))] E (by kernel_rfl) (by kernel_rfl) ⟨(H.box 3 rfl).cell (j := 1) rfl, g34, Rds.at1 (H.rd 0 rds_ro) false g34⟩ ?_
 clear E; intro a E
 refine wpList_nil ?_
 refine th_n ?_
 refine E.cases (t := 14) rfl (fun hb_ E_ => ?_) (fun hb_ E_ => ?_)
 ·
  replace E := E_; clear E_
  have h37 : (List.getD aAccept (Int.toNat (0 : Int)) false) = true := hb_
  clear hb_; replace hP := ite_t h37 hP
  refine c_true E rfl ?_
  refine wp_seq ?_
  refine wp_region_lit ?_
  refine vn tbok 1 [] [(4, .int .i64 12)] [] E (by kernel_rfl) (by kernel_rfl) trivial ?_
  clear E; intro a E
  refine wpList_nil ?_
  refine th_n ?_
  refine wp_ret ?_
  refine th_ret ?_
  obtain rfl := Option.some.inj hP
  refine ret1 E rfl rfl ?_
  exact ⟨_, rfl, rfl, H.sel [] rfl⟩
 replace E := E_; clear E_
 have h38 : ¬ ((List.getD aAccept (Int.toNat (0 : Int)) false) = true) := (ne_true_of_eq_false hb_)
 clear hb_; replace hP := ite_f h38 hP
 refine c_false E rfl ?_
 refine wp_skip ?_
 refine th_n ?_
 refine wp_seq ?_
 refine wp_seq ?_
 by_cases h39 : (andV .u8 s.1 s.2 : Int) = 0
 ·
  replace hP := ite_t h39 hP
  obtain ⟨g40, hP⟩ := ask_inv hP
  obtain ⟨g41, hP⟩ := ask_inv hP
  obtain ⟨g42, hP⟩ := ask_inv hP
  have HR46 := H
  refine dr_start (S := fun w_ => Chg (atL []) w29 w_) (by kernel_rfl) ?_
  intro w43 hc44
  have HS45 : Chg (atL []) w29 w43 := hc44.mono (fun _ _ h_ => h_.elim)
  replace H := H.ext hc44
  refine dn tbok (by kernel_rfl) [0, 1, 2, 3, 4, 5, 6] [.int .u8 s.1, .int .u8 s.2, .int .u8 (andV .u8 s.1 s.2)] [(21, .bool ((andV .u8 s.1 s.2 : Int) != 0))] (fun w_ => [World.cell? w_ ⟨g18, 0, none⟩ = some (.int .u8 s.1), World.cell? w_ ⟨g18, 1, none⟩ = some (.int .u8 s.2), IntKind.u8.wrap (BitVec.ofInt (IntKind.bits .u8) s.1 &&& BitVec.ofInt (IntKind.bits .u8) s.2).toNat = andV .u8 s.1 s.2]) 12 E (fun _ _ => by kernel_rfl) (by kernel_rfl) (fun w_ hS_ => ⟨(HR46.boxk [] hS_ 4 rfl rfl).cell (j := 0) rfl, (HR46.boxk [] hS_ 4 rfl rfl).cell (j := 1) rfl, rfl⟩) (by kernel_rfl) HS45 ?_
  clear E; intro a E
  replace E := E.same (t := 21) (u := .bool false) rfl (congrArg Value.bool (bne_eq_false_iff_eq.2 h39))
  refine dn tbok (by kernel_rfl) [7, 8, 9, 10, 11, 12, 13, 14, 15, 16, 17, 18] [.int .u8 s.1, .int .u8 s.2, .int .u8 (orV .u8 s.1 s.2), .int .i64 (orV .u8 s.1 s.2), .int .i64 aProps, .int .i64 (shlV .i64 1 aProps), .int .i64 ((shlV .i64 1 aProps) - 1)] [(33, .bool ((orV .u8 s.1 s.2 : Int) != ((shlV .i64 1 aProps) - 1)))] (fun w_ => [World.cell? w_ ⟨g18, 0, none⟩ = some (.int .u8 s.1), World.cell? w_ ⟨g18, 1, none⟩ = some (.int .u8 s.2), IntKind.u8.wrap (BitVec.ofInt (IntKind.bits .u8) s.1 ||| BitVec.ofInt (IntKind.bits .u8) s.2).toNat = orV .u8 s.1 s.2, IntKind.i64.wrap (orV .u8 s.1 s.2) = (orV .u8 s.1 s.2), World.cell? w_ ⟨g13, 0, none⟩ = some (.int .i64 aProps), 0 ≤ aProps ∧ IntKind.i64.wrap (1 * 2 ^ (min (Int.toNat aProps) (IntKind.bits .i64))) = shlV .i64 1 aProps, IntKind.i64.wrap ((shlV .i64 1 aProps) - 1) = (shlV .i64 1 aProps) - 1]) 0 E (fun _ _ => by kernel_rfl) (by kernel_rfl) (fun w_ hS_ => ⟨(HR46.boxk [] hS_ 4 rfl rfl).cell (j := 0) rfl, (HR46.boxk [] hS_ 4 rfl rfl).cell (j := 1) rfl, rfl, wrap_in g40, (HR46.boxk [] hS_ 3 rfl rfl).cell (j := 0) rfl, ⟨g41, rfl⟩, wrap_in g42⟩) (by kernel_rfl) HS45 ?_
  clear E; intro a E
  refine dr_done (by kernel_rfl) ?_
  clear HS45 HR46
  refine th_n ?_
  refine E.cases (t := 33) rfl (fun hb_ E_ => ?_) (fun hb_ E_ => ?_)
  ·
   replace E := E_; clear E_
   have h47 : ¬ ((orV .u8 s.1 s.2 : Int) = (shlV .i64 1 aProps) - 1) := bne_iff_ne.1 hb_
   clear hb_; replace hP := ite_f h47 hP
   refine c_true E rfl ?_
   refine wp_seq ?_
   refine wp_region_lit ?_
   refine vn tbok 1 [] [(4, .int .i64 13)] [] E (by kernel_rfl) (by kernel_rfl) trivial ?_
   clear E; intro a E
   refine wpList_nil ?_
   refine th_n ?_
   refine wp_ret ?_
   refine th_ret ?_
   obtain rfl := Option.some.inj hP
   refine ret1 E rfl rfl ?_
   exact ⟨_, rfl, rfl, H.sel [] rfl⟩
  replace E := E_; clear E_
  have h48 : (orV .u8 s.1 s.2 : Int) = (shlV .i64 1 aProps) - 1 := bne_eq_false_iff_eq.1 hb_
  clear hb_; replace hP := ite_t h48 hP
  refine c_false E rfl ?_
  refine wp_skip ?_
  refine th_n ?_
  refine wp_seq ?_
  refine wp_region_lit ?_
  refine vn tbok 1 [] [(4, .int .i64 0)] [] E (by kernel_rfl) (by kernel_rfl) trivial ?_
  clear E; intro a E
  refine wpList_nil ?_
  refine th_n ?_
  refine wp_ret ?_
  obtain rfl := Option.some.inj hP
  refine ret1 E rfl rfl ?_
  exact ⟨_, rfl, rfl, H.sel [] rfl⟩
 replace hP := ite_f h39 hP
 have HR52 := H
 refine dr_start (S := fun w_ => Chg (atL []) w29 w_) (by kernel_rfl) ?_
 intro w49 hc50
 have HS51 : Chg (atL []) w29 w49 := hc50.mono (fun _ _ h_ => h_.elim)
 replace H := H.ext hc50
 refine dn tbok (by kernel_rfl) [0, 1, 2, 3, 4, 5, 6] [.int .u8 s.1, .int .u8 s.2, .int .u8 (andV .u8 s.1 s.2)] [(21, .bool ((andV .u8 s.1 s.2 : Int) != 0))] (fun w_ => [World.cell? w_ ⟨g18, 0, none⟩ = some (.int .u8 s.1), World.cell? w_ ⟨g18, 1, none⟩ = some (.int .u8 s.2), IntKind.u8.wrap (BitVec.ofInt (IntKind.bits .u8) s.1 &&& BitVec.ofInt (IntKind.bits .u8) s.2).toNat = andV .u8 s.1 s.2]) 12 E (fun _ _ => by kernel_rfl) (by kernel_rfl) (fun w_ hS_ => ⟨(HR52.boxk [] hS_ 4 rfl rfl).cell (j := 0) rfl, (HR52.boxk [] hS_ 4 rfl rfl).cell (j := 1) rfl, rfl⟩) (by kernel_rfl) HS51 ?_
 clear E; intro a E
 replace E := E.same (t := 21) (u := .bool true) rfl (congrArg Value.bool (bne_iff_ne.2 h39))
 refine dn tbok (by kernel_rfl) [7, 8, 9, 10, 11, 12, 13, 14, 15, 16, 17, 18] [] [(33, .bool true)] (fun w_ => []) 0 E (fun _ _ => by kernel_rfl) (by kernel_rfl) (fun w_ hS_ => trivial) (by kernel_rfl) HS51 ?_
 clear E; intro a E
 refine dr_done (by kernel_rfl) ?_
 clear HS51 HR52
 refine th_n ?_
 refine c_true E rfl ?_
 refine wp_seq ?_
 refine wp_region_lit ?_
 refine vn tbok 1 [] [(4, .int .i64 13)] [] E (by kernel_rfl) (by kernel_rfl) trivial ?_
 clear E; intro a E
 refine wpList_nil ?_
 refine th_n ?_
 refine wp_ret ?_
 refine th_ret ?_
 obtain rfl := Option.some.inj hP
 refine ret1 E rfl rfl ?_
 exact ⟨_, rfl, rfl, H.sel [] rfl⟩

/-! slices.Reverse[[]rejoinder/api.Letter,rejoinder/api.Letter] -/
def slices_Reverse_api_Letter_api_Letter_l0 (N : Nat) : Nat → (List Int) → Int → Int → Option (List Int)
  | 0, _, _, _ => none
  | m45 + 1, s19, i23, j24 =>
    if i23 < j24 then
      ask (idx j24 (List.length s19)) <|
      ask (idx i23 (List.length s19)) <|
      ask (idx j24 (List.length (List.set s19 (Int.toNat i23) (List.getD s19 (Int.toNat j24) 0)))) <|
      ask (in64 (i23 + 1)) <|
      ask (in64 (j24 - 1)) <|
      slices_Reverse_api_Letter_api_Letter_l0 N m45 (List.set (List.set s19 (Int.toNat i23) (List.getD s19 (Int.toNat j24) 0)) (Int.toNat j24) (List.getD s19 (Int.toNat i23) 0)) (i23 + 1) (j24 - 1)
    else
      some s19
def slices_Reverse_api_Letter_api_Letter (N : Nat) (s : List Int) : Option (List Int) :=
  ask (in64 ((((List.length s) : Nat) : Int) - 1)) <|
  Option.bind (slices_Reverse_api_Letter_api_Letter_l0 N N s 0 ((((List.length s) : Nat) : Int) - 1)) fun x46 =>
  some x46
set_option maxRecDepth 100000 in
set_option maxHeartbeats 4000000 in
theorem slices_Reverse_api_Letter_api_Letter_calls {N : Nat} {S Fa : Nat → Prop} {w0 : World} {r : List Int} (A1 : Option Addr) (c2 : Nat) (s : List Int) (H : Hp S Fa w0 w0 [.row true (cInt .u8) 27 A1 c2 s]) (hP : slices_Reverse_api_Letter_api_Letter N s = some r) :
    Calls Try.prog 57 #[.slice A1 (List.length s) c2] w0 fun e w' => ∃ v, e = .returned v ∧ v = .tuple #[] ∧ List.length r = List.length s ∧ Hp S Fa w0 w' [.row true (cInt .u8) 27 A1 c2 r] := by
 refine enterV (n := 28) Try.func57 rfl rfl rfl ?_
 intro a E
 replace E := E.pick [(0, .slice A1 (List.length s) c2)] ⟨rfl, trivial⟩
 rw [slices_Reverse_api_Letter_api_Letter] at hP
 refine wp_seq ?_
 refine wp_region_lit ?_
 obtain ⟨g4, hP⟩ := ask_inv hP
 refine vn tbok 5 [.int .i64 ((((List.length s) : Nat) : Int) - 1)] [(2, .int .i64 0), (3, .int .i64 ((((List.length s) : Nat) : Int) - 1))] [IntKind.i64.wrap ((((List.length s) : Nat) : Int) - 1) = (((List.length s) : Nat) : Int) - 1] E (by kernel_rfl) (by kernel_rfl) (wrap_in g4) ?_
 clear E; intro a E
 refine wpList_nil ?_
 refine th_n ?_
 refine wp_block ?_
 obtain ⟨x46, hL47, hK48⟩ := bind_inv hP
 clear hP
 refine loop_cut (fun i_ a w_ => (i_ = 0 ∧ ∃ (x51 : List Int), Fr a 28 [] ∧ Hp S Fa w0 w_ [.row true (cInt .u8) 27 A1 c2 x51] ∧ List.length x51 = List.length s ∧ x46 = x51)) ?_ ?_
 ·
  refine loopV (fun m50 a w49 => ∃ (s19 : List Int) (i23 : Int) (j24 : Int), Fr a 28 [(0, .slice A1 (List.length s19) c2), (2, .int .i64 i23), (3, .int .i64 j24)] ∧ Hp S Fa w0 w49 [.row true (cInt .u8) 27 A1 c2 s19] ∧ List.length s19 = List.length s ∧ slices_Reverse_api_Letter_api_Letter_l0 N m50 s19 i23 j24 = some x46) N ?_ ?_
  ·
   exact ⟨s, 0, (((List.length s) : Nat) : Int) - 1, E.pick _ ⟨rfl, rfl, rfl, trivial⟩, H.sel [0] rfl, rfl, hL47⟩
  clear E H hL47; intro m50 a w49 hI_
  obtain ⟨s19, i23, j24, E, H, hl22, hP⟩ := hI_
  obtain ⟨m45, rfl⟩ : ∃ q_, m50 = q_ + 1 := by cases m50 with | zero => rw [slices_Reverse_api_Letter_api_Letter_l0] at hP; cases hP | succ q_ => exact ⟨q_, rfl⟩
  rw [slices_Reverse_api_Letter_api_Letter_l0] at hP
  refine wp_seq ?_
  refine wp_seq ?_
  refine wp_region_lit ?_
  refine vn tbok 3 [] [(9, .bool (decide (i23 < j24)))] [] E (by kernel_rfl) (by kernel_rfl) trivial ?_
  clear E; intro a E
  refine wpList_nil ?_
  refine th_n ?_
  refine E.cases (t := 9) rfl (fun hb_ E_ => ?_) (fun hb_ E_ => ?_)
  ·
   replace E := E_; clear E_
   have h52 : i23 < j24 := of_decide_eq_true hb_
   clear hb_; replace hP := ite_t h52 hP
   refine c_true E rfl ?_
   refine wp_skip ?_
   refine th_n ?_
   refine wp_seq ?_
   refine wp_block ?_
   obtain ⟨g53, hP⟩ := ask_inv hP
   obtain ⟨b54, e_b54⟩ := H.raddr 0 rfl (idx_pos g53)
   subst e_b54
   obtain ⟨g56, hP⟩ := ask_inv hP
   obtain ⟨g60, hP⟩ := ask_inv hP
   refine meet_cut (fun a w64 => Fr a 28 [(0, .slice (some ⟨b54, 0, none⟩) (List.length (List.set (List.set s19 (Int.toNat i23) (List.getD s19 (Int.toNat j24) 0)) (Int.toNat j24) (List.getD s19 (Int.toNat i23) 0))) c2), (2, .int .i64 i23), (3, .int .i64 j24)] ∧ Hp S Fa w0 w64 [.row true (cInt .u8) 27 (some ⟨b54, 0, none⟩) c2 (List.set (List.set s19 (Int.toNat i23) (List.getD s19 (Int.toNat j24) 0)) (Int.toNat j24) (List.getD s19 (Int.toNat i23) 0))]) ?_ ?_
   ·
    have HR68 := H
    refine dr_start (S := fun w_ => Chg (atL [.row true (cInt .u8) 27 (some ⟨b54, 0, none⟩) c2 s19]) w49 w_) (by kernel_rfl) ?_
    intro w65 hc66
    have HS67 : Chg (atL [.row true (cInt .u8) 27 (some ⟨b54, 0, none⟩) c2 s19]) w49 w65 := hc66.mono (fun _ _ h_ => h_.elim)
    replace H := H.ext hc66
    refine dn tbok (by kernel_rfl) [0, 1, 2, 3, 4, 5, 8, 9] [] [(14, .slice (some ⟨b54, 0, none⟩) (List.length s19) c2), (15, .int .i64 i23), (16, .slice (some ⟨b54, 0, none⟩) (List.length s19) c2), (17, .int .i64 j24), (18, .slice (some ⟨b54, 0, none⟩) (List.length s19) c2), (19, .int .i64 j24), (22, .slice (some ⟨b54, 0, none⟩) (List.length s19) c2), (23, .int .i64 i23)] (fun w_ => []) 8 E (fun _ _ => by kernel_rfl) (by kernel_rfl) (fun w_ hS_ => trivial) (by kernel_rfl) HS67 ?_
    clear E; intro a E
    refine wpAnyH_all (rs := [6, 10]) (by kernel_rfl) (by simp) ?_
    refine all2 ?_ ?_
    ·
     refine wpOp_of_list rfl ?_
     refine vn tbok 1 [] [(20, .pointer (some ⟨b54, 0 + (Int.toNat j24) * 1, none⟩))] [0 ≤ j24 ∧ j24 < (((List.length s19) : Nat) : Int)] E (by kernel_rfl) (by kernel_rfl) (g53) ?_
     clear E; intro a E
     refine wpList_nil ?_
     refine th_n ⟨HS67, ?_⟩
     refine wpAnyH_all (rs := [7, 10]) (by kernel_rfl) (by simp) ?_
     refine all2 ?_ ?_
     ·
      refine wpOp_of_list rfl ?_
      refine vn tbok 1 [.int .u8 (List.getD s19 (Int.toNat j24) 0)] [(21, .int .u8 (List.getD s19 (Int.toNat j24) 0))] [World.cell? w65 ⟨b54, 0 + (Int.toNat j24) * 1, none⟩ = some (.int .u8 (List.getD s19 (Int.toNat j24) 0))] E (by kernel_rfl) (by kernel_rfl) (Rds.at1 (H.rd 0 rds_row) 0 g53) ?_
      clear E; intro a E
      refine wpList_nil ?_
      refine th_n ⟨HS67, ?_⟩
      refine wpAnyH_all (rs := [10]) (by kernel_rfl) (by simp) ?_
      refine all1 ?_
      refine wpOp_of_list rfl ?_
      refine vn tbok 1 [] [(24, .pointer (some ⟨b54, 0 + (Int.toNat i23) * 1, none⟩))] [0 ≤ i23 ∧ i23 < (((List.length s19) : Nat) : Int)] E (by kernel_rfl) (by kernel_rfl) (g56) ?_
      clear E; intro a E
      refine wpList_nil ?_
      refine th_n ⟨HS67, ?_⟩
      refine wpAnyH_all (rs := [11]) (by kernel_rfl) (by simp) ?_
      refine all1 ?_
      refine wpOp_of_list rfl ?_
      refine vn tbok 1 [.int .u8 (List.getD s19 (Int.toNat i23) 0)] [(25, .int .u8 (List.getD s19 (Int.toNat i23) 0))] [World.cell? w65 ⟨b54, 0 + (Int.toNat i23) * 1, none⟩ = some (.int .u8 (List.getD s19 (Int.toNat i23) 0))] E (by kernel_rfl) (by kernel_rfl) (Rds.at1 (H.rd 0 rds_row) 0 g56) ?_
      clear E; intro a E
      refine wpList_nil ?_
      refine th_n ⟨HS67, ?_⟩
      refine wpAnyH_all (rs := [12]) (by kernel_rfl) (by simp) ?_
      refine all1 ?_
      refine wpOp_of_list rfl ?_
      refine vn tbok 1 [] [(26, .pointer (some ⟨b54, 0 + (Int.toNat i23) * 1, none⟩))] [0 ≤ i23 ∧ i23 < (((List.length s19) : Nat) : Int)] E (by kernel_rfl) (by kernel_rfl) (g56) ?_
      clear E; intro a E
      refine wpList_nil ?_
      refine th_n ⟨HS67, ?_⟩
      refine wpAnyH_all (rs := [13]) (by kernel_rfl) (by simp) ?_
      refine all1 ?_
      refine wpOp_of_list rfl ?_
      refine h_set (g := b54) (i := i23) (List.getD s19 (Int.toNat j24) 0) H 0 rfl E rfl rfl rfl rfl tbok rfl (fun _ HF_ => rfl) rfl g56 rfl ?_
      clear E; intro w69 a hc70 H_ E
      replace HS67 := HS67.trans hc70 (fun k_ hk_ h_ => (fun _ _ h_ => Or.inl h_) k_ hk_ h_)
      replace H := H_; clear H_; try dsimp only [setn, addE, goneL] at H
      have hn71 : (List.length s19) = (List.length (List.set s19 (Int.toNat i23) (List.getD s19 (Int.toNat j24) 0))) := by simp only [List.length_set]
      replace E := E.same (t := 0) (u := .slice (some ⟨b54, 0, none⟩) (List.length (List.set s19 (Int.toNat i23) (List.getD s19 (Int.toNat j24) 0))) c2) rfl (congrArg (fun n_ => Value.slice (some ⟨b54, 0, none⟩) n_ c2) hn71)
      replace E := E.same (t := 14) (u := .slice (some ⟨b54, 0, none⟩) (List.length (List.set s19 (Int.toNat i23) (List.getD s19 (Int.toNat j24) 0))) c2) rfl (congrArg (fun n_ => Value.slice (some ⟨b54, 0, none⟩) n_ c2) hn71)
      replace E := E.same (t := 16) (u := .slice (some ⟨b54, 0, none⟩) (List.length (List.set s19 (Int.toNat i23) (List.getD s19 (Int.toNat j24) 0))) c2) rfl (congrArg (fun n_ => Value.slice (some ⟨b54, 0, none⟩) n_ c2) hn71)
      refine wpList_nil ?_
      refine th_n ⟨HS67, ?_⟩
      refine wpAnyH_all (rs := [14]) (by kernel_rfl) (by simp) ?_
      refine all1 ?_
      refine wpOp_of_list rfl ?_
      refine vn tbok 1 [] [(27, .pointer (some ⟨b54, 0 + (Int.toNat j24) * 1, none⟩))] [0 ≤ j24 ∧ j24 < (((List.length (List.set s19 (Int.toNat i23) (List.getD s19 (Int.toNat j24) 0))) : Nat) : Int)] E (by kernel_rfl) (by kernel_rfl) (g60) ?_
      clear E; intro a E
      refine wpList_nil ?_
      refine th_n ⟨HS67, ?_⟩
      refine wpAnyH_all (rs := [15]) (by kernel_rfl) (by simp) ?_
      refine all1 ?_
      refine wpOp_of_list rfl ?_
      refine h_set (g := b54) (i := j24) (List.getD s19 (Int.toNat i23) 0) H 0 rfl E rfl rfl rfl rfl tbok rfl (fun _ HF_ => rfl) rfl g60 rfl ?_
      clear E; intro w72 a hc73 H_ E
      replace HS67 := HS67.trans hc73 (fun k_ hk_ h_ => (fun _ _ h_ => Or.inl h_) k_ hk_ h_)
      replace H := H_; clear H_; try dsimp only [setn, addE, goneL] at H
      have hn74 : (List.length (List.set s19 (Int.toNat i23) (List.getD s19 (Int.toNat j24) 0))) = (List.length (List.set (List.set s19 (Int.toNat i23) (List.getD s19 (Int.toNat j24) 0)) (Int.toNat j24) (List.getD s19 (Int.toNat i23) 0))) := by simp only [List.length_set]
      replace E := E.same (t := 0) (u := .slice (some ⟨b54, 0, none⟩) (List.length (List.set (List.set s19 (Int.toNat i23) (List.getD s19 (Int.toNat j24) 0)) (Int.toNat j24) (List.getD s19 (Int.toNat i23) 0))) c2) rfl (congrArg (fun n_ => Value.slice (some ⟨b54, 0, none⟩) n_ c2) hn74)
      replace E := E.same (t := 16) (u := .slice (some ⟨b54, 0, none⟩) (List.length (List.set (List.set s19 (Int.toNat i23) (List.getD s19 (Int.toNat j24) 0)) (Int.toNat j24) (List.getD s19 (Int.toNat i23) 0))) c2) rfl (congrArg (fun n_ => Value.slice (some ⟨b54, 0, none⟩) n_ c2) hn74)
      refine wpList_nil ?_
      refine th_n ⟨HS67, ?_⟩
      refine dr_done (by kernel_rfl) ?_
      exact .inl ⟨rfl, E.pick _ ⟨rfl, rfl, rfl, trivial⟩, H.sel [0] rfl⟩
     refine wpOp_of_list rfl ?_
     refine vn tbok 1 [] [(24, .pointer (some ⟨b54, 0 + (Int.toNat i23) * 1, none⟩))] [0 ≤ i23 ∧ i23 < (((List.length s19) : Nat) : Int)] E (by kernel_rfl) (by kernel_rfl) (g56) ?_
     clear E; intro a E
     refine wpList_nil ?_
     refine th_n ⟨HS67, ?_⟩
     refine wpAnyH_all (rs := [7, 11]) (by kernel_rfl) (by simp) ?_
     refine all2 ?_ ?_
     ·
      refine wpOp_of_list rfl ?_
      refine vn tbok 1 [.int .u8 (List.getD s19 (Int.toNat j24) 0)] [(21, .int .u8 (List.getD s19 (Int.toNat j24) 0))] [World.cell? w65 ⟨b54, 0 + (Int.toNat j24) * 1, none⟩ = some (.int .u8 (List.getD s19 (Int.toNat j24) 0))] E (by kernel_rfl) (by kernel_rfl) (Rds.at1 (H.rd 0 rds_row) 0 g53) ?_
      clear E; intro a E
      refine wpList_nil ?_
      refine th_n ⟨HS67, ?_⟩
      refine wpAnyH_all (rs := [11]) (by kernel_rfl) (by simp) ?_
      refine all1 ?_
      refine wpOp_of_list rfl ?_
      refine vn tbok 1 [.int .u8 (List.getD s19 (Int.toNat i23) 0)] [(25, .int .u8 (List.getD s19 (Int.toNat i23) 0))] [World.cell? w65 ⟨b54, 0 + (Int.toNat i23) * 1, none⟩ = some (.int .u8 (List.getD s19 (Int.toNat i23) 0))] E (by kernel_rfl) (by kernel_rfl) (Rds.at1 (H.rd 0 rds_row) 0 g56) ?_
      clear E; intro a E
      refine wpList_nil ?_
      refine th_n ⟨HS67, ?_⟩
      refine wpAnyH_all (rs := [12]) (by kernel_rfl) (by simp) ?_
      refine all1 ?_
      refine wpOp_of_list rfl ?_
      refine vn tbok 1 [] [(26, .pointer (some ⟨b54, 0 + (Int.toNat i23) * 1, none⟩))] [0 ≤ i23 ∧ i23 < (((List.length s19) : Nat) : Int)] E (by kernel_rfl) (by kernel_rfl) (g56) ?_
      clear E; intro a E
      refine wpList_nil ?_
      refine th_n ⟨HS67, ?_⟩
      refine wpAnyH_all (rs := [13]) (by kernel_rfl) (by simp) ?_
      refine all1 ?_
      refine wpOp_of_list rfl ?_
      refine h_set (g := b54) (i := i23) (List.getD s19 (Int.toNat j24) 0) H 0 rfl E rfl rfl rfl rfl tbok rfl (fun _ HF_ => rfl) rfl g56 rfl ?_
      clear E; intro w75 a hc76 H_ E
      replace HS67 := HS67.trans hc76 (fun k_ hk_ h_ => (fun _ _ h_ => Or.inl h_) k_ hk_ h_)
      replace H := H_; clear H_; try dsimp only [setn, addE, goneL] at H
      have hn77 : (List.length s19) = (List.length (List.set s19 (Int.toNat i23) (List.getD s19 (Int.toNat j24) 0))) := by simp only [List.length_set]
      replace E := E.same (t := 0) (u := .slice (some ⟨b54, 0, none⟩) (List.length (List.set s19 (Int.toNat i23) (List.getD s19 (Int.toNat j24) 0))) c2) rfl (congrArg (fun n_ => Value.slice (some ⟨b54, 0, none⟩) n_ c2) hn77)
      replace E := E.same (t := 14) (u := .slice (some ⟨b54, 0, none⟩) (List.length (List.set s19 (Int.toNat i23) (List.getD s19 (Int.toNat j24) 0))) c2) rfl (congrArg (fun n_ => Value.slice (some ⟨b54, 0, none⟩) n_ c2) hn77)
      replace E := E.same (t := 16) (u := .slice (some ⟨b54, 0, none⟩) (List.length (List.set s19 (Int.toNat i23) (List.getD s19 (Int.toNat j24) 0))) c2) rfl (congrArg (fun n_ => Value.slice (some ⟨b54, 0, none⟩) n_ c2) hn77)
      refine wpList_nil ?_
      refine th_n ⟨HS67, ?_⟩
      refine wpAnyH_all (rs := [14]) (by kernel_rfl) (by simp) ?_
      refine all1 ?_
      refine wpOp_of_list rfl ?_
      refine vn tbok 1 [] [(27, .pointer (some ⟨b54, 0 + (Int.toNat j24) * 1, none⟩))] [0 ≤ j24 ∧ j24 < (((List.length (List.set s19 (Int.toNat i23) (List.getD s19 (Int.toNat j24) 0))) : Nat) : Int)] E (by kernel_rfl) (by kernel_rfl) (g60) ?_
      clear E; intro a E
      refine wpList_nil ?_
      refine th_n ⟨HS67, ?_⟩
      refine wpAnyH_all (rs := [15]) (by kernel_rfl) (by simp) ?_
      refine all1 ?_
      refine wpOp_of_list rfl ?_
      refine h_set (g := b54) (i := j24) (List.getD s19 (Int.toNat i23) 0) H 0 rfl E rfl rfl rfl rfl tbok rfl (fun _ HF_ => rfl) rfl g60 rfl ?_
      clear E; intro w78 a hc79 H_ E
      replace HS67 := HS67.trans hc79 (fun k_ hk_ h_ => (fun _ _ h_ => Or.inl h_) k_ hk_ h_)
      replace H := H_; clear H_; try dsimp only [setn, addE, goneL] at H
      have hn80 : (List.length (List.set s19 (Int.toNat i23) (List.getD s19 (Int.toNat j24) 0))) = (List.length (List.set (List.set s19 (Int.toNat i23) (List.getD s19 (Int.toNat j24) 0)) (Int.toNat j24) (List.getD s19 (Int.toNat i23) 0))) := by simp only [List.length_set]
      replace E := E.same (t := 0) (u := .slice (some ⟨b54, 0, none⟩) (List.length (List.set (List.set s19 (Int.toNat i23) (List.getD s19 (Int.toNat j24) 0)) (Int.toNat j24) (List.getD s19 (Int.toNat i23) 0))) c2) rfl (congrArg (fun n_ => Value.slice (some ⟨b54, 0, none⟩) n_ c2) hn80)
      replace E := E.same (t := 16) (u := .slice (some ⟨b54, 0, none⟩) (List.length (List.set (List.set s19 (Int.toNat i23) (List.getD s19 (Int.toNat j24) 0)) (Int.toNat j24) (List.getD s19 (Int.toNat i23) 0))) c2) rfl (congrArg (fun n_ => Value.slice (some ⟨b54, 0, none⟩) n_ c2) hn80)
      refine wpList_nil ?_
      refine th_n ⟨HS67, ?_⟩
      refine dr_done (by kernel_rfl) ?_
      exact .inl ⟨rfl, E.pick _ ⟨rfl, rfl, rfl, trivial⟩, H.sel [0] rfl⟩
     refine wpOp_of_list rfl ?_
     refine vn tbok 1 [.int .u8 (List.getD s19 (Int.toNat i23) 0)] [(25, .int .u8 (List.getD s19 (Int.toNat i23) 0))] [World.cell? w65 ⟨b54, 0 + (Int.toNat i23) * 1, none⟩ = some (.int .u8 (List.getD s19 (Int.toNat i23) 0))] E (by kernel_rfl) (by kernel_rfl) (Rds.at1 (H.rd 0 rds_row) 0 g56) ?_
     clear E; intro a E
     refine wpList_nil ?_
     refine th_n ⟨HS67, ?_⟩
     refine wpAnyH_all (rs := [7]) (by kernel_rfl) (by simp) ?_
     refine all1 ?_
     refine wpOp_of_list rfl ?_
     refine vn tbok 1 [.int .u8 (List.getD s19 (Int.toNat j24) 0)] [(21, .int .u8 (List.getD s19 (Int.toNat j24) 0))] [World.cell? w65 ⟨b54, 0 + (Int.toNat j24) * 1, none⟩ = some (.int .u8 (List.getD s19 (Int.toNat j24) 0))] E (by kernel_rfl) (by kernel_rfl) (Rds.at1 (H.rd 0 rds_row) 0 g53) ?_
     clear E; intro a E
     refine wpList_nil ?_
     refine th_n ⟨HS67, ?_⟩
     refine wpAnyH_all (rs := [12]) (by kernel_rfl) (by simp) ?_
     refine all1 ?_
     refine wpOp_of_list rfl ?_
     refine vn tbok 1 [] [(26, .pointer (some ⟨b54, 0 + (Int.toNat i23) * 1, none⟩))] [0 ≤ i23 ∧ i23 < (((List.length s19) : Nat) : Int)] E (by kernel_rfl) (by kernel_rfl) (g56) ?_
     clear E; intro a E
     refine wpList_nil ?_
     refine th_n ⟨HS67, ?_⟩
     refine wpAnyH_all (rs := [13]) (by kernel_rfl) (by simp) ?_
     refine all1 ?_
     refine wpOp_of_list rfl ?_
     refine h_set (g := b54) (i := i23) (List.getD s19 (Int.toNat j24) 0) H 0 rfl E rfl rfl rfl rfl tbok rfl (fun _ HF_ => rfl) rfl g56 rfl ?_
     clear E; intro w81 a hc82 H_ E
     replace HS67 := HS67.trans hc82 (fun k_ hk_ h_ => (fun _ _ h_ => Or.inl h_) k_ hk_ h_)
     replace H := H_; clear H_; try dsimp only [setn, addE, goneL] at H
     have hn83 : (List.length s19) = (List.length (List.set s19 (Int.toNat i23) (List.getD s19 (Int.toNat j24) 0))) := by simp only [List.length_set]
     replace E := E.same (t := 0) (u := .slice (some ⟨b54, 0, none⟩) (List.length (List.set s19 (Int.toNat i23) (List.getD s19 (Int.toNat j24) 0))) c2) rfl (congrArg (fun n_ => Value.slice (some ⟨b54, 0, none⟩) n_ c2) hn83)
     replace E := E.same (t := 14) (u := .slice (some ⟨b54, 0, none⟩) (List.length (List.set s19 (Int.toNat i23) (List.getD s19 (Int.toNat j24) 0))) c2) rfl (congrArg (fun n_ => Value.slice (some ⟨b54, 0, none⟩) n_ c2) hn83)
     replace E := E.same (t := 16) (u := .slice (some ⟨b54, 0, none⟩) (List.length (List.set s19 (Int.toNat i23) (List.getD s19 (Int.toNat j24) 0))) c2) rfl (congrArg (fun n_ => Value.slice (some ⟨b54, 0, none⟩) n_ c2) hn83)
     refine wpList_nil ?_
     refine th_n ⟨HS67, ?_⟩
     refine wpAnyH_all (rs := [14]) (by kernel_rfl) (by simp) ?_
     refine all1 ?_
     refine wpOp_of_list rfl ?_
     refine vn tbok 1 [] [(27, .pointer (some ⟨b54, 0 + (Int.toNat j24) * 1, none⟩))] [0 ≤ j24 ∧ j24 < (((List.length (List.set s19 (Int.toNat i23) (List.getD s19 (Int.toNat j24) 0))) : Nat) : Int)] E (by kernel_rfl) (by kernel_rfl) (g60) ?_
     clear E; intro a E
     refine wpList_nil ?_
     refine th_n ⟨HS67, ?_⟩
     refine wpAnyH_all (rs := [15]) (by kernel_rfl) (by simp) ?_
     refine all1 ?_
     refine wpOp_of_list rfl ?_
     refine h_set (g := b54) (i := j24) (List.getD s19 (Int.toNat i23) 0) H 0 rfl E rfl rfl rfl rfl tbok rfl (fun _ HF_ => rfl) rfl g60 rfl ?_
     clear E; intro w84 a hc85 H_ E
     replace HS67 := HS67.trans hc85 (fun k_ hk_ h_ => (fun _ _ h_ => Or.inl h_) k_ hk_ h_)
     replace H := H_; clear H_; try dsimp only [setn, addE, goneL] at H
     have hn86 : (List.length (List.set s19 (Int.toNat i23) (List.getD s19 (Int.toNat j24) 0))) = (List.length (List.set (List.set s19 (Int.toNat i23) (List.getD s19 (Int.toNat j24) 0)) (Int.toNat j24) (List.getD s19 (Int.toNat i23) 0))) := by simp only [List.length_set]
     replace E := E.same (t := 0) (u := .slice (some ⟨b54, 0, none⟩) (List.length (List.set (List.set s19 (Int.toNat i23) (List.getD s19 (Int.toNat j24) 0)) (Int.toNat j24) (List.getD s19 (Int.toNat i23) 0))) c2) rfl (congrArg (fun n_ => Value.slice (some ⟨b54, 0, none⟩) n_ c2) hn86)
     replace E := E.same (t := 16) (u := .slice (some ⟨b54, 0, none⟩) (List.length (List.set (List.set s19 (Int.toNat i23) (List.getD s19 (Int.toNat j24) 0)) (Int.toNat j24) (List.getD s19 (Int.toNat i23) 0))) c2) rfl (congrArg (fun n_ => Value.slice (some ⟨b54, 0, none⟩) n_ c2) hn86)
     refine wpList_nil ?_
     refine th_n ⟨HS67, ?_⟩
     refine dr_done (by kernel_rfl) ?_
     exact .inl ⟨rfl, E.pick _ ⟨rfl, rfl, rfl, trivial⟩, H.sel [0] rfl⟩
    refine wpOp_of_list rfl ?_
    refine vn tbok 1 [] [(24, .pointer (some ⟨b54, 0 + (Int.toNat i23) * 1, none⟩))] [0 ≤ i23 ∧ i23 < (((List.length s19) : Nat) : Int)] E (by kernel_rfl) (by kernel_rfl) (g56) ?_
    clear E; intro a E
    refine wpList_nil ?_
    refine th_n ⟨HS67, ?_⟩
    refine wpAnyH_all (rs := [6, 11]) (by kernel_rfl) (by simp) ?_
    refine all2 ?_ ?_
    ·
     refine wpOp_of_list rfl ?_
     refine vn tbok 1 [] [(20, .pointer (some ⟨b54, 0 + (Int.toNat j24) * 1, none⟩))] [0 ≤ j24 ∧ j24 < (((List.length s19) : Nat) : Int)] E (by kernel_rfl) (by kernel_rfl) (g53) ?_
     clear E; intro a E
     refine wpList_nil ?_
     refine th_n ⟨HS67, ?_⟩
     refine wpAnyH_all (rs := [7, 11]) (by kernel_rfl) (by simp) ?_
     refine all2 ?_ ?_
     ·
      refine wpOp_of_list rfl ?_
      refine vn tbok 1 [.int .u8 (List.getD s19 (Int.toNat j24) 0)] [(21, .int .u8 (List.getD s19 (Int.toNat j24) 0))] [World.cell? w65 ⟨b54, 0 + (Int.toNat j24) * 1, none⟩ = some (.int .u8 (List.getD s19 (Int.toNat j24) 0))] E (by kernel_rfl) (by kernel_rfl) (Rds.at1 (H.rd 0 rds_row) 0 g53) ?_
      clear E; intro a E
      refine wpList_nil ?_
      refine th_n ⟨HS67, ?_⟩
      refine wpAnyH_all (rs := [11]) (by kernel_rfl) (by simp) ?_
      refine all1 ?_
      refine wpOp_of_list rfl ?_
      refine vn tbok 1 [.int .u8 (List.getD s19 (Int.toNat i23) 0)] [(25, .int .u8 (List.getD s19 (Int.toNat i23) 0))] [World.cell? w65 ⟨b54, 0 + (Int.toNat i23) * 1, none⟩ = some (.int .u8 (List.getD s19 (Int.toNat i23) 0))] E (by kernel_rfl) (by kernel_rfl) (Rds.at1 (H.rd 0 rds_row) 0 g56) ?_
      clear E; intro a E
      refine wpList_nil ?_
      refine th_n ⟨HS67, ?_⟩
      refine wpAnyH_all (rs := [12]) (by kernel_rfl) (by simp) ?_
      refine all1 ?_
      refine wpOp_of_list rfl ?_
      refine vn tbok 1 [] [(26, .pointer (some ⟨b54, 0 + (Int.toNat i23) * 1, none⟩))] [0 ≤ i23 ∧ i23 < (((List.length s19) : Nat) : Int)] E (by kernel_rfl) (by kernel_rfl) (g56) ?_
      clear E; intro a E
      refine wpList_nil ?_
      refine th_n ⟨HS67, ?_⟩
      refine wpAnyH_all (rs := [13]) (by kernel_rfl) (by simp) ?_
      refine all1 ?_
      refine wpOp_of_list rfl ?_
      refine h_set (g := b54) (i := i23) (List.getD s19 (Int.toNat j24) 0) H 0 rfl E rfl rfl rfl rfl tbok rfl (fun _ HF_ => rfl) rfl g56 rfl ?_
      clear E; intro w87 a hc88 H_ E
      replace HS67 := HS67.trans hc88 (fun k_ hk_ h_ => (fun _ _ h_ => Or.inl h_) k_ hk_ h_)
      replace H := H_; clear H_; try dsimp only [setn, addE, goneL] at H
      have hn89 : (List.length s19) = (List.length (List.set s19 (Int.toNat i23) (List.getD s19 (Int.toNat j24) 0))) := by simp only [List.length_set]
      replace E := E.same (t := 0) (u := .slice (some ⟨b54, 0, none⟩) (List.length (List.set s19 (Int.toNat i23) (List.getD s19 (Int.toNat j24) 0))) c2) rfl (congrArg (fun n_ => Value.slice (some ⟨b54, 0, none⟩) n_ c2) hn89)
      replace E := E.same (t := 14) (u := .slice (some ⟨b54, 0, none⟩) (List.length (List.set s19 (Int.toNat i23) (List.getD s19 (Int.toNat j24) 0))) c2) rfl (congrArg (fun n_ => Value.slice (some ⟨b54, 0, none⟩) n_ c2) hn89)
      replace E := E.same (t := 16) (u := .slice (some ⟨b54, 0, none⟩) (List.length (List.set s19 (Int.toNat i23) (List.getD s19 (Int.toNat j24) 0))) c2) rfl (congrArg (fun n_ => Value.slice (some ⟨b54, 0, none⟩) n_ c2) hn89)
      refine wpList_nil ?_
      refine th_n ⟨HS67, ?_⟩
      refine wpAnyH_all (rs := [14]) (by kernel_rfl) (by simp) ?_
      refine all1 ?_
      refine wpOp_of_list rfl ?_
      refine vn tbok 1 [] [(27, .pointer (some ⟨b54, 0 + (Int.toNat j24) * 1, none⟩))] [0 ≤ j24 ∧ j24 < (((List.length (List.set s19 (Int.toNat i23) (List.getD s19 (Int.toNat j24) 0))) : Nat) : Int)] E (by kernel_rfl) (by kernel_rfl) (g60) ?_
      clear E; intro a E
      refine wpList_nil ?_
      refine th_n ⟨HS67, ?_⟩
      refine wpAnyH_all (rs := [15]) (by kernel_rfl) (by simp) ?_
      refine all1 ?_
      refine wpOp_of_list rfl ?_
      refine h_set (g := b54) (i := j24) (List.getD s19 (Int.toNat i23) 0) H 0 rfl E rfl rfl rfl rfl tbok rfl (fun _ HF_ => rfl) rfl g60 rfl ?_
      clear E; intro w90 a hc91 H_ E
      replace HS67 := HS67.trans hc91 (fun k_ hk_ h_ => (fun _ _ h_ => Or.inl h_) k_ hk_ h_)
      replace H := H_; clear H_; try dsimp only [setn, addE, goneL] at H
      have hn92 : (List.length (List.set s19 (Int.toNat i23) (List.getD s19 (Int.toNat j24) 0))) = (List.length (List.set (List.set s19 (Int.toNat i23) (List.getD s19 (Int.toNat j24) 0)) (Int.toNat j24) (List.getD s19 (Int.toNat i23) 0))) := by simp only [List.length_set]
      replace E := E.same (t := 0) (u := .slice (some ⟨b54, 0, none⟩) (List.length (List.set (List.set s19 (Int.toNat i23) (List.getD s19 (Int.toNat j24) 0)) (Int.toNat j24) (List.getD s19 (Int.toNat i23) 0))) c2) rfl (congrArg (fun n_ => Value.slice (some ⟨b54, 0, none⟩) n_ c2) hn92)
      replace E := E.same (t := 16) (u := .slice (some ⟨b54, 0, none⟩) (List.length (List.set (List.set s19 (Int.toNat i23) (List.getD s19 (Int.toNat j24) 0)) (Int.toNat j24) (List.getD s19 (Int.toNat i23) 0))) c2) rfl (congrArg (fun n_ => Value.slice (some ⟨b54, 0, none⟩) n_ c2) hn92)
      refine wpList_nil ?_
      refine th_n ⟨HS67, ?_⟩
      refine dr_done (by kernel_rfl) ?_
      exact .inl ⟨rfl, E.pick _ ⟨rfl, rfl, rfl, trivial⟩, H.sel [0] rfl⟩
     refine wpOp_of_list rfl ?_
     refine vn tbok 1 [.int .u8 (List.getD s19 (Int.toNat i23) 0)] [(25, .int .u8 (List.getD s19 (Int.toNat i23) 0))] [World.cell? w65 ⟨b54, 0 + (Int.toNat i23) * 1, none⟩ = some (.int .u8 (List.getD s19 (Int.toNat i23) 0))] E (by kernel_rfl) (by kernel_rfl) (Rds.at1 (H.rd 0 rds_row) 0 g56) ?_
     clear E; intro a E
     refine wpList_nil ?_
     refine th_n ⟨HS67, ?_⟩
     refine wpAnyH_all (rs := [7]) (by kernel_rfl) (by simp) ?_
     refine all1 ?_
     refine wpOp_of_list rfl ?_
     refine vn tbok 1 [.int .u8 (List.getD s19 (Int.toNat j24) 0)] [(21, .int .u8 (List.getD s19 (Int.toNat j24) 0))] [World.cell? w65 ⟨b54, 0 + (Int.toNat j24) * 1, none⟩ = some (.int .u8 (List.getD s19 (Int.toNat j24) 0))] E (by kernel_rfl) (by kernel_rfl) (Rds.at1 (H.rd 0 rds_row) 0 g53) ?_
     clear E; intro a E
     refine wpList_nil ?_
     refine th_n ⟨HS67, ?_⟩
     refine wpAnyH_all (rs := [12]) (by kernel_rfl) (by simp) ?_
     refine all1 ?_
     refine wpOp_of_list rfl ?_
     refine vn tbok 1 [] [(26, .pointer (some ⟨b54, 0 + (Int.toNat i23) * 1, none⟩))] [0 ≤ i23 ∧ i23 < (((List.length s19) : Nat) : Int)] E (by kernel_rfl) (by kernel_rfl) (g56) ?_
     clear E; intro a E
     refine wpList_nil ?_
     refine th_n ⟨HS67, ?_⟩
     refine wpAnyH_all (rs := [13]) (by kernel_rfl) (by simp) ?_
     refine all1 ?_
     refine wpOp_of_list rfl ?_
     refine h_set (g := b54) (i := i23) (List.getD s19 (Int.toNat j24) 0) H 0 rfl E rfl rfl rfl rfl tbok rfl (fun _ HF_ => rfl) rfl g56 rfl ?_
     clear E; intro w93 a hc94 H_ E
     replace HS67 := HS67.trans hc94 (fun k_ hk_ h_ => (fun _ _ h_ => Or.inl h_) k_ hk_ h_)
     replace H := H_; clear H_; try dsimp only [setn, addE, goneL] at H
     have hn95 : (List.length s19) = (List.length (List.set s19 (Int.toNat i23) (List.getD s19 (Int.toNat j24) 0))) := by simp only [List.length_set]
     replace E := E.same (t := 0) (u := .slice (some ⟨b54, 0, none⟩) (List.length (List.set s19 (Int.toNat i23) (List.getD s19 (Int.toNat j24) 0))) c2) rfl (congrArg (fun n_ => Value.slice (some ⟨b54, 0, none⟩) n_ c2) hn95)
     replace E := E.same (t := 14) (u := .slice (some ⟨b54, 0, none⟩) (List.length (List.set s19 (Int.toNat i23) (List.getD s19 (Int.toNat j24) 0))) c2) rfl (congrArg (fun n_ => Value.slice (some ⟨b54, 0, none⟩) n_ c2) hn95)
     replace E := E.same (t := 16) (u := .slice (some ⟨b54, 0, none⟩) (List.length (List.set s19 (Int.toNat i23) (List.getD s19 (Int.toNat j24) 0))) c2) rfl (congrArg (fun n_ => Value.slice (some ⟨b54, 0, none⟩) n_ c2) hn95)
     refine wpList_nil ?_
     refine th_n ⟨HS67, ?_⟩
     refine wpAnyH_all (rs := [14]) (by kernel_rfl) (by simp) ?_
     refine all1 ?_
     refine wpOp_of_list rfl ?_
     refine vn tbok 1 [] [(27, .pointer (some ⟨b54, 0 + (Int.toNat j24) * 1, none⟩))] [0 ≤ j24 ∧ j24 < (((List.length (List.set s19 (Int.toNat i23) (List.getD s19 (Int.toNat j24) 0))) : Nat) : Int)] E (by kernel_rfl) (by kernel_rfl) (g60) ?_
     clear E; intro a E
     refine wpList_nil ?_
     refine th_n ⟨HS67, ?_⟩
     refine wpAnyH_all (rs := [15]) (by kernel_rfl) (by simp) ?_
     refine all1 ?_
     refine wpOp_of_list rfl ?_
     refine h_set (g := b54) (i := j24) (List.getD s19 (Int.toNat i23) 0) H 0 rfl E rfl rfl rfl rfl tbok rfl (fun _ HF_ => rfl) rfl g60 rfl ?_
     clear E; intro w96 a hc97 H_ E
     replace HS67 := HS67.trans hc97 (fun k_ hk_ h_ => (fun _ _ h_ => Or.inl h_) k_ hk_ h_)
     replace H := H_; clear H_; try dsimp only [setn, addE, goneL] at H
     have hn98 : (List.length (List.set s19 (Int.toNat i23) (List.getD s19 (Int.toNat j24) 0))) = (List.length (List.set (List.set s19 (Int.toNat i23) (List.getD s19 (Int.toNat j24) 0)) (Int.toNat j24) (List.getD s19 (Int.toNat i23) 0))) := by simp only [List.length_set]
     replace E := E.same (t := 0) (u := .slice (some ⟨b54, 0, none⟩) (List.length (List.set (List.set s19 (Int.toNat i23) (List.getD s19 (Int.toNat j24) 0)) (Int.toNat j24) (List.getD s19 (Int.toNat i23) 0))) c2) rfl (congrArg (fun n_ => Value.slice (some ⟨b54, 0, none⟩) n_ c2) hn98)
     replace E := E.same (t := 16) (u := .slice (some ⟨b54, 0, none⟩) (List.length (List.set (List.set s19 (Int.toNat i23) (List.getD s19 (Int.toNat j24) 0)) (Int.toNat j24) (List.getD s19 (Int.toNat i23) 0))) c2) rfl (congrArg (fun n_ => Value.slice (some ⟨b54, 0, none⟩) n_ c2) hn98)
     refine wpList_nil ?_
     refine th_n ⟨HS67, ?_⟩
     refine dr_done (by kernel_rfl) ?_
     exact .inl ⟨rfl, E.pick _ ⟨rfl, rfl, rfl, trivial⟩, H.sel [0] rfl⟩
    refine wpOp_of_list rfl ?_
    refine vn tbok 1 [.int .u8 (List.getD s19 (Int.toNat i23) 0)] [(25, .int .u8 (List.getD s19 (Int.toNat i23) 0))] [World.cell? w65 ⟨b54, 0 + (Int.toNat i23) * 1, none⟩ = some (.int .u8 (List.getD s19 (Int.toNat i23) 0))] E (by kernel_rfl) (by kernel_rfl) (Rds.at1 (H.rd 0 rds_row) 0 g56) ?_
    clear E; intro a E
    refine wpList_nil ?_
    refine th_n ⟨HS67, ?_⟩
    refine wpAnyH_all (rs := [6]) (by kernel_rfl) (by simp) ?_
    refine all1 ?_
    refine wpOp_of_list rfl ?_
    refine vn tbok 1 [] [(20, .pointer (some ⟨b54, 0 + (Int.toNat j24) * 1, none⟩))] [0 ≤ j24 ∧ j24 < (((List.length s19) : Nat) : Int)] E (by kernel_rfl) (by kernel_rfl) (g53) ?_
    clear E; intro a E
    refine wpList_nil ?_
    refine th_n ⟨HS67, ?_⟩
    refine wpAnyH_all (rs := [7]) (by kernel_rfl) (by simp) ?_
    refine all1 ?_
    refine wpOp_of_list rfl ?_
    refine vn tbok 1 [.int .u8 (List.getD s19 (Int.toNat j24) 0)] [(21, .int .u8 (List.getD s19 (Int.toNat j24) 0))] [World.cell? w65 ⟨b54, 0 + (Int.toNat j24) * 1, none⟩ = some (.int .u8 (List.getD s19 (Int.toNat j24) 0))] E (by kernel_rfl) (by kernel_rfl) (Rds.at1 (H.rd 0 rds_row) 0 g53) ?_
    clear E; intro a E
    refine wpList_nil ?_
    refine th_n ⟨HS67, ?_⟩
    refine wpAnyH_all (rs := [12]) (by kernel_rfl) (by simp) ?_
    refine all1 ?_
    refine wpOp_of_list rfl ?_
    refine vn tbok 1 [] [(26, .pointer (some ⟨b54, 0 + (Int.toNat i23) * 1, none⟩))] [0 ≤ i23 ∧ i23 < (((List.length s19) : Nat) : Int)] E (by kernel_rfl) (by kernel_rfl) (g56) ?_
    clear E; intro a E
    refine wpList_nil ?_
    refine th_n ⟨HS67, ?_⟩
    refine wpAnyH_all (rs := [13]) (by kernel_rfl) (by simp) ?_
    refine all1 ?_
    refine wpOp_of_list rfl ?_
    refine h_set (g := b54) (i := i23) (List.getD s19 (Int.toNat j24) 0) H 0 rfl E rfl rfl rfl rfl tbok rfl (fun _ HF_ => rfl) rfl g56 rfl ?_
    clear E; intro w99 a hc100 H_ E
    replace HS67 := HS67.trans hc100 (fun k_ hk_ h_ => (fun _ _ h_ => Or.inl h_) k_ hk_ h_)
    replace H := H_; clear H_; try dsimp only [setn, addE, goneL] at H
    have hn101 : (List.length s19) = (List.length (List.set s19 (Int.toNat i23) (List.getD s19 (Int.toNat j24) 0))) := by simp only [List.length_set]
    replace E := E.same (t := 0) (u := .slice (some ⟨b54, 0, none⟩) (List.length (List.set s19 (Int.toNat i23) (List.getD s19 (Int.toNat j24) 0))) c2) rfl (congrArg (fun n_ => Value.slice (some ⟨b54, 0, none⟩) n_ c2) hn101)
    replace E := E.same (t := 14) (u := .slice (some ⟨b54, 0, none⟩) (List.length (List.set s19 (Int.toNat i23) (List.getD s19 (Int.toNat j24) 0))) c2) rfl (congrArg (fun n_ => Value.slice (some ⟨b54, 0, none⟩) n_ c2) hn101)
    replace E := E.same (t := 16) (u := .slice (some ⟨b54, 0, none⟩) (List.length (List.set s19 (Int.toNat i23) (List.getD s19 (Int.toNat j24) 0))) c2) rfl (congrArg (fun n_ => Value.slice (some ⟨b54, 0, none⟩) n_ c2) hn101)
    refine wpList_nil ?_
    refine th_n ⟨HS67, ?_⟩
    refine wpAnyH_all (rs := [14]) (by kernel_rfl) (by simp) ?_
    refine all1 ?_
    refine wpOp_of_list rfl ?_
    refine vn tbok 1 [] [(27, .pointer (some ⟨b54, 0 + (Int.toNat j24) * 1, none⟩))] [0 ≤ j24 ∧ j24 < (((List.length (List.set s19 (Int.toNat i23) (List.getD s19 (Int.toNat j24) 0))) : Nat) : Int)] E (by kernel_rfl) (by kernel_rfl) (g60) ?_
    clear E; intro a E
    refine wpList_nil ?_
    refine th_n ⟨HS67, ?_⟩
    refine wpAnyH_all (rs := [15]) (by kernel_rfl) (by simp) ?_
    refine all1 ?_
    refine wpOp_of_list rfl ?_
    refine h_set (g := b54) (i := j24) (List.getD s19 (Int.toNat i23) 0) H 0 rfl E rfl rfl rfl rfl tbok rfl (fun _ HF_ => rfl) rfl g60 rfl ?_
    clear E; intro w102 a hc103 H_ E
    replace HS67 := HS67.trans hc103 (fun k_ hk_ h_ => (fun _ _ h_ => Or.inl h_) k_ hk_ h_)
    replace H := H_; clear H_; try dsimp only [setn, addE, goneL] at H
    have hn104 : (List.length (List.set s19 (Int.toNat i23) (List.getD s19 (Int.toNat j24) 0))) = (List.length (List.set (List.set s19 (Int.toNat i23) (List.getD s19 (Int.toNat j24) 0)) (Int.toNat j24) (List.getD s19 (Int.toNat i23) 0))) := by simp only [List.length_set]
    replace E := E.same (t := 0) (u := .slice (some ⟨b54, 0, none⟩) (List.length (List.set (List.set s19 (Int.toNat i23) (List.getD s19 (Int.toNat j24) 0)) (Int.toNat j24) (List.getD s19 (Int.toNat i23) 0))) c2) rfl (congrArg (fun n_ => Value.slice (some ⟨b54, 0, none⟩) n_ c2) hn104)
    replace E := E.same (t := 16) (u := .slice (some ⟨b54, 0, none⟩) (List.length (List.set (List.set s19 (Int.toNat i23) (List.getD s19 (Int.toNat j24) 0)) (Int.toNat j24) (List.getD s19 (Int.toNat i23) 0))) c2) rfl (congrArg (fun n_ => Value.slice (some ⟨b54, 0, none⟩) n_ c2) hn104)
    refine wpList_nil ?_
    refine th_n ⟨HS67, ?_⟩
    refine dr_done (by kernel_rfl) ?_
    exact .inl ⟨rfl, E.pick _ ⟨rfl, rfl, rfl, trivial⟩, H.sel [0] rfl⟩
   clear E H; rintro a w64 ⟨E, H⟩
   refine bl_n ?_
   refine th_n ?_
   refine wp_region_lit ?_
   obtain ⟨g105, hP⟩ := ask_inv hP
   obtain ⟨g106, hP⟩ := ask_inv hP
   refine vn tbok 6 [.int .i64 (i23 + 1), .int .i64 (j24 - 1)] [(2, .int .i64 (i23 + 1)), (3, .int .i64 (j24 - 1))] [IntKind.i64.wrap (i23 + 1) = i23 + 1, IntKind.i64.wrap (j24 - 1) = j24 - 1] E (by kernel_rfl) (by kernel_rfl) ⟨wrap_in g105, wrap_in g106⟩ ?_
   clear E; intro a E
   refine wpList_nil ?_
   exact th_n ⟨m45, Nat.lt_succ_self _, List.set (List.set s19 (Int.toNat i23) (List.getD s19 (Int.toNat j24) 0)) (Int.toNat j24) (List.getD s19 (Int.toNat i23) 0), i23 + 1, j24 - 1, E.pick _ ⟨rfl, rfl, rfl, trivial⟩, H.sel [0] rfl, (Eq.trans List.length_set (Eq.trans List.length_set hl22)), hP⟩
  replace E := E_; clear E_
  have h107 : ¬ (i23 < j24) := of_decide_eq_false hb_
  clear hb_; replace hP := ite_f h107 hP
  refine c_false E rfl ?_
  refine wp_exit ?_
  refine th_exit ?_
  have hx_ := Option.some.inj hP
  refine th_exit (.inl ⟨0, rfl, ?_⟩)
  exact ⟨rfl, s19, E.pick _ trivial, H.sel [0] rfl, hl22, hx_.symm⟩
 clear E H hL47; intro i_ a w49 hM_
 obtain ⟨rfl, x51, E, H, hl44, hx_⟩ := hM_
 subst hx_; have hP := hK48; clear hK48
 refine bl_hit ?_
 obtain rfl := Option.some.inj hP
 refine bodyPost_end (v := .tuple #[]) (by simp [results, Try.f57]) E.nodef ?_
 exact ⟨_, rfl, rfl, hl44, H.sel [0] rfl⟩

end Go.V
