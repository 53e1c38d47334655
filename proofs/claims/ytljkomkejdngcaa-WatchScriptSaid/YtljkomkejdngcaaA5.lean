/- Plain functions, and the calls that give them. -/
import Derived.Test.YtljkomkejdngcaaA4
set_option linter.all false
set_option linter.unusedVariables false
set_option linter.unnecessarySimpa false
set_option linter.unusedSimpArgs false
namespace Go.V
open Go Go.Proofs
/-! rejoinder/rejoinderref14.fits -/
def ref14_fits (N : Nat) (aProps : Int) (aAccept : List Bool) (aGuard : List Int) (aNodes : List Nd) (ref : Int) (at_ : Int) (p : Int) : Option Bool :=
  if ref < 0 then
    ask (in64 (-(((List.length aAccept) : Nat) : Int))) <|
    some (decide ((-(((List.length aAccept) : Nat) : Int)) ≤ ref))
  else
    if ref < at_ then
      ask (idx ref (List.length aNodes)) <|
      some (decide (p < ((List.getD aNodes (Int.toNat ref) (default : Nd)).P)))
    else
      some false
set_option maxRecDepth 100000 in
set_option maxHeartbeats 4000000 in
theorem ref14_fits_calls {N : Nat} {S Fa : Nat → Prop} {w0 : World} {r : Bool} (A1 : Option Addr) (c2 : Nat) (A5 : Option Addr) (c6 : Nat) (A9 : Option Addr) (c10 : Nat) (aProps : Int) (aAccept : List Bool) (aGuard : List Int) (aNodes : List Nd) (ref : Int) (at_ : Int) (p : Int) (hk3 : List.length aAccept ≤ c2) (hk7 : List.length aGuard ≤ c6) (hk11 : List.length aNodes ≤ c10) (H : Hp S Fa w0 w0 [.ro false cBool A1 aAccept, .ro false (cInt .i64) A5 aGuard, .ro false cNode A9 aNodes]) (hP : ref14_fits N aProps aAccept aGuard aNodes ref at_ p = some r) :
    Calls Try.prog 57 #[.agg #[.int .i64 aProps, .slice A1 (List.length aAccept) c2, .slice A5 (List.length aGuard) c6, .slice A9 (List.length aNodes) c10], .int .i64 ref, .int .i64 at_, .int .i64 p] w0 fun e w' => ∃ v, e = .returned v ∧ v = .bool r ∧ Hp S Fa w0 w' [] := by
 refine enterV (n := 30) Try.func57 rfl rfl rfl ?_
 intro a E
 replace E := E.pick [(0, .agg #[.int .i64 aProps, .slice A1 (List.length aAccept) c2, .slice A5 (List.length aGuard) c6, .slice A9 (List.length aNodes) c10]), (1, .int .i64 ref), (2, .int .i64 at_), (3, .int .i64 p)] ⟨rfl, rfl, rfl, rfl, trivial⟩
 rw [ref14_fits] at hP
 refine wp_seq ?_
 refine wp_region_lit ?_
 refine h_box H E rfl rfl rfl ?_
 intro w14 g13 a hc15 hg17 H_ E_
 replace E := E_ _ rfl; clear E_
 replace H := H_; clear H_; try dsimp only [setn, addE, goneL] at H
 refine vn tbok 1 [] [] [] E (by kernel_rfl) (by kernel_rfl) trivial ?_
 clear E; intro a E
 refine wpList_nil ?_
 refine th_n ?_
 refine wp_seq ?_
 refine wp_seq ?_
 refine wp_region_lit ?_
 refine vn tbok 2 [] [(10, .bool (decide (ref < 0)))] [] E (by kernel_rfl) (by kernel_rfl) trivial ?_
 clear E; intro a E
 refine wpList_nil ?_
 refine th_n ?_
 refine E.cases (t := 10) rfl (fun hb_ E_ => ?_) (fun hb_ E_ => ?_)
 ·
  replace E := E_; clear E_
  have h18 : ref < 0 := of_decide_eq_true hb_
  clear hb_; replace hP := ite_t h18 hP
  refine c_true E rfl ?_
  refine wp_seq ?_
  refine wp_region_lit ?_
  obtain ⟨g19, hP⟩ := ask_inv hP
  refine vn tbok 7 [.slice A1 (List.length aAccept) c2, .int .i64 (-(((List.length aAccept) : Nat) : Int))] [(8, .bool (decide ((-(((List.length aAccept) : Nat) : Int)) ≤ ref)))] [World.cell? w14 ⟨g13, 1, none⟩ = some (.slice A1 (List.length aAccept) c2), IntKind.i64.wrap (0 - (((List.length aAccept) : Nat) : Int)) = -(((List.length aAccept) : Nat) : Int)] E (by kernel_rfl) (by kernel_rfl) ⟨(H.box 3 rfl).cell (j := 1) rfl, neg_in g19⟩ ?_
  clear E; intro a E
  refine wpList_nil ?_
  refine th_n ?_
  refine wp_ret ?_
  refine th_ret ?_
  obtain rfl := Option.some.inj hP
  refine ret1 E rfl rfl ?_
  exact ⟨_, rfl, rfl, H.sel [] rfl⟩
 replace E := E_; clear E_
 have h20 : ¬ (ref < 0) := of_decide_eq_false hb_
 clear hb_; replace hP := ite_f h20 hP
 refine c_false E rfl ?_
 refine wp_skip ?_
 refine th_n ?_
 refine wp_seq ?_
 refine wp_region_lit ?_
 refine vn tbok 4 [] [(20, .bool (decide (ref < at_)))] [] E (by kernel_rfl) (by kernel_rfl) trivial ?_
 clear E; intro a E
 refine E.cases (t := 20) rfl (fun hb_ E_ => ?_) (fun hb_ E_ => ?_)
 ·
  replace E := E_; clear E_
  have h21 : ref < at_ := of_decide_eq_true hb_
  clear hb_; replace hP := ite_t h21 hP
  obtain ⟨g22, hP⟩ := ask_inv hP
  obtain ⟨b23, o24, e_b23⟩ := (H.rd 2 rds_ro).addr (idx_pos g22)
  subst e_b23
  refine vn tbok 10 [.slice (some ⟨b23, o24, none⟩) (List.length aNodes) c10, .int .i64 ((List.getD aNodes (Int.toNat ref) (default : Nd)).P)] [(8, .bool (decide (p < ((List.getD aNodes (Int.toNat ref) (default : Nd)).P))))] [World.cell? w14 ⟨g13, 3, none⟩ = some (.slice (some ⟨b23, o24, none⟩) (List.length aNodes) c10), 0 ≤ ref ∧ ref < (((List.length aNodes) : Nat) : Int), World.cell? w14 ⟨b23, o24 + (Int.toNat ref) * 3, none⟩ = some (.int .i64 ((List.getD aNodes (Int.toNat ref) (default : Nd)).P))] E (by kernel_rfl) (by kernel_rfl) ⟨(H.box 3 rfl).cell (j := 3) rfl, g22, (Rds.atP (H.rd 2 rds_ro) (default : Nd) g22).1⟩ ?_
  clear E; intro a E
  refine wpList_nil ?_
  refine th_n ?_
  refine wp_ret ?_
  obtain rfl := Option.some.inj hP
  refine ret1 E rfl rfl ?_
  exact ⟨_, rfl, rfl, H.sel [] rfl⟩
 replace E := E_; clear E_
 have h25 : ¬ (ref < at_) := of_decide_eq_false hb_
 clear hb_; replace hP := ite_f h25 hP
 refine vn tbok 10 [] [(8, .bool false)] [] E (by kernel_rfl) (by kernel_rfl) trivial ?_
 clear E; intro a E
 refine wpList_nil ?_
 refine th_n ?_
 refine wp_ret ?_
 obtain rfl := Option.some.inj hP
 refine ret1 E rfl rfl ?_
 exact ⟨_, rfl, rfl, H.sel [] rfl⟩

/-! rejoinder/rejoinderref14.Check -/
def ref14_Check_l1 (N : Nat) (aNodes : List Nd) (i70 : Int) : Nat → Int → Option (Unit ⊕ Int)
  | 0, _ => none
  | m198 + 1, k187 =>
    if k187 < i70 then
      ask (idx k187 (List.length aNodes)) <|
      if (List.getD aNodes (Int.toNat k187) (default : Nd)) = (⟨(List.getD aNodes (Int.toNat i70) (default : Nd)).P, (List.getD aNodes (Int.toNat i70) (default : Nd)).Lo, (List.getD aNodes (Int.toNat i70) (default : Nd)).Hi⟩ : Nd) then
        some (Sum.inr 12)
      else
        ask (in64 (k187 + 1)) <|
        ref14_Check_l1 N aNodes i70 m198 (k187 + 1)
    else
      some (Sum.inl ())
def ref14_Check_l0 (N : Nat) (aProps : Int) (aAccept : List Bool) (aGuard : List Int) (aNodes : List Nd) : Nat → Int → Option (Unit ⊕ Int)
  | 0, _ => none
  | m132 + 1, i70 =>
    if i70 < (((List.length aNodes) : Nat) : Int) then
      ask (idx i70 (List.length aNodes)) <|
      if ((List.getD aNodes (Int.toNat i70) (default : Nd)).P) < 0 then
        some (Sum.inr 12)
      else
        if aProps ≤ ((List.getD aNodes (Int.toNat i70) (default : Nd)).P) then
          some (Sum.inr 12)
        else
          if ((List.getD aNodes (Int.toNat i70) (default : Nd)).Lo : Int) = (List.getD aNodes (Int.toNat i70) (default : Nd)).Hi then
            some (Sum.inr 12)
          else
            Option.bind (ref14_fits N aProps aAccept aGuard aNodes ((List.getD aNodes (Int.toNat i70) (default : Nd)).Lo) i70 ((List.getD aNodes (Int.toNat i70) (default : Nd)).P)) fun r156 =>
            if r156 = true then
              Option.bind (ref14_fits N aProps aAccept aGuard aNodes ((List.getD aNodes (Int.toNat i70) (default : Nd)).Hi) i70 ((List.getD aNodes (Int.toNat i70) (default : Nd)).P)) fun r167 =>
              if r167 = true then
                Option.bind (ref14_Check_l1 N aNodes i70 N 0) fun x199 =>
                Sum.elim (fun x204 =>
                  ask (in64 (i70 + 1)) <|
                  ref14_Check_l0 N aProps aAccept aGuard aNodes m132 (i70 + 1))
                 (fun x215 =>
                  some (Sum.inr x215)) x199
              else
                some (Sum.inr 12)
            else
              some (Sum.inr 12)
    else
      some (Sum.inl ())
def ref14_Check_l2 (N : Nat) (aProps : Int) (aAccept : List Bool) (aGuard : List Int) (aNodes : List Nd) : Nat → Int → Option (Unit ⊕ Int)
  | 0, _ => none
  | m275 + 1, i246 =>
    if i246 < (((List.length aGuard) : Nat) : Int) then
      ask (idx i246 (List.length aGuard)) <|
      Option.bind (ref14_fits N aProps aAccept aGuard aNodes (List.getD aGuard (Int.toNat i246) 0) (((List.length aNodes) : Nat) : Int) (-1)) fun r286 =>
      if r286 = true then
        ask (in64 (i246 + 1)) <|
        ref14_Check_l2 N aProps aAccept aGuard aNodes m275 (i246 + 1)
      else
        some (Sum.inr 12)
    else
      some (Sum.inl ())
def ref14_Check (N : Nat) (aProps : Int) (aAccept : List Bool) (aGuard : List Int) (aNodes : List Nd) : Option Int :=
  if aProps < 0 then
    some 12
  else
    if 8 < aProps then
      some 12
    else
      if (((List.length aAccept) : Nat) : Int) < 1 then
        some 12
      else
        if 256 < (((List.length aAccept) : Nat) : Int) then
          some 12
        else
          if ((((List.length aGuard) : Nat) : Int) : Int) = (((List.length aAccept) : Nat) : Int) then
            if 4096 < (((List.length aNodes) : Nat) : Int) then
              some 12
            else
              Option.bind (ref14_Check_l0 N aProps aAccept aGuard aNodes N 0) fun x133 =>
              Sum.elim (fun x138 =>
                Option.bind (ref14_Check_l2 N aProps aAccept aGuard aNodes N 0) fun x276 =>
                Sum.elim (fun x281 =>
                  some 0)
                 (fun x310 =>
                  some x310) x276)
               (fun x218 =>
                some x218) x133
          else
            some 12
set_option maxRecDepth 100000 in
set_option maxHeartbeats 4000000 in
theorem ref14_Check_calls {N : Nat} {S Fa : Nat → Prop} {w0 : World} {r : Int} (A1 : Option Addr) (c2 : Nat) (A5 : Option Addr) (c6 : Nat) (A9 : Option Addr) (c10 : Nat) (aProps : Int) (aAccept : List Bool) (aGuard : List Int) (aNodes : List Nd) (hk3 : List.length aAccept ≤ c2) (hk7 : List.length aGuard ≤ c6) (hk11 : List.length aNodes ≤ c10) (H : Hp S Fa w0 w0 [.ro false cBool A1 aAccept, .ro false (cInt .i64) A5 aGuard, .ro false cNode A9 aNodes]) (hP : ref14_Check N aProps aAccept aGuard aNodes = some r) :
    Calls Try.prog 42 #[.agg #[.int .i64 aProps, .slice A1 (List.length aAccept) c2, .slice A5 (List.length aGuard) c6, .slice A9 (List.length aNodes) c10]] w0 fun e w' => ∃ v, e = .returned v ∧ v = .int .i64 r ∧ Hp S Fa w0 w' [] := by
 refine enterV (n := 121) Try.func42 rfl rfl rfl ?_
 intro a E
 replace E := E.pick [(0, .agg #[.int .i64 aProps, .slice A1 (List.length aAccept) c2, .slice A5 (List.length aGuard) c6, .slice A9 (List.length aNodes) c10])] ⟨rfl, trivial⟩
 rw [ref14_Check] at hP
 refine wp_seq ?_
 refine wp_region_lit ?_
 refine h_box H E rfl rfl rfl ?_
 intro w14 g13 a hc15 hg17 H_ E_
 replace E := E_ _ rfl; clear E_
 replace H := H_; clear H_; try dsimp only [setn, addE, goneL] at H
 refine vn tbok 1 [] [] [] E (by kernel_rfl) (by kernel_rfl) trivial ?_
 clear E; intro a E
 refine wpList_nil ?_
 refine th_n ?_
 refine wp_seq ?_
 refine wp_seq ?_
 refine wp_region_lit ?_
 refine vn tbok 4 [.int .i64 aProps] [(10, .bool (decide (aProps < 0)))] [World.cell? w14 ⟨g13, 0, none⟩ = some (.int .i64 aProps)] E (by kernel_rfl) (by kernel_rfl) ((H.box 3 rfl).cell (j := 0) rfl) ?_
 clear E; intro a E
 refine E.cases (t := 10) rfl (fun hb_ E_ => ?_) (fun hb_ E_ => ?_)
 ·
  replace E := E_; clear E_
  have h18 : aProps < 0 := of_decide_eq_true hb_
  clear hb_; replace hP := ite_t h18 hP
  refine vn tbok 31 [] [(41, .bool true)] [] E (by kernel_rfl) (by kernel_rfl) trivial ?_
  clear E; intro a E
  refine wpList_nil ?_
  refine th_n ?_
  refine c_true E rfl ?_
  refine wp_seq ?_
  refine wp_region_lit ?_
  refine vn tbok 1 [] [(2, .int .i64 12)] [] E (by kernel_rfl) (by kernel_rfl) trivial ?_
  clear E; intro a E
  refine wpList_nil ?_
  refine th_n ?_
  refine wp_ret ?_
  refine th_ret ?_
  obtain rfl := Option.some.inj hP
  refine ret1 E rfl rfl ?_
  exact ⟨_, rfl, rfl, H.sel [] rfl⟩
 replace E := E_; clear E_
 have h19 : ¬ (aProps < 0) := of_decide_eq_false hb_
 clear hb_; replace hP := ite_f h19 hP
 refine vn tbok 5 [.int .i64 aProps] [(15, .bool (decide (8 < aProps)))] [World.cell? w14 ⟨g13, 0, none⟩ = some (.int .i64 aProps)] E (by kernel_rfl) (by kernel_rfl) ((H.box 3 rfl).cell (j := 0) rfl) ?_
 clear E; intro a E
 refine E.cases (t := 15) rfl (fun hb_ E_ => ?_) (fun hb_ E_ => ?_)
 ·
  replace E := E_; clear E_
  have h20 : 8 < aProps := of_decide_eq_true hb_
  clear hb_; replace hP := ite_t h20 hP
  refine vn tbok 26 [] [(41, .bool true)] [] E (by kernel_rfl) (by kernel_rfl) trivial ?_
  clear E; intro a E
  refine wpList_nil ?_
  refine th_n ?_
  refine c_true E rfl ?_
  refine wp_seq ?_
  refine wp_region_lit ?_
  refine vn tbok 1 [] [(2, .int .i64 12)] [] E (by kernel_rfl) (by kernel_rfl) trivial ?_
  clear E; intro a E
  refine wpList_nil ?_
  refine th_n ?_
  refine wp_ret ?_
  refine th_ret ?_
  obtain rfl := Option.some.inj hP
  refine ret1 E rfl rfl ?_
  exact ⟨_, rfl, rfl, H.sel [] rfl⟩
 replace E := E_; clear E_
 have h21 : ¬ (8 < aProps) := of_decide_eq_false hb_
 clear hb_; replace hP := ite_f h21 hP
 refine vn tbok 6 [.slice A1 (List.length aAccept) c2] [(21, .bool (decide ((((List.length aAccept) : Nat) : Int) < 1)))] [World.cell? w14 ⟨g13, 1, none⟩ = some (.slice A1 (List.length aAccept) c2)] E (by kernel_rfl) (by kernel_rfl) ((H.box 3 rfl).cell (j := 1) rfl) ?_
 clear E; intro a E
 refine E.cases (t := 21) rfl (fun hb_ E_ => ?_) (fun hb_ E_ => ?_)
 ·
  replace E := E_; clear E_
  have h22 : (((List.length aAccept) : Nat) : Int) < 1 := of_decide_eq_true hb_
  clear hb_; replace hP := ite_t h22 hP
  refine vn tbok 20 [] [(41, .bool true)] [] E (by kernel_rfl) (by kernel_rfl) trivial ?_
  clear E; intro a E
  refine wpList_nil ?_
  refine th_n ?_
  refine c_true E rfl ?_
  refine wp_seq ?_
  refine wp_region_lit ?_
  refine vn tbok 1 [] [(2, .int .i64 12)] [] E (by kernel_rfl) (by kernel_rfl) trivial ?_
  clear E; intro a E
  refine wpList_nil ?_
  refine th_n ?_
  refine wp_ret ?_
  refine th_ret ?_
  obtain rfl := Option.some.inj hP
  refine ret1 E rfl rfl ?_
  exact ⟨_, rfl, rfl, H.sel [] rfl⟩
 replace E := E_; clear E_
 have h23 : ¬ ((((List.length aAccept) : Nat) : Int) < 1) := of_decide_eq_false hb_
 clear hb_; replace hP := ite_f h23 hP
 refine vn tbok 6 [.slice A1 (List.length aAccept) c2] [(27, .bool (decide (256 < (((List.length aAccept) : Nat) : Int))))] [World.cell? w14 ⟨g13, 1, none⟩ = some (.slice A1 (List.length aAccept) c2)] E (by kernel_rfl) (by kernel_rfl) ((H.box 3 rfl).cell (j := 1) rfl) ?_
 clear E; intro a E
 refine E.cases (t := 27) rfl (fun hb_ E_ => ?_) (fun hb_ E_ => ?_)
 ·
  replace E := E_; clear E_
  have h24 : 256 < (((List.length aAccept) : Nat) : Int) := of_decide_eq_true hb_
  clear hb_; replace hP := ite_t h24 hP
  refine vn tbok 14 [] [(41, .bool true)] [] E (by kernel_rfl) (by kernel_rfl) trivial ?_
  clear E; intro a E
  refine wpList_nil ?_
  refine th_n ?_
  refine c_true E rfl ?_
  refine wp_seq ?_
  refine wp_region_lit ?_
  refine vn tbok 1 [] [(2, .int .i64 12)] [] E (by kernel_rfl) (by kernel_rfl) trivial ?_
  clear E; intro a E
  refine wpList_nil ?_
  refine th_n ?_
  refine wp_ret ?_
  refine th_ret ?_
  obtain rfl := Option.some.inj hP
  refine ret1 E rfl rfl ?_
  exact ⟨_, rfl, rfl, H.sel [] rfl⟩
 replace E := E_; clear E_
 have h25 : ¬ (256 < (((List.length aAccept) : Nat) : Int)) := of_decide_eq_false hb_
 clear hb_; replace hP := ite_f h25 hP
 refine vn tbok 9 [.slice A5 (List.length aGuard) c6, .slice A1 (List.length aAccept) c2] [(36, .bool (((((List.length aGuard) : Nat) : Int) : Int) != (((List.length aAccept) : Nat) : Int)))] [World.cell? w14 ⟨g13, 2, none⟩ = some (.slice A5 (List.length aGuard) c6), World.cell? w14 ⟨g13, 1, none⟩ = some (.slice A1 (List.length aAccept) c2)] E (by kernel_rfl) (by kernel_rfl) ⟨(H.box 3 rfl).cell (j := 2) rfl, (H.box 3 rfl).cell (j := 1) rfl⟩ ?_
 clear E; intro a E
 refine E.cases (t := 36) rfl (fun hb_ E_ => ?_) (fun hb_ E_ => ?_)
 ·
  replace E := E_; clear E_
  have h26 : ¬ (((((List.length aGuard) : Nat) : Int) : Int) = (((List.length aAccept) : Nat) : Int)) := bne_iff_ne.1 hb_
  clear hb_; replace hP := ite_f h26 hP
  refine vn tbok 5 [] [(41, .bool true)] [] E (by kernel_rfl) (by kernel_rfl) trivial ?_
  clear E; intro a E
  refine wpList_nil ?_
  refine th_n ?_
  refine c_true E rfl ?_
  refine wp_seq ?_
  refine wp_region_lit ?_
  refine vn tbok 1 [] [(2, .int .i64 12)] [] E (by kernel_rfl) (by kernel_rfl) trivial ?_
  clear E; intro a E
  refine wpList_nil ?_
  refine th_n ?_
  refine wp_ret ?_
  refine th_ret ?_
  obtain rfl := Option.some.inj hP
  refine ret1 E rfl rfl ?_
  exact ⟨_, rfl, rfl, H.sel [] rfl⟩
 replace E := E_; clear E_
 have h27 : ((((List.length aGuard) : Nat) : Int) : Int) = (((List.length aAccept) : Nat) : Int) := bne_eq_false_iff_eq.1 hb_
 clear hb_; replace hP := ite_t h27 hP
 refine vn tbok 5 [.slice A9 (List.length aNodes) c10] [(41, .bool (decide (4096 < (((List.length aNodes) : Nat) : Int))))] [World.cell? w14 ⟨g13, 3, none⟩ = some (.slice A9 (List.length aNodes) c10)] E (by kernel_rfl) (by kernel_rfl) ((H.box 3 rfl).cell (j := 3) rfl) ?_
 clear E; intro a E
 refine wpList_nil ?_
 refine th_n ?_
 refine E.cases (t := 41) rfl (fun hb_ E_ => ?_) (fun hb_ E_ => ?_)
 ·
  replace E := E_; clear E_
  have h28 : 4096 < (((List.length aNodes) : Nat) : Int) := of_decide_eq_true hb_
  clear hb_; replace hP := ite_t h28 hP
  refine c_true E rfl ?_
  refine wp_seq ?_
  refine wp_region_lit ?_
  refine vn tbok 1 [] [(2, .int .i64 12)] [] E (by kernel_rfl) (by kernel_rfl) trivial ?_
  clear E; intro a E
  refine wpList_nil ?_
  refine th_n ?_
  refine wp_ret ?_
  refine th_ret ?_
  obtain rfl := Option.some.inj hP
  refine ret1 E rfl rfl ?_
  exact ⟨_, rfl, rfl, H.sel [] rfl⟩
 replace E := E_; clear E_
 have h29 : ¬ (4096 < (((List.length aNodes) : Nat) : Int)) := of_decide_eq_false hb_
 clear hb_; replace hP := ite_f h29 hP
 refine c_false E rfl ?_
 refine wp_skip ?_
 refine th_n ?_
 refine wp_seq ?_
 refine wp_seq ?_
 refine wp_region_lit ?_
 refine vn tbok 1 [] [(3, .int .i64 0)] [] E (by kernel_rfl) (by kernel_rfl) trivial ?_
 clear E; intro a E
 refine wpList_nil ?_
 refine th_n ?_
 refine wp_block ?_
 obtain ⟨x133, hL134, hK135⟩ := bind_inv hP
 clear hP
 refine loop_cut (fun i_ a w_ => (i_ = 0 ∧ ∃ (x138 : Unit), Fr a 121 [(1, .pointer (some ⟨g13, 0, none⟩))] ∧ Hp S Fa w0 w_ [.ro false cBool A1 aAccept, .ro false (cInt .i64) A5 aGuard, .ro false cNode A9 aNodes, .box g13 43 [.int .i64 aProps, .slice A1 (List.length aAccept) c2, .slice A5 (List.length aGuard) c6, .slice A9 (List.length aNodes) c10]] ∧ x133 = Sum.inl x138)) ?_ ?_
 ·
  refine loopV (fun m137 a w136 => ∃ (i70 : Int), Fr a 121 [(1, .pointer (some ⟨g13, 0, none⟩)), (3, .int .i64 i70)] ∧ Hp S Fa w0 w136 [.ro false cBool A1 aAccept, .ro false (cInt .i64) A5 aGuard, .ro false cNode A9 aNodes, .box g13 43 [.int .i64 aProps, .slice A1 (List.length aAccept) c2, .slice A5 (List.length aGuard) c6, .slice A9 (List.length aNodes) c10]] ∧ ref14_Check_l0 N aProps aAccept aGuard aNodes m137 i70 = some x133) N ?_ ?_
  ·
   exact ⟨0, E.pick _ ⟨rfl, rfl, trivial⟩, H.sel [0, 1, 2, 3] rfl, hL134⟩
  clear E H hL134; intro m137 a w136 hI_
  obtain ⟨i70, E, H, hP⟩ := hI_
  obtain ⟨m132, rfl⟩ : ∃ q_, m137 = q_ + 1 := by cases m137 with | zero => rw [ref14_Check_l0] at hP; cases hP | succ q_ => exact ⟨q_, rfl⟩
  rw [ref14_Check_l0] at hP
  refine wp_seq ?_
  refine wp_seq ?_
  refine wp_region_lit ?_
  refine vn tbok 5 [.slice A9 (List.length aNodes) c10] [(46, .bool (decide (i70 < (((List.length aNodes) : Nat) : Int))))] [World.cell? w136 ⟨g13, 3, none⟩ = some (.slice A9 (List.length aNodes) c10)] E (by kernel_rfl) (by kernel_rfl) ((H.box 3 rfl).cell (j := 3) rfl) ?_
  clear E; intro a E
  refine wpList_nil ?_
  refine th_n ?_
  refine E.cases (t := 46) rfl (fun hb_ E_ => ?_) (fun hb_ E_ => ?_)
  ·
   replace E := E_; clear E_
   have h139 : i70 < (((List.length aNodes) : Nat) : Int) := of_decide_eq_true hb_
   clear hb_; replace hP := ite_t h139 hP
   refine c_true E rfl ?_
   refine wp_skip ?_
   refine th_n ?_
   refine wp_seq ?_
   refine wp_block ?_
   refine wp_seq ?_
   refine wp_region_lit ?_
   obtain ⟨g140, hP⟩ := ask_inv hP
   obtain ⟨b141, o142, e_b141⟩ := (H.rd 2 rds_ro).addr (idx_pos g140)
   subst e_b141
   refine vn tbok 5 [.slice (some ⟨b141, o142, none⟩) (List.length aNodes) c10, .agg #[.int .i64 ((List.getD aNodes (Int.toNat i70) (default : Nd)).P), .int .i64 ((List.getD aNodes (Int.toNat i70) (default : Nd)).Lo), .int .i64 ((List.getD aNodes (Int.toNat i70) (default : Nd)).Hi)]] [(53, .agg #[.int .i64 ((List.getD aNodes (Int.toNat i70) (default : Nd)).P), .int .i64 ((List.getD aNodes (Int.toNat i70) (default : Nd)).Lo), .int .i64 ((List.getD aNodes (Int.toNat i70) (default : Nd)).Hi)])] [World.cell? w136 ⟨g13, 3, none⟩ = some (.slice (some ⟨b141, o142, none⟩) (List.length aNodes) c10), 0 ≤ i70 ∧ i70 < (((List.length aNodes) : Nat) : Int), cellsAt w136 b141 (o142 + (Int.toNat i70) * 3) [.int .i64 ((List.getD aNodes (Int.toNat i70) (default : Nd)).P), .int .i64 ((List.getD aNodes (Int.toNat i70) (default : Nd)).Lo), .int .i64 ((List.getD aNodes (Int.toNat i70) (default : Nd)).Hi)]] E (by kernel_rfl) (by kernel_rfl) ⟨(H.box 3 rfl).cell (j := 3) rfl, g140, Rds.atP (H.rd 2 rds_ro) (default : Nd) g140⟩ ?_
   clear E; intro a E
   refine h_alloc H E rfl rfl tbok rfl ?_
   intro w144 g143 a hc145 hg147 H_ E_
   replace E := E_ _ rfl; clear E_
   replace H := H_; clear H_; try dsimp only [setn, addE, goneL] at H
   refine h_store (g := g143) (off := 0) H 4 rfl E rfl rfl rfl rfl tbok rfl rfl rfl rfl rfl ?_
   clear E; intro w148 a hc149 H_ E
   replace H := H_; clear H_; try dsimp only [setn, addE, goneL] at H
   refine wpList_nil ?_
   refine th_n ?_
   refine wp_seq ?_
   refine wp_seq ?_
   refine wp_region_lit ?_
   refine vn tbok 4 [.int .i64 ((List.getD aNodes (Int.toNat i70) (default : Nd)).P)] [(57, .bool (decide (((List.getD aNodes (Int.toNat i70) (default : Nd)).P) < 0)))] [World.cell? w148 ⟨g143, 0, none⟩ = some (.int .i64 ((List.getD aNodes (Int.toNat i70) (default : Nd)).P))] E (by kernel_rfl) (by kernel_rfl) ((H.box 4 rfl).cell (j := 0) rfl) ?_
   clear E; intro a E
   refine E.cases (t := 57) rfl (fun hb_ E_ => ?_) (fun hb_ E_ => ?_)
   ·
    replace E := E_; clear E_
    have h150 : ((List.getD aNodes (Int.toNat i70) (default : Nd)).P) < 0 := of_decide_eq_true hb_
    clear hb_; replace hP := ite_t h150 hP
    refine vn tbok 33 [] [(90, .bool true)] [] E (by kernel_rfl) (by kernel_rfl) trivial ?_
    clear E; intro a E
    refine wpList_nil ?_
    refine th_n ?_
    refine c_true E rfl ?_
    refine wp_seq ?_
    refine wp_region_lit ?_
    refine vn tbok 1 [] [(2, .int .i64 12)] [] E (by kernel_rfl) (by kernel_rfl) trivial ?_
    clear E; intro a E
    refine wpList_nil ?_
    refine th_n ?_
    refine wp_ret ?_
    refine th_ret ?_
    refine bl_ret ?_
    refine th_ret ?_
    refine th_ret ?_
    refine .inr ⟨rfl, ?_⟩
    refine bl_ret ?_
    refine th_ret ?_
    have hx_ := Option.some.inj hP; subst hx_
    have hP : some (12) = some r := hK135
    obtain rfl := Option.some.inj hP
    refine ret1 E rfl rfl ?_
    exact ⟨_, rfl, rfl, H.sel [] rfl⟩
   replace E := E_; clear E_
   have h151 : ¬ (((List.getD aNodes (Int.toNat i70) (default : Nd)).P) < 0) := of_decide_eq_false hb_
   clear hb_; replace hP := ite_f h151 hP
   refine vn tbok 7 [.int .i64 ((List.getD aNodes (Int.toNat i70) (default : Nd)).P), .int .i64 aProps] [(64, .bool (decide (aProps ≤ ((List.getD aNodes (Int.toNat i70) (default : Nd)).P))))] [World.cell? w148 ⟨g143, 0, none⟩ = some (.int .i64 ((List.getD aNodes (Int.toNat i70) (default : Nd)).P)), World.cell? w148 ⟨g13, 0, none⟩ = some (.int .i64 aProps)] E (by kernel_rfl) (by kernel_rfl) ⟨(H.box 4 rfl).cell (j := 0) rfl, (H.box 3 rfl).cell (j := 0) rfl⟩ ?_
   clear E; intro a E
   refine E.cases (t := 64) rfl (fun hb_ E_ => ?_) (fun hb_ E_ => ?_)
   ·
    replace E := E_; clear E_
    have h152 : aProps ≤ ((List.getD aNodes (Int.toNat i70) (default : Nd)).P) := of_decide_eq_true hb_
    clear hb_; replace hP := ite_t h152 hP
    refine vn tbok 26 [] [(90, .bool true)] [] E (by kernel_rfl) (by kernel_rfl) trivial ?_
    clear E; intro a E
    refine wpList_nil ?_
    refine th_n ?_
    refine c_true E rfl ?_
    refine wp_seq ?_
    refine wp_region_lit ?_
    refine vn tbok 1 [] [(2, .int .i64 12)] [] E (by kernel_rfl) (by kernel_rfl) trivial ?_
    clear E; intro a E
    refine wpList_nil ?_
    refine th_n ?_
    refine wp_ret ?_
    refine th_ret ?_
    refine bl_ret ?_
    refine th_ret ?_
    refine th_ret ?_
    refine .inr ⟨rfl, ?_⟩
    refine bl_ret ?_
    refine th_ret ?_
    have hx_ := Option.some.inj hP; subst hx_
    have hP : some (12) = some r := hK135
    obtain rfl := Option.some.inj hP
    refine ret1 E rfl rfl ?_
    exact ⟨_, rfl, rfl, H.sel [] rfl⟩
   replace E := E_; clear E_
   have h153 : ¬ (aProps ≤ ((List.getD aNodes (Int.toNat i70) (default : Nd)).P)) := of_decide_eq_false hb_
   clear hb_; replace hP := ite_f h153 hP
   refine vn tbok 7 [.int .i64 ((List.getD aNodes (Int.toNat i70) (default : Nd)).Lo), .int .i64 ((List.getD aNodes (Int.toNat i70) (default : Nd)).Hi)] [(71, .bool (((List.getD aNodes (Int.toNat i70) (default : Nd)).Lo : Int) == ((List.getD aNodes (Int.toNat i70) (default : Nd)).Hi)))] [World.cell? w148 ⟨g143, 1, none⟩ = some (.int .i64 ((List.getD aNodes (Int.toNat i70) (default : Nd)).Lo)), World.cell? w148 ⟨g143, 2, none⟩ = some (.int .i64 ((List.getD aNodes (Int.toNat i70) (default : Nd)).Hi))] E (by kernel_rfl) (by kernel_rfl) ⟨(H.box 4 rfl).cell (j := 1) rfl, (H.box 4 rfl).cell (j := 2) rfl⟩ ?_
   clear E; intro a E
   refine E.cases (t := 71) rfl (fun hb_ E_ => ?_) (fun hb_ E_ => ?_)
   ·
    replace E := E_; clear E_
    have h154 : ((List.getD aNodes (Int.toNat i70) (default : Nd)).Lo : Int) = (List.getD aNodes (Int.toNat i70) (default : Nd)).Hi := eq_of_beq hb_
    clear hb_; replace hP := ite_t h154 hP
    refine vn tbok 19 [] [(90, .bool true)] [] E (by kernel_rfl) (by kernel_rfl) trivial ?_
    clear E; intro a E
    refine wpList_nil ?_
    refine th_n ?_
    refine c_true E rfl ?_
    refine wp_seq ?_
    refine wp_region_lit ?_
    refine vn tbok 1 [] [(2, .int .i64 12)] [] E (by kernel_rfl) (by kernel_rfl) trivial ?_
    clear E; intro a E
    refine wpList_nil ?_
    refine th_n ?_
    refine wp_ret ?_
    refine th_ret ?_
    refine bl_ret ?_
    refine th_ret ?_
    refine th_ret ?_
    refine .inr ⟨rfl, ?_⟩
    refine bl_ret ?_
    refine th_ret ?_
    have hx_ := Option.some.inj hP; subst hx_
    have hP : some (12) = some r := hK135
    obtain rfl := Option.some.inj hP
    refine ret1 E rfl rfl ?_
    exact ⟨_, rfl, rfl, H.sel [] rfl⟩
   replace E := E_; clear E_
   have h155 : ¬ (((List.getD aNodes (Int.toNat i70) (default : Nd)).Lo : Int) = (List.getD aNodes (Int.toNat i70) (default : Nd)).Hi) := ne_of_beq_false hb_
   clear hb_; replace hP := ite_f h155 hP
   refine vn tbok 6 [.agg #[.int .i64 aProps, .slice A1 (List.length aAccept) c2, .slice A5 (List.length aGuard) c6, .slice (some ⟨b141, o142, none⟩) (List.length aNodes) c10], .int .i64 ((List.getD aNodes (Int.toNat i70) (default : Nd)).Lo), .int .i64 ((List.getD aNodes (Int.toNat i70) (default : Nd)).P)] [(72, .agg #[.int .i64 aProps, .slice A1 (List.length aAccept) c2, .slice A5 (List.length aGuard) c6, .slice (some ⟨b141, o142, none⟩) (List.length aNodes) c10]), (74, .int .i64 ((List.getD aNodes (Int.toNat i70) (default : Nd)).Lo)), (75, .int .i64 i70), (77, .int .i64 ((List.getD aNodes (Int.toNat i70) (default : Nd)).P))] [cellsAt w148 g13 (0) [.int .i64 aProps, .slice A1 (List.length aAccept) c2, .slice A5 (List.length aGuard) c6, .slice (some ⟨b141, o142, none⟩) (List.length aNodes) c10], World.cell? w148 ⟨g143, 1, none⟩ = some (.int .i64 ((List.getD aNodes (Int.toNat i70) (default : Nd)).Lo)), World.cell? w148 ⟨g143, 0, none⟩ = some (.int .i64 ((List.getD aNodes (Int.toNat i70) (default : Nd)).P))] E (by kernel_rfl) (by kernel_rfl) ⟨(H.box 3 rfl).sub 0 _ rfl, (H.box 4 rfl).cell (j := 1) rfl, (H.box 4 rfl).cell (j := 0) rfl⟩ ?_
   clear E; intro a E
   obtain ⟨r156, h157, hP⟩ := bind_inv hP
   obtain ⟨Fa158, Hc159, hb160⟩ := H.call [] [(0, false), (1, false), (2, false)] rfl rfl trivial
   refine e_call E rfl rfl Try.func57 rfl rfl rfl (ref14_fits_calls A1 c2 A5 c6 (some ⟨b141, o142, none⟩) c10 aProps aAccept aGuard aNodes ((List.getD aNodes (Int.toNat i70) (default : Nd)).Lo) i70 ((List.getD aNodes (Int.toNat i70) (default : Nd)).P) hk3 hk7 hk11 Hc159 h157) ?_
   rintro v161 w162 a ⟨rfl, HR163⟩ E_
   replace E := E_ _ rfl; clear E_
   obtain ⟨H_, hc164⟩ := hb160 _ _ HR163 rfl
   replace H := H_; clear H_; try dsimp only [setn, addE, goneL] at H
   refine vn tbok 3 [] [(81, .bool (!r156))] [] E (by kernel_rfl) (by kernel_rfl) trivial ?_
   clear E; intro a E
   refine E.cases (t := 81) rfl (fun hb_ E_ => ?_) (fun hb_ E_ => ?_)
   ·
    replace E := E_; clear E_
    have h165 : ¬ (r156 = true) := (ne_true_of_eq_false (not_t hb_))
    clear hb_; replace hP := ite_f h165 hP
    refine vn tbok 9 [] [(90, .bool true)] [] E (by kernel_rfl) (by kernel_rfl) trivial ?_
    clear E; intro a E
    refine wpList_nil ?_
    refine th_n ?_
    refine c_true E rfl ?_
    refine wp_seq ?_
    refine wp_region_lit ?_
    refine vn tbok 1 [] [(2, .int .i64 12)] [] E (by kernel_rfl) (by kernel_rfl) trivial ?_
    clear E; intro a E
    refine wpList_nil ?_
    refine th_n ?_
    refine wp_ret ?_
    refine th_ret ?_
    refine bl_ret ?_
    refine th_ret ?_
    refine th_ret ?_
    refine .inr ⟨rfl, ?_⟩
    refine bl_ret ?_
    refine th_ret ?_
    have hx_ := Option.some.inj hP; subst hx_
    have hP : some (12) = some r := hK135
    obtain rfl := Option.some.inj hP
    refine ret1 E rfl rfl ?_
    exact ⟨_, rfl, rfl, H.sel [] rfl⟩
   replace E := E_; clear E_
   have h166 : r156 = true := (not_f hb_)
   clear hb_; replace hP := ite_t h166 hP
   refine vn tbok 6 [.agg #[.int .i64 aProps, .slice A1 (List.length aAccept) c2, .slice A5 (List.length aGuard) c6, .slice (some ⟨b141, o142, none⟩) (List.length aNodes) c10], .int .i64 ((List.getD aNodes (Int.toNat i70) (default : Nd)).Hi), .int .i64 ((List.getD aNodes (Int.toNat i70) (default : Nd)).P)] [(82, .agg #[.int .i64 aProps, .slice A1 (List.length aAccept) c2, .slice A5 (List.length aGuard) c6, .slice (some ⟨b141, o142, none⟩) (List.length aNodes) c10]), (84, .int .i64 ((List.getD aNodes (Int.toNat i70) (default : Nd)).Hi)), (85, .int .i64 i70), (87, .int .i64 ((List.getD aNodes (Int.toNat i70) (default : Nd)).P))] [cellsAt w162 g13 (0) [.int .i64 aProps, .slice A1 (List.length aAccept) c2, .slice A5 (List.length aGuard) c6, .slice (some ⟨b141, o142, none⟩) (List.length aNodes) c10], World.cell? w162 ⟨g143, 2, none⟩ = some (.int .i64 ((List.getD aNodes (Int.toNat i70) (default : Nd)).Hi)), World.cell? w162 ⟨g143, 0, none⟩ = some (.int .i64 ((List.getD aNodes (Int.toNat i70) (default : Nd)).P))] E (by kernel_rfl) (by kernel_rfl) ⟨(H.box 3 rfl).sub 0 _ rfl, (H.box 4 rfl).cell (j := 2) rfl, (H.box 4 rfl).cell (j := 0) rfl⟩ ?_
   clear E; intro a E
   obtain ⟨r167, h168, hP⟩ := bind_inv hP
   obtain ⟨Fa169, Hc170, hb171⟩ := H.call [] [(0, false), (1, false), (2, false)] rfl rfl trivial
   refine e_call E rfl rfl Try.func57 rfl rfl rfl (ref14_fits_calls A1 c2 A5 c6 (some ⟨b141, o142, none⟩) c10 aProps aAccept aGuard aNodes ((List.getD aNodes (Int.toNat i70) (default : Nd)).Hi) i70 ((List.getD aNodes (Int.toNat i70) (default : Nd)).P) hk3 hk7 hk11 Hc170 h168) ?_
   rintro v172 w173 a ⟨rfl, HR174⟩ E_
   replace E := E_ _ rfl; clear E_
   obtain ⟨H_, hc175⟩ := hb171 _ _ HR174 rfl
   replace H := H_; clear H_; try dsimp only [setn, addE, goneL] at H
   refine vn tbok 2 [] [(90, .bool (!r167))] [] E (by kernel_rfl) (by kernel_rfl) trivial ?_
   clear E; intro a E
   refine wpList_nil ?_
   refine th_n ?_
   refine E.cases (t := 90) rfl (fun hb_ E_ => ?_) (fun hb_ E_ => ?_)
   ·
    replace E := E_; clear E_
    have h176 : ¬ (r167 = true) := (ne_true_of_eq_false (not_t hb_))
    clear hb_; replace hP := ite_f h176 hP
    refine c_true E rfl ?_
    refine wp_seq ?_
    refine wp_region_lit ?_
    refine vn tbok 1 [] [(2, .int .i64 12)] [] E (by kernel_rfl) (by kernel_rfl) trivial ?_
    clear E; intro a E
    refine wpList_nil ?_
    refine th_n ?_
    refine wp_ret ?_
    refine th_ret ?_
    refine bl_ret ?_
    refine th_ret ?_
    refine th_ret ?_
    refine .inr ⟨rfl, ?_⟩
    refine bl_ret ?_
    refine th_ret ?_
    have hx_ := Option.some.inj hP; subst hx_
    have hP : some (12) = some r := hK135
    obtain rfl := Option.some.inj hP
    refine ret1 E rfl rfl ?_
    exact ⟨_, rfl, rfl, H.sel [] rfl⟩
   replace E := E_; clear E_
   have h177 : r167 = true := (not_f hb_)
   clear hb_; replace hP := ite_t h177 hP
   refine c_false E rfl ?_
   refine wp_skip ?_
   refine th_n ?_
   refine wp_seq ?_
   refine wp_region_lit ?_
   refine vn tbok 1 [] [(5, .int .i64 0)] [] E (by kernel_rfl) (by kernel_rfl) trivial ?_
   clear E; intro a E
   refine wpList_nil ?_
   refine th_n ?_
   refine wp_block ?_
   obtain ⟨x199, hL200, hK201⟩ := bind_inv hP
   clear hP
   refine loop_cut (fun i_ a w_ => (i_ = 2 ∧ ∃ (x204 : Unit), Fr a 121 [(1, .pointer (some ⟨g13, 0, none⟩)), (3, .int .i64 i70)] ∧ Hp S Fa w0 w_ [.ro false cBool A1 aAccept, .ro false (cInt .i64) A5 aGuard, .ro false cNode (some ⟨b141, o142, none⟩) aNodes, .box g13 43 [.int .i64 aProps, .slice A1 (List.length aAccept) c2, .slice A5 (List.length aGuard) c6, .slice (some ⟨b141, o142, none⟩) (List.length aNodes) c10]] ∧ x199 = Sum.inl x204)) ?_ ?_
   ·
    refine loopV (fun m203 a w202 => ∃ (k187 : Int), Fr a 121 [(1, .pointer (some ⟨g13, 0, none⟩)), (3, .int .i64 i70), (4, .pointer (some ⟨g143, 0, none⟩)), (5, .int .i64 k187)] ∧ Hp S Fa w0 w202 [.ro false cBool A1 aAccept, .ro false (cInt .i64) A5 aGuard, .ro false cNode (some ⟨b141, o142, none⟩) aNodes, .box g13 43 [.int .i64 aProps, .slice A1 (List.length aAccept) c2, .slice A5 (List.length aGuard) c6, .slice (some ⟨b141, o142, none⟩) (List.length aNodes) c10], .box g143 75 [.int .i64 ((List.getD aNodes (Int.toNat i70) (default : Nd)).P), .int .i64 ((List.getD aNodes (Int.toNat i70) (default : Nd)).Lo), .int .i64 ((List.getD aNodes (Int.toNat i70) (default : Nd)).Hi)]] ∧ ref14_Check_l1 N aNodes i70 m203 k187 = some x199) N ?_ ?_
    ·
     exact ⟨0, E.pick _ ⟨rfl, rfl, rfl, rfl, trivial⟩, H.sel [0, 1, 2, 3, 4] rfl, hL200⟩
    clear E H hL200; intro m203 a w202 hI_
    obtain ⟨k187, E, H, hP⟩ := hI_
    obtain ⟨m198, rfl⟩ : ∃ q_, m203 = q_ + 1 := by cases m203 with | zero => rw [ref14_Check_l1] at hP; cases hP | succ q_ => exact ⟨q_, rfl⟩
    rw [ref14_Check_l1] at hP
    refine wp_seq ?_
    refine wp_seq ?_
    refine wp_region_lit ?_
    refine vn tbok 3 [] [(93, .bool (decide (k187 < i70)))] [] E (by kernel_rfl) (by kernel_rfl) trivial ?_
    clear E; intro a E
    refine wpList_nil ?_
    refine th_n ?_
    refine E.cases (t := 93) rfl (fun hb_ E_ => ?_) (fun hb_ E_ => ?_)
    ·
     replace E := E_; clear E_
     have h205 : k187 < i70 := of_decide_eq_true hb_
     clear hb_; replace hP := ite_t h205 hP
     refine c_true E rfl ?_
     refine wp_skip ?_
     refine th_n ?_
     refine wp_seq ?_
     refine wp_block ?_
     refine wp_seq ?_
     obtain ⟨g206, hP⟩ := ask_inv hP
     have HR210 := H
     refine dr_start (S := fun w_ => Chg (atL []) w202 w_) (by kernel_rfl) ?_
     intro w207 hc208
     have HS209 : Chg (atL []) w202 w207 := hc208.mono (fun _ _ h_ => h_.elim)
     replace H := H.ext hc208
     refine dn tbok (by kernel_rfl) [0, 1, 2, 3, 4, 5] [.slice (some ⟨b141, o142, none⟩) (List.length aNodes) c10, .agg #[.int .i64 ((List.getD aNodes (Int.toNat k187) (default : Nd)).P), .int .i64 ((List.getD aNodes (Int.toNat k187) (default : Nd)).Lo), .int .i64 ((List.getD aNodes (Int.toNat k187) (default : Nd)).Hi)], .agg #[.int .i64 ((List.getD aNodes (Int.toNat i70) (default : Nd)).P), .int .i64 ((List.getD aNodes (Int.toNat i70) (default : Nd)).Lo), .int .i64 ((List.getD aNodes (Int.toNat i70) (default : Nd)).Hi)]] [(100, .agg #[.int .i64 ((List.getD aNodes (Int.toNat k187) (default : Nd)).P), .int .i64 ((List.getD aNodes (Int.toNat k187) (default : Nd)).Lo), .int .i64 ((List.getD aNodes (Int.toNat k187) (default : Nd)).Hi)]), (101, .agg #[.int .i64 ((List.getD aNodes (Int.toNat i70) (default : Nd)).P), .int .i64 ((List.getD aNodes (Int.toNat i70) (default : Nd)).Lo), .int .i64 ((List.getD aNodes (Int.toNat i70) (default : Nd)).Hi)])] (fun w_ => [World.cell? w_ ⟨g13, 3, none⟩ = some (.slice (some ⟨b141, o142, none⟩) (List.length aNodes) c10), 0 ≤ k187 ∧ k187 < (((List.length aNodes) : Nat) : Int), cellsAt w_ b141 (o142 + (Int.toNat k187) * 3) [.int .i64 ((List.getD aNodes (Int.toNat k187) (default : Nd)).P), .int .i64 ((List.getD aNodes (Int.toNat k187) (default : Nd)).Lo), .int .i64 ((List.getD aNodes (Int.toNat k187) (default : Nd)).Hi)], cellsAt w_ g143 (0) [.int .i64 ((List.getD aNodes (Int.toNat i70) (default : Nd)).P), .int .i64 ((List.getD aNodes (Int.toNat i70) (default : Nd)).Lo), .int .i64 ((List.getD aNodes (Int.toNat i70) (default : Nd)).Hi)]]) 1 E (fun _ _ => by kernel_rfl) (by kernel_rfl) (fun w_ hS_ => ⟨(HR210.boxk [] hS_ 3 rfl rfl).cell (j := 3) rfl, g206, Rds.atP (HR210.rdk [] hS_ 2 rds_ro rfl) (default : Nd) g206, (HR210.boxk [] hS_ 4 rfl rfl).sub 0 _ rfl⟩) (by kernel_rfl) HS209 ?_
     clear E; intro a E
     refine wpAnyH_all (rs := [6]) (by kernel_rfl) (by simp) ?_
     refine all1 ?_
     refine wpOp_of_list rfl ?_
     refine e_eqS E rfl rfl rfl rfl grdNd (eqNd (List.getD aNodes (Int.toNat k187) (default : Nd)) (⟨(List.getD aNodes (Int.toNat i70) (default : Nd)).P, (List.getD aNodes (Int.toNat i70) (default : Nd)).Lo, (List.getD aNodes (Int.toNat i70) (default : Nd)).Hi⟩ : Nd) _) (decide ((List.getD aNodes (Int.toNat k187) (default : Nd)) = (⟨(List.getD aNodes (Int.toNat i70) (default : Nd)).P, (List.getD aNodes (Int.toNat i70) (default : Nd)).Lo, (List.getD aNodes (Int.toNat i70) (default : Nd)).Hi⟩ : Nd))) (.inl ⟨rfl, rfl⟩) rfl ?_
     clear E; intro a E
     refine wpList_nil ?_
     refine th_n ⟨HS209, ?_⟩
     refine dr_done (by kernel_rfl) ?_
     clear HS209 HR210
     refine th_n ?_
     refine E.cases (t := 102) rfl (fun hb_ E_ => ?_) (fun hb_ E_ => ?_)
     ·
      replace E := E_; clear E_
      have h211 : (List.getD aNodes (Int.toNat k187) (default : Nd)) = (⟨(List.getD aNodes (Int.toNat i70) (default : Nd)).P, (List.getD aNodes (Int.toNat i70) (default : Nd)).Lo, (List.getD aNodes (Int.toNat i70) (default : Nd)).Hi⟩ : Nd) := of_decide_eq_true hb_
      clear hb_; replace hP := ite_t h211 hP
      refine c_true E rfl ?_
      refine wp_seq ?_
      refine wp_region_lit ?_
      refine vn tbok 1 [] [(2, .int .i64 12)] [] E (by kernel_rfl) (by kernel_rfl) trivial ?_
      clear E; intro a E
      refine wpList_nil ?_
      refine th_n ?_
      refine wp_ret ?_
      refine bl_ret ?_
      refine th_ret ?_
      refine th_ret ?_
      refine .inr ⟨rfl, ?_⟩
      refine bl_ret ?_
      refine bl_ret ?_
      refine th_ret ?_
      refine th_ret ?_
      refine .inr ⟨rfl, ?_⟩
      refine bl_ret ?_
      refine th_ret ?_
      have hx_ := Option.some.inj hP; subst hx_
      have hP : some (Sum.inr 12) = some x133 := hK201
      have hx_ := Option.some.inj hP; subst hx_
      have hP : some (12) = some r := hK135
      obtain rfl := Option.some.inj hP
      refine ret1 E rfl rfl ?_
      exact ⟨_, rfl, rfl, H.sel [] rfl⟩
     replace E := E_; clear E_
     have h212 : ¬ ((List.getD aNodes (Int.toNat k187) (default : Nd)) = (⟨(List.getD aNodes (Int.toNat i70) (default : Nd)).P, (List.getD aNodes (Int.toNat i70) (default : Nd)).Lo, (List.getD aNodes (Int.toNat i70) (default : Nd)).Hi⟩ : Nd)) := of_decide_eq_false hb_
     clear hb_; replace hP := ite_f h212 hP
     refine c_false E rfl ?_
     refine wp_skip ?_
     refine bl_n ?_
     refine th_n ?_
     refine wp_region_lit ?_
     obtain ⟨g213, hP⟩ := ask_inv hP
     refine vn tbok 3 [.int .i64 (k187 + 1)] [(5, .int .i64 (k187 + 1))] [IntKind.i64.wrap (k187 + 1) = k187 + 1] E (by kernel_rfl) (by kernel_rfl) (wrap_in g213) ?_
     clear E; intro a E
     refine wpList_nil ?_
     exact th_n ⟨m198, Nat.lt_succ_self _, k187 + 1, E.pick _ ⟨rfl, rfl, rfl, rfl, trivial⟩, H.sel [0, 1, 2, 3, 4] rfl, hP⟩
    replace E := E_; clear E_
    have h214 : ¬ (k187 < i70) := of_decide_eq_false hb_
    clear hb_; replace hP := ite_f h214 hP
    refine c_false E rfl ?_
    refine wp_exit ?_
    refine th_exit ?_
    have hx_ := Option.some.inj hP
    refine th_exit (.inl ⟨2, rfl, ?_⟩)
    exact ⟨rfl, (), E.pick _ ⟨rfl, rfl, trivial⟩, H.sel [0, 1, 2, 3] rfl, hx_.symm⟩
   clear E H hL200; intro i_ a w202 hM_
   obtain ⟨rfl, x204, E, H, hx_⟩ := hM_
   subst hx_; have hP := elim_l hK201
   clear hK201
   refine bl_hit ?_
   refine bl_n ?_
   refine th_n ?_
   refine wp_region_lit ?_
   obtain ⟨g216, hP⟩ := ask_inv hP
   refine vn tbok 3 [.int .i64 (i70 + 1)] [(3, .int .i64 (i70 + 1))] [IntKind.i64.wrap (i70 + 1) = i70 + 1] E (by kernel_rfl) (by kernel_rfl) (wrap_in g216) ?_
   clear E; intro a E
   refine wpList_nil ?_
   exact th_n ⟨m132, Nat.lt_succ_self _, i70 + 1, E.pick _ ⟨rfl, rfl, trivial⟩, H.sel [0, 1, 2, 3] rfl, hP⟩
  replace E := E_; clear E_
  have h217 : ¬ (i70 < (((List.length aNodes) : Nat) : Int)) := of_decide_eq_false hb_
  clear hb_; replace hP := ite_f h217 hP
  refine c_false E rfl ?_
  refine wp_exit ?_
  refine th_exit ?_
  have hx_ := Option.some.inj hP
  refine th_exit (.inl ⟨0, rfl, ?_⟩)
  exact ⟨rfl, (), E.pick _ ⟨rfl, trivial⟩, H.sel [0, 1, 2, 3] rfl, hx_.symm⟩
 clear E H hL134; intro i_ a w136 hM_
 obtain ⟨rfl, x138, E, H, hx_⟩ := hM_
 subst hx_; have hP := elim_l hK135
 clear hK135
 refine bl_hit ?_
 refine th_n ?_
 refine wp_seq ?_
 refine wp_seq ?_
 refine wp_region_lit ?_
 refine vn tbok 1 [] [(6, .int .i64 0)] [] E (by kernel_rfl) (by kernel_rfl) trivial ?_
 clear E; intro a E
 refine wpList_nil ?_
 refine th_n ?_
 refine wp_block ?_
 obtain ⟨x276, hL277, hK278⟩ := bind_inv hP
 clear hP
 refine loop_cut (fun i_ a w_ => (i_ = 4 ∧ ∃ (x281 : Unit), Fr a 121 [] ∧ Hp S Fa w0 w_ [] ∧ x276 = Sum.inl x281)) ?_ ?_
 ·
  refine loopV (fun m280 a w279 => ∃ (i246 : Int), Fr a 121 [(1, .pointer (some ⟨g13, 0, none⟩)), (6, .int .i64 i246)] ∧ Hp S Fa w0 w279 [.ro false cBool A1 aAccept, .ro false (cInt .i64) A5 aGuard, .ro false cNode A9 aNodes, .box g13 43 [.int .i64 aProps, .slice A1 (List.length aAccept) c2, .slice A5 (List.length aGuard) c6, .slice A9 (List.length aNodes) c10]] ∧ ref14_Check_l2 N aProps aAccept aGuard aNodes m280 i246 = some x276) N ?_ ?_
  ·
   exact ⟨0, E.pick _ ⟨rfl, rfl, trivial⟩, H.sel [0, 1, 2, 3] rfl, hL277⟩
  clear E H hL277; intro m280 a w279 hI_
  obtain ⟨i246, E, H, hP⟩ := hI_
  obtain ⟨m275, rfl⟩ : ∃ q_, m280 = q_ + 1 := by cases m280 with | zero => rw [ref14_Check_l2] at hP; cases hP | succ q_ => exact ⟨q_, rfl⟩
  rw [ref14_Check_l2] at hP
  refine wp_seq ?_
  refine wp_seq ?_
  refine wp_region_lit ?_
  refine vn tbok 5 [.slice A5 (List.length aGuard) c6] [(107, .bool (decide (i246 < (((List.length aGuard) : Nat) : Int))))] [World.cell? w279 ⟨g13, 2, none⟩ = some (.slice A5 (List.length aGuard) c6)] E (by kernel_rfl) (by kernel_rfl) ((H.box 3 rfl).cell (j := 2) rfl) ?_
  clear E; intro a E
  refine wpList_nil ?_
  refine th_n ?_
  refine E.cases (t := 107) rfl (fun hb_ E_ => ?_) (fun hb_ E_ => ?_)
  ·
   replace E := E_; clear E_
   have h282 : i246 < (((List.length aGuard) : Nat) : Int) := of_decide_eq_true hb_
   clear hb_; replace hP := ite_t h282 hP
   refine c_true E rfl ?_
   refine wp_skip ?_
   refine th_n ?_
   refine wp_seq ?_
   refine wp_block ?_
   refine wp_seq ?_
   obtain ⟨g283, hP⟩ := ask_inv hP
   obtain ⟨b284, o285, e_b284⟩ := (H.rd 1 rds_ro).addr (idx_pos g283)
   subst e_b284
   obtain ⟨r286, h287, hP⟩ := bind_inv hP
   have HR298 := H
   refine dr_start (S := fun w_ => Chg (atL []) w279 w_) (by kernel_rfl) ?_
   intro w295 hc296
   have HS297 : Chg (atL []) w279 w295 := hc296.mono (fun _ _ h_ => h_.elim)
   replace H := H.ext hc296
   refine dn tbok (by kernel_rfl) [0, 1, 2, 3, 4, 5, 6, 7, 8] [.agg #[.int .i64 aProps, .slice A1 (List.length aAccept) c2, .slice (some ⟨b284, o285, none⟩) (List.length aGuard) c6, .slice A9 (List.length aNodes) c10], .slice (some ⟨b284, o285, none⟩) (List.length aGuard) c6, .int .i64 (List.getD aGuard (Int.toNat i246) 0), .slice A9 (List.length aNodes) c10] [(110, .agg #[.int .i64 aProps, .slice A1 (List.length aAccept) c2, .slice (some ⟨b284, o285, none⟩) (List.length aGuard) c6, .slice A9 (List.length aNodes) c10]), (115, .int .i64 (List.getD aGuard (Int.toNat i246) 0)), (118, .int .i64 (((List.length aNodes) : Nat) : Int))] (fun w_ => [cellsAt w_ g13 (0) [.int .i64 aProps, .slice A1 (List.length aAccept) c2, .slice (some ⟨b284, o285, none⟩) (List.length aGuard) c6, .slice A9 (List.length aNodes) c10], World.cell? w_ ⟨g13, 2, none⟩ = some (.slice (some ⟨b284, o285, none⟩) (List.length aGuard) c6), 0 ≤ i246 ∧ i246 < (((List.length aGuard) : Nat) : Int), World.cell? w_ ⟨b284, o285 + (Int.toNat i246) * 1, none⟩ = some (.int .i64 (List.getD aGuard (Int.toNat i246) 0)), World.cell? w_ ⟨g13, 3, none⟩ = some (.slice A9 (List.length aNodes) c10)]) 2 E (fun _ _ => by kernel_rfl) (by kernel_rfl) (fun w_ hS_ => ⟨(HR298.boxk [] hS_ 3 rfl rfl).sub 0 _ rfl, (HR298.boxk [] hS_ 3 rfl rfl).cell (j := 2) rfl, g283, Rds.at1 (HR298.rdk [] hS_ 1 rds_ro rfl) 0 g283, (HR298.boxk [] hS_ 3 rfl rfl).cell (j := 3) rfl⟩) (by kernel_rfl) HS297 ?_
   clear E; intro a E
   refine wpAnyH_all (rs := [9]) (by kernel_rfl) (by simp) ?_
   refine all1 ?_
   refine wpOp_of_list rfl ?_
   obtain ⟨Fa299, Hc300, hb301⟩ := H.call [] [(0, false), (1, false), (2, false)] rfl rfl trivial
   refine e_call E rfl rfl Try.func57 rfl rfl rfl (ref14_fits_calls A1 c2 (some ⟨b284, o285, none⟩) c6 A9 c10 aProps aAccept aGuard aNodes (List.getD aGuard (Int.toNat i246) 0) (((List.length aNodes) : Nat) : Int) (-1) hk3 hk7 hk11 Hc300 h287) ?_
   rintro v302 w303 a ⟨rfl, HR304⟩ E_
   replace E := E_ _ rfl; clear E_
   obtain ⟨H_, hc305⟩ := hb301 _ _ HR304 rfl
   replace HS297 := HS297.ext (callS_ext hc305)
   replace H := H_; clear H_; try dsimp only [setn, addE, goneL] at H
   refine wpList_nil ?_
   refine th_n ⟨HS297, ?_⟩
   refine dn tbok (by kernel_rfl) [10] [] [(120, .bool (!r286))] (fun w_ => []) 0 E (fun _ _ => by kernel_rfl) (by kernel_rfl) (fun w_ hS_ => trivial) (by kernel_rfl) HS297 ?_
   clear E; intro a E
   refine dr_done (by kernel_rfl) ?_
   clear HS297 HR298
   refine th_n ?_
   refine E.cases (t := 120) rfl (fun hb_ E_ => ?_) (fun hb_ E_ => ?_)
   ·
    replace E := E_; clear E_
    have h306 : ¬ (r286 = true) := (ne_true_of_eq_false (not_t hb_))
    clear hb_; replace hP := ite_f h306 hP
    refine c_true E rfl ?_
    refine wp_seq ?_
    refine wp_region_lit ?_
    refine vn tbok 1 [] [(2, .int .i64 12)] [] E (by kernel_rfl) (by kernel_rfl) trivial ?_
    clear E; intro a E
    refine wpList_nil ?_
    refine th_n ?_
    refine wp_ret ?_
    refine bl_ret ?_
    refine th_ret ?_
    refine th_ret ?_
    refine .inr ⟨rfl, ?_⟩
    refine bl_ret ?_
    refine th_ret ?_
    have hx_ := Option.some.inj hP; subst hx_
    have hP : some (12) = some r := hK278
    obtain rfl := Option.some.inj hP
    refine ret1 E rfl rfl ?_
    exact ⟨_, rfl, rfl, H.sel [] rfl⟩
   replace E := E_; clear E_
   have h307 : r286 = true := (not_f hb_)
   clear hb_; replace hP := ite_t h307 hP
   refine c_false E rfl ?_
   refine wp_skip ?_
   refine bl_n ?_
   refine th_n ?_
   refine wp_region_lit ?_
   obtain ⟨g308, hP⟩ := ask_inv hP
   refine vn tbok 3 [.int .i64 (i246 + 1)] [(6, .int .i64 (i246 + 1))] [IntKind.i64.wrap (i246 + 1) = i246 + 1] E (by kernel_rfl) (by kernel_rfl) (wrap_in g308) ?_
   clear E; intro a E
   refine wpList_nil ?_
   exact th_n ⟨m275, Nat.lt_succ_self _, i246 + 1, E.pick _ ⟨rfl, rfl, trivial⟩, H.sel [0, 1, 2, 3] rfl, hP⟩
  replace E := E_; clear E_
  have h309 : ¬ (i246 < (((List.length aGuard) : Nat) : Int)) := of_decide_eq_false hb_
  clear hb_; replace hP := ite_f h309 hP
  refine c_false E rfl ?_
  refine wp_exit ?_
  refine th_exit ?_
  have hx_ := Option.some.inj hP
  refine th_exit (.inl ⟨4, rfl, ?_⟩)
  exact ⟨rfl, (), E.pick _ trivial, H.sel [] rfl, hx_.symm⟩
 clear E H hL277; intro i_ a w279 hM_
 obtain ⟨rfl, x281, E, H, hx_⟩ := hM_
 subst hx_; have hP := elim_l hK278
 clear hK278
 refine bl_hit ?_
 refine th_n ?_
 refine wp_seq ?_
 refine wp_region_lit ?_
 refine vn tbok 1 [] [(2, .int .i64 0)] [] E (by kernel_rfl) (by kernel_rfl) trivial ?_
 clear E; intro a E
 refine wpList_nil ?_
 refine th_n ?_
 refine wp_ret ?_
 obtain rfl := Option.some.inj hP
 refine ret1 E rfl rfl ?_
 exact ⟨_, rfl, rfl, H.sel [] rfl⟩

/-! rejoinder/rejoinderref21.New -/
def ref21_New (N : Nat) (aProps : Int) (aAccept : List Bool) (aGuard : List Int) (aNodes : List Nd) : Option (Int ⊕ Int) :=
  Option.bind (ref14_Check N aProps aAccept aGuard aNodes) fun r122 =>
  if (r122 : Int) = 0 then
    some (Sum.inr 0)
  else
    some (Sum.inl 12)
set_option maxRecDepth 100000 in
set_option maxHeartbeats 4000000 in
theorem ref21_New_calls {N : Nat} {S Fa : Nat → Prop} {w0 : World} {r : Int ⊕ Int} (A1 : Option Addr) (c2 : Nat) (A5 : Option Addr) (c6 : Nat) (A9 : Option Addr) (c10 : Nat) (aProps : Int) (aAccept : List Bool) (aGuard : List Int) (aNodes : List Nd) (hk3 : List.length aAccept ≤ c2) (hk7 : List.length aGuard ≤ c6) (hk11 : List.length aNodes ≤ c10) (H : Hp S Fa w0 w0 [.ro false cBool A1 aAccept, .ro false (cInt .i64) A5 aGuard, .ro false cNode A9 aNodes]) (hP : ref21_New N aProps aAccept aGuard aNodes = some r) :
    Calls Try.prog 27 #[.agg #[.int .i64 aProps, .slice A1 (List.length aAccept) c2, .slice A5 (List.length aGuard) c6, .slice A9 (List.length aNodes) c10]] w0 fun e w' => ∃ v, e = .returned v ∧ ((∃ (x_ : Int), r = Sum.inl x_ ∧ v = .tuple #[.pointer none, .int .i64 x_] ∧ Hp S Fa w0 w' []) ∨ (∃ (x_ : Int) (g15 : Nat), r = Sum.inr x_ ∧ v = .tuple #[.pointer (some ⟨g15, 0, none⟩), .int .i64 x_] ∧ Hp S Fa w0 w' [.box g15 67 [.int .i64 aProps, .slice A1 (List.length aAccept) c2, .slice A5 (List.length aGuard) c6, .slice A9 (List.length aNodes) c10, .slice none 0 0]])) := by
 refine enterV (n := 10) Try.func27 rfl rfl rfl ?_
 intro a E
 replace E := E.pick [(0, .agg #[.int .i64 aProps, .slice A1 (List.length aAccept) c2, .slice A5 (List.length aGuard) c6, .slice A9 (List.length aNodes) c10])] ⟨rfl, trivial⟩
 rw [ref21_New] at hP
 refine wp_seq ?_
 refine wp_region_lit ?_
 refine h_box H E rfl rfl rfl ?_
 intro w118 g117 a hc119 hg121 H_ E_
 replace E := E_ _ rfl; clear E_
 replace H := H_; clear H_; try dsimp only [setn, addE, goneL] at H
 refine vn tbok 2 [] [] [] E (by kernel_rfl) (by kernel_rfl) trivial ?_
 clear E; intro a E
 refine wpList_nil ?_
 refine th_n ?_
 refine wp_seq ?_
 refine wp_seq ?_
 refine wp_region_lit ?_
 refine vn tbok 1 [.agg #[.int .i64 aProps, .slice A1 (List.length aAccept) c2, .slice A5 (List.length aGuard) c6, .slice A9 (List.length aNodes) c10]] [(4, .agg #[.int .i64 aProps, .slice A1 (List.length aAccept) c2, .slice A5 (List.length aGuard) c6, .slice A9 (List.length aNodes) c10])] [cellsAt w118 g117 (0) [.int .i64 aProps, .slice A1 (List.length aAccept) c2, .slice A5 (List.length aGuard) c6, .slice A9 (List.length aNodes) c10]] E (by kernel_rfl) (by kernel_rfl) ((H.box 3 rfl).sub 0 _ rfl) ?_
 clear E; intro a E
 obtain ⟨r122, h123, hP⟩ := bind_inv hP
 obtain ⟨Fa124, Hc125, hb126⟩ := H.call [] [(0, false), (1, false), (2, false)] rfl rfl trivial
 refine e_call E rfl rfl Try.func42 rfl rfl rfl (ref14_Check_calls A1 c2 A5 c6 A9 c10 aProps aAccept aGuard aNodes hk3 hk7 hk11 Hc125 h123) ?_
 rintro v127 w128 a ⟨rfl, HR129⟩ E_
 replace E := E_ _ rfl; clear E_
 obtain ⟨H_, hc130⟩ := hb126 _ _ HR129 rfl
 replace H := H_; clear H_; try dsimp only [setn, addE, goneL] at H
 refine vn tbok 1 [] [(6, .bool ((r122 : Int) != 0))] [] E (by kernel_rfl) (by kernel_rfl) trivial ?_
 clear E; intro a E
 refine wpList_nil ?_
 refine th_n ?_
 refine E.cases (t := 6) rfl (fun hb_ E_ => ?_) (fun hb_ E_ => ?_)
 ·
  replace E := E_; clear E_
  have h131 : ¬ ((r122 : Int) = 0) := bne_iff_ne.1 hb_
  clear hb_; replace hP := ite_f h131 hP
  refine c_true E rfl ?_
  refine wp_seq ?_
  refine wp_region_lit ?_
  refine vn tbok 2 [] [(2, .pointer none), (3, .int .i64 12)] [] E (by kernel_rfl) (by kernel_rfl) trivial ?_
  clear E; intro a E
  refine wpList_nil ?_
  refine th_n ?_
  refine wp_ret ?_
  refine th_ret ?_
  obtain rfl := Option.some.inj hP
  refine ret2 E rfl rfl rfl ?_
  exact ⟨_, rfl, .inl ⟨12, rfl, rfl, H.sel [] rfl⟩⟩
 replace E := E_; clear E_
 have h132 : (r122 : Int) = 0 := bne_eq_false_iff_eq.1 hb_
 clear hb_; replace hP := ite_t h132 hP
 refine c_false E rfl ?_
 refine wp_skip ?_
 refine th_n ?_
 refine wp_seq ?_
 refine wp_region_lit ?_
 refine vn tbok 1 [.agg #[.int .i64 aProps, .slice A1 (List.length aAccept) c2, .slice A5 (List.length aGuard) c6, .slice A9 (List.length aNodes) c10]] [(7, .agg #[.int .i64 aProps, .slice A1 (List.length aAccept) c2, .slice A5 (List.length aGuard) c6, .slice A9 (List.length aNodes) c10])] [cellsAt w128 g117 (0) [.int .i64 aProps, .slice A1 (List.length aAccept) c2, .slice A5 (List.length aGuard) c6, .slice A9 (List.length aNodes) c10]] E (by kernel_rfl) (by kernel_rfl) ((H.box 3 rfl).sub 0 _ rfl) ?_
 clear E; intro a E
 refine e_build (ps := [(0, .agg #[.int .i64 aProps, .slice A1 (List.length aAccept) c2, .slice A5 (List.length aGuard) c6, .slice A9 (List.length aNodes) c10])]) (v := .agg #[.int .i64 aProps, .slice A1 (List.length aAccept) c2, .slice A5 (List.length aGuard) c6, .slice A9 (List.length aNodes) c10, .slice none 0 0]) E rfl rfl tbok rfl (by kernel_rfl) rfl ?_
 clear E; intro a E
 refine h_box H E rfl rfl rfl ?_
 intro w134 g133 a hc135 hg137 H_ E_
 replace E := E_ _ rfl; clear E_
 replace H := H_; clear H_; try dsimp only [setn, addE, goneL] at H
 refine vn tbok 2 [] [(2, .pointer (some ⟨g133, 0, none⟩)), (3, .int .i64 0)] [] E (by kernel_rfl) (by kernel_rfl) trivial ?_
 clear E; intro a E
 refine wpList_nil ?_
 refine th_n ?_
 refine wp_ret ?_
 obtain rfl := Option.some.inj hP
 refine ret2 E rfl rfl rfl ?_
 exact ⟨_, rfl, .inr (⟨0, g133, rfl, rfl, H.sel [4] rfl⟩)⟩

/-! rejoinder/rejoinderref01.Bit -/
def ref01_Bit (N : Nat) (ll : Int) (p : Int) : Option Bool :=
  if 0 ≤ p then
    if p < 8 then
      ask (0 ≤ p) <|
      some ((andV .u8 (shrV .u8 ll p) 1 : Int) == 1)
    else
      some false
  else
    some false
set_option maxRecDepth 100000 in
set_option maxHeartbeats 4000000 in
theorem ref01_Bit_calls {N : Nat} {S Fa : Nat → Prop} {w0 : World} {r : Bool} (ll : Int) (p : Int) (H : Hp S Fa w0 w0 []) (hP : ref01_Bit N ll p = some r) :
    Calls Try.prog 61 #[.int .u8 ll, .int .i64 p] w0 fun e w' => ∃ v, e = .returned v ∧ v = .bool r ∧ Hp S Fa w0 w' [] := by
 refine enterV (n := 18) Try.func61 rfl rfl rfl ?_
 intro a E
 replace E := E.pick [(0, .int .u8 ll), (1, .int .i64 p)] ⟨rfl, rfl, trivial⟩
 rw [ref01_Bit] at hP
 refine wp_seq ?_
 refine wp_region_lit ?_
 refine vn tbok 1 [] [] [] E (by kernel_rfl) (by kernel_rfl) trivial ?_
 clear E; intro a E
 refine wpList_nil ?_
 refine th_n ?_
 refine wp_seq ?_
 refine wp_region_lit ?_
 refine vn tbok 3 [] [(7, .bool (decide (0 ≤ p)))] [] E (by kernel_rfl) (by kernel_rfl) trivial ?_
 clear E; intro a E
 refine E.cases (t := 7) rfl (fun hb_ E_ => ?_) (fun hb_ E_ => ?_)
 ·
  replace E := E_; clear E_
  have h1 : 0 ≤ p := of_decide_eq_true hb_
  clear hb_; replace hP := ite_t h1 hP
  refine vn tbok 4 [] [(11, .bool (decide (p < 8)))] [] E (by kernel_rfl) (by kernel_rfl) trivial ?_
  clear E; intro a E
  refine E.cases (t := 11) rfl (fun hb_ E_ => ?_) (fun hb_ E_ => ?_)
  ·
   replace E := E_; clear E_
   have h2 : p < 8 := of_decide_eq_true hb_
   clear hb_; replace hP := ite_t h2 hP
   obtain ⟨g3, hP⟩ := ask_inv hP
   refine vn tbok 7 [.int .u8 (shrV .u8 ll p), .int .u8 (andV .u8 (shrV .u8 ll p) 1)] [(4, .bool ((andV .u8 (shrV .u8 ll p) 1 : Int) == 1))] [0 ≤ p ∧ Int.fdiv ll (2 ^ (min (Int.toNat p) (IntKind.bits .u8))) = shrV .u8 ll p, IntKind.u8.wrap (BitVec.ofInt (IntKind.bits .u8) (shrV .u8 ll p) &&& BitVec.ofInt (IntKind.bits .u8) 1).toNat = andV .u8 (shrV .u8 ll p) 1] E (by kernel_rfl) (by kernel_rfl) ⟨⟨g3, rfl⟩, rfl⟩ ?_
   clear E; intro a E
   refine wpList_nil ?_
   refine th_n ?_
   refine wp_ret ?_
   obtain rfl := Option.some.inj hP
   refine ret1 E rfl rfl ?_
   exact ⟨_, rfl, rfl, H.sel [] rfl⟩
  replace E := E_; clear E_
  have h4 : ¬ (p < 8) := of_decide_eq_false hb_
  clear hb_; replace hP := ite_f h4 hP
  refine vn tbok 7 [] [(4, .bool false)] [] E (by kernel_rfl) (by kernel_rfl) trivial ?_
  clear E; intro a E
  refine wpList_nil ?_
  refine th_n ?_
  refine wp_ret ?_
  obtain rfl := Option.some.inj hP
  refine ret1 E rfl rfl ?_
  exact ⟨_, rfl, rfl, H.sel [] rfl⟩
 replace E := E_; clear E_
 have h5 : ¬ (0 ≤ p) := of_decide_eq_false hb_
 clear hb_; replace hP := ite_f h5 hP
 refine vn tbok 11 [] [(4, .bool false)] [] E (by kernel_rfl) (by kernel_rfl) trivial ?_
 clear E; intro a E
 refine wpList_nil ?_
 refine th_n ?_
 refine wp_ret ?_
 obtain rfl := Option.some.inj hP
 refine ret1 E rfl rfl ?_
 exact ⟨_, rfl, rfl, H.sel [] rfl⟩

/-! rejoinder/rejoinderref01.Fits -/
def ref01_Fits_l0 (N : Nat) (ll : Int) : Nat → Int → Option (Unit ⊕ Bool)
  | 0, _ => none
  | m34 + 1, p19 =>
    if p19 < 8 then
      Option.bind (ref01_Bit N ll p19) fun r42 =>
      if r42 = true then
        some (Sum.inr false)
      else
        ask (in64 (p19 + 1)) <|
        ref01_Fits_l0 N ll m34 (p19 + 1)
    else
      some (Sum.inl ())
def ref01_Fits (N : Nat) (n : Int) (ll : Int) : Option Bool :=
  if n < 0 then
    some false
  else
    if 8 < n then
      some false
    else
      Option.bind (ref01_Fits_l0 N ll N n) fun x35 =>
      Sum.elim (fun x40 =>
        some true)
       (fun x55 =>
        some x55) x35
set_option maxRecDepth 100000 in
set_option maxHeartbeats 4000000 in
theorem ref01_Fits_calls {N : Nat} {S Fa : Nat → Prop} {w0 : World} {r : Bool} (n : Int) (ll : Int) (H : Hp S Fa w0 w0 []) (hP : ref01_Fits N n ll = some r) :
    Calls Try.prog 54 #[.int .i64 n, .int .u8 ll] w0 fun e w' => ∃ v, e = .returned v ∧ v = .bool r ∧ Hp S Fa w0 w' [] := by
 refine enterV (n := 20) Try.func54 rfl rfl rfl ?_
 intro a E
 replace E := E.pick [(0, .int .i64 n), (1, .int .u8 ll)] ⟨rfl, rfl, trivial⟩
 rw [ref01_Fits] at hP
 refine wp_seq ?_
 refine wp_region_lit ?_
 refine vn tbok 1 [] [] [] E (by kernel_rfl) (by kernel_rfl) trivial ?_
 clear E; intro a E
 refine wpList_nil ?_
 refine th_n ?_
 refine wp_seq ?_
 refine wp_seq ?_
 refine wp_region_lit ?_
 refine vn tbok 3 [] [(8, .bool (decide (n < 0)))] [] E (by kernel_rfl) (by kernel_rfl) trivial ?_
 clear E; intro a E
 refine E.cases (t := 8) rfl (fun hb_ E_ => ?_) (fun hb_ E_ => ?_)
 ·
  replace E := E_; clear E_
  have h1 : n < 0 := of_decide_eq_true hb_
  clear hb_; replace hP := ite_t h1 hP
  refine vn tbok 3 [] [(11, .bool true)] [] E (by kernel_rfl) (by kernel_rfl) trivial ?_
  clear E; intro a E
  refine wpList_nil ?_
  refine th_n ?_
  refine c_true E rfl ?_
  refine wp_seq ?_
  refine wp_region_lit ?_
  refine vn tbok 1 [] [(4, .bool false)] [] E (by kernel_rfl) (by kernel_rfl) trivial ?_
  clear E; intro a E
  refine wpList_nil ?_
  refine th_n ?_
  refine wp_ret ?_
  refine th_ret ?_
  obtain rfl := Option.some.inj hP
  refine ret1 E rfl rfl ?_
  exact ⟨_, rfl, rfl, H.sel [] rfl⟩
 replace E := E_; clear E_
 have h2 : ¬ (n < 0) := of_decide_eq_false hb_
 clear hb_; replace hP := ite_f h2 hP
 refine vn tbok 3 [] [(11, .bool (decide (8 < n)))] [] E (by kernel_rfl) (by kernel_rfl) trivial ?_
 clear E; intro a E
 refine wpList_nil ?_
 refine th_n ?_
 refine E.cases (t := 11) rfl (fun hb_ E_ => ?_) (fun hb_ E_ => ?_)
 ·
  replace E := E_; clear E_
  have h3 : 8 < n := of_decide_eq_true hb_
  clear hb_; replace hP := ite_t h3 hP
  refine c_true E rfl ?_
  refine wp_seq ?_
  refine wp_region_lit ?_
  refine vn tbok 1 [] [(4, .bool false)] [] E (by kernel_rfl) (by kernel_rfl) trivial ?_
  clear E; intro a E
  refine wpList_nil ?_
  refine th_n ?_
  refine wp_ret ?_
  refine th_ret ?_
  obtain rfl := Option.some.inj hP
  refine ret1 E rfl rfl ?_
  exact ⟨_, rfl, rfl, H.sel [] rfl⟩
 replace E := E_; clear E_
 have h4 : ¬ (8 < n) := of_decide_eq_false hb_
 clear hb_; replace hP := ite_f h4 hP
 refine c_false E rfl ?_
 refine wp_skip ?_
 refine th_n ?_
 refine wp_seq ?_
 refine wp_seq ?_
 refine wp_region_lit ?_
 refine vn tbok 2 [] [(5, .int .i64 n)] [] E (by kernel_rfl) (by kernel_rfl) trivial ?_
 clear E; intro a E
 refine wpList_nil ?_
 refine th_n ?_
 refine wp_block ?_
 obtain ⟨x35, hL36, hK37⟩ := bind_inv hP
 clear hP
 refine loop_cut (fun i_ a w_ => (i_ = 0 ∧ ∃ (x40 : Unit), Fr a 20 [] ∧ Hp S Fa w0 w_ [] ∧ x35 = Sum.inl x40)) ?_ ?_
 ·
  refine loopV (fun m39 a w38 => ∃ (p19 : Int), Fr a 20 [(1, .int .u8 ll), (5, .int .i64 p19)] ∧ Hp S Fa w0 w38 [] ∧ ref01_Fits_l0 N ll m39 p19 = some x35) N ?_ ?_
  ·
   exact ⟨n, E.pick _ ⟨rfl, rfl, trivial⟩, H.sel [] rfl, hL36⟩
  clear E H hL36; intro m39 a w38 hI_
  obtain ⟨p19, E, H, hP⟩ := hI_
  obtain ⟨m34, rfl⟩ : ∃ q_, m39 = q_ + 1 := by cases m39 with | zero => rw [ref01_Fits_l0] at hP; cases hP | succ q_ => exact ⟨q_, rfl⟩
  rw [ref01_Fits_l0] at hP
  refine wp_seq ?_
  refine wp_seq ?_
  refine wp_region_lit ?_
  refine vn tbok 2 [] [(14, .bool (decide (p19 < 8)))] [] E (by kernel_rfl) (by kernel_rfl) trivial ?_
  clear E; intro a E
  refine wpList_nil ?_
  refine th_n ?_
  refine E.cases (t := 14) rfl (fun hb_ E_ => ?_) (fun hb_ E_ => ?_)
  ·
   replace E := E_; clear E_
   have h41 : p19 < 8 := of_decide_eq_true hb_
   clear hb_; replace hP := ite_t h41 hP
   refine c_true E rfl ?_
   refine wp_skip ?_
   refine th_n ?_
   refine wp_seq ?_
   refine wp_block ?_
   refine wp_seq ?_
   refine wp_region_lit ?_
   refine vn tbok 2 [] [(17, .int .u8 ll), (18, .int .i64 p19)] [] E (by kernel_rfl) (by kernel_rfl) trivial ?_
   clear E; intro a E
   obtain ⟨r42, h43, hP⟩ := bind_inv hP
   obtain ⟨Fa44, Hc45, hb46⟩ := H.call [] [] rfl rfl trivial
   refine e_call E rfl rfl Try.func61 rfl rfl rfl (ref01_Bit_calls  ll p19  Hc45 h43) ?_
   rintro v47 w48 a ⟨rfl, HR49⟩ E_
   replace E := E_ _ rfl; clear E_
   obtain ⟨H_, hc50⟩ := hb46 _ _ HR49 rfl
   replace H := H_; clear H_; try dsimp only [setn, addE, goneL] at H
   refine wpList_nil ?_
   refine th_n ?_
   refine E.cases (t := 19) rfl (fun hb_ E_ => ?_) (fun hb_ E_ => ?_)
   ·
    replace E := E_; clear E_
    have h51 : r42 = true := hb_
    clear hb_; replace hP := ite_t h51 hP
    refine c_true E rfl ?_
    refine wp_seq ?_
    refine wp_region_lit ?_
    refine vn tbok 1 [] [(4, .bool false)] [] E (by kernel_rfl) (by kernel_rfl) trivial ?_
    clear E; intro a E
    refine wpList_nil ?_
    refine th_n ?_
    refine wp_ret ?_
    refine bl_ret ?_
    refine th_ret ?_
    refine th_ret ?_
    refine .inr ⟨rfl, ?_⟩
    refine bl_ret ?_
    refine th_ret ?_
    have hx_ := Option.some.inj hP; subst hx_
    have hP : some (false) = some r := hK37
    obtain rfl := Option.some.inj hP
    refine ret1 E rfl rfl ?_
    exact ⟨_, rfl, rfl, H.sel [] rfl⟩
   replace E := E_; clear E_
   have h52 : ¬ (r42 = true) := (ne_true_of_eq_false hb_)
   clear hb_; replace hP := ite_f h52 hP
   refine c_false E rfl ?_
   refine wp_skip ?_
   refine bl_n ?_
   refine th_n ?_
   refine wp_region_lit ?_
   obtain ⟨g53, hP⟩ := ask_inv hP
   refine vn tbok 3 [.int .i64 (p19 + 1)] [(5, .int .i64 (p19 + 1))] [IntKind.i64.wrap (p19 + 1) = p19 + 1] E (by kernel_rfl) (by kernel_rfl) (wrap_in g53) ?_
   clear E; intro a E
   refine wpList_nil ?_
   exact th_n ⟨m34, Nat.lt_succ_self _, p19 + 1, E.pick _ ⟨rfl, rfl, trivial⟩, H.sel [] rfl, hP⟩
  replace E := E_; clear E_
  have h54 : ¬ (p19 < 8) := of_decide_eq_false hb_
  clear hb_; replace hP := ite_f h54 hP
  refine c_false E rfl ?_
  refine wp_exit ?_
  refine th_exit ?_
  have hx_ := Option.some.inj hP
  refine th_exit (.inl ⟨0, rfl, ?_⟩)
  exact ⟨rfl, (), E.pick _ trivial, H.sel [] rfl, hx_.symm⟩
 clear E H hL36; intro i_ a w38 hM_
 obtain ⟨rfl, x40, E, H, hx_⟩ := hM_
 subst hx_; have hP := elim_l hK37
 clear hK37
 refine bl_hit ?_
 refine th_n ?_
 refine wp_seq ?_
 refine wp_region_lit ?_
 refine vn tbok 1 [] [(4, .bool true)] [] E (by kernel_rfl) (by kernel_rfl) trivial ?_
 clear E; intro a E
 refine wpList_nil ?_
 refine th_n ?_
 refine wp_ret ?_
 obtain rfl := Option.some.inj hP
 refine ret1 E rfl rfl ?_
 exact ⟨_, rfl, rfl, H.sel [] rfl⟩

end Go.V
