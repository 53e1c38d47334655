/- Plain functions, and the calls that give them. -/
import Derived.Test.YtclijiacfmljlaaA7
set_option linter.all false
set_option linter.unusedVariables false
set_option linter.unnecessarySimpa false
set_option linter.unusedSimpArgs false
namespace Go.V
open Go Go.Proofs
/-! rejoinder/rejoinderlaw19.Large -/
def law19_Large (N : Nat) (aProps : Int) (aAccept : List Bool) (aGuard : List Int) (aNodes : List Nd) : Option Bool :=
  if 3 < aProps then
    if aProps ≤ 8 then
      some true
    else
      if 10 < (((List.length aAccept) : Nat) : Int) then
        if (((List.length aAccept) : Nat) : Int) ≤ 256 then
          some true
        else
          if 259 < (((List.length aAccept) : Nat) : Int) then
            some true
          else
            if 40 < (((List.length aNodes) : Nat) : Int) then
              some true
            else
              some (decide (300 < (((List.length aGuard) : Nat) : Int)))
      else
        if 259 < (((List.length aAccept) : Nat) : Int) then
          some true
        else
          if 40 < (((List.length aNodes) : Nat) : Int) then
            some true
          else
            some (decide (300 < (((List.length aGuard) : Nat) : Int)))
  else
    if 10 < (((List.length aAccept) : Nat) : Int) then
      if (((List.length aAccept) : Nat) : Int) ≤ 256 then
        some true
      else
        if 259 < (((List.length aAccept) : Nat) : Int) then
          some true
        else
          if 40 < (((List.length aNodes) : Nat) : Int) then
            some true
          else
            some (decide (300 < (((List.length aGuard) : Nat) : Int)))
    else
      if 259 < (((List.length aAccept) : Nat) : Int) then
        some true
      else
        if 40 < (((List.length aNodes) : Nat) : Int) then
          some true
        else
          some (decide (300 < (((List.length aGuard) : Nat) : Int)))
set_option maxRecDepth 100000 in
set_option maxHeartbeats 4000000 in
theorem law19_Large_calls {N : Nat} {S Fa : Nat → Prop} {w0 : World} {r : Bool} (A1 : Option Addr) (c2 : Nat) (A5 : Option Addr) (c6 : Nat) (A9 : Option Addr) (c10 : Nat) (aProps : Int) (aAccept : List Bool) (aGuard : List Int) (aNodes : List Nd) (hk3 : List.length aAccept ≤ c2) (hk7 : List.length aGuard ≤ c6) (hk11 : List.length aNodes ≤ c10) (H : Hp S Fa w0 w0 [.ro false cBool A1 aAccept, .ro false (cInt .i64) A5 aGuard, .ro false cNode A9 aNodes]) (hP : law19_Large N aProps aAccept aGuard aNodes = some r) :
    Calls Try.prog 7 #[.agg #[.int .i64 aProps, .slice A1 (List.length aAccept) c2, .slice A5 (List.length aGuard) c6, .slice A9 (List.length aNodes) c10]] w0 fun e w' => ∃ v, e = .returned v ∧ v = .bool r ∧ Hp S Fa w0 w' [] := by
 refine enterV (n := 41) Try.func7 rfl rfl rfl ?_
 intro a E
 replace E := E.pick [(0, .agg #[.int .i64 aProps, .slice A1 (List.length aAccept) c2, .slice A5 (List.length aGuard) c6, .slice A9 (List.length aNodes) c10])] ⟨rfl, trivial⟩
 rw [law19_Large] at hP
 refine wp_seq ?_
 refine wp_region_lit ?_
 refine h_box H E rfl rfl rfl ?_
 intro w14 g13 a hc15 hg17 H_ E_
 replace E := E_ _ rfl; clear E_
 replace H := H_; clear H_; try dsimp only [setn, addE, goneL] at H
 refine vn tbok 1 [] [] [] E (by kernel_rfl) (by kernel_rfl) trivial ?_
 clear E; intro a E
 refine wpList_nil ?_
 refine th_n ?_
 refine wp_seq ?_
 refine wp_region_lit ?_
 refine vn tbok 4 [.int .i64 aProps] [(6, .bool (decide (3 < aProps)))] [World.cell? w14 ⟨g13, 0, none⟩ = some (.int .i64 aProps)] E (by kernel_rfl) (by kernel_rfl) ((H.box 3 rfl).cell (j := 0) rfl) ?_
 clear E; intro a E
 refine E.cases (t := 6) rfl (fun hb_ E_ => ?_) (fun hb_ E_ => ?_)
 ·
  replace E := E_; clear E_
  have h18 : 3 < aProps := of_decide_eq_true hb_
  clear hb_; replace hP := ite_t h18 hP
  refine vn tbok 5 [.int .i64 aProps] [(11, .bool (decide (aProps ≤ 8)))] [World.cell? w14 ⟨g13, 0, none⟩ = some (.int .i64 aProps)] E (by kernel_rfl) (by kernel_rfl) ((H.box 3 rfl).cell (j := 0) rfl) ?_
  clear E; intro a E
  refine E.cases (t := 11) rfl (fun hb_ E_ => ?_) (fun hb_ E_ => ?_)
  ·
   replace E := E_; clear E_
   have h19 : aProps ≤ 8 := of_decide_eq_true hb_
   clear hb_; replace hP := ite_t h19 hP
   refine vn tbok 30 [] [(2, .bool true)] [] E (by kernel_rfl) (by kernel_rfl) trivial ?_
   clear E; intro a E
   refine wpList_nil ?_
   refine th_n ?_
   refine wp_ret ?_
   obtain rfl := Option.some.inj hP
   refine ret1 E rfl rfl ?_
   exact ⟨_, rfl, rfl, H.sel [] rfl⟩
  replace E := E_; clear E_
  have h20 : ¬ (aProps ≤ 8) := of_decide_eq_false hb_
  clear hb_; replace hP := ite_f h20 hP
  refine vn tbok 5 [.slice A1 (List.length aAccept) c2] [(16, .bool (decide (10 < (((List.length aAccept) : Nat) : Int))))] [World.cell? w14 ⟨g13, 1, none⟩ = some (.slice A1 (List.length aAccept) c2)] E (by kernel_rfl) (by kernel_rfl) ((H.box 3 rfl).cell (j := 1) rfl) ?_
  clear E; intro a E
  refine E.cases (t := 16) rfl (fun hb_ E_ => ?_) (fun hb_ E_ => ?_)
  ·
   replace E := E_; clear E_
   have h21 : 10 < (((List.length aAccept) : Nat) : Int) := of_decide_eq_true hb_
   clear hb_; replace hP := ite_t h21 hP
   refine vn tbok 7 [.slice A1 (List.length aAccept) c2] [(23, .bool (decide ((((List.length aAccept) : Nat) : Int) ≤ 256)))] [World.cell? w14 ⟨g13, 1, none⟩ = some (.slice A1 (List.length aAccept) c2)] E (by kernel_rfl) (by kernel_rfl) ((H.box 3 rfl).cell (j := 1) rfl) ?_
   clear E; intro a E
   refine E.cases (t := 23) rfl (fun hb_ E_ => ?_) (fun hb_ E_ => ?_)
   ·
    replace E := E_; clear E_
    have h22 : (((List.length aAccept) : Nat) : Int) ≤ 256 := of_decide_eq_true hb_
    clear hb_; replace hP := ite_t h22 hP
    refine vn tbok 18 [] [(2, .bool true)] [] E (by kernel_rfl) (by kernel_rfl) trivial ?_
    clear E; intro a E
    refine wpList_nil ?_
    refine th_n ?_
    refine wp_ret ?_
    obtain rfl := Option.some.inj hP
    refine ret1 E rfl rfl ?_
    exact ⟨_, rfl, rfl, H.sel [] rfl⟩
   replace E := E_; clear E_
   have h23 : ¬ ((((List.length aAccept) : Nat) : Int) ≤ 256) := of_decide_eq_false hb_
   clear hb_; replace hP := ite_f h23 hP
   refine vn tbok 6 [.slice A1 (List.length aAccept) c2] [(29, .bool (decide (259 < (((List.length aAccept) : Nat) : Int))))] [World.cell? w14 ⟨g13, 1, none⟩ = some (.slice A1 (List.length aAccept) c2)] E (by kernel_rfl) (by kernel_rfl) ((H.box 3 rfl).cell (j := 1) rfl) ?_
   clear E; intro a E
   refine E.cases (t := 29) rfl (fun hb_ E_ => ?_) (fun hb_ E_ => ?_)
   ·
    replace E := E_; clear E_
    have h24 : 259 < (((List.length aAccept) : Nat) : Int) := of_decide_eq_true hb_
    clear hb_; replace hP := ite_t h24 hP
    refine vn tbok 12 [] [(2, .bool true)] [] E (by kernel_rfl) (by kernel_rfl) trivial ?_
    clear E; intro a E
    refine wpList_nil ?_
    refine th_n ?_
    refine wp_ret ?_
    obtain rfl := Option.some.inj hP
    refine ret1 E rfl rfl ?_
    exact ⟨_, rfl, rfl, H.sel [] rfl⟩
   replace E := E_; clear E_
   have h25 : ¬ (259 < (((List.length aAccept) : Nat) : Int)) := of_decide_eq_false hb_
   clear hb_; replace hP := ite_f h25 hP
   refine vn tbok 6 [.slice A9 (List.length aNodes) c10] [(35, .bool (decide (40 < (((List.length aNodes) : Nat) : Int))))] [World.cell? w14 ⟨g13, 3, none⟩ = some (.slice A9 (List.length aNodes) c10)] E (by kernel_rfl) (by kernel_rfl) ((H.box 3 rfl).cell (j := 3) rfl) ?_
   clear E; intro a E
   refine E.cases (t := 35) rfl (fun hb_ E_ => ?_) (fun hb_ E_ => ?_)
   ·
    replace E := E_; clear E_
    have h26 : 40 < (((List.length aNodes) : Nat) : Int) := of_decide_eq_true hb_
    clear hb_; replace hP := ite_t h26 hP
    refine vn tbok 6 [] [(2, .bool true)] [] E (by kernel_rfl) (by kernel_rfl) trivial ?_
    clear E; intro a E
    refine wpList_nil ?_
    refine th_n ?_
    refine wp_ret ?_
    obtain rfl := Option.some.inj hP
    refine ret1 E rfl rfl ?_
    exact ⟨_, rfl, rfl, H.sel [] rfl⟩
   replace E := E_; clear E_
   have h27 : ¬ (40 < (((List.length aNodes) : Nat) : Int)) := of_decide_eq_false hb_
   clear hb_; replace hP := ite_f h27 hP
   refine vn tbok 6 [.slice A5 (List.length aGuard) c6] [(2, .bool (decide (300 < (((List.length aGuard) : Nat) : Int))))] [World.cell? w14 ⟨g13, 2, none⟩ = some (.slice A5 (List.length aGuard) c6)] E (by kernel_rfl) (by kernel_rfl) ((H.box 3 rfl).cell (j := 2) rfl) ?_
   clear E; intro a E
   refine wpList_nil ?_
   refine th_n ?_
   refine wp_ret ?_
   obtain rfl := Option.some.inj hP
   refine ret1 E rfl rfl ?_
   exact ⟨_, rfl, rfl, H.sel [] rfl⟩
  replace E := E_; clear E_
  have h28 : ¬ (10 < (((List.length aAccept) : Nat) : Int)) := of_decide_eq_false hb_
  clear hb_; replace hP := ite_f h28 hP
  refine vn tbok 13 [.slice A1 (List.length aAccept) c2] [(29, .bool (decide (259 < (((List.length aAccept) : Nat) : Int))))] [World.cell? w14 ⟨g13, 1, none⟩ = some (.slice A1 (List.length aAccept) c2)] E (by kernel_rfl) (by kernel_rfl) ((H.box 3 rfl).cell (j := 1) rfl) ?_
  clear E; intro a E
  refine E.cases (t := 29) rfl (fun hb_ E_ => ?_) (fun hb_ E_ => ?_)
  ·
   replace E := E_; clear E_
   have h29 : 259 < (((List.length aAccept) : Nat) : Int) := of_decide_eq_true hb_
   clear hb_; replace hP := ite_t h29 hP
   refine vn tbok 12 [] [(2, .bool true)] [] E (by kernel_rfl) (by kernel_rfl) trivial ?_
   clear E; intro a E
   refine wpList_nil ?_
   refine th_n ?_
   refine wp_ret ?_
   obtain rfl := Option.some.inj hP
   refine ret1 E rfl rfl ?_
   exact ⟨_, rfl, rfl, H.sel [] rfl⟩
  replace E := E_; clear E_
  have h30 : ¬ (259 < (((List.length aAccept) : Nat) : Int)) := of_decide_eq_false hb_
  clear hb_; replace hP := ite_f h30 hP
  refine vn tbok 6 [.slice A9 (List.length aNodes) c10] [(35, .bool (decide (40 < (((List.length aNodes) : Nat) : Int))))] [World.cell? w14 ⟨g13, 3, none⟩ = some (.slice A9 (List.length aNodes) c10)] E (by kernel_rfl) (by kernel_rfl) ((H.box 3 rfl).cell (j := 3) rfl) ?_
  clear E; intro a E
  refine E.cases (t := 35) rfl (fun hb_ E_ => ?_) (fun hb_ E_ => ?_)
  ·
   replace E := E_; clear E_
   have h31 : 40 < (((List.length aNodes) : Nat) : Int) := of_decide_eq_true hb_
   clear hb_; replace hP := ite_t h31 hP
   refine vn tbok 6 [] [(2, .bool true)] [] E (by kernel_rfl) (by kernel_rfl) trivial ?_
   clear E; intro a E
   refine wpList_nil ?_
   refine th_n ?_
   refine wp_ret ?_
   obtain rfl := Option.some.inj hP
   refine ret1 E rfl rfl ?_
   exact ⟨_, rfl, rfl, H.sel [] rfl⟩
  replace E := E_; clear E_
  have h32 : ¬ (40 < (((List.length aNodes) : Nat) : Int)) := of_decide_eq_false hb_
  clear hb_; replace hP := ite_f h32 hP
  refine vn tbok 6 [.slice A5 (List.length aGuard) c6] [(2, .bool (decide (300 < (((List.length aGuard) : Nat) : Int))))] [World.cell? w14 ⟨g13, 2, none⟩ = some (.slice A5 (List.length aGuard) c6)] E (by kernel_rfl) (by kernel_rfl) ((H.box 3 rfl).cell (j := 2) rfl) ?_
  clear E; intro a E
  refine wpList_nil ?_
  refine th_n ?_
  refine wp_ret ?_
  obtain rfl := Option.some.inj hP
  refine ret1 E rfl rfl ?_
  exact ⟨_, rfl, rfl, H.sel [] rfl⟩
 replace E := E_; clear E_
 have h33 : ¬ (3 < aProps) := of_decide_eq_false hb_
 clear hb_; replace hP := ite_f h33 hP
 refine vn tbok 10 [.slice A1 (List.length aAccept) c2] [(11, .bool false), (16, .bool (decide (10 < (((List.length aAccept) : Nat) : Int))))] [World.cell? w14 ⟨g13, 1, none⟩ = some (.slice A1 (List.length aAccept) c2)] E (by kernel_rfl) (by kernel_rfl) ((H.box 3 rfl).cell (j := 1) rfl) ?_
 clear E; intro a E
 refine E.cases (t := 16) rfl (fun hb_ E_ => ?_) (fun hb_ E_ => ?_)
 ·
  replace E := E_; clear E_
  have h34 : 10 < (((List.length aAccept) : Nat) : Int) := of_decide_eq_true hb_
  clear hb_; replace hP := ite_t h34 hP
  refine vn tbok 7 [.slice A1 (List.length aAccept) c2] [(23, .bool (decide ((((List.length aAccept) : Nat) : Int) ≤ 256)))] [World.cell? w14 ⟨g13, 1, none⟩ = some (.slice A1 (List.length aAccept) c2)] E (by kernel_rfl) (by kernel_rfl) ((H.box 3 rfl).cell (j := 1) rfl) ?_
  clear E; intro a E
  refine E.cases (t := 23) rfl (fun hb_ E_ => ?_) (fun hb_ E_ => ?_)
  ·
   replace E := E_; clear E_
   have h35 : (((List.length aAccept) : Nat) : Int) ≤ 256 := of_decide_eq_true hb_
   clear hb_; replace hP := ite_t h35 hP
   refine vn tbok 18 [] [(2, .bool true)] [] E (by kernel_rfl) (by kernel_rfl) trivial ?_
   clear E; intro a E
   refine wpList_nil ?_
   refine th_n ?_
   refine wp_ret ?_
   obtain rfl := Option.some.inj hP
   refine ret1 E rfl rfl ?_
   exact ⟨_, rfl, rfl, H.sel [] rfl⟩
  replace E := E_; clear E_
  have h36 : ¬ ((((List.length aAccept) : Nat) : Int) ≤ 256) := of_decide_eq_false hb_
  clear hb_; replace hP := ite_f h36 hP
  refine vn tbok 6 [.slice A1 (List.length aAccept) c2] [(29, .bool (decide (259 < (((List.length aAccept) : Nat) : Int))))] [World.cell? w14 ⟨g13, 1, none⟩ = some (.slice A1 (List.length aAccept) c2)] E (by kernel_rfl) (by kernel_rfl) ((H.box 3 rfl).cell (j := 1) rfl) ?_
  clear E; intro a E
  refine E.cases (t := 29) rfl (fun hb_ E_ => ?_) (fun hb_ E_ => ?_)
  ·
   replace E := E_; clear E_
   have h37 : 259 < (((List.length aAccept) : Nat) : Int) := of_decide_eq_true hb_
   clear hb_; replace hP := ite_t h37 hP
   refine vn tbok 12 [] [(2, .bool true)] [] E (by kernel_rfl) (by kernel_rfl) trivial ?_
   clear E; intro a E
   refine wpList_nil ?_
   refine th_n ?_
   refine wp_ret ?_
   obtain rfl := Option.some.inj hP
   refine ret1 E rfl rfl ?_
   exact ⟨_, rfl, rfl, H.sel [] rfl⟩
  replace E := E_; clear E_
  have h38 : ¬ (259 < (((List.length aAccept) : Nat) : Int)) := of_decide_eq_false hb_
  clear hb_; replace hP := ite_f h38 hP
  refine vn tbok 6 [.slice A9 (List.length aNodes) c10] [(35, .bool (decide (40 < (((List.length aNodes) : Nat) : Int))))] [World.cell? w14 ⟨g13, 3, none⟩ = some (.slice A9 (List.length aNodes) c10)] E (by kernel_rfl) (by kernel_rfl) ((H.box 3 rfl).cell (j := 3) rfl) ?_
  clear E; intro a E
  refine E.cases (t := 35) rfl (fun hb_ E_ => ?_) (fun hb_ E_ => ?_)
  ·
   replace E := E_; clear E_
   have h39 : 40 < (((List.length aNodes) : Nat) : Int) := of_decide_eq_true hb_
   clear hb_; replace hP := ite_t h39 hP
   refine vn tbok 6 [] [(2, .bool true)] [] E (by kernel_rfl) (by kernel_rfl) trivial ?_
   clear E; intro a E
   refine wpList_nil ?_
   refine th_n ?_
   refine wp_ret ?_
   obtain rfl := Option.some.inj hP
   refine ret1 E rfl rfl ?_
   exact ⟨_, rfl, rfl, H.sel [] rfl⟩
  replace E := E_; clear E_
  have h40 : ¬ (40 < (((List.length aNodes) : Nat) : Int)) := of_decide_eq_false hb_
  clear hb_; replace hP := ite_f h40 hP
  refine vn tbok 6 [.slice A5 (List.length aGuard) c6] [(2, .bool (decide (300 < (((List.length aGuard) : Nat) : Int))))] [World.cell? w14 ⟨g13, 2, none⟩ = some (.slice A5 (List.length aGuard) c6)] E (by kernel_rfl) (by kernel_rfl) ((H.box 3 rfl).cell (j := 2) rfl) ?_
  clear E; intro a E
  refine wpList_nil ?_
  refine th_n ?_
  refine wp_ret ?_
  obtain rfl := Option.some.inj hP
  refine ret1 E rfl rfl ?_
  exact ⟨_, rfl, rfl, H.sel [] rfl⟩
 replace E := E_; clear E_
 have h41 : ¬ (10 < (((List.length aAccept) : Nat) : Int)) := of_decide_eq_false hb_
 clear hb_; replace hP := ite_f h41 hP
 refine vn tbok 13 [.slice A1 (List.length aAccept) c2] [(29, .bool (decide (259 < (((List.length aAccept) : Nat) : Int))))] [World.cell? w14 ⟨g13, 1, none⟩ = some (.slice A1 (List.length aAccept) c2)] E (by kernel_rfl) (by kernel_rfl) ((H.box 3 rfl).cell (j := 1) rfl) ?_
 clear E; intro a E
 refine E.cases (t := 29) rfl (fun hb_ E_ => ?_) (fun hb_ E_ => ?_)
 ·
  replace E := E_; clear E_
  have h42 : 259 < (((List.length aAccept) : Nat) : Int) := of_decide_eq_true hb_
  clear hb_; replace hP := ite_t h42 hP
  refine vn tbok 12 [] [(2, .bool true)] [] E (by kernel_rfl) (by kernel_rfl) trivial ?_
  clear E; intro a E
  refine wpList_nil ?_
  refine th_n ?_
  refine wp_ret ?_
  obtain rfl := Option.some.inj hP
  refine ret1 E rfl rfl ?_
  exact ⟨_, rfl, rfl, H.sel [] rfl⟩
 replace E := E_; clear E_
 have h43 : ¬ (259 < (((List.length aAccept) : Nat) : Int)) := of_decide_eq_false hb_
 clear hb_; replace hP := ite_f h43 hP
 refine vn tbok 6 [.slice A9 (List.length aNodes) c10] [(35, .bool (decide (40 < (((List.length aNodes) : Nat) : Int))))] [World.cell? w14 ⟨g13, 3, none⟩ = some (.slice A9 (List.length aNodes) c10)] E (by kernel_rfl) (by kernel_rfl) ((H.box 3 rfl).cell (j := 3) rfl) ?_
 clear E; intro a E
 refine E.cases (t := 35) rfl (fun hb_ E_ => ?_) (fun hb_ E_ => ?_)
 ·
  replace E := E_; clear E_
  have h44 : 40 < (((List.length aNodes) : Nat) : Int) := of_decide_eq_true hb_
  clear hb_; replace hP := ite_t h44 hP
  refine vn tbok 6 [] [(2, .bool true)] [] E (by kernel_rfl) (by kernel_rfl) trivial ?_
  clear E; intro a E
  refine wpList_nil ?_
  refine th_n ?_
  refine wp_ret ?_
  obtain rfl := Option.some.inj hP
  refine ret1 E rfl rfl ?_
  exact ⟨_, rfl, rfl, H.sel [] rfl⟩
 replace E := E_; clear E_
 have h45 : ¬ (40 < (((List.length aNodes) : Nat) : Int)) := of_decide_eq_false hb_
 clear hb_; replace hP := ite_f h45 hP
 refine vn tbok 6 [.slice A5 (List.length aGuard) c6] [(2, .bool (decide (300 < (((List.length aGuard) : Nat) : Int))))] [World.cell? w14 ⟨g13, 2, none⟩ = some (.slice A5 (List.length aGuard) c6)] E (by kernel_rfl) (by kernel_rfl) ((H.box 3 rfl).cell (j := 2) rfl) ?_
 clear E; intro a E
 refine wpList_nil ?_
 refine th_n ?_
 refine wp_ret ?_
 obtain rfl := Option.some.inj hP
 refine ret1 E rfl rfl ?_
 exact ⟨_, rfl, rfl, H.sel [] rfl⟩

/-! rejoinder/rejoinderlaw19.Real -/
def law19_Real (N : Nat) (aProps : Int) (aAccept : List Bool) (aGuard : List Int) (aNodes : List Nd) : Option Bool :=
  if 0 < (((List.length aAccept) : Nat) : Int) then
    some (((((List.length aGuard) : Nat) : Int) : Int) == (((List.length aAccept) : Nat) : Int))
  else
    some false
set_option maxRecDepth 100000 in
set_option maxHeartbeats 4000000 in
theorem law19_Real_calls {N : Nat} {S Fa : Nat → Prop} {w0 : World} {r : Bool} (A1 : Option Addr) (c2 : Nat) (A5 : Option Addr) (c6 : Nat) (A9 : Option Addr) (c10 : Nat) (aProps : Int) (aAccept : List Bool) (aGuard : List Int) (aNodes : List Nd) (hk3 : List.length aAccept ≤ c2) (hk7 : List.length aGuard ≤ c6) (hk11 : List.length aNodes ≤ c10) (H : Hp S Fa w0 w0 [.ro false cBool A1 aAccept, .ro false (cInt .i64) A5 aGuard, .ro false cNode A9 aNodes]) (hP : law19_Real N aProps aAccept aGuard aNodes = some r) :
    Calls Try.prog 26 #[.agg #[.int .i64 aProps, .slice A1 (List.length aAccept) c2, .slice A5 (List.length aGuard) c6, .slice A9 (List.length aNodes) c10]] w0 fun e w' => ∃ v, e = .returned v ∧ v = .bool r ∧ Hp S Fa w0 w' [] := by
 refine enterV (n := 16) Try.func26 rfl rfl rfl ?_
 intro a E
 replace E := E.pick [(0, .agg #[.int .i64 aProps, .slice A1 (List.length aAccept) c2, .slice A5 (List.length aGuard) c6, .slice A9 (List.length aNodes) c10])] ⟨rfl, trivial⟩
 rw [law19_Real] at hP
 refine wp_seq ?_
 refine wp_region_lit ?_
 refine h_box H E rfl rfl rfl ?_
 intro w14 g13 a hc15 hg17 H_ E_
 replace E := E_ _ rfl; clear E_
 replace H := H_; clear H_; try dsimp only [setn, addE, goneL] at H
 refine vn tbok 1 [] [] [] E (by kernel_rfl) (by kernel_rfl) trivial ?_
 clear E; intro a E
 refine wpList_nil ?_
 refine th_n ?_
 refine wp_seq ?_
 refine wp_region_lit ?_
 refine vn tbok 5 [.slice A1 (List.length aAccept) c2] [(7, .bool (decide (0 < (((List.length aAccept) : Nat) : Int))))] [World.cell? w14 ⟨g13, 1, none⟩ = some (.slice A1 (List.length aAccept) c2)] E (by kernel_rfl) (by kernel_rfl) ((H.box 3 rfl).cell (j := 1) rfl) ?_
 clear E; intro a E
 refine E.cases (t := 7) rfl (fun hb_ E_ => ?_) (fun hb_ E_ => ?_)
 ·
  replace E := E_; clear E_
  have h18 : 0 < (((List.length aAccept) : Nat) : Int) := of_decide_eq_true hb_
  clear hb_; replace hP := ite_t h18 hP
  refine vn tbok 9 [.slice A5 (List.length aGuard) c6, .slice A1 (List.length aAccept) c2] [(2, .bool (((((List.length aGuard) : Nat) : Int) : Int) == (((List.length aAccept) : Nat) : Int)))] [World.cell? w14 ⟨g13, 2, none⟩ = some (.slice A5 (List.length aGuard) c6), World.cell? w14 ⟨g13, 1, none⟩ = some (.slice A1 (List.length aAccept) c2)] E (by kernel_rfl) (by kernel_rfl) ⟨(H.box 3 rfl).cell (j := 2) rfl, (H.box 3 rfl).cell (j := 1) rfl⟩ ?_
  clear E; intro a E
  refine wpList_nil ?_
  refine th_n ?_
  refine wp_ret ?_
  obtain rfl := Option.some.inj hP
  refine ret1 E rfl rfl ?_
  exact ⟨_, rfl, rfl, H.sel [] rfl⟩
 replace E := E_; clear E_
 have h19 : ¬ (0 < (((List.length aAccept) : Nat) : Int)) := of_decide_eq_false hb_
 clear hb_; replace hP := ite_f h19 hP
 refine vn tbok 9 [] [(2, .bool false)] [] E (by kernel_rfl) (by kernel_rfl) trivial ?_
 clear E; intro a E
 refine wpList_nil ?_
 refine th_n ?_
 refine wp_ret ?_
 obtain rfl := Option.some.inj hP
 refine ret1 E rfl rfl ?_
 exact ⟨_, rfl, rfl, H.sel [] rfl⟩

/-! rejoinder/rejoinderkit.Pick -/
def kit_Pick (N : Nat) (x : Int) (n : Int) : Option Int :=
  if n < 1 then
    some 0
  else
    ask (n ≠ 0) <|
    if (Int.tmod x n) < 0 then
      ask (in64 ((Int.tmod x n) + n)) <|
      some ((Int.tmod x n) + n)
    else
      some (Int.tmod x n)
set_option maxRecDepth 100000 in
set_option maxHeartbeats 4000000 in
theorem kit_Pick_calls {N : Nat} {S Fa : Nat → Prop} {w0 : World} {r : Int} (x : Int) (n : Int) (H : Hp S Fa w0 w0 []) (hP : kit_Pick N x n = some r) :
    Calls Try.prog 54 #[.int .i64 x, .int .i64 n] w0 fun e w' => ∃ v, e = .returned v ∧ v = .int .i64 r ∧ Hp S Fa w0 w' [] := by
 refine enterV (n := 16) Try.func54 rfl rfl rfl ?_
 intro a E
 replace E := E.pick [(0, .int .i64 x), (1, .int .i64 n)] ⟨rfl, rfl, trivial⟩
 rw [kit_Pick] at hP
 refine wp_seq ?_
 refine wp_region_lit ?_
 refine vn tbok 1 [] [] [] E (by kernel_rfl) (by kernel_rfl) trivial ?_
 clear E; intro a E
 refine wpList_nil ?_
 refine th_n ?_
 refine wp_seq ?_
 refine wp_seq ?_
 refine wp_region_lit ?_
 refine vn tbok 2 [] [(6, .bool (decide (n < 1)))] [] E (by kernel_rfl) (by kernel_rfl) trivial ?_
 clear E; intro a E
 refine wpList_nil ?_
 refine th_n ?_
 refine E.cases (t := 6) rfl (fun hb_ E_ => ?_) (fun hb_ E_ => ?_)
 ·
  replace E := E_; clear E_
  have h1 : n < 1 := of_decide_eq_true hb_
  clear hb_; replace hP := ite_t h1 hP
  refine c_true E rfl ?_
  refine wp_seq ?_
  refine wp_region_lit ?_
  refine vn tbok 1 [] [(4, .int .i64 0)] [] E (by kernel_rfl) (by kernel_rfl) trivial ?_
  clear E; intro a E
  refine wpList_nil ?_
  refine th_n ?_
  refine wp_ret ?_
  refine th_ret ?_
  obtain rfl := Option.some.inj hP
  refine ret1 E rfl rfl ?_
  exact ⟨_, rfl, rfl, H.sel [] rfl⟩
 replace E := E_; clear E_
 have h2 : ¬ (n < 1) := of_decide_eq_false hb_
 clear hb_; replace hP := ite_f h2 hP
 refine c_false E rfl ?_
 refine wp_skip ?_
 refine th_n ?_
 refine wp_seq ?_
 refine wp_region_lit ?_
 obtain ⟨g3, hP⟩ := ask_inv hP
 refine vn tbok 4 [.int .i64 (Int.tmod x n)] [(0, .int .i64 (Int.tmod x n))] [(n : Int) ≠ 0 ∧ Int.tmod x n = Int.tmod x n] E (by kernel_rfl) (by kernel_rfl) (⟨g3, rfl⟩) ?_
 clear E; intro a E
 refine wpList_nil ?_
 refine th_n ?_
 refine wp_seq ?_
 refine wp_seq ?_
 refine wp_region_lit ?_
 refine vn tbok 2 [] [(11, .bool (decide ((Int.tmod x n) < 0)))] [] E (by kernel_rfl) (by kernel_rfl) trivial ?_
 clear E; intro a E
 refine wpList_nil ?_
 refine th_n ?_
 refine E.cases (t := 11) rfl (fun hb_ E_ => ?_) (fun hb_ E_ => ?_)
 ·
  replace E := E_; clear E_
  have h4 : (Int.tmod x n) < 0 := of_decide_eq_true hb_
  clear hb_; replace hP := ite_t h4 hP
  refine c_true E rfl ?_
  refine wp_region_lit ?_
  obtain ⟨g5, hP⟩ := ask_inv hP
  refine vn tbok 4 [.int .i64 ((Int.tmod x n) + n)] [(0, .int .i64 ((Int.tmod x n) + n))] [IntKind.i64.wrap ((Int.tmod x n) + n) = (Int.tmod x n) + n] E (by kernel_rfl) (by kernel_rfl) (wrap_in g5) ?_
  clear E; intro a E
  refine wpList_nil ?_
  refine th_n ?_
  refine wp_seq ?_
  refine wp_region_lit ?_
  refine vn tbok 2 [] [(4, .int .i64 ((Int.tmod x n) + n))] [] E (by kernel_rfl) (by kernel_rfl) trivial ?_
  clear E; intro a E
  refine wpList_nil ?_
  refine th_n ?_
  refine wp_ret ?_
  obtain rfl := Option.some.inj hP
  refine ret1 E rfl rfl ?_
  exact ⟨_, rfl, rfl, H.sel [] rfl⟩
 replace E := E_; clear E_
 have h6 : ¬ ((Int.tmod x n) < 0) := of_decide_eq_false hb_
 clear hb_; replace hP := ite_f h6 hP
 refine c_false E rfl ?_
 refine wp_skip ?_
 refine th_n ?_
 refine wp_seq ?_
 refine wp_region_lit ?_
 refine vn tbok 2 [] [(4, .int .i64 (Int.tmod x n))] [] E (by kernel_rfl) (by kernel_rfl) trivial ?_
 clear E; intro a E
 refine wpList_nil ?_
 refine th_n ?_
 refine wp_ret ?_
 obtain rfl := Option.some.inj hP
 refine ret1 E rfl rfl ?_
 exact ⟨_, rfl, rfl, H.sel [] rfl⟩

/-! rejoinder/rejoinderlaw24.choices -/
def law24_choices_l0 (N : Nat) (ll : List Int) (r5 : List Int) : Nat → (List Int) → Int → Option (List Int)
  | 0, _, _ => none
  | m91 + 1, out49, i52 =>
    if i52 < (((List.length ll) : Nat) : Int) then
      if i52 < 40 then
        if 0 < (((List.length r5) : Nat) : Int) then
          ask (idx i52 (List.length ll)) <|
          Option.bind (kit_Pick N (List.getD ll (Int.toNat i52) 0) (((List.length r5) : Nat) : Int)) fun r105 =>
          ask (idx r105 (List.length r5)) <|
          ask (List.length out49 + List.length ([(List.getD r5 (Int.toNat r105) 0)] : List Int) ≤ 1000000000) <|
          ask (in64 (i52 + 1)) <|
          law24_choices_l0 N ll r5 m91 (out49 ++ ([(List.getD r5 (Int.toNat r105) 0)] : List Int)) (i52 + 1)
        else
          some out49
      else
        some out49
    else
      some out49
def law24_choices (N : Nat) (mask : Int) (ll : List Int) : Option (List Int) :=
  Option.bind (board_Moves N mask) fun r5 =>
  Option.bind (law24_choices_l0 N ll r5 N [] 0) fun x92 =>
  some x92
set_option maxRecDepth 100000 in
set_option maxHeartbeats 4000000 in
theorem law24_choices_calls {N : Nat} {S Fa : Nat → Prop} {w0 : World} {r : List Int} (A1 : Option Addr) (c2 : Nat) (mask : Int) (ll : List Int) (hk3 : List.length ll ≤ c2) (H : Hp S Fa w0 w0 [.ro false (cInt .i64) A1 ll]) (hP : law24_choices N mask ll = some r) :
    Calls Try.prog 27 #[.int .u8 mask, .slice A1 (List.length ll) c2] w0 fun e w' => ∃ v, e = .returned v ∧ ∃ (A132 : Option Addr) (c133 : Nat), v = .slice A132 (List.length r) c133 ∧ Hp S Fa w0 w' [.row true (cInt .u8) 27 A132 c133 r] := by
 refine enterV (n := 39) Try.func27 rfl rfl rfl ?_
 intro a E
 replace E := E.pick [(0, .int .u8 mask), (1, .slice A1 (List.length ll) c2)] ⟨rfl, rfl, trivial⟩
 rw [law24_choices] at hP
 refine wp_seq ?_
 refine wp_region_lit ?_
 refine vn tbok 1 [] [] [] E (by kernel_rfl) (by kernel_rfl) trivial ?_
 clear E; intro a E
 refine wpList_nil ?_
 refine th_n ?_
 refine wp_seq ?_
 refine wp_region_lit ?_
 refine vn tbok 1 [] [(8, .int .u8 mask)] [] E (by kernel_rfl) (by kernel_rfl) trivial ?_
 clear E; intro a E
 obtain ⟨r5, h6, hP⟩ := bind_inv hP
 obtain ⟨Fa7, Hc8, hb9⟩ := H.call [] [] rfl rfl trivial
 refine e_call E rfl rfl Try.func33 rfl rfl rfl (board_Moves_calls  mask  Hc8 h6) ?_
 rintro v10 w11 a ⟨A14, c15, rfl, HR12⟩ E_
 replace E := E_ _ rfl; clear E_
 obtain ⟨H_, hc13⟩ := hb9 _ _ HR12 rfl
 replace H := H_; clear H_; try dsimp only [setn, addE, goneL] at H
 refine vn tbok 1 [] [(5, .slice A14 (List.length r5) c15)] [] E (by kernel_rfl) (by kernel_rfl) trivial ?_
 clear E; intro a E
 refine wpList_nil ?_
 refine th_n ?_
 refine wp_seq ?_
 refine wp_region_lit ?_
 refine vn tbok 1 [] [(6, .slice none 0 0)] [] E (by kernel_rfl) (by kernel_rfl) trivial ?_
 clear E; intro a E
 refine wpList_nil ?_
 refine th_n ?_
 refine wp_seq ?_
 refine wp_seq ?_
 refine wp_region_lit ?_
 refine vn tbok 1 [] [(7, .int .i64 0)] [] E (by kernel_rfl) (by kernel_rfl) trivial ?_
 clear E; intro a E
 refine wpList_nil ?_
 refine th_n ?_
 refine wp_block ?_
 obtain ⟨x92, hL93, hK94⟩ := bind_inv hP
 clear hP
 replace H := H.nilrow (cInt .u8) 27; try dsimp only [setn, addE, goneL] at H
 refine loop_cut (fun i_ a w_ => (i_ = 0 ∧ ∃ (x98 : List Int), ∃ (A89 : Option Addr) (c90 : Nat), Fr a 39 [(6, .slice A89 (List.length x98) c90)] ∧ Hp S Fa w0 w_ [.row true (cInt .u8) 27 A89 c90 x98] ∧ x92 = x98)) ?_ ?_
 ·
  refine loopV (fun m97 a w96 => ∃ (out49 : List Int) (i52 : Int), ∃ (A50 : Option Addr) (c51 : Nat), Fr a 39 [(1, .slice A1 (List.length ll) c2), (5, .slice A14 (List.length r5) c15), (6, .slice A50 (List.length out49) c51), (7, .int .i64 i52)] ∧ Hp S Fa w0 w96 [.ro false (cInt .i64) A1 ll, .row true (cInt .u8) 27 A14 c15 r5, .row true (cInt .u8) 27 A50 c51 out49] ∧ law24_choices_l0 N ll r5 m97 out49 i52 = some x92) N ?_ ?_
  ·
   exact ⟨[], 0, none, 0, E.pick _ ⟨rfl, rfl, rfl, rfl, trivial⟩, H.sel [0, 1, 2] rfl, hL93⟩
  clear E H hL93; intro m97 a w96 hI_
  obtain ⟨out49, i52, A50, c51, E, H, hP⟩ := hI_
  obtain ⟨m91, rfl⟩ : ∃ q_, m97 = q_ + 1 := by cases m97 with | zero => rw [law24_choices_l0] at hP; cases hP | succ q_ => exact ⟨q_, rfl⟩
  rw [law24_choices_l0] at hP
  refine wp_seq ?_
  refine wp_seq ?_
  refine wp_region_lit ?_
  refine vn tbok 5 [] [(14, .bool (decide (i52 < (((List.length ll) : Nat) : Int))))] [] E (by kernel_rfl) (by kernel_rfl) trivial ?_
  clear E; intro a E
  refine E.cases (t := 14) rfl (fun hb_ E_ => ?_) (fun hb_ E_ => ?_)
  ·
   replace E := E_; clear E_
   have h99 : i52 < (((List.length ll) : Nat) : Int) := of_decide_eq_true hb_
   clear hb_; replace hP := ite_t h99 hP
   refine vn tbok 4 [] [(18, .bool (decide (i52 < 40)))] [] E (by kernel_rfl) (by kernel_rfl) trivial ?_
   clear E; intro a E
   refine E.cases (t := 18) rfl (fun hb_ E_ => ?_) (fun hb_ E_ => ?_)
   ·
    replace E := E_; clear E_
    have h100 : i52 < 40 := of_decide_eq_true hb_
    clear hb_; replace hP := ite_t h100 hP
    refine vn tbok 4 [] [(22, .bool (decide (0 < (((List.length r5) : Nat) : Int))))] [] E (by kernel_rfl) (by kernel_rfl) trivial ?_
    clear E; intro a E
    refine wpList_nil ?_
    refine th_n ?_
    refine E.cases (t := 22) rfl (fun hb_ E_ => ?_) (fun hb_ E_ => ?_)
    ·
     replace E := E_; clear E_
     have h101 : 0 < (((List.length r5) : Nat) : Int) := of_decide_eq_true hb_
     clear hb_; replace hP := ite_t h101 hP
     refine c_true E rfl ?_
     refine wp_skip ?_
     refine th_n ?_
     refine wp_seq ?_
     refine wp_block ?_
     refine wp_region_lit ?_
     obtain ⟨g102, hP⟩ := ask_inv hP
     obtain ⟨b103, o104, e_b103⟩ := (H.rd 0 rds_ro).addr (idx_pos g102)
     subst e_b103
     refine vn tbok 8 [.int .i64 (List.getD ll (Int.toNat i52) 0)] [(25, .slice A50 (List.length out49) c51), (26, .slice A14 (List.length r5) c15), (30, .int .i64 (List.getD ll (Int.toNat i52) 0)), (32, .int .i64 (((List.length r5) : Nat) : Int))] [0 ≤ i52 ∧ i52 < (((List.length ll) : Nat) : Int), World.cell? w96 ⟨b103, o104 + (Int.toNat i52) * 1, none⟩ = some (.int .i64 (List.getD ll (Int.toNat i52) 0))] E (by kernel_rfl) (by kernel_rfl) ⟨g102, Rds.at1 (H.rd 0 rds_ro) 0 g102⟩ ?_
     clear E; intro a E
     obtain ⟨r105, h106, hP⟩ := bind_inv hP
     obtain ⟨Fa107, Hc108, hb109⟩ := H.call [] [] rfl rfl trivial
     refine e_call E rfl rfl Try.func54 rfl rfl rfl (kit_Pick_calls  (List.getD ll (Int.toNat i52) 0) (((List.length r5) : Nat) : Int)  Hc108 h106) ?_
     rintro v110 w111 a ⟨rfl, HR112⟩ E_
     replace E := E_ _ rfl; clear E_
     obtain ⟨H_, hc113⟩ := hb109 _ _ HR112 rfl
     replace H := H_; clear H_; try dsimp only [setn, addE, goneL] at H
     obtain ⟨g114, hP⟩ := ask_inv hP
     obtain ⟨b115, e_b115⟩ := H.raddr 1 rfl (idx_pos g114)
     subst e_b115
     refine vn tbok 2 [.int .u8 (List.getD r5 (Int.toNat r105) 0)] [(35, .int .u8 (List.getD r5 (Int.toNat r105) 0))] [0 ≤ r105 ∧ r105 < (((List.length r5) : Nat) : Int), World.cell? w111 ⟨b115, 0 + (Int.toNat r105) * 1, none⟩ = some (.int .u8 (List.getD r5 (Int.toNat r105) 0))] E (by kernel_rfl) (by kernel_rfl) ⟨g114, Rds.at1 (H.rd 1 rds_row) 0 g114⟩ ?_
     clear E; intro a E
     refine h_buildSlice (ps := [(0, .int .u8 (List.getD r5 (Int.toNat r105) 0))]) (cs := [.int .u8 (List.getD r5 (Int.toNat r105) 0)]) H E rfl rfl tbok rfl rfl (by kernel_rfl) ?_
     intro w118 g117 a hc119 hg121 H_ E_
     replace E := E_ _ rfl; clear E_
     replace H := H_; clear H_; try dsimp only [setn, addE, goneL] at H
     obtain ⟨g122, hP⟩ := ask_inv hP
     refine h_append (cInt .u8) (xs := out49) (ys := ([(List.getD r5 (Int.toNat r105) 0)] : List Int)) (0 : Int) H 2 rfl E rfl rfl tbok rfl rfl rfl rfl rfl (fun _ _ => rfl) rfl rfl (fun _ HF_ => HF_.srcB 3 rfl (⟨_, _, rfl, rfl, rfl⟩)) g122 ?_
     intro w123 A124 c125 a hc126 hA127 H_ E_
     replace E := E_ _ rfl; clear E_
     replace H := H_; clear H_; try dsimp only [setn, addE, goneL] at H
     refine vn tbok 1 [] [(6, .slice A124 (List.length (out49 ++ ([(List.getD r5 (Int.toNat r105) 0)] : List Int))) c125)] [] E (by kernel_rfl) (by kernel_rfl) trivial ?_
     clear E; intro a E
     refine wpList_nil ?_
     refine bl_n ?_
     refine th_n ?_
     refine wp_region_lit ?_
     obtain ⟨g128, hP⟩ := ask_inv hP
     refine vn tbok 3 [.int .i64 (i52 + 1)] [(7, .int .i64 (i52 + 1))] [IntKind.i64.wrap (i52 + 1) = i52 + 1] E (by kernel_rfl) (by kernel_rfl) (wrap_in g128) ?_
     clear E; intro a E
     refine wpList_nil ?_
     exact th_n ⟨m91, Nat.lt_succ_self _, out49 ++ ([(List.getD r5 (Int.toNat r105) 0)] : List Int), i52 + 1, A124, c125, E.pick _ ⟨rfl, rfl, rfl, rfl, trivial⟩, H.sel [0, 1, 2] rfl, hP⟩
    replace E := E_; clear E_
    have h129 : ¬ (0 < (((List.length r5) : Nat) : Int)) := of_decide_eq_false hb_
    clear hb_; replace hP := ite_f h129 hP
    refine c_false E rfl ?_
    refine wp_exit ?_
    refine th_exit ?_
    have hx_ := Option.some.inj hP
    refine th_exit (.inl ⟨0, rfl, ?_⟩)
    exact ⟨rfl, out49, A50, c51, E.pick _ ⟨rfl, trivial⟩, H.sel [2] rfl, hx_.symm⟩
   replace E := E_; clear E_
   have h130 : ¬ (i52 < 40) := of_decide_eq_false hb_
   clear hb_; replace hP := ite_f h130 hP
   refine vn tbok 4 [] [(22, .bool false)] [] E (by kernel_rfl) (by kernel_rfl) trivial ?_
   clear E; intro a E
   refine wpList_nil ?_
   refine th_n ?_
   refine c_false E rfl ?_
   refine wp_exit ?_
   refine th_exit ?_
   have hx_ := Option.some.inj hP
   refine th_exit (.inl ⟨0, rfl, ?_⟩)
   exact ⟨rfl, out49, A50, c51, E.pick _ ⟨rfl, trivial⟩, H.sel [2] rfl, hx_.symm⟩
  replace E := E_; clear E_
  have h131 : ¬ (i52 < (((List.length ll) : Nat) : Int)) := of_decide_eq_false hb_
  clear hb_; replace hP := ite_f h131 hP
  refine vn tbok 8 [] [(22, .bool false)] [] E (by kernel_rfl) (by kernel_rfl) trivial ?_
  clear E; intro a E
  refine wpList_nil ?_
  refine th_n ?_
  refine c_false E rfl ?_
  refine wp_exit ?_
  refine th_exit ?_
  have hx_ := Option.some.inj hP
  refine th_exit (.inl ⟨0, rfl, ?_⟩)
  exact ⟨rfl, out49, A50, c51, E.pick _ ⟨rfl, trivial⟩, H.sel [2] rfl, hx_.symm⟩
 clear E H hL93; intro i_ a w96 hM_
 obtain ⟨rfl, x98, A89, c90, E, H, hx_⟩ := hM_
 subst hx_; have hP := hK94; clear hK94
 refine bl_hit ?_
 refine th_n ?_
 refine wp_seq ?_
 refine wp_region_lit ?_
 refine vn tbok 2 [] [(4, .slice A89 (List.length x92) c90)] [] E (by kernel_rfl) (by kernel_rfl) trivial ?_
 clear E; intro a E
 refine wpList_nil ?_
 refine th_n ?_
 refine wp_ret ?_
 obtain rfl := Option.some.inj hP
 refine ret1 E rfl rfl ?_
 exact ⟨_, rfl, A89, c90, rfl, H.sel [0] rfl⟩

/-! rejoinder/rejoinderlaw24.Large -/
def law24_Large_l0 (N : Nat) (xReply : List (List Int)) : Nat → Int → Option (Unit ⊕ Bool)
  | 0, _ => none
  | m50 + 1, q36 =>
    if q36 < (((List.length xReply) : Nat) : Int) then
      ask (idx q36 (List.length xReply)) <|
      if 20 < (((List.length (List.getD xReply (Int.toNat q36) [])) : Nat) : Int) then
        some (Sum.inr true)
      else
        ask (in64 (q36 + 1)) <|
        law24_Large_l0 N xReply m50 (q36 + 1)
    else
      some (Sum.inl ())
def law24_Large (N : Nat) (xWins : Bool) (xRanks : List Int) (xReply : List (List Int)) (xChoice : List Int) : Option Bool :=
  if 300 < (((List.length xRanks) : Nat) : Int) then
    some true
  else
    if 300 < (((List.length xReply) : Nat) : Int) then
      some true
    else
      if 300 < (((List.length xChoice) : Nat) : Int) then
        some true
      else
        Option.bind (law24_Large_l0 N xReply N 0) fun x51 =>
        Sum.elim (fun x56 =>
          some false)
         (fun x70 =>
          some x70) x51
set_option maxRecDepth 100000 in
set_option maxHeartbeats 4000000 in
theorem law24_Large_calls {N : Nat} {S Fa : Nat → Prop} {w0 : World} {r : Bool} (A1 : Option Addr) (c2 : Nat) (A5 : Option Addr) (c6 : Nat) (A9 : Option Addr) (c10 : Nat) (xWins : Bool) (xRanks : List Int) (xReply : List (List Int)) (xChoice : List Int) (hk3 : List.length xRanks ≤ c2) (hk7 : List.length xReply ≤ c6) (hk11 : List.length xChoice ≤ c10) (H : Hp S Fa w0 w0 [.ro false (cInt .i64) A1 xRanks, .ro false (cSl (cInt .u8)) A5 xReply, .ro false (cInt .u8) A9 xChoice]) (hP : law24_Large N xWins xRanks xReply xChoice = some r) :
    Calls Try.prog 8 #[.agg #[.bool xWins, .slice A1 (List.length xRanks) c2, .slice A5 (List.length xReply) c6, .slice A9 (List.length xChoice) c10]] w0 fun e w' => ∃ v, e = .returned v ∧ v = .bool r ∧ Hp S Fa w0 w' [] := by
 refine enterV (n := 34) Try.func8 rfl rfl rfl ?_
 intro a E
 replace E := E.pick [(0, .agg #[.bool xWins, .slice A1 (List.length xRanks) c2, .slice A5 (List.length xReply) c6, .slice A9 (List.length xChoice) c10])] ⟨rfl, trivial⟩
 rw [law24_Large] at hP
 refine wp_seq ?_
 refine wp_region_lit ?_
 refine h_box H E rfl rfl rfl ?_
 intro w14 g13 a hc15 hg17 H_ E_
 replace E := E_ _ rfl; clear E_
 replace H := H_; clear H_; try dsimp only [setn, addE, goneL] at H
 refine vn tbok 1 [] [] [] E (by kernel_rfl) (by kernel_rfl) trivial ?_
 clear E; intro a E
 refine wpList_nil ?_
 refine th_n ?_
 refine wp_seq ?_
 refine wp_seq ?_
 refine wp_region_lit ?_
 refine vn tbok 5 [.slice A1 (List.length xRanks) c2] [(8, .bool (decide (300 < (((List.length xRanks) : Nat) : Int))))] [World.cell? w14 ⟨g13, 1, none⟩ = some (.slice A1 (List.length xRanks) c2)] E (by kernel_rfl) (by kernel_rfl) ((H.box 3 rfl).cell (j := 1) rfl) ?_
 clear E; intro a E
 refine E.cases (t := 8) rfl (fun hb_ E_ => ?_) (fun hb_ E_ => ?_)
 ·
  replace E := E_; clear E_
  have h18 : 300 < (((List.length xRanks) : Nat) : Int) := of_decide_eq_true hb_
  clear hb_; replace hP := ite_t h18 hP
  refine vn tbok 11 [] [(19, .bool true)] [] E (by kernel_rfl) (by kernel_rfl) trivial ?_
  clear E; intro a E
  refine wpList_nil ?_
  refine th_n ?_
  refine c_true E rfl ?_
  refine wp_seq ?_
  refine wp_region_lit ?_
  refine vn tbok 1 [] [(2, .bool true)] [] E (by kernel_rfl) (by kernel_rfl) trivial ?_
  clear E; intro a E
  refine wpList_nil ?_
  refine th_n ?_
  refine wp_ret ?_
  refine th_ret ?_
  obtain rfl := Option.some.inj hP
  refine ret1 E rfl rfl ?_
  exact ⟨_, rfl, rfl, H.sel [] rfl⟩
 replace E := E_; clear E_
 have h19 : ¬ (300 < (((List.length xRanks) : Nat) : Int)) := of_decide_eq_false hb_
 clear hb_; replace hP := ite_f h19 hP
 refine vn tbok 6 [.slice A5 (List.length xReply) c6] [(14, .bool (decide (300 < (((List.length xReply) : Nat) : Int))))] [World.cell? w14 ⟨g13, 2, none⟩ = some (.slice A5 (List.length xReply) c6)] E (by kernel_rfl) (by kernel_rfl) ((H.box 3 rfl).cell (j := 2) rfl) ?_
 clear E; intro a E
 refine E.cases (t := 14) rfl (fun hb_ E_ => ?_) (fun hb_ E_ => ?_)
 ·
  replace E := E_; clear E_
  have h20 : 300 < (((List.length xReply) : Nat) : Int) := of_decide_eq_true hb_
  clear hb_; replace hP := ite_t h20 hP
  refine vn tbok 5 [] [(19, .bool true)] [] E (by kernel_rfl) (by kernel_rfl) trivial ?_
  clear E; intro a E
  refine wpList_nil ?_
  refine th_n ?_
  refine c_true E rfl ?_
  refine wp_seq ?_
  refine wp_region_lit ?_
  refine vn tbok 1 [] [(2, .bool true)] [] E (by kernel_rfl) (by kernel_rfl) trivial ?_
  clear E; intro a E
  refine wpList_nil ?_
  refine th_n ?_
  refine wp_ret ?_
  refine th_ret ?_
  obtain rfl := Option.some.inj hP
  refine ret1 E rfl rfl ?_
  exact ⟨_, rfl, rfl, H.sel [] rfl⟩
 replace E := E_; clear E_
 have h21 : ¬ (300 < (((List.length xReply) : Nat) : Int)) := of_decide_eq_false hb_
 clear hb_; replace hP := ite_f h21 hP
 refine vn tbok 5 [.slice A9 (List.length xChoice) c10] [(19, .bool (decide (300 < (((List.length xChoice) : Nat) : Int))))] [World.cell? w14 ⟨g13, 3, none⟩ = some (.slice A9 (List.length xChoice) c10)] E (by kernel_rfl) (by kernel_rfl) ((H.box 3 rfl).cell (j := 3) rfl) ?_
 clear E; intro a E
 refine wpList_nil ?_
 refine th_n ?_
 refine E.cases (t := 19) rfl (fun hb_ E_ => ?_) (fun hb_ E_ => ?_)
 ·
  replace E := E_; clear E_
  have h22 : 300 < (((List.length xChoice) : Nat) : Int) := of_decide_eq_true hb_
  clear hb_; replace hP := ite_t h22 hP
  refine c_true E rfl ?_
  refine wp_seq ?_
  refine wp_region_lit ?_
  refine vn tbok 1 [] [(2, .bool true)] [] E (by kernel_rfl) (by kernel_rfl) trivial ?_
  clear E; intro a E
  refine wpList_nil ?_
  refine th_n ?_
  refine wp_ret ?_
  refine th_ret ?_
  obtain rfl := Option.some.inj hP
  refine ret1 E rfl rfl ?_
  exact ⟨_, rfl, rfl, H.sel [] rfl⟩
 replace E := E_; clear E_
 have h23 : ¬ (300 < (((List.length xChoice) : Nat) : Int)) := of_decide_eq_false hb_
 clear hb_; replace hP := ite_f h23 hP
 refine c_false E rfl ?_
 refine wp_skip ?_
 refine th_n ?_
 refine wp_seq ?_
 refine wp_seq ?_
 refine wp_region_lit ?_
 refine vn tbok 1 [] [(3, .int .i64 0)] [] E (by kernel_rfl) (by kernel_rfl) trivial ?_
 clear E; intro a E
 refine wpList_nil ?_
 refine th_n ?_
 refine wp_block ?_
 obtain ⟨x51, hL52, hK53⟩ := bind_inv hP
 clear hP
 refine loop_cut (fun i_ a w_ => (i_ = 0 ∧ ∃ (x56 : Unit), Fr a 34 [] ∧ Hp S Fa w0 w_ [] ∧ x51 = Sum.inl x56)) ?_ ?_
 ·
  refine loopV (fun m55 a w54 => ∃ (q36 : Int), Fr a 34 [(1, .pointer (some ⟨g13, 0, none⟩)), (3, .int .i64 q36)] ∧ Hp S Fa w0 w54 [.ro false (cInt .i64) A1 xRanks, .ro false (cSl (cInt .u8)) A5 xReply, .ro false (cInt .u8) A9 xChoice, .box g13 33 [.bool xWins, .slice A1 (List.length xRanks) c2, .slice A5 (List.length xReply) c6, .slice A9 (List.length xChoice) c10]] ∧ law24_Large_l0 N xReply m55 q36 = some x51) N ?_ ?_
  ·
   exact ⟨0, E.pick _ ⟨rfl, rfl, trivial⟩, H.sel [0, 1, 2, 3] rfl, hL52⟩
  clear E H hL52; intro m55 a w54 hI_
  obtain ⟨q36, E, H, hP⟩ := hI_
  obtain ⟨m50, rfl⟩ : ∃ q_, m55 = q_ + 1 := by cases m55 with | zero => rw [law24_Large_l0] at hP; cases hP | succ q_ => exact ⟨q_, rfl⟩
  rw [law24_Large_l0] at hP
  refine wp_seq ?_
  refine wp_seq ?_
  refine wp_region_lit ?_
  refine vn tbok 5 [.slice A5 (List.length xReply) c6] [(24, .bool (decide (q36 < (((List.length xReply) : Nat) : Int))))] [World.cell? w54 ⟨g13, 2, none⟩ = some (.slice A5 (List.length xReply) c6)] E (by kernel_rfl) (by kernel_rfl) ((H.box 3 rfl).cell (j := 2) rfl) ?_
  clear E; intro a E
  refine wpList_nil ?_
  refine th_n ?_
  refine E.cases (t := 24) rfl (fun hb_ E_ => ?_) (fun hb_ E_ => ?_)
  ·
   replace E := E_; clear E_
   have h57 : q36 < (((List.length xReply) : Nat) : Int) := of_decide_eq_true hb_
   clear hb_; replace hP := ite_t h57 hP
   refine c_true E rfl ?_
   refine wp_skip ?_
   refine th_n ?_
   refine wp_seq ?_
   refine wp_block ?_
   refine wp_seq ?_
   refine wp_region_lit ?_
   obtain ⟨g58, hP⟩ := ask_inv hP
   obtain ⟨b59, o60, e_b59⟩ := (H.rd 1 rds_ro).addr (idx_pos g58)
   subst e_b59
   obtain ⟨A61, c62, hl63, hk64, H⟩ := H.subSl 1 false (el_ro rfl) g58
   try dsimp only [addE] at H
   refine vn tbok 7 [.slice (some ⟨b59, o60, none⟩) (List.length xReply) c6, .slice A61 (List.length (List.getD xReply (Int.toNat q36) [])) c62] [(33, .bool (decide (20 < (((List.length (List.getD xReply (Int.toNat q36) [])) : Nat) : Int))))] [World.cell? w54 ⟨g13, 2, none⟩ = some (.slice (some ⟨b59, o60, none⟩) (List.length xReply) c6), 0 ≤ q36 ∧ q36 < (((List.length xReply) : Nat) : Int), World.cell? w54 ⟨b59, o60 + (Int.toNat q36) * 1, none⟩ = some (.slice A61 (List.length (List.getD xReply (Int.toNat q36) [])) c62)] E (by kernel_rfl) (by kernel_rfl) ⟨(H.box 3 rfl).cell (j := 2) rfl, g58, hl63⟩ ?_
   clear E; intro a E
   refine wpList_nil ?_
   refine th_n ?_
   refine E.cases (t := 33) rfl (fun hb_ E_ => ?_) (fun hb_ E_ => ?_)
   ·
    replace E := E_; clear E_
    have h66 : 20 < (((List.length (List.getD xReply (Int.toNat q36) [])) : Nat) : Int) := of_decide_eq_true hb_
    clear hb_; replace hP := ite_t h66 hP
    refine c_true E rfl ?_
    refine wp_seq ?_
    refine wp_region_lit ?_
    refine vn tbok 1 [] [(2, .bool true)] [] E (by kernel_rfl) (by kernel_rfl) trivial ?_
    clear E; intro a E
    refine wpList_nil ?_
    refine th_n ?_
    refine wp_ret ?_
    refine bl_ret ?_
    refine th_ret ?_
    refine th_ret ?_
    refine .inr ⟨rfl, ?_⟩
    refine bl_ret ?_
    refine th_ret ?_
    have hx_ := Option.some.inj hP; subst hx_
    have hP : some (true) = some r := hK53
    obtain rfl := Option.some.inj hP
    refine ret1 E rfl rfl ?_
    exact ⟨_, rfl, rfl, H.sel [] rfl⟩
   replace E := E_; clear E_
   have h67 : ¬ (20 < (((List.length (List.getD xReply (Int.toNat q36) [])) : Nat) : Int)) := of_decide_eq_false hb_
   clear hb_; replace hP := ite_f h67 hP
   refine c_false E rfl ?_
   refine wp_skip ?_
   refine bl_n ?_
   refine th_n ?_
   refine wp_region_lit ?_
   obtain ⟨g68, hP⟩ := ask_inv hP
   refine vn tbok 3 [.int .i64 (q36 + 1)] [(3, .int .i64 (q36 + 1))] [IntKind.i64.wrap (q36 + 1) = q36 + 1] E (by kernel_rfl) (by kernel_rfl) (wrap_in g68) ?_
   clear E; intro a E
   refine wpList_nil ?_
   exact th_n ⟨m50, Nat.lt_succ_self _, q36 + 1, E.pick _ ⟨rfl, rfl, trivial⟩, H.sel [0, 1, 2, 3] rfl, hP⟩
  replace E := E_; clear E_
  have h69 : ¬ (q36 < (((List.length xReply) : Nat) : Int)) := of_decide_eq_false hb_
  clear hb_; replace hP := ite_f h69 hP
  refine c_false E rfl ?_
  refine wp_exit ?_
  refine th_exit ?_
  have hx_ := Option.some.inj hP
  refine th_exit (.inl ⟨0, rfl, ?_⟩)
  exact ⟨rfl, (), E.pick _ trivial, H.sel [] rfl, hx_.symm⟩
 clear E H hL52; intro i_ a w54 hM_
 obtain ⟨rfl, x56, E, H, hx_⟩ := hM_
 subst hx_; have hP := elim_l hK53
 clear hK53
 refine bl_hit ?_
 refine th_n ?_
 refine wp_seq ?_
 refine wp_region_lit ?_
 refine vn tbok 1 [] [(2, .bool false)] [] E (by kernel_rfl) (by kernel_rfl) trivial ?_
 clear E; intro a E
 refine wpList_nil ?_
 refine th_n ?_
 refine wp_ret ?_
 obtain rfl := Option.some.inj hP
 refine ret1 E rfl rfl ?_
 exact ⟨_, rfl, rfl, H.sel [] rfl⟩

end Go.V
