/- Plain functions, and the calls that give them. -/
import Derived.Test.YtokfobioklmiaaaA5
set_option linter.all false
set_option linter.unusedVariables false
set_option linter.unnecessarySimpa false
set_option linter.unusedSimpArgs false
namespace Go.V
open Go Go.Proofs
/-! rejoinder/rejoinderlaw19.Large -/
def law19_Large (N : Nat) (aProps : Int) (aAccept : List Bool) (aGuard : List Int) (aNodes : List Nd) : Option Bool :=
  if 3 < aProps then
    if aProps ≤ 8 then
      some true
    else
      if 10 < (((List.length aAccept) : Nat) : Int) then
        if (((List.length aAccept) : Nat) : Int) ≤ 256 then
          some true
        else
          if 259 < (((List.length aAccept) : Nat) : Int) then
            some true
          else
            if 40 < (((List.length aNodes) : Nat) : Int) then
              some true
            else
              some (decide (300 < (((List.length aGuard) : Nat) : Int)))
      else
        if 259 < (((List.length aAccept) : Nat) : Int) then
          some true
        else
          if 40 < (((List.length aNodes) : Nat) : Int) then
            some true
          else
            some (decide (300 < (((List.length aGuard) : Nat) : Int)))
  else
    if 10 < (((List.length aAccept) : Nat) : Int) then
      if (((List.length aAccept) : Nat) : Int) ≤ 256 then
        some true
      else
        if 259 < (((List.length aAccept) : Nat) : Int) then
          some true
        else
          if 40 < (((List.length aNodes) : Nat) : Int) then
            some true
          else
            some (decide (300 < (((List.length aGuard) : Nat) : Int)))
    else
      if 259 < (((List.length aAccept) : Nat) : Int) then
        some true
      else
        if 40 < (((List.length aNodes) : Nat) : Int) then
          some true
        else
          some (decide (300 < (((List.length aGuard) : Nat) : Int)))
set_option maxRecDepth 100000 in
set_option maxHeartbeats 4000000 in
theorem law19_Large_calls {N : Nat} {S Fa : Nat → Prop} {w0 : World} {r : Bool} (A1 : Option Addr) (c2 : Nat) (A5 : Option Addr) (c6 : Nat) (A9 : Option Addr) (c10 : Nat) (aProps : Int) (aAccept : List Bool) (aGuard : List Int) (aNodes : List Nd) (hk3 : List.length aAccept ≤ c2) (hk7 : List.length aGuard ≤ c6) (hk11 : List.length aNodes ≤ c10) (H : Hp S Fa w0 w0 [.ro false cBool A1 aAccept, .ro false (cInt .i64) A5 aGuard, .ro false cNode A9 aNodes]) (hP : law19_Large N aProps aAccept aGuard aNodes = some r) :
    Calls Try.prog 8 #[.agg #[.int .i64 aProps, .slice A1 (List.length aAccept) c2, .slice A5 (List.length aGuard) c6, .slice A9 (List.length aNodes) c10]] w0 fun e w' => ∃ v, e = .returned v ∧ v = .bool r ∧ Hp S Fa w0 w' [] := by
 refine enterV (n := 41) Try.func8 rfl rfl rfl ?_
 intro a E
 replace E := E.pick [(0, .agg #[.int .i64 aProps, .slice A1 (List.length aAccept) c2, .slice A5 (List.length aGuard) c6, .slice A9 (List.length aNodes) c10])] ⟨rfl, trivial⟩
 rw [law19_Large] at hP
 refine wp_seq ?_
 refine wp_region_lit ?_
 refine h_box H E rfl rfl rfl ?_
 intro w14 g13 a hc15 hg17 H_ E_
 replace E := E_ _ rfl; clear E_
 replace H := H_; clear H_; try dsimp only [setn, addE, goneL] at H
 refine vr tbok 1 [] [(1, .pointer (some ⟨g13, 0, none⟩))] [] E (by kernel_rfl) trivial ?_
 clear E; intro a E
 refine wpList_nil ?_
 refine th_n ?_
 refine wp_seq ?_
 refine wp_region_lit ?_
 refine vr tbok 4 [.int .i64 aProps] [(1, .pointer (some ⟨g13, 0, none⟩)), (6, .bool (decide (3 < aProps)))] [World.cell? w14 ⟨g13, 0, none⟩ = some (.int .i64 aProps)] E (by kernel_rfl) ((H.box 3 rfl).cell (j := 0) rfl) ?_
 clear E; intro a E
 refine E.cases (t := 6) rfl (fun hb_ E_ => ?_) (fun hb_ E_ => ?_)
 ·
  replace E := E_; clear E_
  have h18 : 3 < aProps := of_decide_eq_true hb_
  clear hb_; replace hP := ite_t h18 hP
  refine vr tbok 5 [.int .i64 aProps] [(1, .pointer (some ⟨g13, 0, none⟩)), (11, .bool (decide (aProps ≤ 8)))] [World.cell? w14 ⟨g13, 0, none⟩ = some (.int .i64 aProps)] E (by kernel_rfl) ((H.box 3 rfl).cell (j := 0) rfl) ?_
  clear E; intro a E
  refine E.cases (t := 11) rfl (fun hb_ E_ => ?_) (fun hb_ E_ => ?_)
  ·
   replace E := E_; clear E_
   have h19 : aProps ≤ 8 := of_decide_eq_true hb_
   clear hb_; replace hP := ite_t h19 hP
   refine vr tbok 30 [] [(2, .bool true)] [] E (by kernel_rfl) trivial ?_
   clear E; intro a E
   refine wpList_nil ?_
   refine th_n ?_
   refine wp_ret ?_
   obtain rfl := Option.some.inj hP
   refine ret1 E rfl rfl ?_
   exact ⟨_, rfl, rfl, H.sel [] rfl⟩
  ·
   replace E := E_; clear E_
   have h20 : ¬ (aProps ≤ 8) := of_decide_eq_false hb_
   clear hb_; replace hP := ite_f h20 hP
   refine vr tbok 5 [.slice A1 (List.length aAccept) c2] [(1, .pointer (some ⟨g13, 0, none⟩)), (11, .bool false), (16, .bool (decide (10 < (((List.length aAccept) : Nat) : Int))))] [World.cell? w14 ⟨g13, 1, none⟩ = some (.slice A1 (List.length aAccept) c2)] E (by kernel_rfl) ((H.box 3 rfl).cell (j := 1) rfl) ?_
   clear E; intro a E
   refine E.cases (t := 16) rfl (fun hb_ E_ => ?_) (fun hb_ E_ => ?_)
   ·
    replace E := E_; clear E_
    have h21 : 10 < (((List.length aAccept) : Nat) : Int) := of_decide_eq_true hb_
    clear hb_; replace hP := ite_t h21 hP
    refine vr tbok 7 [.slice A1 (List.length aAccept) c2] [(1, .pointer (some ⟨g13, 0, none⟩)), (23, .bool (decide ((((List.length aAccept) : Nat) : Int) ≤ 256)))] [World.cell? w14 ⟨g13, 1, none⟩ = some (.slice A1 (List.length aAccept) c2)] E (by kernel_rfl) ((H.box 3 rfl).cell (j := 1) rfl) ?_
    clear E; intro a E
    refine E.cases (t := 23) rfl (fun hb_ E_ => ?_) (fun hb_ E_ => ?_)
    ·
     replace E := E_; clear E_
     have h22 : (((List.length aAccept) : Nat) : Int) ≤ 256 := of_decide_eq_true hb_
     clear hb_; replace hP := ite_t h22 hP
     refine vr tbok 18 [] [(2, .bool true)] [] E (by kernel_rfl) trivial ?_
     clear E; intro a E
     refine wpList_nil ?_
     refine th_n ?_
     refine wp_ret ?_
     obtain rfl := Option.some.inj hP
     refine ret1 E rfl rfl ?_
     exact ⟨_, rfl, rfl, H.sel [] rfl⟩
    ·
     replace E := E_; clear E_
     have h23 : ¬ ((((List.length aAccept) : Nat) : Int) ≤ 256) := of_decide_eq_false hb_
     clear hb_; replace hP := ite_f h23 hP
     refine vr tbok 6 [.slice A1 (List.length aAccept) c2] [(1, .pointer (some ⟨g13, 0, none⟩)), (29, .bool (decide (259 < (((List.length aAccept) : Nat) : Int))))] [World.cell? w14 ⟨g13, 1, none⟩ = some (.slice A1 (List.length aAccept) c2)] E (by kernel_rfl) ((H.box 3 rfl).cell (j := 1) rfl) ?_
     clear E; intro a E
     refine E.cases (t := 29) rfl (fun hb_ E_ => ?_) (fun hb_ E_ => ?_)
     ·
      replace E := E_; clear E_
      have h24 : 259 < (((List.length aAccept) : Nat) : Int) := of_decide_eq_true hb_
      clear hb_; replace hP := ite_t h24 hP
      refine vr tbok 12 [] [(2, .bool true)] [] E (by kernel_rfl) trivial ?_
      clear E; intro a E
      refine wpList_nil ?_
      refine th_n ?_
      refine wp_ret ?_
      obtain rfl := Option.some.inj hP
      refine ret1 E rfl rfl ?_
      exact ⟨_, rfl, rfl, H.sel [] rfl⟩
     ·
      replace E := E_; clear E_
      have h25 : ¬ (259 < (((List.length aAccept) : Nat) : Int)) := of_decide_eq_false hb_
      clear hb_; replace hP := ite_f h25 hP
      refine vr tbok 6 [.slice A9 (List.length aNodes) c10] [(1, .pointer (some ⟨g13, 0, none⟩)), (35, .bool (decide (40 < (((List.length aNodes) : Nat) : Int))))] [World.cell? w14 ⟨g13, 3, none⟩ = some (.slice A9 (List.length aNodes) c10)] E (by kernel_rfl) ((H.box 3 rfl).cell (j := 3) rfl) ?_
      clear E; intro a E
      refine E.cases (t := 35) rfl (fun hb_ E_ => ?_) (fun hb_ E_ => ?_)
      ·
       replace E := E_; clear E_
       have h26 : 40 < (((List.length aNodes) : Nat) : Int) := of_decide_eq_true hb_
       clear hb_; replace hP := ite_t h26 hP
       refine vr tbok 6 [] [(2, .bool true)] [] E (by kernel_rfl) trivial ?_
       clear E; intro a E
       refine wpList_nil ?_
       refine th_n ?_
       refine wp_ret ?_
       obtain rfl := Option.some.inj hP
       refine ret1 E rfl rfl ?_
       exact ⟨_, rfl, rfl, H.sel [] rfl⟩
      ·
       replace E := E_; clear E_
       have h27 : ¬ (40 < (((List.length aNodes) : Nat) : Int)) := of_decide_eq_false hb_
       clear hb_; replace hP := ite_f h27 hP
       refine vr tbok 6 [.slice A5 (List.length aGuard) c6] [(2, .bool (decide (300 < (((List.length aGuard) : Nat) : Int))))] [World.cell? w14 ⟨g13, 2, none⟩ = some (.slice A5 (List.length aGuard) c6)] E (by kernel_rfl) ((H.box 3 rfl).cell (j := 2) rfl) ?_
       clear E; intro a E
       refine wpList_nil ?_
       refine th_n ?_
       refine wp_ret ?_
       obtain rfl := Option.some.inj hP
       refine ret1 E rfl rfl ?_
       exact ⟨_, rfl, rfl, H.sel [] rfl⟩
   ·
    replace E := E_; clear E_
    have h28 : ¬ (10 < (((List.length aAccept) : Nat) : Int)) := of_decide_eq_false hb_
    clear hb_; replace hP := ite_f h28 hP
    refine vr tbok 13 [.slice A1 (List.length aAccept) c2] [(1, .pointer (some ⟨g13, 0, none⟩)), (29, .bool (decide (259 < (((List.length aAccept) : Nat) : Int))))] [World.cell? w14 ⟨g13, 1, none⟩ = some (.slice A1 (List.length aAccept) c2)] E (by kernel_rfl) ((H.box 3 rfl).cell (j := 1) rfl) ?_
    clear E; intro a E
    refine E.cases (t := 29) rfl (fun hb_ E_ => ?_) (fun hb_ E_ => ?_)
    ·
     replace E := E_; clear E_
     have h29 : 259 < (((List.length aAccept) : Nat) : Int) := of_decide_eq_true hb_
     clear hb_; replace hP := ite_t h29 hP
     refine vr tbok 12 [] [(2, .bool true)] [] E (by kernel_rfl) trivial ?_
     clear E; intro a E
     refine wpList_nil ?_
     refine th_n ?_
     refine wp_ret ?_
     obtain rfl := Option.some.inj hP
     refine ret1 E rfl rfl ?_
     exact ⟨_, rfl, rfl, H.sel [] rfl⟩
    ·
     replace E := E_; clear E_
     have h30 : ¬ (259 < (((List.length aAccept) : Nat) : Int)) := of_decide_eq_false hb_
     clear hb_; replace hP := ite_f h30 hP
     refine vr tbok 6 [.slice A9 (List.length aNodes) c10] [(1, .pointer (some ⟨g13, 0, none⟩)), (35, .bool (decide (40 < (((List.length aNodes) : Nat) : Int))))] [World.cell? w14 ⟨g13, 3, none⟩ = some (.slice A9 (List.length aNodes) c10)] E (by kernel_rfl) ((H.box 3 rfl).cell (j := 3) rfl) ?_
     clear E; intro a E
     refine E.cases (t := 35) rfl (fun hb_ E_ => ?_) (fun hb_ E_ => ?_)
     ·
      replace E := E_; clear E_
      have h31 : 40 < (((List.length aNodes) : Nat) : Int) := of_decide_eq_true hb_
      clear hb_; replace hP := ite_t h31 hP
      refine vr tbok 6 [] [(2, .bool true)] [] E (by kernel_rfl) trivial ?_
      clear E; intro a E
      refine wpList_nil ?_
      refine th_n ?_
      refine wp_ret ?_
      obtain rfl := Option.some.inj hP
      refine ret1 E rfl rfl ?_
      exact ⟨_, rfl, rfl, H.sel [] rfl⟩
     ·
      replace E := E_; clear E_
      have h32 : ¬ (40 < (((List.length aNodes) : Nat) : Int)) := of_decide_eq_false hb_
      clear hb_; replace hP := ite_f h32 hP
      refine vr tbok 6 [.slice A5 (List.length aGuard) c6] [(2, .bool (decide (300 < (((List.length aGuard) : Nat) : Int))))] [World.cell? w14 ⟨g13, 2, none⟩ = some (.slice A5 (List.length aGuard) c6)] E (by kernel_rfl) ((H.box 3 rfl).cell (j := 2) rfl) ?_
      clear E; intro a E
      refine wpList_nil ?_
      refine th_n ?_
      refine wp_ret ?_
      obtain rfl := Option.some.inj hP
      refine ret1 E rfl rfl ?_
      exact ⟨_, rfl, rfl, H.sel [] rfl⟩
 ·
  replace E := E_; clear E_
  have h33 : ¬ (3 < aProps) := of_decide_eq_false hb_
  clear hb_; replace hP := ite_f h33 hP
  refine vr tbok 10 [.slice A1 (List.length aAccept) c2] [(1, .pointer (some ⟨g13, 0, none⟩)), (11, .bool false), (16, .bool (decide (10 < (((List.length aAccept) : Nat) : Int))))] [World.cell? w14 ⟨g13, 1, none⟩ = some (.slice A1 (List.length aAccept) c2)] E (by kernel_rfl) ((H.box 3 rfl).cell (j := 1) rfl) ?_
  clear E; intro a E
  refine E.cases (t := 16) rfl (fun hb_ E_ => ?_) (fun hb_ E_ => ?_)
  ·
   replace E := E_; clear E_
   have h34 : 10 < (((List.length aAccept) : Nat) : Int) := of_decide_eq_true hb_
   clear hb_; replace hP := ite_t h34 hP
   refine vr tbok 7 [.slice A1 (List.length aAccept) c2] [(1, .pointer (some ⟨g13, 0, none⟩)), (23, .bool (decide ((((List.length aAccept) : Nat) : Int) ≤ 256)))] [World.cell? w14 ⟨g13, 1, none⟩ = some (.slice A1 (List.length aAccept) c2)] E (by kernel_rfl) ((H.box 3 rfl).cell (j := 1) rfl) ?_
   clear E; intro a E
   refine E.cases (t := 23) rfl (fun hb_ E_ => ?_) (fun hb_ E_ => ?_)
   ·
    replace E := E_; clear E_
    have h35 : (((List.length aAccept) : Nat) : Int) ≤ 256 := of_decide_eq_true hb_
    clear hb_; replace hP := ite_t h35 hP
    refine vr tbok 18 [] [(2, .bool true)] [] E (by kernel_rfl) trivial ?_
    clear E; intro a E
    refine wpList_nil ?_
    refine th_n ?_
    refine wp_ret ?_
    obtain rfl := Option.some.inj hP
    refine ret1 E rfl rfl ?_
    exact ⟨_, rfl, rfl, H.sel [] rfl⟩
   ·
    replace E := E_; clear E_
    have h36 : ¬ ((((List.length aAccept) : Nat) : Int) ≤ 256) := of_decide_eq_false hb_
    clear hb_; replace hP := ite_f h36 hP
    refine vr tbok 6 [.slice A1 (List.length aAccept) c2] [(1, .pointer (some ⟨g13, 0, none⟩)), (29, .bool (decide (259 < (((List.length aAccept) : Nat) : Int))))] [World.cell? w14 ⟨g13, 1, none⟩ = some (.slice A1 (List.length aAccept) c2)] E (by kernel_rfl) ((H.box 3 rfl).cell (j := 1) rfl) ?_
    clear E; intro a E
    refine E.cases (t := 29) rfl (fun hb_ E_ => ?_) (fun hb_ E_ => ?_)
    ·
     replace E := E_; clear E_
     have h37 : 259 < (((List.length aAccept) : Nat) : Int) := of_decide_eq_true hb_
     clear hb_; replace hP := ite_t h37 hP
     refine vr tbok 12 [] [(2, .bool true)] [] E (by kernel_rfl) trivial ?_
     clear E; intro a E
     refine wpList_nil ?_
     refine th_n ?_
     refine wp_ret ?_
     obtain rfl := Option.some.inj hP
     refine ret1 E rfl rfl ?_
     exact ⟨_, rfl, rfl, H.sel [] rfl⟩
    ·
     replace E := E_; clear E_
     have h38 : ¬ (259 < (((List.length aAccept) : Nat) : Int)) := of_decide_eq_false hb_
     clear hb_; replace hP := ite_f h38 hP
     refine vr tbok 6 [.slice A9 (List.length aNodes) c10] [(1, .pointer (some ⟨g13, 0, none⟩)), (35, .bool (decide (40 < (((List.length aNodes) : Nat) : Int))))] [World.cell? w14 ⟨g13, 3, none⟩ = some (.slice A9 (List.length aNodes) c10)] E (by kernel_rfl) ((H.box 3 rfl).cell (j := 3) rfl) ?_
     clear E; intro a E
     refine E.cases (t := 35) rfl (fun hb_ E_ => ?_) (fun hb_ E_ => ?_)
     ·
      replace E := E_; clear E_
      have h39 : 40 < (((List.length aNodes) : Nat) : Int) := of_decide_eq_true hb_
      clear hb_; replace hP := ite_t h39 hP
      refine vr tbok 6 [] [(2, .bool true)] [] E (by kernel_rfl) trivial ?_
      clear E; intro a E
      refine wpList_nil ?_
      refine th_n ?_
      refine wp_ret ?_
      obtain rfl := Option.some.inj hP
      refine ret1 E rfl rfl ?_
      exact ⟨_, rfl, rfl, H.sel [] rfl⟩
     ·
      replace E := E_; clear E_
      have h40 : ¬ (40 < (((List.length aNodes) : Nat) : Int)) := of_decide_eq_false hb_
      clear hb_; replace hP := ite_f h40 hP
      refine vr tbok 6 [.slice A5 (List.length aGuard) c6] [(2, .bool (decide (300 < (((List.length aGuard) : Nat) : Int))))] [World.cell? w14 ⟨g13, 2, none⟩ = some (.slice A5 (List.length aGuard) c6)] E (by kernel_rfl) ((H.box 3 rfl).cell (j := 2) rfl) ?_
      clear E; intro a E
      refine wpList_nil ?_
      refine th_n ?_
      refine wp_ret ?_
      obtain rfl := Option.some.inj hP
      refine ret1 E rfl rfl ?_
      exact ⟨_, rfl, rfl, H.sel [] rfl⟩
  ·
   replace E := E_; clear E_
   have h41 : ¬ (10 < (((List.length aAccept) : Nat) : Int)) := of_decide_eq_false hb_
   clear hb_; replace hP := ite_f h41 hP
   refine vr tbok 13 [.slice A1 (List.length aAccept) c2] [(1, .pointer (some ⟨g13, 0, none⟩)), (29, .bool (decide (259 < (((List.length aAccept) : Nat) : Int))))] [World.cell? w14 ⟨g13, 1, none⟩ = some (.slice A1 (List.length aAccept) c2)] E (by kernel_rfl) ((H.box 3 rfl).cell (j := 1) rfl) ?_
   clear E; intro a E
   refine E.cases (t := 29) rfl (fun hb_ E_ => ?_) (fun hb_ E_ => ?_)
   ·
    replace E := E_; clear E_
    have h42 : 259 < (((List.length aAccept) : Nat) : Int) := of_decide_eq_true hb_
    clear hb_; replace hP := ite_t h42 hP
    refine vr tbok 12 [] [(2, .bool true)] [] E (by kernel_rfl) trivial ?_
    clear E; intro a E
    refine wpList_nil ?_
    refine th_n ?_
    refine wp_ret ?_
    obtain rfl := Option.some.inj hP
    refine ret1 E rfl rfl ?_
    exact ⟨_, rfl, rfl, H.sel [] rfl⟩
   ·
    replace E := E_; clear E_
    have h43 : ¬ (259 < (((List.length aAccept) : Nat) : Int)) := of_decide_eq_false hb_
    clear hb_; replace hP := ite_f h43 hP
    refine vr tbok 6 [.slice A9 (List.length aNodes) c10] [(1, .pointer (some ⟨g13, 0, none⟩)), (35, .bool (decide (40 < (((List.length aNodes) : Nat) : Int))))] [World.cell? w14 ⟨g13, 3, none⟩ = some (.slice A9 (List.length aNodes) c10)] E (by kernel_rfl) ((H.box 3 rfl).cell (j := 3) rfl) ?_
    clear E; intro a E
    refine E.cases (t := 35) rfl (fun hb_ E_ => ?_) (fun hb_ E_ => ?_)
    ·
     replace E := E_; clear E_
     have h44 : 40 < (((List.length aNodes) : Nat) : Int) := of_decide_eq_true hb_
     clear hb_; replace hP := ite_t h44 hP
     refine vr tbok 6 [] [(2, .bool true)] [] E (by kernel_rfl) trivial ?_
     clear E; intro a E
     refine wpList_nil ?_
     refine th_n ?_
     refine wp_ret ?_
     obtain rfl := Option.some.inj hP
     refine ret1 E rfl rfl ?_
     exact ⟨_, rfl, rfl, H.sel [] rfl⟩
    ·
     replace E := E_; clear E_
     have h45 : ¬ (40 < (((List.length aNodes) : Nat) : Int)) := of_decide_eq_false hb_
     clear hb_; replace hP := ite_f h45 hP
     refine vr tbok 6 [.slice A5 (List.length aGuard) c6] [(2, .bool (decide (300 < (((List.length aGuard) : Nat) : Int))))] [World.cell? w14 ⟨g13, 2, none⟩ = some (.slice A5 (List.length aGuard) c6)] E (by kernel_rfl) ((H.box 3 rfl).cell (j := 2) rfl) ?_
     clear E; intro a E
     refine wpList_nil ?_
     refine th_n ?_
     refine wp_ret ?_
     obtain rfl := Option.some.inj hP
     refine ret1 E rfl rfl ?_
     exact ⟨_, rfl, rfl, H.sel [] rfl⟩

/-! rejoinder/rejoinderkit.Pick -/
def kit_Pick (N : Nat) (x : Int) (n : Int) : Option Int :=
  if n < 1 then
    some 0
  else
    ask (n ≠ 0) <|
    if (Int.tmod x n) < 0 then
      ask (in64 ((Int.tmod x n) + n)) <|
      some ((Int.tmod x n) + n)
    else
      some (Int.tmod x n)
set_option maxRecDepth 100000 in
set_option maxHeartbeats 4000000 in
theorem kit_Pick_calls {N : Nat} {S Fa : Nat → Prop} {w0 : World} {r : Int} (x : Int) (n : Int) (H : Hp S Fa w0 w0 []) (hP : kit_Pick N x n = some r) :
    Calls Try.prog 10 #[.int .i64 x, .int .i64 n] w0 fun e w' => ∃ v, e = .returned v ∧ v = .int .i64 r ∧ Hp S Fa w0 w' [] := by
 refine enterV (n := 16) Try.func10 rfl rfl rfl ?_
 intro a E
 replace E := E.pick [(0, .int .i64 x), (1, .int .i64 n)] ⟨rfl, rfl, trivial⟩
 rw [kit_Pick] at hP
 refine wp_seq ?_
 refine wp_region_lit ?_
 refine vr tbok 1 [] [(0, .int .i64 x), (1, .int .i64 n)] [] E (by kernel_rfl) trivial ?_
 clear E; intro a E
 refine wpList_nil ?_
 refine th_n ?_
 refine wp_seq ?_
 refine wp_seq ?_
 refine wp_region_lit ?_
 refine vr tbok 2 [] [(0, .int .i64 x), (1, .int .i64 n), (6, .bool (decide (n < 1)))] [] E (by kernel_rfl) trivial ?_
 clear E; intro a E
 refine wpList_nil ?_
 refine th_n ?_
 refine E.cases (t := 6) rfl (fun hb_ E_ => ?_) (fun hb_ E_ => ?_)
 ·
  replace E := E_; clear E_
  have h1 : n < 1 := of_decide_eq_true hb_
  clear hb_; replace hP := ite_t h1 hP
  refine c_true E rfl ?_
  refine wp_seq ?_
  refine wp_region_lit ?_
  refine vr tbok 1 [] [(4, .int .i64 0)] [] E (by kernel_rfl) trivial ?_
  clear E; intro a E
  refine wpList_nil ?_
  refine th_n ?_
  refine wp_ret ?_
  refine th_ret ?_
  obtain rfl := Option.some.inj hP
  refine ret1 E rfl rfl ?_
  exact ⟨_, rfl, rfl, H.sel [] rfl⟩
 ·
  replace E := E_; clear E_
  have h2 : ¬ (n < 1) := of_decide_eq_false hb_
  clear hb_; replace hP := ite_f h2 hP
  refine c_false E rfl ?_
  refine wp_skip ?_
  refine th_n ?_
  refine wp_seq ?_
  refine wp_region_lit ?_
  obtain ⟨g3, hP⟩ := ask_inv hP
  refine vr tbok 4 [.int .i64 (Int.tmod x n)] [(0, .int .i64 (Int.tmod x n)), (1, .int .i64 n)] [(n : Int) ≠ 0 ∧ Int.tmod x n = Int.tmod x n] E (by kernel_rfl) (⟨g3, rfl⟩) ?_
  clear E; intro a E
  refine wpList_nil ?_
  refine th_n ?_
  refine wp_seq ?_
  refine wp_seq ?_
  refine wp_region_lit ?_
  refine vr tbok 2 [] [(0, .int .i64 (Int.tmod x n)), (1, .int .i64 n), (11, .bool (decide ((Int.tmod x n) < 0)))] [] E (by kernel_rfl) trivial ?_
  clear E; intro a E
  refine wpList_nil ?_
  refine th_n ?_
  refine E.cases (t := 11) rfl (fun hb_ E_ => ?_) (fun hb_ E_ => ?_)
  ·
   replace E := E_; clear E_
   have h4 : (Int.tmod x n) < 0 := of_decide_eq_true hb_
   clear hb_; replace hP := ite_t h4 hP
   refine c_true E rfl ?_
   refine wp_region_lit ?_
   obtain ⟨g5, hP⟩ := ask_inv hP
   refine vr tbok 4 [.int .i64 ((Int.tmod x n) + n)] [(0, .int .i64 ((Int.tmod x n) + n))] [IntKind.i64.wrap ((Int.tmod x n) + n) = (Int.tmod x n) + n] E (by kernel_rfl) (wrap_in g5) ?_
   clear E; intro a E
   refine wpList_nil ?_
   refine th_n ?_
   refine wp_seq ?_
   refine wp_region_lit ?_
   refine vr tbok 2 [] [(4, .int .i64 ((Int.tmod x n) + n))] [] E (by kernel_rfl) trivial ?_
   clear E; intro a E
   refine wpList_nil ?_
   refine th_n ?_
   refine wp_ret ?_
   obtain rfl := Option.some.inj hP
   refine ret1 E rfl rfl ?_
   exact ⟨_, rfl, rfl, H.sel [] rfl⟩
  ·
   replace E := E_; clear E_
   have h6 : ¬ ((Int.tmod x n) < 0) := of_decide_eq_false hb_
   clear hb_; replace hP := ite_f h6 hP
   refine c_false E rfl ?_
   refine wp_skip ?_
   refine th_n ?_
   refine wp_seq ?_
   refine wp_region_lit ?_
   refine vr tbok 2 [] [(4, .int .i64 (Int.tmod x n))] [] E (by kernel_rfl) trivial ?_
   clear E; intro a E
   refine wpList_nil ?_
   refine th_n ?_
   refine wp_ret ?_
   obtain rfl := Option.some.inj hP
   refine ret1 E rfl rfl ?_
   exact ⟨_, rfl, rfl, H.sel [] rfl⟩

/-! rejoinder/rejoinderlaw23.AttractMore -/
def law23_AttractMore_l0 (N : Nat) (r75 : (List Int) × Int) (r87 : (List Int) × Int) : Nat → Int → Option (Unit ⊕ Bool)
  | 0, _ => none
  | m156 + 1, q129 =>
    if q129 < (((List.length r75.1) : Nat) : Int) then
      ask (idx q129 (List.length r75.1)) <|
      if 0 ≤ (List.getD r75.1 (Int.toNat q129) 0) then
        ask (idx q129 (List.length r87.1)) <|
        if (List.getD r87.1 (Int.toNat q129) 0) < 0 then
          some (Sum.inr false)
        else
          if (List.getD r75.1 (Int.toNat q129) 0) < (List.getD r87.1 (Int.toNat q129) 0) then
            some (Sum.inr false)
          else
            ask (in64 (q129 + 1)) <|
            law23_AttractMore_l0 N r75 r87 m156 (q129 + 1)
      else
        ask (in64 (q129 + 1)) <|
        law23_AttractMore_l0 N r75 r87 m156 (q129 + 1)
    else
      some (Sum.inl ())
def law23_AttractMore (N : Nat) (aProps : Int) (aAccept : List Bool) (aGuard : List Int) (aNodes : List Nd) (s : Int × Int) (p : Int) : Option Bool :=
  Option.bind (law23_awake N) fun r23 =>
  Option.bind (law19_Large N aProps aAccept aGuard aNodes) fun r32 =>
  if r32 = true then
    some r23
  else
    Option.bind (board_Check N aProps aAccept aGuard aNodes (s.1, s.2)) fun r43 =>
    if (r43 : Int) = 0 then
      Option.bind (kit_Pick N p 8) fun r54 =>
      ask (0 ≤ r54) <|
      Option.bind (attract_Ranks N aProps aAccept aGuard aNodes (s.1, s.2)) fun r75 =>
      Option.bind (attract_Ranks N aProps aAccept aGuard aNodes (andNotV .u8 s.1 (andV .u8 (shlV .u8 1 r54) s.1), orV .u8 s.2 (andV .u8 (shlV .u8 1 r54) s.1))) fun r87 =>
      if (r75.2 : Int) = 0 then
        if (r87.2 : Int) = 0 then
          if ((((List.length r75.1) : Nat) : Int) : Int) = (((List.length r87.1) : Nat) : Int) then
            Option.bind (law23_AttractMore_l0 N r75 r87 N 0) fun x157 =>
            Sum.elim (fun x162 =>
              some r23)
             (fun x189 =>
              some x189) x157
          else
            some false
        else
          some false
      else
        some false
    else
      some r23
set_option maxRecDepth 100000 in
set_option maxHeartbeats 4000000 in
theorem law23_AttractMore_calls {N : Nat} {S Fa : Nat → Prop} {w0 : World} {r : Bool} (A1 : Option Addr) (c2 : Nat) (A5 : Option Addr) (c6 : Nat) (A9 : Option Addr) (c10 : Nat) (aProps : Int) (aAccept : List Bool) (aGuard : List Int) (aNodes : List Nd) (s : Int × Int) (p : Int) (hk3 : List.length aAccept ≤ c2) (hk7 : List.length aGuard ≤ c6) (hk11 : List.length aNodes ≤ c10) (H : Hp S Fa w0 w0 [.ro false cBool A1 aAccept, .ro false (cInt .i64) A5 aGuard, .ro false cNode A9 aNodes]) (hP : law23_AttractMore N aProps aAccept aGuard aNodes s p = some r) :
    Calls Try.prog 3 #[.agg #[.int .i64 aProps, .slice A1 (List.length aAccept) c2, .slice A5 (List.length aGuard) c6, .slice A9 (List.length aNodes) c10], .agg #[.int .u8 s.1, .int .u8 s.2], .int .i64 p] w0 fun e w' => ∃ v, e = .returned v ∧ v = .bool r ∧ Hp S Fa w0 w' [] := by
 refine enterV (n := 93) Try.func3 rfl rfl rfl ?_
 intro a E
 replace E := E.pick [(0, .agg #[.int .i64 aProps, .slice A1 (List.length aAccept) c2, .slice A5 (List.length aGuard) c6, .slice A9 (List.length aNodes) c10]), (1, .agg #[.int .u8 s.1, .int .u8 s.2]), (2, .int .i64 p)] ⟨rfl, rfl, rfl, trivial⟩
 rw [law23_AttractMore] at hP
 refine wp_seq ?_
 refine wp_region_lit ?_
 refine h_box H E rfl rfl rfl ?_
 intro w14 g13 a hc15 hg17 H_ E_
 replace E := E_ _ rfl; clear E_
 replace H := H_; clear H_; try dsimp only [setn, addE, goneL] at H
 refine h_box H E rfl rfl rfl ?_
 intro w19 g18 a hc20 hg22 H_ E_
 replace E := E_ _ rfl; clear E_
 replace H := H_; clear H_; try dsimp only [setn, addE, goneL] at H
 refine vr tbok 1 [] [(2, .int .i64 p), (3, .pointer (some ⟨g13, 0, none⟩)), (4, .pointer (some ⟨g18, 0, none⟩))] [] E (by kernel_rfl) trivial ?_
 clear E; intro a E
 refine wpList_nil ?_
 refine th_n ?_
 refine wp_seq ?_
 refine wp_region_lit ?_
 obtain ⟨r23, h24, hP⟩ := bind_inv hP
 obtain ⟨Fa25, Hc26, hb27⟩ := H.call [] [] rfl rfl trivial
 refine e_call E rfl rfl Try.func7 rfl rfl rfl (law23_awake_calls    Hc26 h24) ?_
 rintro v28 w29 a ⟨rfl, HR30⟩ E_
 replace E := E_ _ rfl; clear E_
 obtain ⟨H_, hc31⟩ := hb27 _ _ HR30 rfl
 replace H := H_; clear H_; try dsimp only [setn, addE, goneL] at H
 refine vr tbok 1 [] [(2, .int .i64 p), (3, .pointer (some ⟨g13, 0, none⟩)), (4, .pointer (some ⟨g18, 0, none⟩)), (7, .bool r23)] [] E (by kernel_rfl) trivial ?_
 clear E; intro a E
 refine wpList_nil ?_
 refine th_n ?_
 refine wp_seq ?_
 refine wp_seq ?_
 refine wp_region_lit ?_
 refine vr tbok 1 [.agg #[.int .i64 aProps, .slice A1 (List.length aAccept) c2, .slice A5 (List.length aGuard) c6, .slice A9 (List.length aNodes) c10]] [(2, .int .i64 p), (3, .pointer (some ⟨g13, 0, none⟩)), (4, .pointer (some ⟨g18, 0, none⟩)), (7, .bool r23), (15, .agg #[.int .i64 aProps, .slice A1 (List.length aAccept) c2, .slice A5 (List.length aGuard) c6, .slice A9 (List.length aNodes) c10])] [cellsAt w29 g13 (0) [.int .i64 aProps, .slice A1 (List.length aAccept) c2, .slice A5 (List.length aGuard) c6, .slice A9 (List.length aNodes) c10]] E (by kernel_rfl) ((H.box 3 rfl).sub 0 _ rfl) ?_
 clear E; intro a E
 obtain ⟨r32, h33, hP⟩ := bind_inv hP
 obtain ⟨Fa34, Hc35, hb36⟩ := H.call [] [(0, false), (1, false), (2, false)] rfl rfl trivial
 refine e_call E rfl rfl Try.func8 rfl rfl rfl (law19_Large_calls A1 c2 A5 c6 A9 c10 aProps aAccept aGuard aNodes hk3 hk7 hk11 Hc35 h33) ?_
 rintro v37 w38 a ⟨rfl, HR39⟩ E_
 replace E := E_ _ rfl; clear E_
 obtain ⟨H_, hc40⟩ := hb36 _ _ HR39 rfl
 replace H := H_; clear H_; try dsimp only [setn, addE, goneL] at H
 refine vr tbok 1 [] [(2, .int .i64 p), (3, .pointer (some ⟨g13, 0, none⟩)), (4, .pointer (some ⟨g18, 0, none⟩)), (7, .bool r23), (17, .bool r32)] [] E (by kernel_rfl) trivial ?_
 clear E; intro a E
 refine E.cases (t := 17) rfl (fun hb_ E_ => ?_) (fun hb_ E_ => ?_)
 ·
  replace E := E_; clear E_
  have h41 : r32 = true := hb_
  clear hb_; replace hP := ite_t h41 hP
  refine vr tbok 5 [] [(2, .int .i64 p), (3, .pointer (some ⟨g13, 0, none⟩)), (4, .pointer (some ⟨g18, 0, none⟩)), (7, .bool r23), (22, .bool true)] [] E (by kernel_rfl) trivial ?_
  clear E; intro a E
  refine wpList_nil ?_
  refine th_n ?_
  refine c_true E rfl ?_
  refine wp_seq ?_
  refine wp_region_lit ?_
  refine vr tbok 2 [] [(6, .bool r23)] [] E (by kernel_rfl) trivial ?_
  clear E; intro a E
  refine wpList_nil ?_
  refine th_n ?_
  refine wp_ret ?_
  refine th_ret ?_
  obtain rfl := Option.some.inj hP
  refine ret1 E rfl rfl ?_
  exact ⟨_, rfl, rfl, H.sel [] rfl⟩
 ·
  replace E := E_; clear E_
  have h42 : ¬ (r32 = true) := (ne_true_of_eq_false hb_)
  clear hb_; replace hP := ite_f h42 hP
  refine vr tbok 2 [.agg #[.int .i64 aProps, .slice A1 (List.length aAccept) c2, .slice A5 (List.length aGuard) c6, .slice A9 (List.length aNodes) c10], .agg #[.int .u8 s.1, .int .u8 s.2]] [(2, .int .i64 p), (3, .pointer (some ⟨g13, 0, none⟩)), (4, .pointer (some ⟨g18, 0, none⟩)), (7, .bool r23), (17, .bool false), (18, .agg #[.int .i64 aProps, .slice A1 (List.length aAccept) c2, .slice A5 (List.length aGuard) c6, .slice A9 (List.length aNodes) c10]), (19, .agg #[.int .u8 s.1, .int .u8 s.2])] [cellsAt w38 g13 (0) [.int .i64 aProps, .slice A1 (List.length aAccept) c2, .slice A5 (List.length aGuard) c6, .slice A9 (List.length aNodes) c10], cellsAt w38 g18 (0) [.int .u8 s.1, .int .u8 s.2]] E (by kernel_rfl) ⟨(H.box 3 rfl).sub 0 _ rfl, (H.box 4 rfl).sub 0 _ rfl⟩ ?_
  clear E; intro a E
  obtain ⟨r43, h44, hP⟩ := bind_inv hP
  obtain ⟨Fa45, Hc46, hb47⟩ := H.call [] [(0, false), (1, false), (2, false)] rfl rfl trivial
  refine e_call E rfl rfl Try.func9 rfl rfl rfl (board_Check_calls A1 c2 A5 c6 A9 c10 aProps aAccept aGuard aNodes (s.1, s.2) hk3 hk7 hk11 Hc46 h44) ?_
  rintro v48 w49 a ⟨rfl, HR50⟩ E_
  replace E := E_ _ rfl; clear E_
  obtain ⟨H_, hc51⟩ := hb47 _ _ HR50 rfl
  replace H := H_; clear H_; try dsimp only [setn, addE, goneL] at H
  refine vr tbok 2 [] [(2, .int .i64 p), (3, .pointer (some ⟨g13, 0, none⟩)), (4, .pointer (some ⟨g18, 0, none⟩)), (7, .bool r23), (22, .bool ((r43 : Int) != 0))] [] E (by kernel_rfl) trivial ?_
  clear E; intro a E
  refine wpList_nil ?_
  refine th_n ?_
  refine E.cases (t := 22) rfl (fun hb_ E_ => ?_) (fun hb_ E_ => ?_)
  ·
   replace E := E_; clear E_
   have h52 : ¬ ((r43 : Int) = 0) := bne_iff_ne.1 hb_
   clear hb_; replace hP := ite_f h52 hP
   refine c_true E rfl ?_
   refine wp_seq ?_
   refine wp_region_lit ?_
   refine vr tbok 2 [] [(6, .bool r23)] [] E (by kernel_rfl) trivial ?_
   clear E; intro a E
   refine wpList_nil ?_
   refine th_n ?_
   refine wp_ret ?_
   refine th_ret ?_
   obtain rfl := Option.some.inj hP
   refine ret1 E rfl rfl ?_
   exact ⟨_, rfl, rfl, H.sel [] rfl⟩
  ·
   replace E := E_; clear E_
   have h53 : (r43 : Int) = 0 := bne_eq_false_iff_eq.1 hb_
   clear hb_; replace hP := ite_t h53 hP
   refine c_false E rfl ?_
   refine wp_skip ?_
   refine th_n ?_
   refine wp_seq ?_
   obtain ⟨r54, h55, hP⟩ := bind_inv hP
   obtain ⟨g63, hP⟩ := ask_inv hP
   have HR67 := H
   refine dr_start (S := fun w_ => Chg (atL []) w49 w_) (by kernel_rfl) ?_
   intro w64 hc65
   have HS66 : Chg (atL []) w49 w64 := hc65.mono (fun _ _ h_ => h_.elim)
   replace H := H.ext hc65
   refine dr tbok (by kernel_rfl) [0, 3, 4] [.int .u8 s.1] [(3, .pointer (some ⟨g13, 0, none⟩)), (4, .pointer (some ⟨g18, 0, none⟩)), (7, .bool r23), (24, .int .i64 p), (28, .int .u8 s.1)] (fun w_ => [World.cell? w_ ⟨g18, 0, none⟩ = some (.int .u8 s.1)]) 4 E (fun _ _ => by kernel_rfl) (fun w_ hS_ => ((HR67.boxk [] hS_ 4 rfl rfl).cell (j := 0) rfl)) (by kernel_rfl) HS66 ?_
   clear E; intro a E
   refine wpAnyH_all (rs := [1]) (by kernel_rfl) (by simp) ?_
   refine all1 ?_
   ·
    refine wpOp_of_list rfl ?_
    obtain ⟨Fa68, Hc69, hb70⟩ := H.call [] [] rfl rfl trivial
    refine e_call E rfl rfl Try.func10 rfl rfl rfl (kit_Pick_calls  p 8  Hc69 h55) ?_
    rintro v71 w72 a ⟨rfl, HR73⟩ E_
    replace E := E_ _ rfl; clear E_
    obtain ⟨H_, hc74⟩ := hb70 _ _ HR73 rfl
    replace HS66 := HS66.ext (callS_ext hc74)
    replace H := H_; clear H_; try dsimp only [setn, addE, goneL] at H
    refine wpList_nil ?_
    refine th_n ⟨HS66, ?_⟩
    refine dr tbok (by kernel_rfl) [2, 5, 6] [.int .u8 (shlV .u8 1 r54), .int .u8 (andV .u8 (shlV .u8 1 r54) s.1)] [(3, .pointer (some ⟨g13, 0, none⟩)), (4, .pointer (some ⟨g18, 0, none⟩)), (7, .bool r23), (8, .int .u8 (andV .u8 (shlV .u8 1 r54) s.1))] (fun w_ => [0 ≤ r54 ∧ IntKind.u8.wrap (1 * 2 ^ (min (Int.toNat r54) (IntKind.bits .u8))) = shlV .u8 1 r54, IntKind.u8.wrap (BitVec.ofInt (IntKind.bits .u8) (shlV .u8 1 r54) &&& BitVec.ofInt (IntKind.bits .u8) s.1).toNat = andV .u8 (shlV .u8 1 r54) s.1]) 0 E (fun _ _ => by kernel_rfl) (fun w_ hS_ => ⟨⟨g63, rfl⟩, rfl⟩) (by kernel_rfl) HS66 ?_
    clear E; intro a E
    refine dr_done (by kernel_rfl) ?_
    clear HS66 HR67
    refine th_n ?_
    refine wp_seq ?_
    refine wp_region_lit ?_
    refine vr tbok 2 [.agg #[.int .i64 aProps, .slice A1 (List.length aAccept) c2, .slice A5 (List.length aGuard) c6, .slice A9 (List.length aNodes) c10], .agg #[.int .u8 s.1, .int .u8 s.2]] [(3, .pointer (some ⟨g13, 0, none⟩)), (4, .pointer (some ⟨g18, 0, none⟩)), (7, .bool r23), (8, .int .u8 (andV .u8 (shlV .u8 1 r54) s.1)), (31, .agg #[.int .i64 aProps, .slice A1 (List.length aAccept) c2, .slice A5 (List.length aGuard) c6, .slice A9 (List.length aNodes) c10]), (32, .agg #[.int .u8 s.1, .int .u8 s.2])] [cellsAt w72 g13 (0) [.int .i64 aProps, .slice A1 (List.length aAccept) c2, .slice A5 (List.length aGuard) c6, .slice A9 (List.length aNodes) c10], cellsAt w72 g18 (0) [.int .u8 s.1, .int .u8 s.2]] E (by kernel_rfl) ⟨(H.box 3 rfl).sub 0 _ rfl, (H.box 4 rfl).sub 0 _ rfl⟩ ?_
    clear E; intro a E
    obtain ⟨r75, h76, hP⟩ := bind_inv hP
    obtain ⟨Fa77, Hc78, hb79⟩ := H.call [] [(0, false), (1, false), (2, false)] rfl rfl trivial
    refine e_call E rfl rfl Try.func11 rfl rfl rfl (attract_Ranks_calls A1 c2 A5 c6 A9 c10 aProps aAccept aGuard aNodes (s.1, s.2) hk3 hk7 hk11 Hc78 h76) ?_
    rintro v80 w81 a ⟨A84, c85, rfl, HR82⟩ E_
    replace E := E_ _ rfl; clear E_
    obtain ⟨H_, hc83⟩ := hb79 _ _ HR82 rfl
    replace H := H_; clear H_; try dsimp only [setn, addE, goneL] at H
    refine vr tbok 5 [] [(3, .pointer (some ⟨g13, 0, none⟩)), (4, .pointer (some ⟨g18, 0, none⟩)), (7, .bool r23), (8, .int .u8 (andV .u8 (shlV .u8 1 r54) s.1)), (9, .slice A84 (List.length r75.1) c85), (10, .int .i64 r75.2)] [] E (by kernel_rfl) trivial ?_
    clear E; intro a E
    refine wpList_nil ?_
    refine th_n ?_
    refine wp_seq ?_
    refine wp_region_lit ?_
    refine vr tbok 9 [.agg #[.int .i64 aProps, .slice A1 (List.length aAccept) c2, .slice A5 (List.length aGuard) c6, .slice A9 (List.length aNodes) c10], .int .u8 s.1, .int .u8 (andNotV .u8 s.1 (andV .u8 (shlV .u8 1 r54) s.1)), .int .u8 s.2, .int .u8 (orV .u8 s.2 (andV .u8 (shlV .u8 1 r54) s.1))] [(7, .bool r23), (9, .slice A84 (List.length r75.1) c85), (10, .int .i64 r75.2), (37, .agg #[.int .i64 aProps, .slice A1 (List.length aAccept) c2, .slice A5 (List.length aGuard) c6, .slice A9 (List.length aNodes) c10]), (41, .int .u8 (andNotV .u8 s.1 (andV .u8 (shlV .u8 1 r54) s.1))), (45, .int .u8 (orV .u8 s.2 (andV .u8 (shlV .u8 1 r54) s.1)))] [cellsAt w81 g13 (0) [.int .i64 aProps, .slice A1 (List.length aAccept) c2, .slice A5 (List.length aGuard) c6, .slice A9 (List.length aNodes) c10], World.cell? w81 ⟨g18, 0, none⟩ = some (.int .u8 s.1), IntKind.u8.wrap (BitVec.ofInt (IntKind.bits .u8) s.1 &&& ~~~ BitVec.ofInt (IntKind.bits .u8) (andV .u8 (shlV .u8 1 r54) s.1)).toNat = andNotV .u8 s.1 (andV .u8 (shlV .u8 1 r54) s.1), World.cell? w81 ⟨g18, 1, none⟩ = some (.int .u8 s.2), IntKind.u8.wrap (BitVec.ofInt (IntKind.bits .u8) s.2 ||| BitVec.ofInt (IntKind.bits .u8) (andV .u8 (shlV .u8 1 r54) s.1)).toNat = orV .u8 s.2 (andV .u8 (shlV .u8 1 r54) s.1)] E (by kernel_rfl) ⟨(H.box 3 rfl).sub 0 _ rfl, (H.box 4 rfl).cell (j := 0) rfl, rfl, (H.box 4 rfl).cell (j := 1) rfl, rfl⟩ ?_
    clear E; intro a E
    refine e_build (ps := [(0, .int .u8 (andNotV .u8 s.1 (andV .u8 (shlV .u8 1 r54) s.1))), (1, .int .u8 (orV .u8 s.2 (andV .u8 (shlV .u8 1 r54) s.1)))]) (v := .agg #[.int .u8 (andNotV .u8 s.1 (andV .u8 (shlV .u8 1 r54) s.1)), .int .u8 (orV .u8 s.2 (andV .u8 (shlV .u8 1 r54) s.1))]) E rfl rfl tbok rfl (by kernel_rfl) rfl ?_
    clear E; intro a E
    obtain ⟨r87, h88, hP⟩ := bind_inv hP
    obtain ⟨Fa89, Hc90, hb91⟩ := H.call [] [(0, false), (1, false), (2, false)] rfl rfl trivial
    refine e_call E rfl rfl Try.func11 rfl rfl rfl (attract_Ranks_calls A1 c2 A5 c6 A9 c10 aProps aAccept aGuard aNodes (andNotV .u8 s.1 (andV .u8 (shlV .u8 1 r54) s.1), orV .u8 s.2 (andV .u8 (shlV .u8 1 r54) s.1)) hk3 hk7 hk11 Hc90 h88) ?_
    rintro v92 w93 a ⟨A96, c97, rfl, HR94⟩ E_
    replace E := E_ _ rfl; clear E_
    obtain ⟨H_, hc95⟩ := hb91 _ _ HR94 rfl
    replace H := H_; clear H_; try dsimp only [setn, addE, goneL] at H
    refine vr tbok 5 [] [(7, .bool r23), (9, .slice A84 (List.length r75.1) c85), (10, .int .i64 r75.2), (11, .slice A96 (List.length r87.1) c97), (12, .int .i64 r87.2)] [] E (by kernel_rfl) trivial ?_
    clear E; intro a E
    refine wpList_nil ?_
    refine th_n ?_
    refine wp_seq ?_
    refine wp_seq ?_
    refine wp_region_lit ?_
    refine vr tbok 3 [] [(7, .bool r23), (9, .slice A84 (List.length r75.1) c85), (11, .slice A96 (List.length r87.1) c97), (12, .int .i64 r87.2), (52, .bool ((r75.2 : Int) != 0))] [] E (by kernel_rfl) trivial ?_
    clear E; intro a E
    refine E.cases (t := 52) rfl (fun hb_ E_ => ?_) (fun hb_ E_ => ?_)
    ·
     replace E := E_; clear E_
     have h99 : ¬ ((r75.2 : Int) = 0) := bne_iff_ne.1 hb_
     clear hb_; replace hP := ite_f h99 hP
     refine vr tbok 10 [] [(7, .bool r23), (9, .slice A84 (List.length r75.1) c85), (11, .slice A96 (List.length r87.1) c97), (62, .bool true)] [] E (by kernel_rfl) trivial ?_
     clear E; intro a E
     refine wpList_nil ?_
     refine th_n ?_
     refine c_true E rfl ?_
     refine wp_seq ?_
     refine wp_region_lit ?_
     refine vr tbok 1 [] [(6, .bool false)] [] E (by kernel_rfl) trivial ?_
     clear E; intro a E
     refine wpList_nil ?_
     refine th_n ?_
     refine wp_ret ?_
     refine th_ret ?_
     obtain rfl := Option.some.inj hP
     refine ret1 E rfl rfl ?_
     exact ⟨_, rfl, rfl, H.sel [] rfl⟩
    ·
     replace E := E_; clear E_
     have h100 : (r75.2 : Int) = 0 := bne_eq_false_iff_eq.1 hb_
     clear hb_; replace hP := ite_t h100 hP
     refine vr tbok 4 [] [(7, .bool r23), (9, .slice A84 (List.length r75.1) c85), (11, .slice A96 (List.length r87.1) c97), (56, .bool ((r87.2 : Int) != 0))] [] E (by kernel_rfl) trivial ?_
     clear E; intro a E
     refine E.cases (t := 56) rfl (fun hb_ E_ => ?_) (fun hb_ E_ => ?_)
     ·
      replace E := E_; clear E_
      have h101 : ¬ ((r87.2 : Int) = 0) := bne_iff_ne.1 hb_
      clear hb_; replace hP := ite_f h101 hP
      refine vr tbok 6 [] [(7, .bool r23), (9, .slice A84 (List.length r75.1) c85), (11, .slice A96 (List.length r87.1) c97), (62, .bool true)] [] E (by kernel_rfl) trivial ?_
      clear E; intro a E
      refine wpList_nil ?_
      refine th_n ?_
      refine c_true E rfl ?_
      refine wp_seq ?_
      refine wp_region_lit ?_
      refine vr tbok 1 [] [(6, .bool false)] [] E (by kernel_rfl) trivial ?_
      clear E; intro a E
      refine wpList_nil ?_
      refine th_n ?_
      refine wp_ret ?_
      refine th_ret ?_
      obtain rfl := Option.some.inj hP
      refine ret1 E rfl rfl ?_
      exact ⟨_, rfl, rfl, H.sel [] rfl⟩
     ·
      replace E := E_; clear E_
      have h102 : (r87.2 : Int) = 0 := bne_eq_false_iff_eq.1 hb_
      clear hb_; replace hP := ite_t h102 hP
      refine vr tbok 6 [] [(7, .bool r23), (9, .slice A84 (List.length r75.1) c85), (11, .slice A96 (List.length r87.1) c97), (62, .bool (((((List.length r75.1) : Nat) : Int) : Int) != (((List.length r87.1) : Nat) : Int)))] [] E (by kernel_rfl) trivial ?_
      clear E; intro a E
      refine wpList_nil ?_
      refine th_n ?_
      refine E.cases (t := 62) rfl (fun hb_ E_ => ?_) (fun hb_ E_ => ?_)
      ·
       replace E := E_; clear E_
       have h103 : ¬ (((((List.length r75.1) : Nat) : Int) : Int) = (((List.length r87.1) : Nat) : Int)) := bne_iff_ne.1 hb_
       clear hb_; replace hP := ite_f h103 hP
       refine c_true E rfl ?_
       refine wp_seq ?_
       refine wp_region_lit ?_
       refine vr tbok 1 [] [(6, .bool false)] [] E (by kernel_rfl) trivial ?_
       clear E; intro a E
       refine wpList_nil ?_
       refine th_n ?_
       refine wp_ret ?_
       refine th_ret ?_
       obtain rfl := Option.some.inj hP
       refine ret1 E rfl rfl ?_
       exact ⟨_, rfl, rfl, H.sel [] rfl⟩
      ·
       replace E := E_; clear E_
       have h104 : ((((List.length r75.1) : Nat) : Int) : Int) = (((List.length r87.1) : Nat) : Int) := bne_eq_false_iff_eq.1 hb_
       clear hb_; replace hP := ite_t h104 hP
       refine c_false E rfl ?_
       refine wp_skip ?_
       refine th_n ?_
       refine wp_seq ?_
       refine wp_seq ?_
       refine wp_region_lit ?_
       refine vr tbok 1 [] [(7, .bool r23), (9, .slice A84 (List.length r75.1) c85), (11, .slice A96 (List.length r87.1) c97), (13, .int .i64 0)] [] E (by kernel_rfl) trivial ?_
       clear E; intro a E
       refine wpList_nil ?_
       refine th_n ?_
       refine wp_block ?_
       obtain ⟨x157, hL158, hK159⟩ := bind_inv hP
       clear hP
       refine loop_cut (fun i_ a w_ => (i_ = 0 ∧ ∃ (x162 : Unit), Fr a 93 [(7, .bool r23)] ∧ Hp S Fa w0 w_ [] ∧ x157 = Sum.inl x162)) ?_ ?_
       ·
        refine loopV (fun m161 a w160 => ∃ (q129 : Int), Fr a 93 [(7, .bool r23), (9, .slice A84 (List.length r75.1) c85), (11, .slice A96 (List.length r87.1) c97), (13, .int .i64 q129)] ∧ Hp S Fa w0 w160 [.row true (cInt .i64) 3 A84 c85 r75.1, .row true (cInt .i64) 3 A96 c97 r87.1] ∧ law23_AttractMore_l0 N r75 r87 m161 q129 = some x157) N ?_ ?_
        ·
         exact ⟨0, E.pick _ ⟨rfl, rfl, rfl, rfl, trivial⟩, H.sel [5, 6] rfl, hL158⟩
        ·
         clear E H hL158; intro m161 a w160 hI_
         obtain ⟨q129, E, H, hP⟩ := hI_
         obtain ⟨m156, rfl⟩ : ∃ q_, m161 = q_ + 1 := by cases m161 with | zero => rw [law23_AttractMore_l0] at hP; cases hP | succ q_ => exact ⟨q_, rfl⟩
         rw [law23_AttractMore_l0] at hP
         refine wp_seq ?_
         refine wp_seq ?_
         refine wp_region_lit ?_
         refine vr tbok 4 [] [(7, .bool r23), (9, .slice A84 (List.length r75.1) c85), (11, .slice A96 (List.length r87.1) c97), (13, .int .i64 q129), (66, .bool (decide (q129 < (((List.length r75.1) : Nat) : Int))))] [] E (by kernel_rfl) trivial ?_
         clear E; intro a E
         refine wpList_nil ?_
         refine th_n ?_
         refine E.cases (t := 66) rfl (fun hb_ E_ => ?_) (fun hb_ E_ => ?_)
         ·
          replace E := E_; clear E_
          have h163 : q129 < (((List.length r75.1) : Nat) : Int) := of_decide_eq_true hb_
          clear hb_; replace hP := ite_t h163 hP
          refine c_true E rfl ?_
          refine wp_skip ?_
          refine th_n ?_
          refine wp_seq ?_
          refine wp_block ?_
          refine wp_seq ?_
          obtain ⟨g164, hP⟩ := ask_inv hP
          obtain ⟨b165, e_b165⟩ := H.raddr 0 rfl (idx_pos g164)
          subst e_b165
          by_cases h167 : 0 ≤ (List.getD r75.1 (Int.toNat q129) 0)
          ·
           replace hP := ite_t h167 hP
           obtain ⟨g168, hP⟩ := ask_inv hP
           obtain ⟨b169, e_b169⟩ := H.raddr 1 rfl (idx_pos g168)
           subst e_b169
           by_cases h171 : (List.getD r87.1 (Int.toNat q129) 0) < 0
           ·
            replace hP := ite_t h171 hP
            have HR175 := H
            refine dr_start (S := fun w_ => Chg (atL []) w160 w_) (by kernel_rfl) ?_
            intro w172 hc173
            have HS174 : Chg (atL []) w160 w172 := hc173.mono (fun _ _ h_ => h_.elim)
            replace H := H.ext hc173
            refine dr tbok (by kernel_rfl) [0, 1, 2, 3, 4, 5] [.int .i64 (List.getD r75.1 (Int.toNat q129) 0)] [(7, .bool r23), (9, .slice (some ⟨b165, 0, none⟩) (List.length r75.1) c85), (11, .slice (some ⟨b169, 0, none⟩) (List.length r87.1) c97), (13, .int .i64 q129), (74, .bool (decide (0 ≤ (List.getD r75.1 (Int.toNat q129) 0))))] (fun w_ => [0 ≤ q129 ∧ q129 < (((List.length r75.1) : Nat) : Int), World.cell? w_ ⟨b165, 0 + (Int.toNat q129) * 1, none⟩ = some (.int .i64 (List.getD r75.1 (Int.toNat q129) 0))]) 17 E (fun _ _ => by kernel_rfl) (fun w_ hS_ => ⟨g164, Rds.at1 (HR175.rdk [] hS_ 0 rds_row rfl) 0 g164⟩) (by kernel_rfl) HS174 ?_
            clear E; intro a E
            replace E := E.same (t := 74) (u := .bool true) rfl (congrArg Value.bool (decide_eq_true h167))
            refine dr tbok (by kernel_rfl) [6, 7, 8, 9, 10, 11] [.int .i64 (List.getD r87.1 (Int.toNat q129) 0)] [(7, .bool r23), (9, .slice (some ⟨b165, 0, none⟩) (List.length r75.1) c85), (11, .slice (some ⟨b169, 0, none⟩) (List.length r87.1) c97), (13, .int .i64 q129), (74, .bool true), (75, .slice (some ⟨b169, 0, none⟩) (List.length r87.1) c97), (76, .int .i64 q129), (77, .pointer (some ⟨b169, 0 + (Int.toNat q129) * 1, none⟩)), (78, .int .i64 (List.getD r87.1 (Int.toNat q129) 0)), (79, .bool (decide ((List.getD r87.1 (Int.toNat q129) 0) < 0))), (80, .bool (decide ((List.getD r87.1 (Int.toNat q129) 0) < 0)))] (fun w_ => [0 ≤ q129 ∧ q129 < (((List.length r87.1) : Nat) : Int), World.cell? w_ ⟨b169, 0 + (Int.toNat q129) * 1, none⟩ = some (.int .i64 (List.getD r87.1 (Int.toNat q129) 0))]) 11 E (fun _ _ => by kernel_rfl) (fun w_ hS_ => ⟨g168, Rds.at1 (HR175.rdk [] hS_ 1 rds_row rfl) 0 g168⟩) (by kernel_rfl) HS174 ?_
            clear E; intro a E
            replace E := E.same (t := 80) (u := .bool true) rfl (congrArg Value.bool (decide_eq_true h171))
            refine dr tbok (by kernel_rfl) [12, 13, 14, 15, 16, 17, 18, 19, 20, 21, 22] [] [(7, .bool r23), (9, .slice (some ⟨b165, 0, none⟩) (List.length r75.1) c85), (11, .slice (some ⟨b169, 0, none⟩) (List.length r87.1) c97), (13, .int .i64 q129), (74, .bool true), (75, .slice (some ⟨b169, 0, none⟩) (List.length r87.1) c97), (76, .int .i64 q129), (77, .pointer (some ⟨b169, 0 + (Int.toNat q129) * 1, none⟩)), (78, .int .i64 (List.getD r87.1 (Int.toNat q129) 0)), (79, .bool (decide ((List.getD r87.1 (Int.toNat q129) 0) < 0))), (80, .bool true), (81, .tuple #[]), (82, .tuple #[]), (83, .tuple #[]), (84, .tuple #[]), (85, .tuple #[]), (86, .tuple #[]), (87, .tuple #[]), (88, .tuple #[]), (89, .tuple #[]), (90, .bool true), (91, .bool true)] (fun w_ => []) 0 E (fun _ _ => by kernel_rfl) (fun w_ hS_ => trivial) (by kernel_rfl) HS174 ?_
            clear E; intro a E
            refine dr_done (by kernel_rfl) ?_
            clear HS174 HR175
            refine th_n ?_
            refine c_true E rfl ?_
            refine wp_seq ?_
            refine wp_region_lit ?_
            refine vr tbok 1 [] [(6, .bool false)] [] E (by kernel_rfl) trivial ?_
            clear E; intro a E
            refine wpList_nil ?_
            refine th_n ?_
            refine wp_ret ?_
            refine bl_ret ?_
            refine th_ret ?_
            refine th_ret ?_
            refine .inr ⟨rfl, ?_⟩
            refine bl_ret ?_
            refine th_ret ?_
            have hx_ := Option.some.inj hP; subst hx_
            have hP : some (false) = some r := hK159
            obtain rfl := Option.some.inj hP
            refine ret1 E rfl rfl ?_
            exact ⟨_, rfl, rfl, H.sel [] rfl⟩
           ·
            replace hP := ite_f h171 hP
            have HR179 := H
            refine dr_start (S := fun w_ => Chg (atL []) w160 w_) (by kernel_rfl) ?_
            intro w176 hc177
            have HS178 : Chg (atL []) w160 w176 := hc177.mono (fun _ _ h_ => h_.elim)
            replace H := H.ext hc177
            refine dr tbok (by kernel_rfl) [0, 1, 2, 3, 4, 5] [.int .i64 (List.getD r75.1 (Int.toNat q129) 0)] [(7, .bool r23), (9, .slice (some ⟨b165, 0, none⟩) (List.length r75.1) c85), (11, .slice (some ⟨b169, 0, none⟩) (List.length r87.1) c97), (13, .int .i64 q129), (74, .bool (decide (0 ≤ (List.getD r75.1 (Int.toNat q129) 0))))] (fun w_ => [0 ≤ q129 ∧ q129 < (((List.length r75.1) : Nat) : Int), World.cell? w_ ⟨b165, 0 + (Int.toNat q129) * 1, none⟩ = some (.int .i64 (List.getD r75.1 (Int.toNat q129) 0))]) 17 E (fun _ _ => by kernel_rfl) (fun w_ hS_ => ⟨g164, Rds.at1 (HR179.rdk [] hS_ 0 rds_row rfl) 0 g164⟩) (by kernel_rfl) HS178 ?_
            clear E; intro a E
            replace E := E.same (t := 74) (u := .bool true) rfl (congrArg Value.bool (decide_eq_true h167))
            refine dr tbok (by kernel_rfl) [6, 7, 8, 9, 10, 11] [.int .i64 (List.getD r87.1 (Int.toNat q129) 0)] [(7, .bool r23), (9, .slice (some ⟨b165, 0, none⟩) (List.length r75.1) c85), (11, .slice (some ⟨b169, 0, none⟩) (List.length r87.1) c97), (13, .int .i64 q129), (74, .bool true), (75, .slice (some ⟨b169, 0, none⟩) (List.length r87.1) c97), (76, .int .i64 q129), (77, .pointer (some ⟨b169, 0 + (Int.toNat q129) * 1, none⟩)), (78, .int .i64 (List.getD r87.1 (Int.toNat q129) 0)), (79, .bool (decide ((List.getD r87.1 (Int.toNat q129) 0) < 0))), (80, .bool (decide ((List.getD r87.1 (Int.toNat q129) 0) < 0)))] (fun w_ => [0 ≤ q129 ∧ q129 < (((List.length r87.1) : Nat) : Int), World.cell? w_ ⟨b169, 0 + (Int.toNat q129) * 1, none⟩ = some (.int .i64 (List.getD r87.1 (Int.toNat q129) 0))]) 11 E (fun _ _ => by kernel_rfl) (fun w_ hS_ => ⟨g168, Rds.at1 (HR179.rdk [] hS_ 1 rds_row rfl) 0 g168⟩) (by kernel_rfl) HS178 ?_
            clear E; intro a E
            replace E := E.same (t := 80) (u := .bool false) rfl (congrArg Value.bool (decide_eq_false h171))
            refine dr tbok (by kernel_rfl) [12, 13, 14, 15, 16, 17, 18, 19, 20, 21, 22] [.int .i64 (List.getD r87.1 (Int.toNat q129) 0), .int .i64 (List.getD r75.1 (Int.toNat q129) 0)] [(7, .bool r23), (9, .slice (some ⟨b165, 0, none⟩) (List.length r75.1) c85), (11, .slice (some ⟨b169, 0, none⟩) (List.length r87.1) c97), (13, .int .i64 q129), (74, .bool true), (75, .slice (some ⟨b169, 0, none⟩) (List.length r87.1) c97), (76, .int .i64 q129), (77, .pointer (some ⟨b169, 0 + (Int.toNat q129) * 1, none⟩)), (78, .int .i64 (List.getD r87.1 (Int.toNat q129) 0)), (79, .bool (decide ((List.getD r87.1 (Int.toNat q129) 0) < 0))), (80, .bool false), (81, .slice (some ⟨b169, 0, none⟩) (List.length r87.1) c97), (82, .int .i64 q129), (83, .pointer (some ⟨b169, 0 + (Int.toNat q129) * 1, none⟩)), (84, .int .i64 (List.getD r87.1 (Int.toNat q129) 0)), (85, .slice (some ⟨b165, 0, none⟩) (List.length r75.1) c85), (86, .int .i64 q129), (87, .pointer (some ⟨b165, 0 + (Int.toNat q129) * 1, none⟩)), (88, .int .i64 (List.getD r75.1 (Int.toNat q129) 0)), (89, .bool (decide ((List.getD r75.1 (Int.toNat q129) 0) < (List.getD r87.1 (Int.toNat q129) 0)))), (90, .bool (decide ((List.getD r75.1 (Int.toNat q129) 0) < (List.getD r87.1 (Int.toNat q129) 0)))), (91, .bool (decide ((List.getD r75.1 (Int.toNat q129) 0) < (List.getD r87.1 (Int.toNat q129) 0))))] (fun w_ => [0 ≤ q129 ∧ q129 < (((List.length r87.1) : Nat) : Int), World.cell? w_ ⟨b169, 0 + (Int.toNat q129) * 1, none⟩ = some (.int .i64 (List.getD r87.1 (Int.toNat q129) 0)), 0 ≤ q129 ∧ q129 < (((List.length r75.1) : Nat) : Int), World.cell? w_ ⟨b165, 0 + (Int.toNat q129) * 1, none⟩ = some (.int .i64 (List.getD r75.1 (Int.toNat q129) 0))]) 0 E (fun _ _ => by kernel_rfl) (fun w_ hS_ => ⟨g168, Rds.at1 (HR179.rdk [] hS_ 1 rds_row rfl) 0 g168, g164, Rds.at1 (HR179.rdk [] hS_ 0 rds_row rfl) 0 g164⟩) (by kernel_rfl) HS178 ?_
            clear E; intro a E
            refine dr_done (by kernel_rfl) ?_
            clear HS178 HR179
            refine th_n ?_
            refine E.cases (t := 91) rfl (fun hb_ E_ => ?_) (fun hb_ E_ => ?_)
            ·
             replace E := E_; clear E_
             have h180 : (List.getD r75.1 (Int.toNat q129) 0) < (List.getD r87.1 (Int.toNat q129) 0) := of_decide_eq_true hb_
             clear hb_; replace hP := ite_t h180 hP
             refine c_true E rfl ?_
             refine wp_seq ?_
             refine wp_region_lit ?_
             refine vr tbok 1 [] [(6, .bool false)] [] E (by kernel_rfl) trivial ?_
             clear E; intro a E
             refine wpList_nil ?_
             refine th_n ?_
             refine wp_ret ?_
             refine bl_ret ?_
             refine th_ret ?_
             refine th_ret ?_
             refine .inr ⟨rfl, ?_⟩
             refine bl_ret ?_
             refine th_ret ?_
             have hx_ := Option.some.inj hP; subst hx_
             have hP : some (false) = some r := hK159
             obtain rfl := Option.some.inj hP
             refine ret1 E rfl rfl ?_
             exact ⟨_, rfl, rfl, H.sel [] rfl⟩
            ·
             replace E := E_; clear E_
             have h181 : ¬ ((List.getD r75.1 (Int.toNat q129) 0) < (List.getD r87.1 (Int.toNat q129) 0)) := of_decide_eq_false hb_
             clear hb_; replace hP := ite_f h181 hP
             refine c_false E rfl ?_
             refine wp_skip ?_
             refine bl_n ?_
             refine th_n ?_
             refine wp_region_lit ?_
             obtain ⟨g182, hP⟩ := ask_inv hP
             refine vr tbok 3 [.int .i64 (q129 + 1)] [(7, .bool r23), (9, .slice (some ⟨b165, 0, none⟩) (List.length r75.1) c85), (11, .slice (some ⟨b169, 0, none⟩) (List.length r87.1) c97), (13, .int .i64 (q129 + 1)), (75, .slice (some ⟨b169, 0, none⟩) (List.length r87.1) c97), (76, .int .i64 q129), (77, .pointer (some ⟨b169, 0 + (Int.toNat q129) * 1, none⟩)), (78, .int .i64 (List.getD r87.1 (Int.toNat q129) 0)), (79, .bool (decide ((List.getD r87.1 (Int.toNat q129) 0) < 0))), (80, .bool false), (81, .slice (some ⟨b169, 0, none⟩) (List.length r87.1) c97), (82, .int .i64 q129), (83, .pointer (some ⟨b169, 0 + (Int.toNat q129) * 1, none⟩)), (84, .int .i64 (List.getD r87.1 (Int.toNat q129) 0)), (85, .slice (some ⟨b165, 0, none⟩) (List.length r75.1) c85), (86, .int .i64 q129), (87, .pointer (some ⟨b165, 0 + (Int.toNat q129) * 1, none⟩)), (88, .int .i64 (List.getD r75.1 (Int.toNat q129) 0)), (89, .bool (decide ((List.getD r75.1 (Int.toNat q129) 0) < (List.getD r87.1 (Int.toNat q129) 0)))), (90, .bool (decide ((List.getD r75.1 (Int.toNat q129) 0) < (List.getD r87.1 (Int.toNat q129) 0))))] [IntKind.i64.wrap (q129 + 1) = q129 + 1] E (by kernel_rfl) (wrap_in g182) ?_
             clear E; intro a E
             refine wpList_nil ?_
             exact th_n ⟨m156, Nat.lt_succ_self _, q129 + 1, E.pick _ ⟨rfl, rfl, rfl, rfl, trivial⟩, H.sel [0, 1] rfl, hP⟩
          ·
           replace hP := ite_f h167 hP
           have HR186 := H
           refine dr_start (S := fun w_ => Chg (atL []) w160 w_) (by kernel_rfl) ?_
           intro w183 hc184
           have HS185 : Chg (atL []) w160 w183 := hc184.mono (fun _ _ h_ => h_.elim)
           replace H := H.ext hc184
           refine dr tbok (by kernel_rfl) [0, 1, 2, 3, 4, 5] [.int .i64 (List.getD r75.1 (Int.toNat q129) 0)] [(7, .bool r23), (9, .slice (some ⟨b165, 0, none⟩) (List.length r75.1) c85), (11, .slice A96 (List.length r87.1) c97), (13, .int .i64 q129), (74, .bool (decide (0 ≤ (List.getD r75.1 (Int.toNat q129) 0))))] (fun w_ => [0 ≤ q129 ∧ q129 < (((List.length r75.1) : Nat) : Int), World.cell? w_ ⟨b165, 0 + (Int.toNat q129) * 1, none⟩ = some (.int .i64 (List.getD r75.1 (Int.toNat q129) 0))]) 17 E (fun _ _ => by kernel_rfl) (fun w_ hS_ => ⟨g164, Rds.at1 (HR186.rdk [] hS_ 0 rds_row rfl) 0 g164⟩) (by kernel_rfl) HS185 ?_
           clear E; intro a E
           replace E := E.same (t := 74) (u := .bool false) rfl (congrArg Value.bool (decide_eq_false h167))
           refine dr tbok (by kernel_rfl) [6, 7, 8, 9, 10, 11, 12, 13, 14, 15, 16, 17, 18, 19, 20, 21, 22] [] [(7, .bool r23), (9, .slice (some ⟨b165, 0, none⟩) (List.length r75.1) c85), (11, .slice A96 (List.length r87.1) c97), (13, .int .i64 q129), (74, .bool false), (75, .tuple #[]), (76, .tuple #[]), (77, .tuple #[]), (78, .tuple #[]), (79, .tuple #[]), (80, .tuple #[]), (81, .tuple #[]), (82, .tuple #[]), (83, .tuple #[]), (84, .tuple #[]), (85, .tuple #[]), (86, .tuple #[]), (87, .tuple #[]), (88, .tuple #[]), (89, .tuple #[]), (90, .tuple #[]), (91, .bool false)] (fun w_ => []) 0 E (fun _ _ => by kernel_rfl) (fun w_ hS_ => trivial) (by kernel_rfl) HS185 ?_
           clear E; intro a E
           refine dr_done (by kernel_rfl) ?_
           clear HS185 HR186
           refine th_n ?_
           refine c_false E rfl ?_
           refine wp_skip ?_
           refine bl_n ?_
           refine th_n ?_
           refine wp_region_lit ?_
           obtain ⟨g187, hP⟩ := ask_inv hP
           refine vr tbok 3 [.int .i64 (q129 + 1)] [(7, .bool r23), (9, .slice (some ⟨b165, 0, none⟩) (List.length r75.1) c85), (11, .slice A96 (List.length r87.1) c97), (13, .int .i64 (q129 + 1)), (75, .tuple #[]), (76, .tuple #[]), (77, .tuple #[]), (78, .tuple #[]), (79, .tuple #[]), (80, .tuple #[]), (81, .tuple #[]), (82, .tuple #[]), (83, .tuple #[]), (84, .tuple #[]), (85, .tuple #[]), (86, .tuple #[]), (87, .tuple #[]), (88, .tuple #[]), (89, .tuple #[]), (90, .tuple #[])] [IntKind.i64.wrap (q129 + 1) = q129 + 1] E (by kernel_rfl) (wrap_in g187) ?_
           clear E; intro a E
           refine wpList_nil ?_
           exact th_n ⟨m156, Nat.lt_succ_self _, q129 + 1, E.pick _ ⟨rfl, rfl, rfl, rfl, trivial⟩, H.sel [0, 1] rfl, hP⟩
         ·
          replace E := E_; clear E_
          have h188 : ¬ (q129 < (((List.length r75.1) : Nat) : Int)) := of_decide_eq_false hb_
          clear hb_; replace hP := ite_f h188 hP
          refine c_false E rfl ?_
          refine wp_exit ?_
          refine th_exit ?_
          have hx_ := Option.some.inj hP
          refine th_exit (.inl ⟨0, rfl, ?_⟩)
          exact ⟨rfl, (), E.pick _ ⟨rfl, trivial⟩, H.sel [] rfl, hx_.symm⟩
       ·
        clear E H hL158; intro i_ a w160 hM_
        obtain ⟨rfl, x162, E, H, hx_⟩ := hM_
        subst hx_; have hP := elim_l hK159
        clear hK159
        refine bl_hit ?_
        refine th_n ?_
        refine wp_seq ?_
        refine wp_region_lit ?_
        refine vr tbok 2 [] [(6, .bool r23)] [] E (by kernel_rfl) trivial ?_
        clear E; intro a E
        refine wpList_nil ?_
        refine th_n ?_
        refine wp_ret ?_
        obtain rfl := Option.some.inj hP
        refine ret1 E rfl rfl ?_
        exact ⟨_, rfl, rfl, H.sel [] rfl⟩

/-! rejoinder/attract.Wins -/
def attract_Wins (N : Nat) (aProps : Int) (aAccept : List Bool) (aGuard : List Int) (aNodes : List Nd) (s : Int × Int) : Option (Bool × Int) :=
  Option.bind (attract_Ranks N aProps aAccept aGuard aNodes (s.1, s.2)) fun r23 =>
  if (r23.2 : Int) = 0 then
    ask (idx (0 : Int) (List.length r23.1)) <|
    some (decide (0 ≤ (List.getD r23.1 (Int.toNat (0 : Int)) 0)), 0)
  else
    some (false, r23.2)
set_option maxRecDepth 100000 in
set_option maxHeartbeats 4000000 in
theorem attract_Wins_calls {N : Nat} {S Fa : Nat → Prop} {w0 : World} {r : Bool × Int} (A1 : Option Addr) (c2 : Nat) (A5 : Option Addr) (c6 : Nat) (A9 : Option Addr) (c10 : Nat) (aProps : Int) (aAccept : List Bool) (aGuard : List Int) (aNodes : List Nd) (s : Int × Int) (hk3 : List.length aAccept ≤ c2) (hk7 : List.length aGuard ≤ c6) (hk11 : List.length aNodes ≤ c10) (H : Hp S Fa w0 w0 [.ro false cBool A1 aAccept, .ro false (cInt .i64) A5 aGuard, .ro false cNode A9 aNodes]) (hP : attract_Wins N aProps aAccept aGuard aNodes s = some r) :
    Calls Try.prog 12 #[.agg #[.int .i64 aProps, .slice A1 (List.length aAccept) c2, .slice A5 (List.length aGuard) c6, .slice A9 (List.length aNodes) c10], .agg #[.int .u8 s.1, .int .u8 s.2]] w0 fun e w' => ∃ v, e = .returned v ∧ v = .tuple #[.bool r.1, .int .i64 r.2] ∧ Hp S Fa w0 w' [] := by
 refine enterV (n := 21) Try.func12 rfl rfl rfl ?_
 intro a E
 replace E := E.pick [(0, .agg #[.int .i64 aProps, .slice A1 (List.length aAccept) c2, .slice A5 (List.length aGuard) c6, .slice A9 (List.length aNodes) c10]), (1, .agg #[.int .u8 s.1, .int .u8 s.2])] ⟨rfl, rfl, trivial⟩
 rw [attract_Wins] at hP
 refine wp_seq ?_
 refine wp_region_lit ?_
 refine h_box H E rfl rfl rfl ?_
 intro w14 g13 a hc15 hg17 H_ E_
 replace E := E_ _ rfl; clear E_
 replace H := H_; clear H_; try dsimp only [setn, addE, goneL] at H
 refine h_box H E rfl rfl rfl ?_
 intro w19 g18 a hc20 hg22 H_ E_
 replace E := E_ _ rfl; clear E_
 replace H := H_; clear H_; try dsimp only [setn, addE, goneL] at H
 refine vr tbok 2 [] [(2, .pointer (some ⟨g13, 0, none⟩)), (3, .pointer (some ⟨g18, 0, none⟩))] [] E (by kernel_rfl) trivial ?_
 clear E; intro a E
 refine wpList_nil ?_
 refine th_n ?_
 refine wp_seq ?_
 refine wp_region_lit ?_
 refine vr tbok 2 [.agg #[.int .i64 aProps, .slice A1 (List.length aAccept) c2, .slice A5 (List.length aGuard) c6, .slice A9 (List.length aNodes) c10], .agg #[.int .u8 s.1, .int .u8 s.2]] [(9, .agg #[.int .i64 aProps, .slice A1 (List.length aAccept) c2, .slice A5 (List.length aGuard) c6, .slice A9 (List.length aNodes) c10]), (10, .agg #[.int .u8 s.1, .int .u8 s.2])] [cellsAt w19 g13 (0) [.int .i64 aProps, .slice A1 (List.length aAccept) c2, .slice A5 (List.length aGuard) c6, .slice A9 (List.length aNodes) c10], cellsAt w19 g18 (0) [.int .u8 s.1, .int .u8 s.2]] E (by kernel_rfl) ⟨(H.box 3 rfl).sub 0 _ rfl, (H.box 4 rfl).sub 0 _ rfl⟩ ?_
 clear E; intro a E
 obtain ⟨r23, h24, hP⟩ := bind_inv hP
 obtain ⟨Fa25, Hc26, hb27⟩ := H.call [] [(0, false), (1, false), (2, false)] rfl rfl trivial
 refine e_call E rfl rfl Try.func11 rfl rfl rfl (attract_Ranks_calls A1 c2 A5 c6 A9 c10 aProps aAccept aGuard aNodes (s.1, s.2) hk3 hk7 hk11 Hc26 h24) ?_
 rintro v28 w29 a ⟨A32, c33, rfl, HR30⟩ E_
 replace E := E_ _ rfl; clear E_
 obtain ⟨H_, hc31⟩ := hb27 _ _ HR30 rfl
 replace H := H_; clear H_; try dsimp only [setn, addE, goneL] at H
 refine vr tbok 5 [] [(6, .slice A32 (List.length r23.1) c33), (7, .int .i64 r23.2)] [] E (by kernel_rfl) trivial ?_
 clear E; intro a E
 refine wpList_nil ?_
 refine th_n ?_
 refine wp_seq ?_
 refine wp_seq ?_
 refine wp_region_lit ?_
 refine vr tbok 2 [] [(6, .slice A32 (List.length r23.1) c33), (7, .int .i64 r23.2), (15, .bool ((r23.2 : Int) != 0))] [] E (by kernel_rfl) trivial ?_
 clear E; intro a E
 refine wpList_nil ?_
 refine th_n ?_
 refine E.cases (t := 15) rfl (fun hb_ E_ => ?_) (fun hb_ E_ => ?_)
 ·
  replace E := E_; clear E_
  have h35 : ¬ ((r23.2 : Int) = 0) := bne_iff_ne.1 hb_
  clear hb_; replace hP := ite_f h35 hP
  refine c_true E rfl ?_
  refine wp_seq ?_
  refine wp_region_lit ?_
  refine vr tbok 3 [] [(4, .bool false), (5, .int .i64 r23.2)] [] E (by kernel_rfl) trivial ?_
  clear E; intro a E
  refine wpList_nil ?_
  refine th_n ?_
  refine wp_ret ?_
  refine th_ret ?_
  obtain rfl := Option.some.inj hP
  refine ret2 E rfl rfl rfl ?_
  exact ⟨_, rfl, rfl, H.sel [] rfl⟩
 ·
  replace E := E_; clear E_
  have h36 : (r23.2 : Int) = 0 := bne_eq_false_iff_eq.1 hb_
  clear hb_; replace hP := ite_t h36 hP
  refine c_false E rfl ?_
  refine wp_skip ?_
  refine th_n ?_
  refine wp_seq ?_
  refine wp_region_lit ?_
  obtain ⟨g37, hP⟩ := ask_inv hP
  obtain ⟨b38, e_b38⟩ := H.raddr 5 rfl (idx_pos g37)
  subst e_b38
  refine vr tbok 6 [.int .i64 (List.getD r23.1 (Int.toNat (0 : Int)) 0)] [(4, .bool (decide (0 ≤ (List.getD r23.1 (Int.toNat (0 : Int)) 0)))), (5, .int .i64 0)] [0 ≤ (0 : Int) ∧ (0 : Int) < (((List.length r23.1) : Nat) : Int), World.cell? w29 ⟨b38, 0 + (Int.toNat (0 : Int)) * 1, none⟩ = some (.int .i64 (List.getD r23.1 (Int.toNat (0 : Int)) 0))] E (by kernel_rfl) ⟨g37, Rds.at1 (H.rd 5 rds_row) 0 g37⟩ ?_
  clear E; intro a E
  refine wpList_nil ?_
  refine th_n ?_
  refine wp_ret ?_
  obtain rfl := Option.some.inj hP
  refine ret2 E rfl rfl rfl ?_
  exact ⟨_, rfl, rfl, H.sel [] rfl⟩

end Go.V
