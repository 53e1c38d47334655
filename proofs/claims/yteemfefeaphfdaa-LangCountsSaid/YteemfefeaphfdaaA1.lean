/- Plain functions, and the calls that give them. -/
import Derived.Test.YteemfefeaphfdaaA0
set_option linter.all false
set_option linter.unusedVariables false
set_option linter.unnecessarySimpa false
set_option linter.unusedSimpArgs false
namespace Go.V
open Go Go.Proofs
/-! rejoinder/rejoinderlaw19.Finally -/
def law19_Finally (N : Nat) : Option (Int × (List Bool) × (List Int) × (List Nd)) :=
  some (1, ([false, true] : List Bool), ([0, -2] : List Int), ([(⟨0, -1, -2⟩ : Nd)] : List Nd))
set_option maxRecDepth 100000 in
set_option maxHeartbeats 4000000 in
theorem law19_Finally_calls {N : Nat} {S Fa : Nat → Prop} {w0 : World} {r : Int × (List Bool) × (List Int) × (List Nd)} (H : Hp S Fa w0 w0 []) (hP : law19_Finally N  = some r) :
    Calls Try.prog 34 #[] w0 fun e w' => ∃ v, e = .returned v ∧ ∃ (A23 : Option Addr) (c24 : Nat) (A25 : Option Addr) (c26 : Nat) (A27 : Option Addr) (c28 : Nat), v = .agg #[.int .i64 r.1, .slice A23 (List.length r.2.1) c24, .slice A25 (List.length r.2.2.1) c26, .slice A27 (List.length r.2.2.2) c28] ∧ Hp S Fa w0 w' [.row true cBool 4 A23 c24 r.2.1, .row true (cInt .i64) 3 A25 c26 r.2.2.1, .row true cNode 65 A27 c28 r.2.2.2] := by
 refine enterV (n := 6) Try.func34 rfl rfl rfl ?_
 intro a E
 replace E := E.pick [] trivial
 rw [law19_Finally] at hP
 refine wp_seq ?_
 refine wp_region_lit ?_
 refine h_alloc H E rfl rfl tbok rfl ?_
 intro w2 g1 a hc3 hg5 H_ E_
 replace E := E_ _ rfl; clear E_
 replace H := H_; clear H_; try dsimp only [setn, addE, goneL] at H
 refine wpList_nil ?_
 refine th_n ?_
 refine wp_seq ?_
 refine wp_region_lit ?_
 refine h_buildSlice (ps := [(0, .bool false), (1, .bool true)]) (cs := [.bool false, .bool true]) H E rfl rfl tbok rfl rfl (by kernel_rfl) ?_
 intro w7 g6 a hc8 hg10 H_ E_
 replace E := E_ _ rfl; clear E_
 replace H := H_; clear H_; try dsimp only [setn, addE, goneL] at H
 refine h_buildSlice (ps := [(0, .int .i64 0), (1, .int .i64 (-2))]) (cs := [.int .i64 0, .int .i64 (-2)]) H E rfl rfl tbok rfl rfl (by kernel_rfl) ?_
 intro w12 g11 a hc13 hg15 H_ E_
 replace E := E_ _ rfl; clear E_
 replace H := H_; clear H_; try dsimp only [setn, addE, goneL] at H
 refine e_build (ps := [(0, .int .i64 0), (1, .int .i64 (-1)), (2, .int .i64 (-2))]) (v := .agg #[.int .i64 0, .int .i64 (-1), .int .i64 (-2)]) E rfl rfl tbok rfl (by kernel_rfl) rfl ?_
 clear E; intro a E
 refine h_buildSlice (ps := [(0, .agg #[.int .i64 0, .int .i64 (-1), .int .i64 (-2)])]) (cs := [.int .i64 0, .int .i64 (-1), .int .i64 (-2)]) H E rfl rfl tbok rfl rfl (by kernel_rfl) ?_
 intro w17 g16 a hc18 hg20 H_ E_
 replace E := E_ _ rfl; clear E_
 replace H := H_; clear H_; try dsimp only [setn, addE, goneL] at H
 refine e_build (ps := [(0, .int .i64 1), (1, .slice (some ⟨g6, 0, none⟩) 2 2), (2, .slice (some ⟨g11, 0, none⟩) 2 2), (3, .slice (some ⟨g16, 0, none⟩) 1 1)]) (v := .agg #[.int .i64 1, .slice (some ⟨g6, 0, none⟩) 2 2, .slice (some ⟨g11, 0, none⟩) 2 2, .slice (some ⟨g16, 0, none⟩) 1 1]) E rfl rfl tbok rfl (by kernel_rfl) rfl ?_
 clear E; intro a E
 refine h_store (g := g1) (off := 0) H 0 rfl E rfl rfl rfl rfl tbok rfl rfl rfl rfl rfl ?_
 clear E; intro w21 a hc22 H_ E
 replace H := H_; clear H_; try dsimp only [setn, addE, goneL] at H
 refine wpList_nil ?_
 refine th_n ?_
 refine wp_ret ?_
 replace H := H.boxRow cBool true ([false, true] : List Bool) 1 rfl (fun _ _ => ⟨_, _, rfl, rfl, ⟨_, _, rfl, rfl, rfl⟩⟩) (Nat.le_of_ble_eq_true rfl); try dsimp only [setn, addE, goneL] at H
 replace H := H.rowx 1 rfl; try dsimp only [setn, addE, goneL] at H
 replace H := H.boxRow (cInt .i64) true ([0, -2] : List Int) 2 rfl (fun _ _ => ⟨_, _, rfl, rfl, ⟨_, _, rfl, rfl, rfl⟩⟩) (Nat.le_of_ble_eq_true rfl); try dsimp only [setn, addE, goneL] at H
 replace H := H.rowx 2 rfl; try dsimp only [setn, addE, goneL] at H
 replace H := H.boxRow cNode true ([(⟨0, -1, -2⟩ : Nd)] : List Nd) 3 rfl (fun _ _ => ⟨_, _, rfl, rfl, rfl⟩) (Nat.le_of_ble_eq_true rfl); try dsimp only [setn, addE, goneL] at H
 replace H := H.rowx 3 rfl; try dsimp only [setn, addE, goneL] at H
 obtain rfl := Option.some.inj hP
 refine retV E [.cell 0 26] [.agg #[.int .i64 1, .slice (some ⟨g6, 0, none⟩) 2 2, .slice (some ⟨g11, 0, none⟩) 2 2, .slice (some ⟨g16, 0, none⟩) 1 1]] rfl ⟨⟨_, rfl, run_loadBx tbok (H.box 0 rfl) rfl rfl rfl 0 rfl rfl⟩, trivial⟩ (.inl rfl) ?_
 exact ⟨_, rfl, (some ⟨g6, 0, none⟩), (List.length ([false, true] : List Bool)), (some ⟨g11, 0, none⟩), (List.length ([0, -2] : List Int)), (some ⟨g16, 0, none⟩), (List.length ([(⟨0, -1, -2⟩ : Nd)] : List Nd)), rfl, H.sel [1, 2, 3] rfl⟩

/-! rejoinder/guard.good -/
def guard_good (N : Nat) (aProps : Int) (aAccept : List Bool) (aGuard : List Int) (aNodes : List Nd) (ref : Int) (below : Int) (above : Int) : Option Bool :=
  if ref < 0 then
    ask (in64 (-(((List.length aAccept) : Nat) : Int))) <|
    some (decide ((-(((List.length aAccept) : Nat) : Int)) ≤ ref))
  else
    if ref < below then
      ask (idx ref (List.length aNodes)) <|
      some (decide (above < ((List.getD aNodes (Int.toNat ref) (default : Nd)).P)))
    else
      some false
set_option maxRecDepth 100000 in
set_option maxHeartbeats 4000000 in
theorem guard_good_calls {N : Nat} {S Fa : Nat → Prop} {w0 : World} {r : Bool} (A1 : Option Addr) (c2 : Nat) (A5 : Option Addr) (c6 : Nat) (A9 : Option Addr) (c10 : Nat) (aProps : Int) (aAccept : List Bool) (aGuard : List Int) (aNodes : List Nd) (ref : Int) (below : Int) (above : Int) (hk3 : List.length aAccept ≤ c2) (hk7 : List.length aGuard ≤ c6) (hk11 : List.length aNodes ≤ c10) (H : Hp S Fa w0 w0 [.ro false cBool A1 aAccept, .ro false (cInt .i64) A5 aGuard, .ro false cNode A9 aNodes]) (hP : guard_good N aProps aAccept aGuard aNodes ref below above = some r) :
    Calls Try.prog 38 #[.agg #[.int .i64 aProps, .slice A1 (List.length aAccept) c2, .slice A5 (List.length aGuard) c6, .slice A9 (List.length aNodes) c10], .int .i64 ref, .int .i64 below, .int .i64 above] w0 fun e w' => ∃ v, e = .returned v ∧ v = .bool r ∧ Hp S Fa w0 w' [] := by
 refine enterV (n := 30) Try.func38 rfl rfl rfl ?_
 intro a E
 replace E := E.pick [(0, .agg #[.int .i64 aProps, .slice A1 (List.length aAccept) c2, .slice A5 (List.length aGuard) c6, .slice A9 (List.length aNodes) c10]), (1, .int .i64 ref), (2, .int .i64 below), (3, .int .i64 above)] ⟨rfl, rfl, rfl, rfl, trivial⟩
 rw [guard_good] at hP
 refine wp_seq ?_
 refine wp_region_lit ?_
 refine h_box H E rfl rfl rfl ?_
 intro w14 g13 a hc15 hg17 H_ E_
 replace E := E_ _ rfl; clear E_
 replace H := H_; clear H_; try dsimp only [setn, addE, goneL] at H
 refine vn tbok 1 [] [] [] E (by kernel_rfl) (by kernel_rfl) trivial ?_
 clear E; intro a E
 refine wpList_nil ?_
 refine th_n ?_
 refine wp_seq ?_
 refine wp_seq ?_
 refine wp_region_lit ?_
 refine vn tbok 2 [] [(10, .bool (decide (ref < 0)))] [] E (by kernel_rfl) (by kernel_rfl) trivial ?_
 clear E; intro a E
 refine wpList_nil ?_
 refine th_n ?_
 refine E.cases (t := 10) rfl (fun hb_ E_ => ?_) (fun hb_ E_ => ?_)
 ·
  replace E := E_; clear E_
  have h18 : ref < 0 := of_decide_eq_true hb_
  clear hb_; replace hP := ite_t h18 hP
  refine c_true E rfl ?_
  refine wp_seq ?_
  refine wp_region_lit ?_
  obtain ⟨g19, hP⟩ := ask_inv hP
  refine vn tbok 7 [.slice A1 (List.length aAccept) c2, .int .i64 (-(((List.length aAccept) : Nat) : Int))] [(8, .bool (decide ((-(((List.length aAccept) : Nat) : Int)) ≤ ref)))] [World.cell? w14 ⟨g13, 1, none⟩ = some (.slice A1 (List.length aAccept) c2), IntKind.i64.wrap (0 - (((List.length aAccept) : Nat) : Int)) = -(((List.length aAccept) : Nat) : Int)] E (by kernel_rfl) (by kernel_rfl) ⟨(H.box 3 rfl).cell (j := 1) rfl, neg_in g19⟩ ?_
  clear E; intro a E
  refine wpList_nil ?_
  refine th_n ?_
  refine wp_ret ?_
  refine th_ret ?_
  obtain rfl := Option.some.inj hP
  refine ret1 E rfl rfl ?_
  exact ⟨_, rfl, rfl, H.sel [] rfl⟩
 replace E := E_; clear E_
 have h20 : ¬ (ref < 0) := of_decide_eq_false hb_
 clear hb_; replace hP := ite_f h20 hP
 refine c_false E rfl ?_
 refine wp_skip ?_
 refine th_n ?_
 refine wp_seq ?_
 refine wp_region_lit ?_
 refine vn tbok 4 [] [(20, .bool (decide (ref < below)))] [] E (by kernel_rfl) (by kernel_rfl) trivial ?_
 clear E; intro a E
 refine E.cases (t := 20) rfl (fun hb_ E_ => ?_) (fun hb_ E_ => ?_)
 ·
  replace E := E_; clear E_
  have h21 : ref < below := of_decide_eq_true hb_
  clear hb_; replace hP := ite_t h21 hP
  obtain ⟨g22, hP⟩ := ask_inv hP
  obtain ⟨b23, o24, e_b23⟩ := (H.rd 2 rds_ro).addr (idx_pos g22)
  subst e_b23
  refine vn tbok 10 [.slice (some ⟨b23, o24, none⟩) (List.length aNodes) c10, .int .i64 ((List.getD aNodes (Int.toNat ref) (default : Nd)).P)] [(8, .bool (decide (above < ((List.getD aNodes (Int.toNat ref) (default : Nd)).P))))] [World.cell? w14 ⟨g13, 3, none⟩ = some (.slice (some ⟨b23, o24, none⟩) (List.length aNodes) c10), 0 ≤ ref ∧ ref < (((List.length aNodes) : Nat) : Int), World.cell? w14 ⟨b23, o24 + (Int.toNat ref) * 3, none⟩ = some (.int .i64 ((List.getD aNodes (Int.toNat ref) (default : Nd)).P))] E (by kernel_rfl) (by kernel_rfl) ⟨(H.box 3 rfl).cell (j := 3) rfl, g22, (Rds.atP (H.rd 2 rds_ro) (default : Nd) g22).1⟩ ?_
  clear E; intro a E
  refine wpList_nil ?_
  refine th_n ?_
  refine wp_ret ?_
  obtain rfl := Option.some.inj hP
  refine ret1 E rfl rfl ?_
  exact ⟨_, rfl, rfl, H.sel [] rfl⟩
 replace E := E_; clear E_
 have h25 : ¬ (ref < below) := of_decide_eq_false hb_
 clear hb_; replace hP := ite_f h25 hP
 refine vn tbok 10 [] [(8, .bool false)] [] E (by kernel_rfl) (by kernel_rfl) trivial ?_
 clear E; intro a E
 refine wpList_nil ?_
 refine th_n ?_
 refine wp_ret ?_
 obtain rfl := Option.some.inj hP
 refine ret1 E rfl rfl ?_
 exact ⟨_, rfl, rfl, H.sel [] rfl⟩

/-! rejoinder/guard.Check -/
def guard_Check_l0 (N : Nat) (aProps : Int) (aAccept : List Bool) (aGuard : List Int) (aNodes : List Nd) : Nat → (List (Nd × Bool)) → Int → Option (Unit ⊕ Int)
  | 0, _, _ => none
  | m130 + 1, met81, x82 =>
    if x82 < (((List.length aNodes) : Nat) : Int) then
      ask (idx x82 (List.length aNodes)) <|
      if ((List.getD aNodes (Int.toNat x82) (default : Nd)).P) < 0 then
        some (Sum.inr 12)
      else
        if aProps ≤ ((List.getD aNodes (Int.toNat x82) (default : Nd)).P) then
          some (Sum.inr 12)
        else
          if ((List.getD aNodes (Int.toNat x82) (default : Nd)).Lo : Int) = (List.getD aNodes (Int.toNat x82) (default : Nd)).Hi then
            some (Sum.inr 12)
          else
            ask (ndOk (⟨(List.getD aNodes (Int.toNat x82) (default : Nd)).P, (List.getD aNodes (Int.toNat x82) (default : Nd)).Lo, (List.getD aNodes (Int.toNat x82) (default : Nd)).Hi⟩ : Nd)) <|
            if (Option.getD (mget met81 (⟨(List.getD aNodes (Int.toNat x82) (default : Nd)).P, (List.getD aNodes (Int.toNat x82) (default : Nd)).Lo, (List.getD aNodes (Int.toNat x82) (default : Nd)).Hi⟩ : Nd)) false) = true then
              some (Sum.inr 12)
            else
              Option.bind (guard_good N aProps aAccept aGuard aNodes ((List.getD aNodes (Int.toNat x82) (default : Nd)).Lo) x82 ((List.getD aNodes (Int.toNat x82) (default : Nd)).P)) fun r157 =>
              if r157 = true then
                Option.bind (guard_good N aProps aAccept aGuard aNodes ((List.getD aNodes (Int.toNat x82) (default : Nd)).Hi) x82 ((List.getD aNodes (Int.toNat x82) (default : Nd)).P)) fun r168 =>
                if r168 = true then
                  ask (mget met81 (⟨(List.getD aNodes (Int.toNat x82) (default : Nd)).P, (List.getD aNodes (Int.toNat x82) (default : Nd)).Lo, (List.getD aNodes (Int.toNat x82) (default : Nd)).Hi⟩ : Nd) = none) <|
                  ask (in64 (x82 + 1)) <|
                  guard_Check_l0 N aProps aAccept aGuard aNodes m130 (met81 ++ [((⟨(List.getD aNodes (Int.toNat x82) (default : Nd)).P, (List.getD aNodes (Int.toNat x82) (default : Nd)).Lo, (List.getD aNodes (Int.toNat x82) (default : Nd)).Hi⟩ : Nd), true)]) (x82 + 1)
                else
                  some (Sum.inr 12)
              else
                some (Sum.inr 12)
    else
      some (Sum.inl ())
def guard_Check_l1 (N : Nat) (aProps : Int) (aAccept : List Bool) (aGuard : List Int) (aNodes : List Nd) : Nat → Int → Option (Unit ⊕ Int)
  | 0, _ => none
  | m219 + 1, x201 =>
    if x201 < (((List.length aGuard) : Nat) : Int) then
      ask (idx x201 (List.length aGuard)) <|
      Option.bind (guard_good N aProps aAccept aGuard aNodes (List.getD aGuard (Int.toNat x201) 0) (((List.length aNodes) : Nat) : Int) (-1)) fun r230 =>
      if r230 = true then
        ask (in64 (x201 + 1)) <|
        guard_Check_l1 N aProps aAccept aGuard aNodes m219 (x201 + 1)
      else
        some (Sum.inr 12)
    else
      some (Sum.inl ())
def guard_Check (N : Nat) (aProps : Int) (aAccept : List Bool) (aGuard : List Int) (aNodes : List Nd) : Option Int :=
  if aProps < 0 then
    some 12
  else
    if 8 < aProps then
      some 12
    else
      if (((List.length aAccept) : Nat) : Int) < 1 then
        some 12
      else
        if 256 < (((List.length aAccept) : Nat) : Int) then
          some 12
        else
          if ((((List.length aGuard) : Nat) : Int) : Int) = (((List.length aAccept) : Nat) : Int) then
            if 4096 < (((List.length aNodes) : Nat) : Int) then
              some 12
            else
              Option.bind (guard_Check_l0 N aProps aAccept aGuard aNodes N ([] : List (Nd × Bool)) 0) fun x131 =>
              Sum.elim (fun x136 =>
                Option.bind (guard_Check_l1 N aProps aAccept aGuard aNodes N 0) fun x220 =>
                Sum.elim (fun x225 =>
                  some 0)
                 (fun x243 =>
                  some x243) x220)
               (fun x184 =>
                some x184) x131
          else
            some 12
set_option maxRecDepth 100000 in
set_option maxHeartbeats 4000000 in
theorem guard_Check_calls {N : Nat} {S Fa : Nat → Prop} {w0 : World} {r : Int} (A1 : Option Addr) (c2 : Nat) (A5 : Option Addr) (c6 : Nat) (A9 : Option Addr) (c10 : Nat) (aProps : Int) (aAccept : List Bool) (aGuard : List Int) (aNodes : List Nd) (hk3 : List.length aAccept ≤ c2) (hk7 : List.length aGuard ≤ c6) (hk11 : List.length aNodes ≤ c10) (H : Hp S Fa w0 w0 [.ro false cBool A1 aAccept, .ro false (cInt .i64) A5 aGuard, .ro false cNode A9 aNodes]) (hP : guard_Check N aProps aAccept aGuard aNodes = some r) :
    Calls Try.prog 9 #[.agg #[.int .i64 aProps, .slice A1 (List.length aAccept) c2, .slice A5 (List.length aGuard) c6, .slice A9 (List.length aNodes) c10]] w0 fun e w' => ∃ v, e = .returned v ∧ v = .int .i64 r ∧ Hp S Fa w0 w' [] := by
 refine enterV (n := 110) Try.func9 rfl rfl rfl ?_
 intro a E
 replace E := E.pick [(0, .agg #[.int .i64 aProps, .slice A1 (List.length aAccept) c2, .slice A5 (List.length aGuard) c6, .slice A9 (List.length aNodes) c10])] ⟨rfl, trivial⟩
 rw [guard_Check] at hP
 refine wp_seq ?_
 refine wp_region_lit ?_
 refine h_box H E rfl rfl rfl ?_
 intro w14 g13 a hc15 hg17 H_ E_
 replace E := E_ _ rfl; clear E_
 replace H := H_; clear H_; try dsimp only [setn, addE, goneL] at H
 refine vn tbok 1 [] [] [] E (by kernel_rfl) (by kernel_rfl) trivial ?_
 clear E; intro a E
 refine wpList_nil ?_
 refine th_n ?_
 refine wp_seq ?_
 refine wp_region_lit ?_
 refine vn tbok 4 [.slice A1 (List.length aAccept) c2] [(3, .int .i64 (((List.length aAccept) : Nat) : Int))] [World.cell? w14 ⟨g13, 1, none⟩ = some (.slice A1 (List.length aAccept) c2)] E (by kernel_rfl) (by kernel_rfl) ((H.box 3 rfl).cell (j := 1) rfl) ?_
 clear E; intro a E
 refine wpList_nil ?_
 refine th_n ?_
 refine wp_seq ?_
 refine wp_seq ?_
 refine wp_region_lit ?_
 refine vn tbok 4 [.int .i64 aProps] [(15, .bool (decide (aProps < 0)))] [World.cell? w14 ⟨g13, 0, none⟩ = some (.int .i64 aProps)] E (by kernel_rfl) (by kernel_rfl) ((H.box 3 rfl).cell (j := 0) rfl) ?_
 clear E; intro a E
 refine E.cases (t := 15) rfl (fun hb_ E_ => ?_) (fun hb_ E_ => ?_)
 ·
  replace E := E_; clear E_
  have h18 : aProps < 0 := of_decide_eq_true hb_
  clear hb_; replace hP := ite_t h18 hP
  refine vn tbok 25 [] [(40, .bool true)] [] E (by kernel_rfl) (by kernel_rfl) trivial ?_
  clear E; intro a E
  refine wpList_nil ?_
  refine th_n ?_
  refine c_true E rfl ?_
  refine wp_seq ?_
  refine wp_region_lit ?_
  refine vn tbok 1 [] [(2, .int .i64 12)] [] E (by kernel_rfl) (by kernel_rfl) trivial ?_
  clear E; intro a E
  refine wpList_nil ?_
  refine th_n ?_
  refine wp_ret ?_
  refine th_ret ?_
  obtain rfl := Option.some.inj hP
  refine ret1 E rfl rfl ?_
  exact ⟨_, rfl, rfl, H.sel [] rfl⟩
 replace E := E_; clear E_
 have h19 : ¬ (aProps < 0) := of_decide_eq_false hb_
 clear hb_; replace hP := ite_f h19 hP
 refine vn tbok 5 [.int .i64 aProps] [(20, .bool (decide (8 < aProps)))] [World.cell? w14 ⟨g13, 0, none⟩ = some (.int .i64 aProps)] E (by kernel_rfl) (by kernel_rfl) ((H.box 3 rfl).cell (j := 0) rfl) ?_
 clear E; intro a E
 refine E.cases (t := 20) rfl (fun hb_ E_ => ?_) (fun hb_ E_ => ?_)
 ·
  replace E := E_; clear E_
  have h20 : 8 < aProps := of_decide_eq_true hb_
  clear hb_; replace hP := ite_t h20 hP
  refine vn tbok 20 [] [(40, .bool true)] [] E (by kernel_rfl) (by kernel_rfl) trivial ?_
  clear E; intro a E
  refine wpList_nil ?_
  refine th_n ?_
  refine c_true E rfl ?_
  refine wp_seq ?_
  refine wp_region_lit ?_
  refine vn tbok 1 [] [(2, .int .i64 12)] [] E (by kernel_rfl) (by kernel_rfl) trivial ?_
  clear E; intro a E
  refine wpList_nil ?_
  refine th_n ?_
  refine wp_ret ?_
  refine th_ret ?_
  obtain rfl := Option.some.inj hP
  refine ret1 E rfl rfl ?_
  exact ⟨_, rfl, rfl, H.sel [] rfl⟩
 replace E := E_; clear E_
 have h21 : ¬ (8 < aProps) := of_decide_eq_false hb_
 clear hb_; replace hP := ite_f h21 hP
 refine vn tbok 4 [] [(24, .bool (decide ((((List.length aAccept) : Nat) : Int) < 1)))] [] E (by kernel_rfl) (by kernel_rfl) trivial ?_
 clear E; intro a E
 refine E.cases (t := 24) rfl (fun hb_ E_ => ?_) (fun hb_ E_ => ?_)
 ·
  replace E := E_; clear E_
  have h22 : (((List.length aAccept) : Nat) : Int) < 1 := of_decide_eq_true hb_
  clear hb_; replace hP := ite_t h22 hP
  refine vn tbok 16 [] [(40, .bool true)] [] E (by kernel_rfl) (by kernel_rfl) trivial ?_
  clear E; intro a E
  refine wpList_nil ?_
  refine th_n ?_
  refine c_true E rfl ?_
  refine wp_seq ?_
  refine wp_region_lit ?_
  refine vn tbok 1 [] [(2, .int .i64 12)] [] E (by kernel_rfl) (by kernel_rfl) trivial ?_
  clear E; intro a E
  refine wpList_nil ?_
  refine th_n ?_
  refine wp_ret ?_
  refine th_ret ?_
  obtain rfl := Option.some.inj hP
  refine ret1 E rfl rfl ?_
  exact ⟨_, rfl, rfl, H.sel [] rfl⟩
 replace E := E_; clear E_
 have h23 : ¬ ((((List.length aAccept) : Nat) : Int) < 1) := of_decide_eq_false hb_
 clear hb_; replace hP := ite_f h23 hP
 refine vn tbok 4 [] [(28, .bool (decide (256 < (((List.length aAccept) : Nat) : Int))))] [] E (by kernel_rfl) (by kernel_rfl) trivial ?_
 clear E; intro a E
 refine E.cases (t := 28) rfl (fun hb_ E_ => ?_) (fun hb_ E_ => ?_)
 ·
  replace E := E_; clear E_
  have h24 : 256 < (((List.length aAccept) : Nat) : Int) := of_decide_eq_true hb_
  clear hb_; replace hP := ite_t h24 hP
  refine vn tbok 12 [] [(40, .bool true)] [] E (by kernel_rfl) (by kernel_rfl) trivial ?_
  clear E; intro a E
  refine wpList_nil ?_
  refine th_n ?_
  refine c_true E rfl ?_
  refine wp_seq ?_
  refine wp_region_lit ?_
  refine vn tbok 1 [] [(2, .int .i64 12)] [] E (by kernel_rfl) (by kernel_rfl) trivial ?_
  clear E; intro a E
  refine wpList_nil ?_
  refine th_n ?_
  refine wp_ret ?_
  refine th_ret ?_
  obtain rfl := Option.some.inj hP
  refine ret1 E rfl rfl ?_
  exact ⟨_, rfl, rfl, H.sel [] rfl⟩
 replace E := E_; clear E_
 have h25 : ¬ (256 < (((List.length aAccept) : Nat) : Int)) := of_decide_eq_false hb_
 clear hb_; replace hP := ite_f h25 hP
 refine vn tbok 7 [.slice A5 (List.length aGuard) c6] [(35, .bool (((((List.length aGuard) : Nat) : Int) : Int) != (((List.length aAccept) : Nat) : Int)))] [World.cell? w14 ⟨g13, 2, none⟩ = some (.slice A5 (List.length aGuard) c6)] E (by kernel_rfl) (by kernel_rfl) ((H.box 3 rfl).cell (j := 2) rfl) ?_
 clear E; intro a E
 refine E.cases (t := 35) rfl (fun hb_ E_ => ?_) (fun hb_ E_ => ?_)
 ·
  replace E := E_; clear E_
  have h26 : ¬ (((((List.length aGuard) : Nat) : Int) : Int) = (((List.length aAccept) : Nat) : Int)) := bne_iff_ne.1 hb_
  clear hb_; replace hP := ite_f h26 hP
  refine vn tbok 5 [] [(40, .bool true)] [] E (by kernel_rfl) (by kernel_rfl) trivial ?_
  clear E; intro a E
  refine wpList_nil ?_
  refine th_n ?_
  refine c_true E rfl ?_
  refine wp_seq ?_
  refine wp_region_lit ?_
  refine vn tbok 1 [] [(2, .int .i64 12)] [] E (by kernel_rfl) (by kernel_rfl) trivial ?_
  clear E; intro a E
  refine wpList_nil ?_
  refine th_n ?_
  refine wp_ret ?_
  refine th_ret ?_
  obtain rfl := Option.some.inj hP
  refine ret1 E rfl rfl ?_
  exact ⟨_, rfl, rfl, H.sel [] rfl⟩
 replace E := E_; clear E_
 have h27 : ((((List.length aGuard) : Nat) : Int) : Int) = (((List.length aAccept) : Nat) : Int) := bne_eq_false_iff_eq.1 hb_
 clear hb_; replace hP := ite_t h27 hP
 refine vn tbok 5 [.slice A9 (List.length aNodes) c10] [(40, .bool (decide (4096 < (((List.length aNodes) : Nat) : Int))))] [World.cell? w14 ⟨g13, 3, none⟩ = some (.slice A9 (List.length aNodes) c10)] E (by kernel_rfl) (by kernel_rfl) ((H.box 3 rfl).cell (j := 3) rfl) ?_
 clear E; intro a E
 refine wpList_nil ?_
 refine th_n ?_
 refine E.cases (t := 40) rfl (fun hb_ E_ => ?_) (fun hb_ E_ => ?_)
 ·
  replace E := E_; clear E_
  have h28 : 4096 < (((List.length aNodes) : Nat) : Int) := of_decide_eq_true hb_
  clear hb_; replace hP := ite_t h28 hP
  refine c_true E rfl ?_
  refine wp_seq ?_
  refine wp_region_lit ?_
  refine vn tbok 1 [] [(2, .int .i64 12)] [] E (by kernel_rfl) (by kernel_rfl) trivial ?_
  clear E; intro a E
  refine wpList_nil ?_
  refine th_n ?_
  refine wp_ret ?_
  refine th_ret ?_
  obtain rfl := Option.some.inj hP
  refine ret1 E rfl rfl ?_
  exact ⟨_, rfl, rfl, H.sel [] rfl⟩
 replace E := E_; clear E_
 have h29 : ¬ (4096 < (((List.length aNodes) : Nat) : Int)) := of_decide_eq_false hb_
 clear hb_; replace hP := ite_f h29 hP
 refine c_false E rfl ?_
 refine wp_skip ?_
 refine th_n ?_
 refine wp_seq ?_
 refine wp_region_lit ?_
 refine h_makeMap (P := Try.prog) (k0 := 65) H E rfl rfl ?_
 intro w31 g30 a hc32 hg33 H_ E_
 replace E := E_ _ rfl; clear E_
 replace H := H_; clear H_; try dsimp only [setn, addE, goneL] at H
 refine vn tbok 1 [] [(4, .map (some g30))] [] E (by kernel_rfl) (by kernel_rfl) trivial ?_
 clear E; intro a E
 refine wpList_nil ?_
 refine th_n ?_
 refine wp_seq ?_
 refine wp_seq ?_
 refine wp_region_lit ?_
 refine vn tbok 4 [.slice A9 (List.length aNodes) c10] [(43, .slice A9 (List.length aNodes) c10), (44, .int .i64 (((List.length aNodes) : Nat) : Int)), (45, .int .i64 0)] [World.cell? w31 ⟨g13, 3, none⟩ = some (.slice A9 (List.length aNodes) c10)] E (by kernel_rfl) (by kernel_rfl) ((H.box 3 rfl).cell (j := 3) rfl) ?_
 clear E; intro a E
 refine wpList_nil ?_
 refine th_n ?_
 refine wp_block ?_
 obtain ⟨x131, hL132, hK133⟩ := bind_inv hP
 clear hP
 refine loop_cut (fun i_ a w_ => (i_ = 0 ∧ ∃ (x136 : Unit), Fr a 110 [(1, .pointer (some ⟨g13, 0, none⟩))] ∧ Hp S Fa w0 w_ [.ro false cBool A1 aAccept, .ro false (cInt .i64) A5 aGuard, .ro false cNode A9 aNodes, .box g13 26 [.int .i64 aProps, .slice A1 (List.length aAccept) c2, .slice A5 (List.length aGuard) c6, .slice A9 (List.length aNodes) c10]] ∧ x131 = Sum.inl x136)) ?_ ?_
 ·
  refine loopV (fun m135 a w134 => ∃ (met81 : List (Nd × Bool)) (x82 : Int), Fr a 110 [(1, .pointer (some ⟨g13, 0, none⟩)), (4, .map (some g30)), (43, .slice A9 (List.length aNodes) c10), (44, .int .i64 (((List.length aNodes) : Nat) : Int)), (45, .int .i64 x82)] ∧ Hp S Fa w0 w134 [.ro false cBool A1 aAccept, .ro false (cInt .i64) A5 aGuard, .ro false cNode A9 aNodes, .box g13 26 [.int .i64 aProps, .slice A1 (List.length aAccept) c2, .slice A5 (List.length aGuard) c6, .slice A9 (List.length aNodes) c10], .mp Try.prog 65 g30 (List.map (fun p_ => (ndV p_.1, (fun u_ : Bool => .bool u_) p_.2)) met81)] ∧ guard_Check_l0 N aProps aAccept aGuard aNodes m135 met81 x82 = some x131) N ?_ ?_
  ·
   exact ⟨([] : List (Nd × Bool)), 0, E.pick _ ⟨rfl, rfl, rfl, rfl, rfl, trivial⟩, H.sel [0, 1, 2, 3, 4] rfl, hL132⟩
  clear E H hL132; intro m135 a w134 hI_
  obtain ⟨met81, x82, E, H, hP⟩ := hI_
  obtain ⟨m130, rfl⟩ : ∃ q_, m135 = q_ + 1 := by cases m135 with | zero => rw [guard_Check_l0] at hP; cases hP | succ q_ => exact ⟨q_, rfl⟩
  rw [guard_Check_l0] at hP
  refine wp_seq ?_
  refine wp_region_lit ?_
  refine vn tbok 1 [] [(46, .bool (decide (x82 < (((List.length aNodes) : Nat) : Int))))] [] E (by kernel_rfl) (by kernel_rfl) trivial ?_
  clear E; intro a E
  refine wpList_nil ?_
  refine th_n ?_
  refine wp_seq ?_
  refine E.cases (t := 46) rfl (fun hb_ E_ => ?_) (fun hb_ E_ => ?_)
  ·
   replace E := E_; clear E_
   have h137 : x82 < (((List.length aNodes) : Nat) : Int) := of_decide_eq_true hb_
   clear hb_; replace hP := ite_t h137 hP
   refine c_true E rfl ?_
   refine wp_skip ?_
   refine th_n ?_
   refine wp_seq ?_
   refine wp_block ?_
   refine wp_seq ?_
   refine wp_region_lit ?_
   obtain ⟨g138, hP⟩ := ask_inv hP
   obtain ⟨b139, o140, e_b139⟩ := (H.rd 2 rds_ro).addr (idx_pos g138)
   subst e_b139
   refine vn tbok 3 [.agg #[.int .i64 ((List.getD aNodes (Int.toNat x82) (default : Nd)).P), .int .i64 ((List.getD aNodes (Int.toNat x82) (default : Nd)).Lo), .int .i64 ((List.getD aNodes (Int.toNat x82) (default : Nd)).Hi)]] [(47, .int .i64 x82), (49, .agg #[.int .i64 ((List.getD aNodes (Int.toNat x82) (default : Nd)).P), .int .i64 ((List.getD aNodes (Int.toNat x82) (default : Nd)).Lo), .int .i64 ((List.getD aNodes (Int.toNat x82) (default : Nd)).Hi)])] [0 ≤ x82 ∧ x82 < (((List.length aNodes) : Nat) : Int), cellsAt w134 b139 (o140 + (Int.toNat x82) * 3) [.int .i64 ((List.getD aNodes (Int.toNat x82) (default : Nd)).P), .int .i64 ((List.getD aNodes (Int.toNat x82) (default : Nd)).Lo), .int .i64 ((List.getD aNodes (Int.toNat x82) (default : Nd)).Hi)]] E (by kernel_rfl) (by kernel_rfl) ⟨g138, Rds.atP (H.rd 2 rds_ro) (default : Nd) g138⟩ ?_
   clear E; intro a E
   refine h_alloc H E rfl rfl tbok rfl ?_
   intro w142 g141 a hc143 hg145 H_ E_
   replace E := E_ _ rfl; clear E_
   replace H := H_; clear H_; try dsimp only [setn, addE, goneL] at H
   refine vn tbok 1 [] [(5, .int .i64 x82)] [] E (by kernel_rfl) (by kernel_rfl) trivial ?_
   clear E; intro a E
   refine h_store (g := g141) (off := 0) H 5 rfl E rfl rfl rfl rfl tbok rfl rfl rfl rfl rfl ?_
   clear E; intro w146 a hc147 H_ E
   replace H := H_; clear H_; try dsimp only [setn, addE, goneL] at H
   refine wpList_nil ?_
   refine th_n ?_
   refine wp_seq ?_
   refine wp_seq ?_
   refine wp_region_lit ?_
   refine vn tbok 4 [.int .i64 ((List.getD aNodes (Int.toNat x82) (default : Nd)).P)] [(53, .bool (decide (((List.getD aNodes (Int.toNat x82) (default : Nd)).P) < 0)))] [World.cell? w146 ⟨g141, 0, none⟩ = some (.int .i64 ((List.getD aNodes (Int.toNat x82) (default : Nd)).P))] E (by kernel_rfl) (by kernel_rfl) ((H.box 5 rfl).cell (j := 0) rfl) ?_
   clear E; intro a E
   refine E.cases (t := 53) rfl (fun hb_ E_ => ?_) (fun hb_ E_ => ?_)
   ·
    replace E := E_; clear E_
    have h148 : ((List.getD aNodes (Int.toNat x82) (default : Nd)).P) < 0 := of_decide_eq_true hb_
    clear hb_; replace hP := ite_t h148 hP
    refine vn tbok 38 [] [(91, .bool true)] [] E (by kernel_rfl) (by kernel_rfl) trivial ?_
    clear E; intro a E
    refine wpList_nil ?_
    refine th_n ?_
    refine c_true E rfl ?_
    refine wp_seq ?_
    refine wp_region_lit ?_
    refine vn tbok 1 [] [(2, .int .i64 12)] [] E (by kernel_rfl) (by kernel_rfl) trivial ?_
    clear E; intro a E
    refine wpList_nil ?_
    refine th_n ?_
    refine wp_ret ?_
    refine th_ret ?_
    refine bl_ret ?_
    refine th_ret ?_
    refine th_ret ?_
    refine .inr ⟨rfl, ?_⟩
    refine bl_ret ?_
    refine th_ret ?_
    have hx_ := Option.some.inj hP; subst hx_
    have hP : some (12) = some r := hK133
    obtain rfl := Option.some.inj hP
    refine ret1 E rfl rfl ?_
    exact ⟨_, rfl, rfl, H.sel [] rfl⟩
   replace E := E_; clear E_
   have h149 : ¬ (((List.getD aNodes (Int.toNat x82) (default : Nd)).P) < 0) := of_decide_eq_false hb_
   clear hb_; replace hP := ite_f h149 hP
   refine vn tbok 7 [.int .i64 ((List.getD aNodes (Int.toNat x82) (default : Nd)).P), .int .i64 aProps] [(60, .bool (decide (aProps ≤ ((List.getD aNodes (Int.toNat x82) (default : Nd)).P))))] [World.cell? w146 ⟨g141, 0, none⟩ = some (.int .i64 ((List.getD aNodes (Int.toNat x82) (default : Nd)).P)), World.cell? w146 ⟨g13, 0, none⟩ = some (.int .i64 aProps)] E (by kernel_rfl) (by kernel_rfl) ⟨(H.box 5 rfl).cell (j := 0) rfl, (H.box 3 rfl).cell (j := 0) rfl⟩ ?_
   clear E; intro a E
   refine E.cases (t := 60) rfl (fun hb_ E_ => ?_) (fun hb_ E_ => ?_)
   ·
    replace E := E_; clear E_
    have h150 : aProps ≤ ((List.getD aNodes (Int.toNat x82) (default : Nd)).P) := of_decide_eq_true hb_
    clear hb_; replace hP := ite_t h150 hP
    refine vn tbok 31 [] [(91, .bool true)] [] E (by kernel_rfl) (by kernel_rfl) trivial ?_
    clear E; intro a E
    refine wpList_nil ?_
    refine th_n ?_
    refine c_true E rfl ?_
    refine wp_seq ?_
    refine wp_region_lit ?_
    refine vn tbok 1 [] [(2, .int .i64 12)] [] E (by kernel_rfl) (by kernel_rfl) trivial ?_
    clear E; intro a E
    refine wpList_nil ?_
    refine th_n ?_
    refine wp_ret ?_
    refine th_ret ?_
    refine bl_ret ?_
    refine th_ret ?_
    refine th_ret ?_
    refine .inr ⟨rfl, ?_⟩
    refine bl_ret ?_
    refine th_ret ?_
    have hx_ := Option.some.inj hP; subst hx_
    have hP : some (12) = some r := hK133
    obtain rfl := Option.some.inj hP
    refine ret1 E rfl rfl ?_
    exact ⟨_, rfl, rfl, H.sel [] rfl⟩
   replace E := E_; clear E_
   have h151 : ¬ (aProps ≤ ((List.getD aNodes (Int.toNat x82) (default : Nd)).P)) := of_decide_eq_false hb_
   clear hb_; replace hP := ite_f h151 hP
   refine vn tbok 7 [.int .i64 ((List.getD aNodes (Int.toNat x82) (default : Nd)).Lo), .int .i64 ((List.getD aNodes (Int.toNat x82) (default : Nd)).Hi)] [(67, .bool (((List.getD aNodes (Int.toNat x82) (default : Nd)).Lo : Int) == ((List.getD aNodes (Int.toNat x82) (default : Nd)).Hi)))] [World.cell? w146 ⟨g141, 1, none⟩ = some (.int .i64 ((List.getD aNodes (Int.toNat x82) (default : Nd)).Lo)), World.cell? w146 ⟨g141, 2, none⟩ = some (.int .i64 ((List.getD aNodes (Int.toNat x82) (default : Nd)).Hi))] E (by kernel_rfl) (by kernel_rfl) ⟨(H.box 5 rfl).cell (j := 1) rfl, (H.box 5 rfl).cell (j := 2) rfl⟩ ?_
   clear E; intro a E
   refine E.cases (t := 67) rfl (fun hb_ E_ => ?_) (fun hb_ E_ => ?_)
   ·
    replace E := E_; clear E_
    have h152 : ((List.getD aNodes (Int.toNat x82) (default : Nd)).Lo : Int) = (List.getD aNodes (Int.toNat x82) (default : Nd)).Hi := eq_of_beq hb_
    clear hb_; replace hP := ite_t h152 hP
    refine vn tbok 24 [] [(91, .bool true)] [] E (by kernel_rfl) (by kernel_rfl) trivial ?_
    clear E; intro a E
    refine wpList_nil ?_
    refine th_n ?_
    refine c_true E rfl ?_
    refine wp_seq ?_
    refine wp_region_lit ?_
    refine vn tbok 1 [] [(2, .int .i64 12)] [] E (by kernel_rfl) (by kernel_rfl) trivial ?_
    clear E; intro a E
    refine wpList_nil ?_
    refine th_n ?_
    refine wp_ret ?_
    refine th_ret ?_
    refine bl_ret ?_
    refine th_ret ?_
    refine th_ret ?_
    refine .inr ⟨rfl, ?_⟩
    refine bl_ret ?_
    refine th_ret ?_
    have hx_ := Option.some.inj hP; subst hx_
    have hP : some (12) = some r := hK133
    obtain rfl := Option.some.inj hP
    refine ret1 E rfl rfl ?_
    exact ⟨_, rfl, rfl, H.sel [] rfl⟩
   replace E := E_; clear E_
   have h153 : ¬ (((List.getD aNodes (Int.toNat x82) (default : Nd)).Lo : Int) = (List.getD aNodes (Int.toNat x82) (default : Nd)).Hi) := ne_of_beq_false hb_
   clear hb_; replace hP := ite_f h153 hP
   refine vn tbok 2 [.agg #[.int .i64 ((List.getD aNodes (Int.toNat x82) (default : Nd)).P), .int .i64 ((List.getD aNodes (Int.toNat x82) (default : Nd)).Lo), .int .i64 ((List.getD aNodes (Int.toNat x82) (default : Nd)).Hi)]] [(68, .map (some g30)), (69, .agg #[.int .i64 ((List.getD aNodes (Int.toNat x82) (default : Nd)).P), .int .i64 ((List.getD aNodes (Int.toNat x82) (default : Nd)).Lo), .int .i64 ((List.getD aNodes (Int.toNat x82) (default : Nd)).Hi)])] [cellsAt w146 g141 (0) [.int .i64 ((List.getD aNodes (Int.toNat x82) (default : Nd)).P), .int .i64 ((List.getD aNodes (Int.toNat x82) (default : Nd)).Lo), .int .i64 ((List.getD aNodes (Int.toNat x82) (default : Nd)).Hi)]] E (by kernel_rfl) (by kernel_rfl) ((H.box 5 rfl).sub 0 _ rfl) ?_
   clear E; intro a E
   obtain ⟨g154, hP⟩ := ask_inv hP
   refine h_lookup1 ndV (fun u_ : Bool => .bool u_) (⟨(List.getD aNodes (Int.toNat x82) (default : Nd)).P, (List.getD aNodes (Int.toNat x82) (default : Nd)).Lo, (List.getD aNodes (Int.toNat x82) (default : Nd)).Hi⟩ : Nd) false H 4 rfl E rfl rfl tbok rfl rfl kNd rfl rfl rfl g154 (fun _ => ⟨_, rfl⟩) ?_
   clear E; intro a E_; replace E := E_ _ rfl; clear E_
   refine vn tbok 2 [] [(72, .bool (Option.getD (mget met81 (⟨(List.getD aNodes (Int.toNat x82) (default : Nd)).P, (List.getD aNodes (Int.toNat x82) (default : Nd)).Lo, (List.getD aNodes (Int.toNat x82) (default : Nd)).Hi⟩ : Nd)) false))] [] E (by kernel_rfl) (by kernel_rfl) trivial ?_
   clear E; intro a E
   refine E.cases (t := 72) rfl (fun hb_ E_ => ?_) (fun hb_ E_ => ?_)
   ·
    replace E := E_; clear E_
    have h155 : (Option.getD (mget met81 (⟨(List.getD aNodes (Int.toNat x82) (default : Nd)).P, (List.getD aNodes (Int.toNat x82) (default : Nd)).Lo, (List.getD aNodes (Int.toNat x82) (default : Nd)).Hi⟩ : Nd)) false) = true := hb_
    clear hb_; replace hP := ite_t h155 hP
    refine vn tbok 19 [] [(91, .bool true)] [] E (by kernel_rfl) (by kernel_rfl) trivial ?_
    clear E; intro a E
    refine wpList_nil ?_
    refine th_n ?_
    refine c_true E rfl ?_
    refine wp_seq ?_
    refine wp_region_lit ?_
    refine vn tbok 1 [] [(2, .int .i64 12)] [] E (by kernel_rfl) (by kernel_rfl) trivial ?_
    clear E; intro a E
    refine wpList_nil ?_
    refine th_n ?_
    refine wp_ret ?_
    refine th_ret ?_
    refine bl_ret ?_
    refine th_ret ?_
    refine th_ret ?_
    refine .inr ⟨rfl, ?_⟩
    refine bl_ret ?_
    refine th_ret ?_
    have hx_ := Option.some.inj hP; subst hx_
    have hP : some (12) = some r := hK133
    obtain rfl := Option.some.inj hP
    refine ret1 E rfl rfl ?_
    exact ⟨_, rfl, rfl, H.sel [] rfl⟩
   replace E := E_; clear E_
   have h156 : ¬ ((Option.getD (mget met81 (⟨(List.getD aNodes (Int.toNat x82) (default : Nd)).P, (List.getD aNodes (Int.toNat x82) (default : Nd)).Lo, (List.getD aNodes (Int.toNat x82) (default : Nd)).Hi⟩ : Nd)) false) = true) := (ne_true_of_eq_false hb_)
   clear hb_; replace hP := ite_f h156 hP
   refine vn tbok 6 [.agg #[.int .i64 aProps, .slice A1 (List.length aAccept) c2, .slice A5 (List.length aGuard) c6, .slice (some ⟨b139, o140, none⟩) (List.length aNodes) c10], .int .i64 ((List.getD aNodes (Int.toNat x82) (default : Nd)).Lo), .int .i64 ((List.getD aNodes (Int.toNat x82) (default : Nd)).P)] [(73, .agg #[.int .i64 aProps, .slice A1 (List.length aAccept) c2, .slice A5 (List.length aGuard) c6, .slice (some ⟨b139, o140, none⟩) (List.length aNodes) c10]), (75, .int .i64 ((List.getD aNodes (Int.toNat x82) (default : Nd)).Lo)), (76, .int .i64 x82), (78, .int .i64 ((List.getD aNodes (Int.toNat x82) (default : Nd)).P))] [cellsAt w146 g13 (0) [.int .i64 aProps, .slice A1 (List.length aAccept) c2, .slice A5 (List.length aGuard) c6, .slice (some ⟨b139, o140, none⟩) (List.length aNodes) c10], World.cell? w146 ⟨g141, 1, none⟩ = some (.int .i64 ((List.getD aNodes (Int.toNat x82) (default : Nd)).Lo)), World.cell? w146 ⟨g141, 0, none⟩ = some (.int .i64 ((List.getD aNodes (Int.toNat x82) (default : Nd)).P))] E (by kernel_rfl) (by kernel_rfl) ⟨(H.box 3 rfl).sub 0 _ rfl, (H.box 5 rfl).cell (j := 1) rfl, (H.box 5 rfl).cell (j := 0) rfl⟩ ?_
   clear E; intro a E
   obtain ⟨r157, h158, hP⟩ := bind_inv hP
   obtain ⟨Fa159, Hc160, hb161⟩ := H.call [] [(0, false), (1, false), (2, false)] rfl rfl trivial
   refine e_call E rfl rfl Try.func38 rfl rfl rfl (guard_good_calls A1 c2 A5 c6 (some ⟨b139, o140, none⟩) c10 aProps aAccept aGuard aNodes ((List.getD aNodes (Int.toNat x82) (default : Nd)).Lo) x82 ((List.getD aNodes (Int.toNat x82) (default : Nd)).P) hk3 hk7 hk11 Hc160 h158) ?_
   rintro v162 w163 a ⟨rfl, HR164⟩ E_
   replace E := E_ _ rfl; clear E_
   obtain ⟨H_, hc165⟩ := hb161 _ _ HR164 rfl
   replace H := H_; clear H_; try dsimp only [setn, addE, goneL] at H
   refine vn tbok 3 [] [(82, .bool (!r157))] [] E (by kernel_rfl) (by kernel_rfl) trivial ?_
   clear E; intro a E
   refine E.cases (t := 82) rfl (fun hb_ E_ => ?_) (fun hb_ E_ => ?_)
   ·
    replace E := E_; clear E_
    have h166 : ¬ (r157 = true) := (ne_true_of_eq_false (not_t hb_))
    clear hb_; replace hP := ite_f h166 hP
    refine vn tbok 9 [] [(91, .bool true)] [] E (by kernel_rfl) (by kernel_rfl) trivial ?_
    clear E; intro a E
    refine wpList_nil ?_
    refine th_n ?_
    refine c_true E rfl ?_
    refine wp_seq ?_
    refine wp_region_lit ?_
    refine vn tbok 1 [] [(2, .int .i64 12)] [] E (by kernel_rfl) (by kernel_rfl) trivial ?_
    clear E; intro a E
    refine wpList_nil ?_
    refine th_n ?_
    refine wp_ret ?_
    refine th_ret ?_
    refine bl_ret ?_
    refine th_ret ?_
    refine th_ret ?_
    refine .inr ⟨rfl, ?_⟩
    refine bl_ret ?_
    refine th_ret ?_
    have hx_ := Option.some.inj hP; subst hx_
    have hP : some (12) = some r := hK133
    obtain rfl := Option.some.inj hP
    refine ret1 E rfl rfl ?_
    exact ⟨_, rfl, rfl, H.sel [] rfl⟩
   replace E := E_; clear E_
   have h167 : r157 = true := (not_f hb_)
   clear hb_; replace hP := ite_t h167 hP
   refine vn tbok 6 [.agg #[.int .i64 aProps, .slice A1 (List.length aAccept) c2, .slice A5 (List.length aGuard) c6, .slice (some ⟨b139, o140, none⟩) (List.length aNodes) c10], .int .i64 ((List.getD aNodes (Int.toNat x82) (default : Nd)).Hi), .int .i64 ((List.getD aNodes (Int.toNat x82) (default : Nd)).P)] [(83, .agg #[.int .i64 aProps, .slice A1 (List.length aAccept) c2, .slice A5 (List.length aGuard) c6, .slice (some ⟨b139, o140, none⟩) (List.length aNodes) c10]), (85, .int .i64 ((List.getD aNodes (Int.toNat x82) (default : Nd)).Hi)), (86, .int .i64 x82), (88, .int .i64 ((List.getD aNodes (Int.toNat x82) (default : Nd)).P))] [cellsAt w163 g13 (0) [.int .i64 aProps, .slice A1 (List.length aAccept) c2, .slice A5 (List.length aGuard) c6, .slice (some ⟨b139, o140, none⟩) (List.length aNodes) c10], World.cell? w163 ⟨g141, 2, none⟩ = some (.int .i64 ((List.getD aNodes (Int.toNat x82) (default : Nd)).Hi)), World.cell? w163 ⟨g141, 0, none⟩ = some (.int .i64 ((List.getD aNodes (Int.toNat x82) (default : Nd)).P))] E (by kernel_rfl) (by kernel_rfl) ⟨(H.box 3 rfl).sub 0 _ rfl, (H.box 5 rfl).cell (j := 2) rfl, (H.box 5 rfl).cell (j := 0) rfl⟩ ?_
   clear E; intro a E
   obtain ⟨r168, h169, hP⟩ := bind_inv hP
   obtain ⟨Fa170, Hc171, hb172⟩ := H.call [] [(0, false), (1, false), (2, false)] rfl rfl trivial
   refine e_call E rfl rfl Try.func38 rfl rfl rfl (guard_good_calls A1 c2 A5 c6 (some ⟨b139, o140, none⟩) c10 aProps aAccept aGuard aNodes ((List.getD aNodes (Int.toNat x82) (default : Nd)).Hi) x82 ((List.getD aNodes (Int.toNat x82) (default : Nd)).P) hk3 hk7 hk11 Hc171 h169) ?_
   rintro v173 w174 a ⟨rfl, HR175⟩ E_
   replace E := E_ _ rfl; clear E_
   obtain ⟨H_, hc176⟩ := hb172 _ _ HR175 rfl
   replace H := H_; clear H_; try dsimp only [setn, addE, goneL] at H
   refine vn tbok 2 [] [(91, .bool (!r168))] [] E (by kernel_rfl) (by kernel_rfl) trivial ?_
   clear E; intro a E
   refine wpList_nil ?_
   refine th_n ?_
   refine E.cases (t := 91) rfl (fun hb_ E_ => ?_) (fun hb_ E_ => ?_)
   ·
    replace E := E_; clear E_
    have h177 : ¬ (r168 = true) := (ne_true_of_eq_false (not_t hb_))
    clear hb_; replace hP := ite_f h177 hP
    refine c_true E rfl ?_
    refine wp_seq ?_
    refine wp_region_lit ?_
    refine vn tbok 1 [] [(2, .int .i64 12)] [] E (by kernel_rfl) (by kernel_rfl) trivial ?_
    clear E; intro a E
    refine wpList_nil ?_
    refine th_n ?_
    refine wp_ret ?_
    refine th_ret ?_
    refine bl_ret ?_
    refine th_ret ?_
    refine th_ret ?_
    refine .inr ⟨rfl, ?_⟩
    refine bl_ret ?_
    refine th_ret ?_
    have hx_ := Option.some.inj hP; subst hx_
    have hP : some (12) = some r := hK133
    obtain rfl := Option.some.inj hP
    refine ret1 E rfl rfl ?_
    exact ⟨_, rfl, rfl, H.sel [] rfl⟩
   replace E := E_; clear E_
   have h178 : r168 = true := (not_f hb_)
   clear hb_; replace hP := ite_t h178 hP
   refine c_false E rfl ?_
   refine wp_skip ?_
   refine th_n ?_
   refine wp_region_lit ?_
   refine vn tbok 2 [.agg #[.int .i64 ((List.getD aNodes (Int.toNat x82) (default : Nd)).P), .int .i64 ((List.getD aNodes (Int.toNat x82) (default : Nd)).Lo), .int .i64 ((List.getD aNodes (Int.toNat x82) (default : Nd)).Hi)]] [(92, .map (some g30)), (93, .agg #[.int .i64 ((List.getD aNodes (Int.toNat x82) (default : Nd)).P), .int .i64 ((List.getD aNodes (Int.toNat x82) (default : Nd)).Lo), .int .i64 ((List.getD aNodes (Int.toNat x82) (default : Nd)).Hi)])] [cellsAt w174 g141 (0) [.int .i64 ((List.getD aNodes (Int.toNat x82) (default : Nd)).P), .int .i64 ((List.getD aNodes (Int.toNat x82) (default : Nd)).Lo), .int .i64 ((List.getD aNodes (Int.toNat x82) (default : Nd)).Hi)]] E (by kernel_rfl) (by kernel_rfl) ((H.box 5 rfl).sub 0 _ rfl) ?_
   clear E; intro a E
   obtain ⟨g179, hP⟩ := ask_inv hP
   refine h_mapUpdate ndV (fun u_ : Bool => .bool u_) (⟨(List.getD aNodes (Int.toNat x82) (default : Nd)).P, (List.getD aNodes (Int.toNat x82) (default : Nd)).Lo, (List.getD aNodes (Int.toNat x82) (default : Nd)).Hi⟩ : Nd) true H 4 rfl E rfl rfl tbok rfl kNd rfl rfl rfl g154 g179 rfl ?_
   clear E; intro w180 a hc181 H_ E
   replace H := H_; clear H_; try dsimp only [setn, addE, goneL] at H
   refine wpList_nil ?_
   refine bl_n ?_
   refine th_n ?_
   refine wp_region_lit ?_
   obtain ⟨g182, hP⟩ := ask_inv hP
   refine vn tbok 2 [.int .i64 (x82 + 1)] [(45, .int .i64 (x82 + 1))] [IntKind.i64.wrap (x82 + 1) = x82 + 1] E (by kernel_rfl) (by kernel_rfl) (wrap_in g182) ?_
   clear E; intro a E
   refine wpList_nil ?_
   exact th_n ⟨m130, Nat.lt_succ_self _, met81 ++ [((⟨(List.getD aNodes (Int.toNat x82) (default : Nd)).P, (List.getD aNodes (Int.toNat x82) (default : Nd)).Lo, (List.getD aNodes (Int.toNat x82) (default : Nd)).Hi⟩ : Nd), true)], x82 + 1, E.pick _ ⟨rfl, rfl, rfl, rfl, rfl, trivial⟩, H.sel [0, 1, 2, 3, 4] rfl, hP⟩
  replace E := E_; clear E_
  have h183 : ¬ (x82 < (((List.length aNodes) : Nat) : Int)) := of_decide_eq_false hb_
  clear hb_; replace hP := ite_f h183 hP
  refine c_false E rfl ?_
  refine wp_exit ?_
  refine th_exit ?_
  have hx_ := Option.some.inj hP
  refine th_exit (.inl ⟨0, rfl, ?_⟩)
  exact ⟨rfl, (), E.pick _ ⟨rfl, trivial⟩, H.sel [0, 1, 2, 3] rfl, hx_.symm⟩
 clear E H hL132; intro i_ a w134 hM_
 obtain ⟨rfl, x136, E, H, hx_⟩ := hM_
 subst hx_; have hP := elim_l hK133
 clear hK133
 refine bl_hit ?_
 refine th_n ?_
 refine wp_seq ?_
 refine wp_seq ?_
 refine wp_region_lit ?_
 refine vn tbok 4 [.slice A5 (List.length aGuard) c6] [(96, .slice A5 (List.length aGuard) c6), (97, .int .i64 (((List.length aGuard) : Nat) : Int)), (98, .int .i64 0)] [World.cell? w134 ⟨g13, 2, none⟩ = some (.slice A5 (List.length aGuard) c6)] E (by kernel_rfl) (by kernel_rfl) ((H.box 3 rfl).cell (j := 2) rfl) ?_
 clear E; intro a E
 refine wpList_nil ?_
 refine th_n ?_
 refine wp_block ?_
 obtain ⟨x220, hL221, hK222⟩ := bind_inv hP
 clear hP
 refine loop_cut (fun i_ a w_ => (i_ = 2 ∧ ∃ (x225 : Unit), Fr a 110 [] ∧ Hp S Fa w0 w_ [] ∧ x220 = Sum.inl x225)) ?_ ?_
 ·
  refine loopV (fun m224 a w223 => ∃ (x201 : Int), Fr a 110 [(1, .pointer (some ⟨g13, 0, none⟩)), (96, .slice A5 (List.length aGuard) c6), (97, .int .i64 (((List.length aGuard) : Nat) : Int)), (98, .int .i64 x201)] ∧ Hp S Fa w0 w223 [.ro false cBool A1 aAccept, .ro false (cInt .i64) A5 aGuard, .ro false cNode A9 aNodes, .box g13 26 [.int .i64 aProps, .slice A1 (List.length aAccept) c2, .slice A5 (List.length aGuard) c6, .slice A9 (List.length aNodes) c10]] ∧ guard_Check_l1 N aProps aAccept aGuard aNodes m224 x201 = some x220) N ?_ ?_
  ·
   exact ⟨0, E.pick _ ⟨rfl, rfl, rfl, rfl, trivial⟩, H.sel [0, 1, 2, 3] rfl, hL221⟩
  clear E H hL221; intro m224 a w223 hI_
  obtain ⟨x201, E, H, hP⟩ := hI_
  obtain ⟨m219, rfl⟩ : ∃ q_, m224 = q_ + 1 := by cases m224 with | zero => rw [guard_Check_l1] at hP; cases hP | succ q_ => exact ⟨q_, rfl⟩
  rw [guard_Check_l1] at hP
  refine wp_seq ?_
  refine wp_region_lit ?_
  refine vn tbok 1 [] [(99, .bool (decide (x201 < (((List.length aGuard) : Nat) : Int))))] [] E (by kernel_rfl) (by kernel_rfl) trivial ?_
  clear E; intro a E
  refine wpList_nil ?_
  refine th_n ?_
  refine wp_seq ?_
  refine E.cases (t := 99) rfl (fun hb_ E_ => ?_) (fun hb_ E_ => ?_)
  ·
   replace E := E_; clear E_
   have h226 : x201 < (((List.length aGuard) : Nat) : Int) := of_decide_eq_true hb_
   clear hb_; replace hP := ite_t h226 hP
   refine c_true E rfl ?_
   refine wp_skip ?_
   refine th_n ?_
   refine wp_seq ?_
   refine wp_block ?_
   refine wp_seq ?_
   refine wp_region_lit ?_
   obtain ⟨g227, hP⟩ := ask_inv hP
   obtain ⟨b228, o229, e_b228⟩ := (H.rd 1 rds_ro).addr (idx_pos g227)
   subst e_b228
   refine vn tbok 3 [.int .i64 (List.getD aGuard (Int.toNat x201) 0)] [(8, .int .i64 (List.getD aGuard (Int.toNat x201) 0))] [0 ≤ x201 ∧ x201 < (((List.length aGuard) : Nat) : Int), World.cell? w223 ⟨b228, o229 + (Int.toNat x201) * 1, none⟩ = some (.int .i64 (List.getD aGuard (Int.toNat x201) 0))] E (by kernel_rfl) (by kernel_rfl) ⟨g227, Rds.at1 (H.rd 1 rds_ro) 0 g227⟩ ?_
   clear E; intro a E
   refine wpList_nil ?_
   refine th_n ?_
   refine wp_seq ?_
   refine wp_region_lit ?_
   refine vn tbok 5 [.agg #[.int .i64 aProps, .slice A1 (List.length aAccept) c2, .slice (some ⟨b228, o229, none⟩) (List.length aGuard) c6, .slice A9 (List.length aNodes) c10], .slice A9 (List.length aNodes) c10] [(102, .agg #[.int .i64 aProps, .slice A1 (List.length aAccept) c2, .slice (some ⟨b228, o229, none⟩) (List.length aGuard) c6, .slice A9 (List.length aNodes) c10]), (103, .int .i64 (List.getD aGuard (Int.toNat x201) 0)), (106, .int .i64 (((List.length aNodes) : Nat) : Int))] [cellsAt w223 g13 (0) [.int .i64 aProps, .slice A1 (List.length aAccept) c2, .slice (some ⟨b228, o229, none⟩) (List.length aGuard) c6, .slice A9 (List.length aNodes) c10], World.cell? w223 ⟨g13, 3, none⟩ = some (.slice A9 (List.length aNodes) c10)] E (by kernel_rfl) (by kernel_rfl) ⟨(H.box 3 rfl).sub 0 _ rfl, (H.box 3 rfl).cell (j := 3) rfl⟩ ?_
   clear E; intro a E
   obtain ⟨r230, h231, hP⟩ := bind_inv hP
   obtain ⟨Fa232, Hc233, hb234⟩ := H.call [] [(0, false), (1, false), (2, false)] rfl rfl trivial
   refine e_call E rfl rfl Try.func38 rfl rfl rfl (guard_good_calls A1 c2 (some ⟨b228, o229, none⟩) c6 A9 c10 aProps aAccept aGuard aNodes (List.getD aGuard (Int.toNat x201) 0) (((List.length aNodes) : Nat) : Int) (-1) hk3 hk7 hk11 Hc233 h231) ?_
   rintro v235 w236 a ⟨rfl, HR237⟩ E_
   replace E := E_ _ rfl; clear E_
   obtain ⟨H_, hc238⟩ := hb234 _ _ HR237 rfl
   replace H := H_; clear H_; try dsimp only [setn, addE, goneL] at H
   refine vn tbok 1 [] [(108, .bool (!r230))] [] E (by kernel_rfl) (by kernel_rfl) trivial ?_
   clear E; intro a E
   refine wpList_nil ?_
   refine th_n ?_
   refine E.cases (t := 108) rfl (fun hb_ E_ => ?_) (fun hb_ E_ => ?_)
   ·
    replace E := E_; clear E_
    have h239 : ¬ (r230 = true) := (ne_true_of_eq_false (not_t hb_))
    clear hb_; replace hP := ite_f h239 hP
    refine c_true E rfl ?_
    refine wp_seq ?_
    refine wp_region_lit ?_
    refine vn tbok 1 [] [(2, .int .i64 12)] [] E (by kernel_rfl) (by kernel_rfl) trivial ?_
    clear E; intro a E
    refine wpList_nil ?_
    refine th_n ?_
    refine wp_ret ?_
    refine bl_ret ?_
    refine th_ret ?_
    refine th_ret ?_
    refine .inr ⟨rfl, ?_⟩
    refine bl_ret ?_
    refine th_ret ?_
    have hx_ := Option.some.inj hP; subst hx_
    have hP : some (12) = some r := hK222
    obtain rfl := Option.some.inj hP
    refine ret1 E rfl rfl ?_
    exact ⟨_, rfl, rfl, H.sel [] rfl⟩
   replace E := E_; clear E_
   have h240 : r230 = true := (not_f hb_)
   clear hb_; replace hP := ite_t h240 hP
   refine c_false E rfl ?_
   refine wp_skip ?_
   refine bl_n ?_
   refine th_n ?_
   refine wp_region_lit ?_
   obtain ⟨g241, hP⟩ := ask_inv hP
   refine vn tbok 2 [.int .i64 (x201 + 1)] [(98, .int .i64 (x201 + 1))] [IntKind.i64.wrap (x201 + 1) = x201 + 1] E (by kernel_rfl) (by kernel_rfl) (wrap_in g241) ?_
   clear E; intro a E
   refine wpList_nil ?_
   exact th_n ⟨m219, Nat.lt_succ_self _, x201 + 1, E.pick _ ⟨rfl, rfl, rfl, rfl, trivial⟩, H.sel [0, 1, 2, 3] rfl, hP⟩
  replace E := E_; clear E_
  have h242 : ¬ (x201 < (((List.length aGuard) : Nat) : Int)) := of_decide_eq_false hb_
  clear hb_; replace hP := ite_f h242 hP
  refine c_false E rfl ?_
  refine wp_exit ?_
  refine th_exit ?_
  have hx_ := Option.some.inj hP
  refine th_exit (.inl ⟨2, rfl, ?_⟩)
  exact ⟨rfl, (), E.pick _ trivial, H.sel [] rfl, hx_.symm⟩
 clear E H hL221; intro i_ a w223 hM_
 obtain ⟨rfl, x225, E, H, hx_⟩ := hM_
 subst hx_; have hP := elim_l hK222
 clear hK222
 refine bl_hit ?_
 refine th_n ?_
 refine wp_seq ?_
 refine wp_region_lit ?_
 refine vn tbok 1 [] [(2, .int .i64 0)] [] E (by kernel_rfl) (by kernel_rfl) trivial ?_
 clear E; intro a E
 refine wpList_nil ?_
 refine th_n ?_
 refine wp_ret ?_
 obtain rfl := Option.some.inj hP
 refine ret1 E rfl rfl ?_
 exact ⟨_, rfl, rfl, H.sel [] rfl⟩

/-! rejoinder/guard.Go -/
def guard_Go_l0 (N : Nat) (nodes : List Nd) (ll : Int) : Nat → Int → Int → Option (Unit ⊕ (Int × Bool))
  | 0, _, _ => none
  | m55 + 1, ref27, x28 =>
    if x28 < 9 then
      if ref27 < 0 then
        ask (in64 ((-1) - ref27)) <|
        some (Sum.inr ((-1) - ref27, true))
      else
        if (((List.length nodes) : Nat) : Int) ≤ ref27 then
          some (Sum.inr (0, false))
        else
          ask (idx ref27 (List.length nodes)) <|
          if ((List.getD nodes (Int.toNat ref27) (default : Nd)).P) < 0 then
            some (Sum.inr (0, false))
          else
            if 8 ≤ ((List.getD nodes (Int.toNat ref27) (default : Nd)).P) then
              some (Sum.inr (0, false))
            else
              ask (0 ≤ ((List.getD nodes (Int.toNat ref27) (default : Nd)).P)) <|
              if (andV .u8 (shrV .u8 ll ((List.getD nodes (Int.toNat ref27) (default : Nd)).P)) 1 : Int) = 1 then
                ask (in64 (x28 + 1)) <|
                guard_Go_l0 N nodes ll m55 ((List.getD nodes (Int.toNat ref27) (default : Nd)).Hi) (x28 + 1)
              else
                ask (in64 (x28 + 1)) <|
                guard_Go_l0 N nodes ll m55 ((List.getD nodes (Int.toNat ref27) (default : Nd)).Lo) (x28 + 1)
    else
      some (Sum.inl ())
def guard_Go (N : Nat) (nodes : List Nd) (ref : Int) (ll : Int) : Option (Int × Bool) :=
  Option.bind (guard_Go_l0 N nodes ll N ref 0) fun x56 =>
  Sum.elim (fun x61 =>
    some (0, false))
   (fun x88 =>
    some x88) x56
set_option maxRecDepth 100000 in
set_option maxHeartbeats 4000000 in
theorem guard_Go_calls {N : Nat} {S Fa : Nat → Prop} {w0 : World} {r : Int × Bool} (A1 : Option Addr) (c2 : Nat) (nodes : List Nd) (ref : Int) (ll : Int) (hk3 : List.length nodes ≤ c2) (H : Hp S Fa w0 w0 [.ro false cNode A1 nodes]) (hP : guard_Go N nodes ref ll = some r) :
    Calls Try.prog 20 #[.slice A1 (List.length nodes) c2, .int .i64 ref, .int .u8 ll] w0 fun e w' => ∃ v, e = .returned v ∧ v = .tuple #[.int .i64 r.1, .bool r.2] ∧ Hp S Fa w0 w' [] := by
 refine enterV (n := 50) Try.func20 rfl rfl rfl ?_
 intro a E
 replace E := E.pick [(0, .slice A1 (List.length nodes) c2), (1, .int .i64 ref), (2, .int .u8 ll)] ⟨rfl, rfl, rfl, trivial⟩
 rw [guard_Go] at hP
 refine wp_seq ?_
 refine wp_region_lit ?_
 refine vn tbok 2 [] [] [] E (by kernel_rfl) (by kernel_rfl) trivial ?_
 clear E; intro a E
 refine wpList_nil ?_
 refine th_n ?_
 refine wp_seq ?_
 refine wp_seq ?_
 refine wp_region_lit ?_
 refine vn tbok 1 [] [(9, .int .i64 0)] [] E (by kernel_rfl) (by kernel_rfl) trivial ?_
 clear E; intro a E
 refine wpList_nil ?_
 refine th_n ?_
 refine wp_block ?_
 obtain ⟨x56, hL57, hK58⟩ := bind_inv hP
 clear hP
 refine loop_cut (fun i_ a w_ => (i_ = 0 ∧ ∃ (x61 : Unit), Fr a 50 [] ∧ Hp S Fa w0 w_ [] ∧ x56 = Sum.inl x61)) ?_ ?_
 ·
  refine loopV (fun m60 a w59 => ∃ (ref27 : Int) (x28 : Int), Fr a 50 [(0, .slice A1 (List.length nodes) c2), (1, .int .i64 ref27), (2, .int .u8 ll), (9, .int .i64 x28)] ∧ Hp S Fa w0 w59 [.ro false cNode A1 nodes] ∧ guard_Go_l0 N nodes ll m60 ref27 x28 = some x56) N ?_ ?_
  ·
   exact ⟨ref, 0, E.pick _ ⟨rfl, rfl, rfl, rfl, trivial⟩, H.sel [0] rfl, hL57⟩
  clear E H hL57; intro m60 a w59 hI_
  obtain ⟨ref27, x28, E, H, hP⟩ := hI_
  obtain ⟨m55, rfl⟩ : ∃ q_, m60 = q_ + 1 := by cases m60 with | zero => rw [guard_Go_l0] at hP; cases hP | succ q_ => exact ⟨q_, rfl⟩
  rw [guard_Go_l0] at hP
  refine wp_seq ?_
  refine wp_region_lit ?_
  refine vn tbok 1 [] [(10, .bool (decide (x28 < 9)))] [] E (by kernel_rfl) (by kernel_rfl) trivial ?_
  clear E; intro a E
  refine wpList_nil ?_
  refine th_n ?_
  refine wp_seq ?_
  refine E.cases (t := 10) rfl (fun hb_ E_ => ?_) (fun hb_ E_ => ?_)
  ·
   replace E := E_; clear E_
   have h62 : x28 < 9 := of_decide_eq_true hb_
   clear hb_; replace hP := ite_t h62 hP
   refine c_true E rfl ?_
   refine wp_skip ?_
   refine th_n ?_
   refine wp_seq ?_
   refine wp_block ?_
   refine wp_seq ?_
   refine wp_seq ?_
   refine wp_region_lit ?_
   refine vn tbok 2 [] [(12, .bool (decide (ref27 < 0)))] [] E (by kernel_rfl) (by kernel_rfl) trivial ?_
   clear E; intro a E
   refine wpList_nil ?_
   refine th_n ?_
   refine E.cases (t := 12) rfl (fun hb_ E_ => ?_) (fun hb_ E_ => ?_)
   ·
    replace E := E_; clear E_
    have h63 : ref27 < 0 := of_decide_eq_true hb_
    clear hb_; replace hP := ite_t h63 hP
    refine c_true E rfl ?_
    refine wp_seq ?_
    refine wp_region_lit ?_
    obtain ⟨g64, hP⟩ := ask_inv hP
    refine vn tbok 4 [.int .i64 ((-1) - ref27)] [(6, .int .i64 ((-1) - ref27)), (7, .bool true)] [IntKind.i64.wrap ((-1) - ref27) = (-1) - ref27] E (by kernel_rfl) (by kernel_rfl) (wrap_in g64) ?_
    clear E; intro a E
    refine wpList_nil ?_
    refine th_n ?_
    refine wp_ret ?_
    refine th_ret ?_
    refine bl_ret ?_
    refine th_ret ?_
    refine th_ret ?_
    refine .inr ⟨rfl, ?_⟩
    refine bl_ret ?_
    refine th_ret ?_
    have hx_ := Option.some.inj hP; subst hx_
    have hP : some (((-1) - ref27, true)) = some r := hK58
    obtain rfl := Option.some.inj hP
    refine ret2 E rfl rfl rfl ?_
    exact ⟨_, rfl, rfl, H.sel [] rfl⟩
   replace E := E_; clear E_
   have h65 : ¬ (ref27 < 0) := of_decide_eq_false hb_
   clear hb_; replace hP := ite_f h65 hP
   refine c_false E rfl ?_
   refine wp_skip ?_
   refine th_n ?_
   refine wp_seq ?_
   refine wp_seq ?_
   refine wp_region_lit ?_
   refine vn tbok 5 [] [(19, .bool (decide ((((List.length nodes) : Nat) : Int) ≤ ref27)))] [] E (by kernel_rfl) (by kernel_rfl) trivial ?_
   clear E; intro a E
   refine E.cases (t := 19) rfl (fun hb_ E_ => ?_) (fun hb_ E_ => ?_)
   ·
    replace E := E_; clear E_
    have h66 : (((List.length nodes) : Nat) : Int) ≤ ref27 := of_decide_eq_true hb_
    clear hb_; replace hP := ite_t h66 hP
    refine vn tbok 15 [] [(34, .bool true)] [] E (by kernel_rfl) (by kernel_rfl) trivial ?_
    clear E; intro a E
    refine wpList_nil ?_
    refine th_n ?_
    refine c_true E rfl ?_
    refine wp_seq ?_
    refine wp_region_lit ?_
    refine vn tbok 2 [] [(6, .int .i64 0), (7, .bool false)] [] E (by kernel_rfl) (by kernel_rfl) trivial ?_
    clear E; intro a E
    refine wpList_nil ?_
    refine th_n ?_
    refine wp_ret ?_
    refine th_ret ?_
    refine bl_ret ?_
    refine th_ret ?_
    refine th_ret ?_
    refine .inr ⟨rfl, ?_⟩
    refine bl_ret ?_
    refine th_ret ?_
    have hx_ := Option.some.inj hP; subst hx_
    have hP : some ((0, false)) = some r := hK58
    obtain rfl := Option.some.inj hP
    refine ret2 E rfl rfl rfl ?_
    exact ⟨_, rfl, rfl, H.sel [] rfl⟩
   replace E := E_; clear E_
   have h67 : ¬ ((((List.length nodes) : Nat) : Int) ≤ ref27) := of_decide_eq_false hb_
   clear hb_; replace hP := ite_f h67 hP
   obtain ⟨g68, hP⟩ := ask_inv hP
   obtain ⟨b69, o70, e_b69⟩ := (H.rd 0 rds_ro).addr (idx_pos g68)
   subst e_b69
   refine vn tbok 8 [.int .i64 ((List.getD nodes (Int.toNat ref27) (default : Nd)).P)] [(27, .bool (decide (((List.getD nodes (Int.toNat ref27) (default : Nd)).P) < 0)))] [0 ≤ ref27 ∧ ref27 < (((List.length nodes) : Nat) : Int), World.cell? w59 ⟨b69, o70 + (Int.toNat ref27) * 3, none⟩ = some (.int .i64 ((List.getD nodes (Int.toNat ref27) (default : Nd)).P))] E (by kernel_rfl) (by kernel_rfl) ⟨g68, (Rds.atP (H.rd 0 rds_ro) (default : Nd) g68).1⟩ ?_
   clear E; intro a E
   refine E.cases (t := 27) rfl (fun hb_ E_ => ?_) (fun hb_ E_ => ?_)
   ·
    replace E := E_; clear E_
    have h71 : ((List.getD nodes (Int.toNat ref27) (default : Nd)).P) < 0 := of_decide_eq_true hb_
    clear hb_; replace hP := ite_t h71 hP
    refine vn tbok 7 [] [(34, .bool true)] [] E (by kernel_rfl) (by kernel_rfl) trivial ?_
    clear E; intro a E
    refine wpList_nil ?_
    refine th_n ?_
    refine c_true E rfl ?_
    refine wp_seq ?_
    refine wp_region_lit ?_
    refine vn tbok 2 [] [(6, .int .i64 0), (7, .bool false)] [] E (by kernel_rfl) (by kernel_rfl) trivial ?_
    clear E; intro a E
    refine wpList_nil ?_
    refine th_n ?_
    refine wp_ret ?_
    refine th_ret ?_
    refine bl_ret ?_
    refine th_ret ?_
    refine th_ret ?_
    refine .inr ⟨rfl, ?_⟩
    refine bl_ret ?_
    refine th_ret ?_
    have hx_ := Option.some.inj hP; subst hx_
    have hP : some ((0, false)) = some r := hK58
    obtain rfl := Option.some.inj hP
    refine ret2 E rfl rfl rfl ?_
    exact ⟨_, rfl, rfl, H.sel [] rfl⟩
   replace E := E_; clear E_
   have h72 : ¬ (((List.getD nodes (Int.toNat ref27) (default : Nd)).P) < 0) := of_decide_eq_false hb_
   clear hb_; replace hP := ite_f h72 hP
   refine vn tbok 7 [.int .i64 ((List.getD nodes (Int.toNat ref27) (default : Nd)).P)] [(34, .bool (decide (8 ≤ ((List.getD nodes (Int.toNat ref27) (default : Nd)).P))))] [0 ≤ ref27 ∧ ref27 < (((List.length nodes) : Nat) : Int), World.cell? w59 ⟨b69, o70 + (Int.toNat ref27) * 3, none⟩ = some (.int .i64 ((List.getD nodes (Int.toNat ref27) (default : Nd)).P))] E (by kernel_rfl) (by kernel_rfl) ⟨g68, (Rds.atP (H.rd 0 rds_ro) (default : Nd) g68).1⟩ ?_
   clear E; intro a E
   refine wpList_nil ?_
   refine th_n ?_
   refine E.cases (t := 34) rfl (fun hb_ E_ => ?_) (fun hb_ E_ => ?_)
   ·
    replace E := E_; clear E_
    have h73 : 8 ≤ ((List.getD nodes (Int.toNat ref27) (default : Nd)).P) := of_decide_eq_true hb_
    clear hb_; replace hP := ite_t h73 hP
    refine c_true E rfl ?_
    refine wp_seq ?_
    refine wp_region_lit ?_
    refine vn tbok 2 [] [(6, .int .i64 0), (7, .bool false)] [] E (by kernel_rfl) (by kernel_rfl) trivial ?_
    clear E; intro a E
    refine wpList_nil ?_
    refine th_n ?_
    refine wp_ret ?_
    refine th_ret ?_
    refine bl_ret ?_
    refine th_ret ?_
    refine th_ret ?_
    refine .inr ⟨rfl, ?_⟩
    refine bl_ret ?_
    refine th_ret ?_
    have hx_ := Option.some.inj hP; subst hx_
    have hP : some ((0, false)) = some r := hK58
    obtain rfl := Option.some.inj hP
    refine ret2 E rfl rfl rfl ?_
    exact ⟨_, rfl, rfl, H.sel [] rfl⟩
   replace E := E_; clear E_
   have h74 : ¬ (8 ≤ ((List.getD nodes (Int.toNat ref27) (default : Nd)).P)) := of_decide_eq_false hb_
   clear hb_; replace hP := ite_f h74 hP
   refine c_false E rfl ?_
   refine wp_skip ?_
   refine th_n ?_
   refine wp_seq ?_
   refine wp_region_lit ?_
   refine vn tbok 4 [.agg #[.int .i64 ((List.getD nodes (Int.toNat ref27) (default : Nd)).P), .int .i64 ((List.getD nodes (Int.toNat ref27) (default : Nd)).Lo), .int .i64 ((List.getD nodes (Int.toNat ref27) (default : Nd)).Hi)]] [(38, .agg #[.int .i64 ((List.getD nodes (Int.toNat ref27) (default : Nd)).P), .int .i64 ((List.getD nodes (Int.toNat ref27) (default : Nd)).Lo), .int .i64 ((List.getD nodes (Int.toNat ref27) (default : Nd)).Hi)])] [0 ≤ ref27 ∧ ref27 < (((List.length nodes) : Nat) : Int), cellsAt w59 b69 (o70 + (Int.toNat ref27) * 3) [.int .i64 ((List.getD nodes (Int.toNat ref27) (default : Nd)).P), .int .i64 ((List.getD nodes (Int.toNat ref27) (default : Nd)).Lo), .int .i64 ((List.getD nodes (Int.toNat ref27) (default : Nd)).Hi)]] E (by kernel_rfl) (by kernel_rfl) ⟨g68, Rds.atP (H.rd 0 rds_ro) (default : Nd) g68⟩ ?_
   clear E; intro a E
   refine h_alloc H E rfl rfl tbok rfl ?_
   intro w76 g75 a hc77 hg79 H_ E_
   replace E := E_ _ rfl; clear E_
   replace H := H_; clear H_; try dsimp only [setn, addE, goneL] at H
   refine h_store (g := g75) (off := 0) H 1 rfl E rfl rfl rfl rfl tbok rfl rfl rfl rfl rfl ?_
   clear E; intro w80 a hc81 H_ E
   replace H := H_; clear H_; try dsimp only [setn, addE, goneL] at H
   refine wpList_nil ?_
   refine th_n ?_
   refine wp_seq ?_
   refine wp_region_lit ?_
   refine vn tbok 3 [.int .i64 ((List.getD nodes (Int.toNat ref27) (default : Nd)).Lo)] [(1, .int .i64 ((List.getD nodes (Int.toNat ref27) (default : Nd)).Lo))] [World.cell? w80 ⟨g75, 1, none⟩ = some (.int .i64 ((List.getD nodes (Int.toNat ref27) (default : Nd)).Lo))] E (by kernel_rfl) (by kernel_rfl) ((H.box 1 rfl).cell (j := 1) rfl) ?_
   clear E; intro a E
   refine wpList_nil ?_
   refine th_n ?_
   refine wp_seq ?_
   refine wp_region_lit ?_
   obtain ⟨g82, hP⟩ := ask_inv hP
   refine vn tbok 6 [.int .i64 ((List.getD nodes (Int.toNat ref27) (default : Nd)).P), .int .u8 (shrV .u8 ll ((List.getD nodes (Int.toNat ref27) (default : Nd)).P)), .int .u8 (andV .u8 (shrV .u8 ll ((List.getD nodes (Int.toNat ref27) (default : Nd)).P)) 1)] [(46, .bool ((andV .u8 (shrV .u8 ll ((List.getD nodes (Int.toNat ref27) (default : Nd)).P)) 1 : Int) == 1))] [World.cell? w80 ⟨g75, 0, none⟩ = some (.int .i64 ((List.getD nodes (Int.toNat ref27) (default : Nd)).P)), 0 ≤ ((List.getD nodes (Int.toNat ref27) (default : Nd)).P) ∧ Int.fdiv ll (2 ^ (min (Int.toNat ((List.getD nodes (Int.toNat ref27) (default : Nd)).P)) (IntKind.bits .u8))) = shrV .u8 ll ((List.getD nodes (Int.toNat ref27) (default : Nd)).P), IntKind.u8.wrap (BitVec.ofInt (IntKind.bits .u8) (shrV .u8 ll ((List.getD nodes (Int.toNat ref27) (default : Nd)).P)) &&& BitVec.ofInt (IntKind.bits .u8) 1).toNat = andV .u8 (shrV .u8 ll ((List.getD nodes (Int.toNat ref27) (default : Nd)).P)) 1] E (by kernel_rfl) (by kernel_rfl) ⟨(H.box 1 rfl).cell (j := 0) rfl, ⟨g82, rfl⟩, rfl⟩ ?_
   clear E; intro a E
   refine wpList_nil ?_
   refine th_n ?_
   refine E.cases (t := 46) rfl (fun hb_ E_ => ?_) (fun hb_ E_ => ?_)
   ·
    replace E := E_; clear E_
    have h83 : (andV .u8 (shrV .u8 ll ((List.getD nodes (Int.toNat ref27) (default : Nd)).P)) 1 : Int) = 1 := eq_of_beq hb_
    clear hb_; replace hP := ite_t h83 hP
    refine c_true E rfl ?_
    refine wp_region_lit ?_
    refine vn tbok 3 [.int .i64 ((List.getD nodes (Int.toNat ref27) (default : Nd)).Hi)] [(1, .int .i64 ((List.getD nodes (Int.toNat ref27) (default : Nd)).Hi))] [World.cell? w80 ⟨g75, 2, none⟩ = some (.int .i64 ((List.getD nodes (Int.toNat ref27) (default : Nd)).Hi))] E (by kernel_rfl) (by kernel_rfl) ((H.box 1 rfl).cell (j := 2) rfl) ?_
    clear E; intro a E
    refine wpList_nil ?_
    refine bl_n ?_
    refine th_n ?_
    refine wp_region_lit ?_
    obtain ⟨g84, hP⟩ := ask_inv hP
    refine vn tbok 2 [.int .i64 (x28 + 1)] [(9, .int .i64 (x28 + 1))] [IntKind.i64.wrap (x28 + 1) = x28 + 1] E (by kernel_rfl) (by kernel_rfl) (wrap_in g84) ?_
    clear E; intro a E
    refine wpList_nil ?_
    exact th_n ⟨m55, Nat.lt_succ_self _, (List.getD nodes (Int.toNat ref27) (default : Nd)).Hi, x28 + 1, E.pick _ ⟨rfl, rfl, rfl, rfl, trivial⟩, H.sel [0] rfl, hP⟩
   replace E := E_; clear E_
   have h85 : ¬ ((andV .u8 (shrV .u8 ll ((List.getD nodes (Int.toNat ref27) (default : Nd)).P)) 1 : Int) = 1) := ne_of_beq_false hb_
   clear hb_; replace hP := ite_f h85 hP
   refine c_false E rfl ?_
   refine wp_skip ?_
   refine bl_n ?_
   refine th_n ?_
   refine wp_region_lit ?_
   obtain ⟨g86, hP⟩ := ask_inv hP
   refine vn tbok 2 [.int .i64 (x28 + 1)] [(9, .int .i64 (x28 + 1))] [IntKind.i64.wrap (x28 + 1) = x28 + 1] E (by kernel_rfl) (by kernel_rfl) (wrap_in g86) ?_
   clear E; intro a E
   refine wpList_nil ?_
   exact th_n ⟨m55, Nat.lt_succ_self _, (List.getD nodes (Int.toNat ref27) (default : Nd)).Lo, x28 + 1, E.pick _ ⟨rfl, rfl, rfl, rfl, trivial⟩, H.sel [0] rfl, hP⟩
  replace E := E_; clear E_
  have h87 : ¬ (x28 < 9) := of_decide_eq_false hb_
  clear hb_; replace hP := ite_f h87 hP
  refine c_false E rfl ?_
  refine wp_exit ?_
  refine th_exit ?_
  have hx_ := Option.some.inj hP
  refine th_exit (.inl ⟨0, rfl, ?_⟩)
  exact ⟨rfl, (), E.pick _ trivial, H.sel [] rfl, hx_.symm⟩
 clear E H hL57; intro i_ a w59 hM_
 obtain ⟨rfl, x61, E, H, hx_⟩ := hM_
 subst hx_; have hP := elim_l hK58
 clear hK58
 refine bl_hit ?_
 refine th_n ?_
 refine wp_seq ?_
 refine wp_region_lit ?_
 refine vn tbok 2 [] [(6, .int .i64 0), (7, .bool false)] [] E (by kernel_rfl) (by kernel_rfl) trivial ?_
 clear E; intro a E
 refine wpList_nil ?_
 refine th_n ?_
 refine wp_ret ?_
 obtain rfl := Option.some.inj hP
 refine ret2 E rfl rfl rfl ?_
 exact ⟨_, rfl, rfl, H.sel [] rfl⟩

end Go.V
