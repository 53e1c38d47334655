/- Plain functions, and the calls that give them. -/
import Derived.Test.YtldjjbgnicknkaaA6
set_option linter.all false
set_option linter.unusedVariables false
set_option linter.unnecessarySimpa false
set_option linter.unusedSimpArgs false
namespace Go.V
open Go Go.Proofs
/-! rejoinder/letter.Fits -/
def letter_Fits (N : Nat) (n : Int) (ll : Int) : Option Bool :=
  Option.bind (letter_number N n) fun r1 =>
  if r1 = true then
    ask (in64 ll) <|
    ask (0 ≤ n) <|
    some ((shrV .i64 ll n : Int) == 0)
  else
    some false
set_option maxRecDepth 100000 in
set_option maxHeartbeats 4000000 in
theorem letter_Fits_calls {N : Nat} {S Fa : Nat → Prop} {w0 : World} {r : Bool} (n : Int) (ll : Int) (H : Hp S Fa w0 w0 []) (hP : letter_Fits N n ll = some r) :
    Calls Try.prog 29 #[.int .i64 n, .int .u8 ll] w0 fun e w' => ∃ v, e = .returned v ∧ v = .bool r ∧ Hp S Fa w0 w' [] := by
 refine enterV (n := 14) Try.func29 rfl rfl rfl ?_
 intro a E
 replace E := E.pick [(0, .int .i64 n), (1, .int .u8 ll)] ⟨rfl, rfl, trivial⟩
 rw [letter_Fits] at hP
 refine wp_seq ?_
 refine wp_region_lit ?_
 refine vr tbok 1 [] [(0, .int .i64 n), (1, .int .u8 ll)] [] E (by kernel_rfl) trivial ?_
 clear E; intro a E
 refine wpList_nil ?_
 refine th_n ?_
 refine wp_seq ?_
 refine wp_region_lit ?_
 refine vr tbok 1 [] [(0, .int .i64 n), (1, .int .u8 ll), (5, .int .i64 n)] [] E (by kernel_rfl) trivial ?_
 clear E; intro a E
 obtain ⟨r1, h2, hP⟩ := bind_inv hP
 obtain ⟨Fa3, Hc4, hb5⟩ := H.call [] [] rfl rfl trivial
 refine e_call E rfl rfl Try.func56 rfl rfl rfl (letter_number_calls  n  Hc4 h2) ?_
 rintro v6 w7 a ⟨rfl, HR8⟩ E_
 replace E := E_ _ rfl; clear E_
 obtain ⟨H_, hc9⟩ := hb5 _ _ HR8 rfl
 replace H := H_; clear H_; try dsimp only [setn, addE, goneL] at H
 refine vr tbok 1 [] [(0, .int .i64 n), (1, .int .u8 ll), (7, .bool r1)] [] E (by kernel_rfl) trivial ?_
 clear E; intro a E
 refine E.cases (t := 7) rfl (fun hb_ E_ => ?_) (fun hb_ E_ => ?_)
 ·
  replace E := E_; clear E_
  have h10 : r1 = true := hb_
  clear hb_; replace hP := ite_t h10 hP
  obtain ⟨g11, hP⟩ := ask_inv hP
  obtain ⟨g12, hP⟩ := ask_inv hP
  refine vr tbok 7 [.int .i64 ll, .int .i64 (shrV .i64 ll n)] [(4, .bool ((shrV .i64 ll n : Int) == 0))] [IntKind.i64.wrap ll = ll, 0 ≤ n ∧ Int.fdiv ll (2 ^ (min (Int.toNat n) (IntKind.bits .i64))) = shrV .i64 ll n] E (by kernel_rfl) ⟨wrap_in g11, ⟨g12, rfl⟩⟩ ?_
  clear E; intro a E
  refine wpList_nil ?_
  refine th_n ?_
  refine wp_ret ?_
  obtain rfl := Option.some.inj hP
  refine ret1 E rfl rfl ?_
  exact ⟨_, rfl, rfl, H.sel [] rfl⟩
 replace E := E_; clear E_
 have h13 : ¬ (r1 = true) := (ne_true_of_eq_false hb_)
 clear hb_; replace hP := ite_f h13 hP
 refine vr tbok 7 [] [(4, .bool false)] [] E (by kernel_rfl) trivial ?_
 clear E; intro a E
 refine wpList_nil ?_
 refine th_n ?_
 refine wp_ret ?_
 obtain rfl := Option.some.inj hP
 refine ret1 E rfl rfl ?_
 exact ⟨_, rfl, rfl, H.sel [] rfl⟩

/-! rejoinder/canon.Next -/
def canon_Next (N : Nat) (aProps : Int) (aAccept : List Bool) (aGuard : List Int) (aNodes : List Nd) (q : Int) (ll : Int) : Option (Int × Int) :=
  Option.bind (guard_Check N aProps aAccept aGuard aNodes) fun r18 =>
  if (r18 : Int) = 0 then
    if q < 0 then
      some (0, 2)
    else
      if (((List.length aAccept) : Nat) : Int) ≤ q then
        some (0, 2)
      else
        Option.bind (letter_Fits N aProps ll) fun r33 =>
        if r33 = true then
          ask (idx q (List.length aGuard)) <|
          Option.bind (guard_Go N aNodes (List.getD aGuard (Int.toNat q) 0) ll) fun r47 =>
          some (r47.1, 0)
        else
          some (0, 2)
  else
    some (0, r18)
set_option maxRecDepth 100000 in
set_option maxHeartbeats 4000000 in
theorem canon_Next_calls {N : Nat} {S Fa : Nat → Prop} {w0 : World} {r : Int × Int} (A1 : Option Addr) (c2 : Nat) (A5 : Option Addr) (c6 : Nat) (A9 : Option Addr) (c10 : Nat) (aProps : Int) (aAccept : List Bool) (aGuard : List Int) (aNodes : List Nd) (q : Int) (ll : Int) (hk3 : List.length aAccept ≤ c2) (hk7 : List.length aGuard ≤ c6) (hk11 : List.length aNodes ≤ c10) (H : Hp S Fa w0 w0 [.ro false cBool A1 aAccept, .ro false (cInt .i64) A5 aGuard, .ro false cNode A9 aNodes]) (hP : canon_Next N aProps aAccept aGuard aNodes q ll = some r) :
    Calls Try.prog 10 #[.agg #[.int .i64 aProps, .slice A1 (List.length aAccept) c2, .slice A5 (List.length aGuard) c6, .slice A9 (List.length aNodes) c10], .int .i64 q, .int .u8 ll] w0 fun e w' => ∃ v, e = .returned v ∧ v = .tuple #[.int .i64 r.1, .int .i64 r.2] ∧ Hp S Fa w0 w' [] := by
 refine enterV (n := 45) Try.func10 rfl rfl rfl ?_
 intro a E
 replace E := E.pick [(0, .agg #[.int .i64 aProps, .slice A1 (List.length aAccept) c2, .slice A5 (List.length aGuard) c6, .slice A9 (List.length aNodes) c10]), (1, .int .i64 q), (2, .int .u8 ll)] ⟨rfl, rfl, rfl, trivial⟩
 rw [canon_Next] at hP
 refine wp_seq ?_
 refine wp_region_lit ?_
 refine h_box H E rfl rfl rfl ?_
 intro w14 g13 a hc15 hg17 H_ E_
 replace E := E_ _ rfl; clear E_
 replace H := H_; clear H_; try dsimp only [setn, addE, goneL] at H
 refine vr tbok 2 [] [(1, .int .i64 q), (2, .int .u8 ll), (3, .pointer (some ⟨g13, 0, none⟩))] [] E (by kernel_rfl) trivial ?_
 clear E; intro a E
 refine wpList_nil ?_
 refine th_n ?_
 refine wp_seq ?_
 refine wp_seq ?_
 refine wp_region_lit ?_
 refine vr tbok 1 [.agg #[.int .i64 aProps, .slice A1 (List.length aAccept) c2, .slice A5 (List.length aGuard) c6, .slice A9 (List.length aNodes) c10]] [(1, .int .i64 q), (2, .int .u8 ll), (3, .pointer (some ⟨g13, 0, none⟩)), (11, .agg #[.int .i64 aProps, .slice A1 (List.length aAccept) c2, .slice A5 (List.length aGuard) c6, .slice A9 (List.length aNodes) c10])] [cellsAt w14 g13 (0) [.int .i64 aProps, .slice A1 (List.length aAccept) c2, .slice A5 (List.length aGuard) c6, .slice A9 (List.length aNodes) c10]] E (by kernel_rfl) ((H.box 3 rfl).sub 0 _ rfl) ?_
 clear E; intro a E
 obtain ⟨r18, h19, hP⟩ := bind_inv hP
 obtain ⟨Fa20, Hc21, hb22⟩ := H.call [] [(0, false), (1, false), (2, false)] rfl rfl trivial
 refine e_call E rfl rfl Try.func28 rfl rfl rfl (guard_Check_calls A1 c2 A5 c6 A9 c10 aProps aAccept aGuard aNodes hk3 hk7 hk11 Hc21 h19) ?_
 rintro v23 w24 a ⟨rfl, HR25⟩ E_
 replace E := E_ _ rfl; clear E_
 obtain ⟨H_, hc26⟩ := hb22 _ _ HR25 rfl
 replace H := H_; clear H_; try dsimp only [setn, addE, goneL] at H
 refine vr tbok 1 [] [(1, .int .i64 q), (2, .int .u8 ll), (3, .pointer (some ⟨g13, 0, none⟩)), (8, .int .i64 r18)] [] E (by kernel_rfl) trivial ?_
 clear E; intro a E
 refine wpList_nil ?_
 refine th_n ?_
 refine wp_seq ?_
 refine wp_region_lit ?_
 refine vr tbok 2 [] [(1, .int .i64 q), (2, .int .u8 ll), (3, .pointer (some ⟨g13, 0, none⟩)), (8, .int .i64 r18), (14, .bool ((r18 : Int) != 0))] [] E (by kernel_rfl) trivial ?_
 clear E; intro a E
 refine wpList_nil ?_
 refine th_n ?_
 refine E.cases (t := 14) rfl (fun hb_ E_ => ?_) (fun hb_ E_ => ?_)
 ·
  replace E := E_; clear E_
  have h27 : ¬ ((r18 : Int) = 0) := bne_iff_ne.1 hb_
  clear hb_; replace hP := ite_f h27 hP
  refine c_true E rfl ?_
  refine wp_seq ?_
  refine wp_region_lit ?_
  refine vr tbok 3 [] [(6, .int .i64 0), (7, .int .i64 r18)] [] E (by kernel_rfl) trivial ?_
  clear E; intro a E
  refine wpList_nil ?_
  refine th_n ?_
  refine wp_ret ?_
  refine th_ret ?_
  obtain rfl := Option.some.inj hP
  refine ret2 E rfl rfl rfl ?_
  exact ⟨_, rfl, rfl, H.sel [] rfl⟩
 replace E := E_; clear E_
 have h28 : (r18 : Int) = 0 := bne_eq_false_iff_eq.1 hb_
 clear hb_; replace hP := ite_t h28 hP
 refine c_false E rfl ?_
 refine wp_skip ?_
 refine th_n ?_
 refine wp_seq ?_
 refine wp_seq ?_
 refine wp_region_lit ?_
 refine vr tbok 3 [] [(1, .int .i64 q), (2, .int .u8 ll), (3, .pointer (some ⟨g13, 0, none⟩)), (18, .bool (decide (q < 0)))] [] E (by kernel_rfl) trivial ?_
 clear E; intro a E
 refine E.cases (t := 18) rfl (fun hb_ E_ => ?_) (fun hb_ E_ => ?_)
 ·
  replace E := E_; clear E_
  have h29 : q < 0 := of_decide_eq_true hb_
  clear hb_; replace hP := ite_t h29 hP
  refine vr tbok 13 [] [(1, .int .i64 q), (2, .int .u8 ll), (3, .pointer (some ⟨g13, 0, none⟩)), (31, .bool true)] [] E (by kernel_rfl) trivial ?_
  clear E; intro a E
  refine wpList_nil ?_
  refine th_n ?_
  refine c_true E rfl ?_
  refine wp_seq ?_
  refine wp_region_lit ?_
  refine vr tbok 2 [] [(6, .int .i64 0), (7, .int .i64 2)] [] E (by kernel_rfl) trivial ?_
  clear E; intro a E
  refine wpList_nil ?_
  refine th_n ?_
  refine wp_ret ?_
  refine th_ret ?_
  obtain rfl := Option.some.inj hP
  refine ret2 E rfl rfl rfl ?_
  exact ⟨_, rfl, rfl, H.sel [] rfl⟩
 replace E := E_; clear E_
 have h30 : ¬ (q < 0) := of_decide_eq_false hb_
 clear hb_; replace hP := ite_f h30 hP
 refine vr tbok 7 [.slice A1 (List.length aAccept) c2] [(1, .int .i64 q), (2, .int .u8 ll), (3, .pointer (some ⟨g13, 0, none⟩)), (25, .bool (decide ((((List.length aAccept) : Nat) : Int) ≤ q)))] [World.cell? w24 ⟨g13, 1, none⟩ = some (.slice A1 (List.length aAccept) c2)] E (by kernel_rfl) ((H.box 3 rfl).cell (j := 1) rfl) ?_
 clear E; intro a E
 refine E.cases (t := 25) rfl (fun hb_ E_ => ?_) (fun hb_ E_ => ?_)
 ·
  replace E := E_; clear E_
  have h31 : (((List.length aAccept) : Nat) : Int) ≤ q := of_decide_eq_true hb_
  clear hb_; replace hP := ite_t h31 hP
  refine vr tbok 6 [] [(1, .int .i64 q), (2, .int .u8 ll), (3, .pointer (some ⟨g13, 0, none⟩)), (31, .bool true)] [] E (by kernel_rfl) trivial ?_
  clear E; intro a E
  refine wpList_nil ?_
  refine th_n ?_
  refine c_true E rfl ?_
  refine wp_seq ?_
  refine wp_region_lit ?_
  refine vr tbok 2 [] [(6, .int .i64 0), (7, .int .i64 2)] [] E (by kernel_rfl) trivial ?_
  clear E; intro a E
  refine wpList_nil ?_
  refine th_n ?_
  refine wp_ret ?_
  refine th_ret ?_
  obtain rfl := Option.some.inj hP
  refine ret2 E rfl rfl rfl ?_
  exact ⟨_, rfl, rfl, H.sel [] rfl⟩
 replace E := E_; clear E_
 have h32 : ¬ ((((List.length aAccept) : Nat) : Int) ≤ q) := of_decide_eq_false hb_
 clear hb_; replace hP := ite_f h32 hP
 refine vr tbok 3 [.int .i64 aProps] [(1, .int .i64 q), (2, .int .u8 ll), (3, .pointer (some ⟨g13, 0, none⟩)), (25, .bool false), (27, .int .i64 aProps), (28, .int .u8 ll)] [World.cell? w24 ⟨g13, 0, none⟩ = some (.int .i64 aProps)] E (by kernel_rfl) ((H.box 3 rfl).cell (j := 0) rfl) ?_
 clear E; intro a E
 obtain ⟨r33, h34, hP⟩ := bind_inv hP
 obtain ⟨Fa35, Hc36, hb37⟩ := H.call [] [] rfl rfl trivial
 refine e_call E rfl rfl Try.func29 rfl rfl rfl (letter_Fits_calls  aProps ll  Hc36 h34) ?_
 rintro v38 w39 a ⟨rfl, HR40⟩ E_
 replace E := E_ _ rfl; clear E_
 obtain ⟨H_, hc41⟩ := hb37 _ _ HR40 rfl
 replace H := H_; clear H_; try dsimp only [setn, addE, goneL] at H
 refine vr tbok 2 [] [(1, .int .i64 q), (2, .int .u8 ll), (3, .pointer (some ⟨g13, 0, none⟩)), (31, .bool (!r33))] [] E (by kernel_rfl) trivial ?_
 clear E; intro a E
 refine wpList_nil ?_
 refine th_n ?_
 refine E.cases (t := 31) rfl (fun hb_ E_ => ?_) (fun hb_ E_ => ?_)
 ·
  replace E := E_; clear E_
  have h42 : ¬ (r33 = true) := (ne_true_of_eq_false (not_t hb_))
  clear hb_; replace hP := ite_f h42 hP
  refine c_true E rfl ?_
  refine wp_seq ?_
  refine wp_region_lit ?_
  refine vr tbok 2 [] [(6, .int .i64 0), (7, .int .i64 2)] [] E (by kernel_rfl) trivial ?_
  clear E; intro a E
  refine wpList_nil ?_
  refine th_n ?_
  refine wp_ret ?_
  refine th_ret ?_
  obtain rfl := Option.some.inj hP
  refine ret2 E rfl rfl rfl ?_
  exact ⟨_, rfl, rfl, H.sel [] rfl⟩
 replace E := E_; clear E_
 have h43 : r33 = true := (not_f hb_)
 clear hb_; replace hP := ite_t h43 hP
 refine c_false E rfl ?_
 refine wp_skip ?_
 refine th_n ?_
 refine wp_seq ?_
 obtain ⟨g44, hP⟩ := ask_inv hP
 obtain ⟨b45, o46, e_b45⟩ := (H.rd 1 rds_ro).addr (idx_pos g44)
 subst e_b45
 obtain ⟨r47, h48, hP⟩ := bind_inv hP
 have HR59 := H
 refine dr_start (S := fun w_ => Chg (atL []) w39 w_) (by kernel_rfl) ?_
 intro w56 hc57
 have HS58 : Chg (atL []) w39 w56 := hc57.mono (fun _ _ h_ => h_.elim)
 replace H := H.ext hc57
 refine dr tbok (by kernel_rfl) [0, 1, 2, 3, 4, 5, 6, 7] [.slice A9 (List.length aNodes) c10, .slice (some ⟨b45, o46, none⟩) (List.length aGuard) c6, .int .i64 (List.getD aGuard (Int.toNat q) 0)] [(34, .slice A9 (List.length aNodes) c10), (39, .int .i64 (List.getD aGuard (Int.toNat q) 0)), (40, .int .u8 ll)] (fun w_ => [World.cell? w_ ⟨g13, 3, none⟩ = some (.slice A9 (List.length aNodes) c10), World.cell? w_ ⟨g13, 2, none⟩ = some (.slice (some ⟨b45, o46, none⟩) (List.length aGuard) c6), 0 ≤ q ∧ q < (((List.length aGuard) : Nat) : Int), World.cell? w_ ⟨b45, o46 + (Int.toNat q) * 1, none⟩ = some (.int .i64 (List.getD aGuard (Int.toNat q) 0))]) 6 E (fun _ _ => by kernel_rfl) (fun w_ hS_ => ⟨(HR59.boxk [] hS_ 3 rfl rfl).cell (j := 3) rfl, (HR59.boxk [] hS_ 3 rfl rfl).cell (j := 2) rfl, g44, Rds.at1 (HR59.rdk [] hS_ 1 rds_ro rfl) 0 g44⟩) (by kernel_rfl) HS58 ?_
 clear E; intro a E
 refine wpAnyH_all (rs := [8]) (by kernel_rfl) (by simp) ?_
 refine all1 ?_
 refine wpOp_of_list rfl ?_
 obtain ⟨Fa60, Hc61, hb62⟩ := H.call [] [(2, false)] rfl rfl trivial
 refine e_call E rfl rfl Try.func30 rfl rfl rfl (guard_Go_calls A9 c10 aNodes (List.getD aGuard (Int.toNat q) 0) ll hk11 Hc61 h48) ?_
 rintro v63 w64 a ⟨rfl, HR65⟩ E_
 replace E := E_ _ rfl; clear E_
 obtain ⟨H_, hc66⟩ := hb62 _ _ HR65 rfl
 replace HS58 := HS58.ext (callS_ext hc66)
 replace H := H_; clear H_; try dsimp only [setn, addE, goneL] at H
 refine wpList_nil ?_
 refine th_n ⟨HS58, ?_⟩
 refine dr tbok (by kernel_rfl) [9, 10, 11, 12, 13] [] [(9, .int .i64 r47.1)] (fun w_ => []) 0 E (fun _ _ => by kernel_rfl) (fun w_ hS_ => trivial) (by kernel_rfl) HS58 ?_
 clear E; intro a E
 refine dr_done (by kernel_rfl) ?_
 clear HS58 HR59
 refine th_n ?_
 refine wp_seq ?_
 refine wp_region_lit ?_
 refine vr tbok 3 [] [(6, .int .i64 r47.1), (7, .int .i64 0)] [] E (by kernel_rfl) trivial ?_
 clear E; intro a E
 refine wpList_nil ?_
 refine th_n ?_
 refine wp_ret ?_
 obtain rfl := Option.some.inj hP
 refine ret2 E rfl rfl rfl ?_
 exact ⟨_, rfl, rfl, H.sel [] rfl⟩

/-! slices.Equal[[]bool,bool] -/
def slices_Equal_bool_bool_l0 (N : Nat) (s : List Bool) (s_ : List Bool) : Nat → Int → Option (Unit ⊕ Bool)
  | 0, _ => none
  | m41 + 1, x25 =>
    if x25 < (((List.length s) : Nat) : Int) then
      ask (idx x25 (List.length s)) <|
      ask (idx x25 (List.length s_)) <|
      if (List.getD s (Int.toNat x25) false) = (List.getD s_ (Int.toNat x25) false) then
        ask (in64 (x25 + 1)) <|
        slices_Equal_bool_bool_l0 N s s_ m41 (x25 + 1)
      else
        some (Sum.inr false)
    else
      some (Sum.inl ())
def slices_Equal_bool_bool (N : Nat) (s : List Bool) (s_ : List Bool) : Option Bool :=
  if ((((List.length s) : Nat) : Int) : Int) = (((List.length s_) : Nat) : Int) then
    Option.bind (slices_Equal_bool_bool_l0 N s s_ N 0) fun x42 =>
    Sum.elim (fun x47 =>
      some true)
     (fun x63 =>
      some x63) x42
  else
    some false
set_option maxRecDepth 100000 in
set_option maxHeartbeats 4000000 in
theorem slices_Equal_bool_bool_calls {N : Nat} {S Fa : Nat → Prop} {w0 : World} {r : Bool} (A1 : Option Addr) (c2 : Nat) (A5 : Option Addr) (c6 : Nat) (s : List Bool) (s_ : List Bool) (hk3 : List.length s ≤ c2) (hk7 : List.length s_ ≤ c6) (H : Hp S Fa w0 w0 [.ro false cBool A1 s, .ro false cBool A5 s_]) (hP : slices_Equal_bool_bool N s s_ = some r) :
    Calls Try.prog 46 #[.slice A1 (List.length s) c2, .slice A5 (List.length s_) c6] w0 fun e w' => ∃ v, e = .returned v ∧ v = .bool r ∧ Hp S Fa w0 w' [] := by
 refine enterV (n := 26) Try.func46 rfl rfl rfl ?_
 intro a E
 replace E := E.pick [(0, .slice A1 (List.length s) c2), (1, .slice A5 (List.length s_) c6)] ⟨rfl, rfl, trivial⟩
 rw [slices_Equal_bool_bool] at hP
 refine wp_seq ?_
 refine wp_region_lit ?_
 refine vr tbok 1 [] [(0, .slice A1 (List.length s) c2), (1, .slice A5 (List.length s_) c6)] [] E (by kernel_rfl) trivial ?_
 clear E; intro a E
 refine wpList_nil ?_
 refine th_n ?_
 refine wp_seq ?_
 refine wp_seq ?_
 refine wp_region_lit ?_
 refine vr tbok 5 [] [(0, .slice A1 (List.length s) c2), (1, .slice A5 (List.length s_) c6), (10, .bool (((((List.length s) : Nat) : Int) : Int) != (((List.length s_) : Nat) : Int)))] [] E (by kernel_rfl) trivial ?_
 clear E; intro a E
 refine wpList_nil ?_
 refine th_n ?_
 refine E.cases (t := 10) rfl (fun hb_ E_ => ?_) (fun hb_ E_ => ?_)
 ·
  replace E := E_; clear E_
  have h9 : ¬ (((((List.length s) : Nat) : Int) : Int) = (((List.length s_) : Nat) : Int)) := bne_iff_ne.1 hb_
  clear hb_; replace hP := ite_f h9 hP
  refine c_true E rfl ?_
  refine wp_seq ?_
  refine wp_region_lit ?_
  refine vr tbok 1 [] [(4, .bool false)] [] E (by kernel_rfl) trivial ?_
  clear E; intro a E
  refine wpList_nil ?_
  refine th_n ?_
  refine wp_ret ?_
  refine th_ret ?_
  obtain rfl := Option.some.inj hP
  refine ret1 E rfl rfl ?_
  exact ⟨_, rfl, rfl, H.sel [] rfl⟩
 replace E := E_; clear E_
 have h10 : ((((List.length s) : Nat) : Int) : Int) = (((List.length s_) : Nat) : Int) := bne_eq_false_iff_eq.1 hb_
 clear hb_; replace hP := ite_t h10 hP
 refine c_false E rfl ?_
 refine wp_skip ?_
 refine th_n ?_
 refine wp_seq ?_
 refine wp_seq ?_
 refine wp_region_lit ?_
 refine vr tbok 3 [] [(0, .slice A1 (List.length s) c2), (1, .slice A5 (List.length s_) c6), (12, .int .i64 (((List.length s) : Nat) : Int)), (13, .int .i64 0)] [] E (by kernel_rfl) trivial ?_
 clear E; intro a E
 refine wpList_nil ?_
 refine th_n ?_
 refine wp_block ?_
 obtain ⟨x42, hL43, hK44⟩ := bind_inv hP
 clear hP
 refine loop_cut (fun i_ a w_ => (i_ = 0 ∧ ∃ (x47 : Unit), Fr a 26 [] ∧ Hp S Fa w0 w_ [] ∧ x42 = Sum.inl x47)) ?_ ?_
 ·
  refine loopV (fun m46 a w45 => ∃ (x25 : Int), Fr a 26 [(0, .slice A1 (List.length s) c2), (1, .slice A5 (List.length s_) c6), (12, .int .i64 (((List.length s) : Nat) : Int)), (13, .int .i64 x25)] ∧ Hp S Fa w0 w45 [.ro false cBool A1 s, .ro false cBool A5 s_] ∧ slices_Equal_bool_bool_l0 N s s_ m46 x25 = some x42) N ?_ ?_
  ·
   exact ⟨0, E.pick _ ⟨rfl, rfl, rfl, rfl, trivial⟩, H.sel [0, 1] rfl, hL43⟩
  clear E H hL43; intro m46 a w45 hI_
  obtain ⟨x25, E, H, hP⟩ := hI_
  obtain ⟨m41, rfl⟩ : ∃ q_, m46 = q_ + 1 := by cases m46 with | zero => rw [slices_Equal_bool_bool_l0] at hP; cases hP | succ q_ => exact ⟨q_, rfl⟩
  rw [slices_Equal_bool_bool_l0] at hP
  refine wp_seq ?_
  refine wp_region_lit ?_
  refine vr tbok 1 [] [(0, .slice A1 (List.length s) c2), (1, .slice A5 (List.length s_) c6), (12, .int .i64 (((List.length s) : Nat) : Int)), (13, .int .i64 x25), (14, .bool (decide (x25 < (((List.length s) : Nat) : Int))))] [] E (by kernel_rfl) trivial ?_
  clear E; intro a E
  refine wpList_nil ?_
  refine th_n ?_
  refine wp_seq ?_
  refine E.cases (t := 14) rfl (fun hb_ E_ => ?_) (fun hb_ E_ => ?_)
  ·
   replace E := E_; clear E_
   have h48 : x25 < (((List.length s) : Nat) : Int) := of_decide_eq_true hb_
   clear hb_; replace hP := ite_t h48 hP
   refine c_true E rfl ?_
   refine wp_skip ?_
   refine th_n ?_
   refine wp_seq ?_
   refine wp_block ?_
   refine wp_seq ?_
   refine wp_region_lit ?_
   refine vr tbok 2 [] [(0, .slice A1 (List.length s) c2), (1, .slice A5 (List.length s_) c6), (5, .int .i64 x25), (12, .int .i64 (((List.length s) : Nat) : Int)), (13, .int .i64 x25)] [] E (by kernel_rfl) trivial ?_
   clear E; intro a E
   refine wpList_nil ?_
   refine th_n ?_
   refine wp_seq ?_
   obtain ⟨g49, hP⟩ := ask_inv hP
   obtain ⟨b50, o51, e_b50⟩ := (H.rd 0 rds_ro).addr (idx_pos g49)
   subst e_b50
   obtain ⟨g52, hP⟩ := ask_inv hP
   obtain ⟨b53, o54, e_b53⟩ := (H.rd 1 rds_ro).addr (idx_pos g52)
   subst e_b53
   have HR58 := H
   refine dr_start (S := fun w_ => Chg (atL []) w45 w_) (by kernel_rfl) ?_
   intro w55 hc56
   have HS57 : Chg (atL []) w45 w55 := hc56.mono (fun _ _ h_ => h_.elim)
   replace H := H.ext hc56
   refine dr tbok (by kernel_rfl) [0, 1, 2, 3, 4, 5, 6, 7, 8] [.bool (List.getD s (Int.toNat x25) false), .bool (List.getD s_ (Int.toNat x25) false)] [(0, .slice (some ⟨b50, o51, none⟩) (List.length s) c2), (1, .slice (some ⟨b53, o54, none⟩) (List.length s_) c6), (12, .int .i64 (((List.length s) : Nat) : Int)), (13, .int .i64 x25), (24, .bool (!((List.getD s (Int.toNat x25) false) == (List.getD s_ (Int.toNat x25) false))))] (fun w_ => [0 ≤ x25 ∧ x25 < (((List.length s) : Nat) : Int), World.cell? w_ ⟨b50, o51 + (Int.toNat x25) * 1, none⟩ = some (.bool (List.getD s (Int.toNat x25) false)), 0 ≤ x25 ∧ x25 < (((List.length s_) : Nat) : Int), World.cell? w_ ⟨b53, o54 + (Int.toNat x25) * 1, none⟩ = some (.bool (List.getD s_ (Int.toNat x25) false))]) 0 E (fun _ _ => by kernel_rfl) (fun w_ hS_ => ⟨g49, Rds.at1 (HR58.rdk [] hS_ 0 rds_ro rfl) false g49, g52, Rds.at1 (HR58.rdk [] hS_ 1 rds_ro rfl) false g52⟩) (by kernel_rfl) HS57 ?_
   clear E; intro a E
   refine dr_done (by kernel_rfl) ?_
   clear HS57 HR58
   refine th_n ?_
   refine E.cases (t := 24) rfl (fun hb_ E_ => ?_) (fun hb_ E_ => ?_)
   ·
    replace E := E_; clear E_
    have h59 : ¬ ((List.getD s (Int.toNat x25) false) = (List.getD s_ (Int.toNat x25) false)) := (by simpa using hb_)
    clear hb_; replace hP := ite_f h59 hP
    refine c_true E rfl ?_
    refine wp_seq ?_
    refine wp_region_lit ?_
    refine vr tbok 1 [] [(4, .bool false)] [] E (by kernel_rfl) trivial ?_
    clear E; intro a E
    refine wpList_nil ?_
    refine th_n ?_
    refine wp_ret ?_
    refine bl_ret ?_
    refine th_ret ?_
    refine th_ret ?_
    refine .inr ⟨rfl, ?_⟩
    refine bl_ret ?_
    refine th_ret ?_
    have hx_ := Option.some.inj hP; subst hx_
    have hP : some (false) = some r := hK44
    obtain rfl := Option.some.inj hP
    refine ret1 E rfl rfl ?_
    exact ⟨_, rfl, rfl, H.sel [] rfl⟩
   replace E := E_; clear E_
   have h60 : (List.getD s (Int.toNat x25) false) = (List.getD s_ (Int.toNat x25) false) := (by simpa using hb_)
   clear hb_; replace hP := ite_t h60 hP
   refine c_false E rfl ?_
   refine wp_skip ?_
   refine bl_n ?_
   refine th_n ?_
   refine wp_region_lit ?_
   obtain ⟨g61, hP⟩ := ask_inv hP
   refine vr tbok 2 [.int .i64 (x25 + 1)] [(0, .slice (some ⟨b50, o51, none⟩) (List.length s) c2), (1, .slice (some ⟨b53, o54, none⟩) (List.length s_) c6), (12, .int .i64 (((List.length s) : Nat) : Int)), (13, .int .i64 (x25 + 1))] [IntKind.i64.wrap (x25 + 1) = x25 + 1] E (by kernel_rfl) (wrap_in g61) ?_
   clear E; intro a E
   refine wpList_nil ?_
   exact th_n ⟨m41, Nat.lt_succ_self _, x25 + 1, E.pick _ ⟨rfl, rfl, rfl, rfl, trivial⟩, H.sel [0, 1] rfl, hP⟩
  replace E := E_; clear E_
  have h62 : ¬ (x25 < (((List.length s) : Nat) : Int)) := of_decide_eq_false hb_
  clear hb_; replace hP := ite_f h62 hP
  refine c_false E rfl ?_
  refine wp_exit ?_
  refine th_exit ?_
  have hx_ := Option.some.inj hP
  refine th_exit (.inl ⟨0, rfl, ?_⟩)
  exact ⟨rfl, (), E.pick _ trivial, H.sel [] rfl, hx_.symm⟩
 clear E H hL43; intro i_ a w45 hM_
 obtain ⟨rfl, x47, E, H, hx_⟩ := hM_
 subst hx_; have hP := elim_l hK44
 clear hK44
 refine bl_hit ?_
 refine th_n ?_
 refine wp_seq ?_
 refine wp_region_lit ?_
 refine vr tbok 1 [] [(4, .bool true)] [] E (by kernel_rfl) trivial ?_
 clear E; intro a E
 refine wpList_nil ?_
 refine th_n ?_
 refine wp_ret ?_
 obtain rfl := Option.some.inj hP
 refine ret1 E rfl rfl ?_
 exact ⟨_, rfl, rfl, H.sel [] rfl⟩

/-! slices.Equal[[]int,int] -/
def slices_Equal_int_int_l0 (N : Nat) (s : List Int) (s_ : List Int) : Nat → Int → Option (Unit ⊕ Bool)
  | 0, _ => none
  | m41 + 1, x25 =>
    if x25 < (((List.length s) : Nat) : Int) then
      ask (idx x25 (List.length s)) <|
      ask (idx x25 (List.length s_)) <|
      if ((List.getD s (Int.toNat x25) 0) : Int) = (List.getD s_ (Int.toNat x25) 0) then
        ask (in64 (x25 + 1)) <|
        slices_Equal_int_int_l0 N s s_ m41 (x25 + 1)
      else
        some (Sum.inr false)
    else
      some (Sum.inl ())
def slices_Equal_int_int (N : Nat) (s : List Int) (s_ : List Int) : Option Bool :=
  if ((((List.length s) : Nat) : Int) : Int) = (((List.length s_) : Nat) : Int) then
    Option.bind (slices_Equal_int_int_l0 N s s_ N 0) fun x42 =>
    Sum.elim (fun x47 =>
      some true)
     (fun x63 =>
      some x63) x42
  else
    some false
set_option maxRecDepth 100000 in
set_option maxHeartbeats 4000000 in
theorem slices_Equal_int_int_calls {N : Nat} {S Fa : Nat → Prop} {w0 : World} {r : Bool} (A1 : Option Addr) (c2 : Nat) (A5 : Option Addr) (c6 : Nat) (s : List Int) (s_ : List Int) (hk3 : List.length s ≤ c2) (hk7 : List.length s_ ≤ c6) (H : Hp S Fa w0 w0 [.ro false (cInt .i64) A1 s, .ro false (cInt .i64) A5 s_]) (hP : slices_Equal_int_int N s s_ = some r) :
    Calls Try.prog 47 #[.slice A1 (List.length s) c2, .slice A5 (List.length s_) c6] w0 fun e w' => ∃ v, e = .returned v ∧ v = .bool r ∧ Hp S Fa w0 w' [] := by
 refine enterV (n := 26) Try.func47 rfl rfl rfl ?_
 intro a E
 replace E := E.pick [(0, .slice A1 (List.length s) c2), (1, .slice A5 (List.length s_) c6)] ⟨rfl, rfl, trivial⟩
 rw [slices_Equal_int_int] at hP
 refine wp_seq ?_
 refine wp_region_lit ?_
 refine vr tbok 1 [] [(0, .slice A1 (List.length s) c2), (1, .slice A5 (List.length s_) c6)] [] E (by kernel_rfl) trivial ?_
 clear E; intro a E
 refine wpList_nil ?_
 refine th_n ?_
 refine wp_seq ?_
 refine wp_seq ?_
 refine wp_region_lit ?_
 refine vr tbok 5 [] [(0, .slice A1 (List.length s) c2), (1, .slice A5 (List.length s_) c6), (10, .bool (((((List.length s) : Nat) : Int) : Int) != (((List.length s_) : Nat) : Int)))] [] E (by kernel_rfl) trivial ?_
 clear E; intro a E
 refine wpList_nil ?_
 refine th_n ?_
 refine E.cases (t := 10) rfl (fun hb_ E_ => ?_) (fun hb_ E_ => ?_)
 ·
  replace E := E_; clear E_
  have h9 : ¬ (((((List.length s) : Nat) : Int) : Int) = (((List.length s_) : Nat) : Int)) := bne_iff_ne.1 hb_
  clear hb_; replace hP := ite_f h9 hP
  refine c_true E rfl ?_
  refine wp_seq ?_
  refine wp_region_lit ?_
  refine vr tbok 1 [] [(4, .bool false)] [] E (by kernel_rfl) trivial ?_
  clear E; intro a E
  refine wpList_nil ?_
  refine th_n ?_
  refine wp_ret ?_
  refine th_ret ?_
  obtain rfl := Option.some.inj hP
  refine ret1 E rfl rfl ?_
  exact ⟨_, rfl, rfl, H.sel [] rfl⟩
 replace E := E_; clear E_
 have h10 : ((((List.length s) : Nat) : Int) : Int) = (((List.length s_) : Nat) : Int) := bne_eq_false_iff_eq.1 hb_
 clear hb_; replace hP := ite_t h10 hP
 refine c_false E rfl ?_
 refine wp_skip ?_
 refine th_n ?_
 refine wp_seq ?_
 refine wp_seq ?_
 refine wp_region_lit ?_
 refine vr tbok 3 [] [(0, .slice A1 (List.length s) c2), (1, .slice A5 (List.length s_) c6), (12, .int .i64 (((List.length s) : Nat) : Int)), (13, .int .i64 0)] [] E (by kernel_rfl) trivial ?_
 clear E; intro a E
 refine wpList_nil ?_
 refine th_n ?_
 refine wp_block ?_
 obtain ⟨x42, hL43, hK44⟩ := bind_inv hP
 clear hP
 refine loop_cut (fun i_ a w_ => (i_ = 0 ∧ ∃ (x47 : Unit), Fr a 26 [] ∧ Hp S Fa w0 w_ [] ∧ x42 = Sum.inl x47)) ?_ ?_
 ·
  refine loopV (fun m46 a w45 => ∃ (x25 : Int), Fr a 26 [(0, .slice A1 (List.length s) c2), (1, .slice A5 (List.length s_) c6), (12, .int .i64 (((List.length s) : Nat) : Int)), (13, .int .i64 x25)] ∧ Hp S Fa w0 w45 [.ro false (cInt .i64) A1 s, .ro false (cInt .i64) A5 s_] ∧ slices_Equal_int_int_l0 N s s_ m46 x25 = some x42) N ?_ ?_
  ·
   exact ⟨0, E.pick _ ⟨rfl, rfl, rfl, rfl, trivial⟩, H.sel [0, 1] rfl, hL43⟩
  clear E H hL43; intro m46 a w45 hI_
  obtain ⟨x25, E, H, hP⟩ := hI_
  obtain ⟨m41, rfl⟩ : ∃ q_, m46 = q_ + 1 := by cases m46 with | zero => rw [slices_Equal_int_int_l0] at hP; cases hP | succ q_ => exact ⟨q_, rfl⟩
  rw [slices_Equal_int_int_l0] at hP
  refine wp_seq ?_
  refine wp_region_lit ?_
  refine vr tbok 1 [] [(0, .slice A1 (List.length s) c2), (1, .slice A5 (List.length s_) c6), (12, .int .i64 (((List.length s) : Nat) : Int)), (13, .int .i64 x25), (14, .bool (decide (x25 < (((List.length s) : Nat) : Int))))] [] E (by kernel_rfl) trivial ?_
  clear E; intro a E
  refine wpList_nil ?_
  refine th_n ?_
  refine wp_seq ?_
  refine E.cases (t := 14) rfl (fun hb_ E_ => ?_) (fun hb_ E_ => ?_)
  ·
   replace E := E_; clear E_
   have h48 : x25 < (((List.length s) : Nat) : Int) := of_decide_eq_true hb_
   clear hb_; replace hP := ite_t h48 hP
   refine c_true E rfl ?_
   refine wp_skip ?_
   refine th_n ?_
   refine wp_seq ?_
   refine wp_block ?_
   refine wp_seq ?_
   refine wp_region_lit ?_
   refine vr tbok 2 [] [(0, .slice A1 (List.length s) c2), (1, .slice A5 (List.length s_) c6), (5, .int .i64 x25), (12, .int .i64 (((List.length s) : Nat) : Int)), (13, .int .i64 x25)] [] E (by kernel_rfl) trivial ?_
   clear E; intro a E
   refine wpList_nil ?_
   refine th_n ?_
   refine wp_seq ?_
   obtain ⟨g49, hP⟩ := ask_inv hP
   obtain ⟨b50, o51, e_b50⟩ := (H.rd 0 rds_ro).addr (idx_pos g49)
   subst e_b50
   obtain ⟨g52, hP⟩ := ask_inv hP
   obtain ⟨b53, o54, e_b53⟩ := (H.rd 1 rds_ro).addr (idx_pos g52)
   subst e_b53
   have HR58 := H
   refine dr_start (S := fun w_ => Chg (atL []) w45 w_) (by kernel_rfl) ?_
   intro w55 hc56
   have HS57 : Chg (atL []) w45 w55 := hc56.mono (fun _ _ h_ => h_.elim)
   replace H := H.ext hc56
   refine dr tbok (by kernel_rfl) [0, 1, 2, 3, 4, 5, 6, 7, 8] [.int .i64 (List.getD s (Int.toNat x25) 0), .int .i64 (List.getD s_ (Int.toNat x25) 0)] [(0, .slice (some ⟨b50, o51, none⟩) (List.length s) c2), (1, .slice (some ⟨b53, o54, none⟩) (List.length s_) c6), (12, .int .i64 (((List.length s) : Nat) : Int)), (13, .int .i64 x25), (24, .bool (((List.getD s (Int.toNat x25) 0) : Int) != (List.getD s_ (Int.toNat x25) 0)))] (fun w_ => [0 ≤ x25 ∧ x25 < (((List.length s) : Nat) : Int), World.cell? w_ ⟨b50, o51 + (Int.toNat x25) * 1, none⟩ = some (.int .i64 (List.getD s (Int.toNat x25) 0)), 0 ≤ x25 ∧ x25 < (((List.length s_) : Nat) : Int), World.cell? w_ ⟨b53, o54 + (Int.toNat x25) * 1, none⟩ = some (.int .i64 (List.getD s_ (Int.toNat x25) 0))]) 0 E (fun _ _ => by kernel_rfl) (fun w_ hS_ => ⟨g49, Rds.at1 (HR58.rdk [] hS_ 0 rds_ro rfl) 0 g49, g52, Rds.at1 (HR58.rdk [] hS_ 1 rds_ro rfl) 0 g52⟩) (by kernel_rfl) HS57 ?_
   clear E; intro a E
   refine dr_done (by kernel_rfl) ?_
   clear HS57 HR58
   refine th_n ?_
   refine E.cases (t := 24) rfl (fun hb_ E_ => ?_) (fun hb_ E_ => ?_)
   ·
    replace E := E_; clear E_
    have h59 : ¬ (((List.getD s (Int.toNat x25) 0) : Int) = (List.getD s_ (Int.toNat x25) 0)) := bne_iff_ne.1 hb_
    clear hb_; replace hP := ite_f h59 hP
    refine c_true E rfl ?_
    refine wp_seq ?_
    refine wp_region_lit ?_
    refine vr tbok 1 [] [(4, .bool false)] [] E (by kernel_rfl) trivial ?_
    clear E; intro a E
    refine wpList_nil ?_
    refine th_n ?_
    refine wp_ret ?_
    refine bl_ret ?_
    refine th_ret ?_
    refine th_ret ?_
    refine .inr ⟨rfl, ?_⟩
    refine bl_ret ?_
    refine th_ret ?_
    have hx_ := Option.some.inj hP; subst hx_
    have hP : some (false) = some r := hK44
    obtain rfl := Option.some.inj hP
    refine ret1 E rfl rfl ?_
    exact ⟨_, rfl, rfl, H.sel [] rfl⟩
   replace E := E_; clear E_
   have h60 : ((List.getD s (Int.toNat x25) 0) : Int) = (List.getD s_ (Int.toNat x25) 0) := bne_eq_false_iff_eq.1 hb_
   clear hb_; replace hP := ite_t h60 hP
   refine c_false E rfl ?_
   refine wp_skip ?_
   refine bl_n ?_
   refine th_n ?_
   refine wp_region_lit ?_
   obtain ⟨g61, hP⟩ := ask_inv hP
   refine vr tbok 2 [.int .i64 (x25 + 1)] [(0, .slice (some ⟨b50, o51, none⟩) (List.length s) c2), (1, .slice (some ⟨b53, o54, none⟩) (List.length s_) c6), (12, .int .i64 (((List.length s) : Nat) : Int)), (13, .int .i64 (x25 + 1))] [IntKind.i64.wrap (x25 + 1) = x25 + 1] E (by kernel_rfl) (wrap_in g61) ?_
   clear E; intro a E
   refine wpList_nil ?_
   exact th_n ⟨m41, Nat.lt_succ_self _, x25 + 1, E.pick _ ⟨rfl, rfl, rfl, rfl, trivial⟩, H.sel [0, 1] rfl, hP⟩
  replace E := E_; clear E_
  have h62 : ¬ (x25 < (((List.length s) : Nat) : Int)) := of_decide_eq_false hb_
  clear hb_; replace hP := ite_f h62 hP
  refine c_false E rfl ?_
  refine wp_exit ?_
  refine th_exit ?_
  have hx_ := Option.some.inj hP
  refine th_exit (.inl ⟨0, rfl, ?_⟩)
  exact ⟨rfl, (), E.pick _ trivial, H.sel [] rfl, hx_.symm⟩
 clear E H hL43; intro i_ a w45 hM_
 obtain ⟨rfl, x47, E, H, hx_⟩ := hM_
 subst hx_; have hP := elim_l hK44
 clear hK44
 refine bl_hit ?_
 refine th_n ?_
 refine wp_seq ?_
 refine wp_region_lit ?_
 refine vr tbok 1 [] [(4, .bool true)] [] E (by kernel_rfl) trivial ?_
 clear E; intro a E
 refine wpList_nil ?_
 refine th_n ?_
 refine wp_ret ?_
 obtain rfl := Option.some.inj hP
 refine ret1 E rfl rfl ?_
 exact ⟨_, rfl, rfl, H.sel [] rfl⟩

/-! slices.Equal[[]rejoinder/api.Node,rejoinder/api.Node] -/
def slices_Equal_api_Node_api_Node_l0 (N : Nat) (s : List Nd) (s_ : List Nd) : Nat → Int → Option (Unit ⊕ Bool)
  | 0, _ => none
  | m41 + 1, x25 =>
    if x25 < (((List.length s) : Nat) : Int) then
      ask (idx x25 (List.length s)) <|
      ask (idx x25 (List.length s_)) <|
      if (List.getD s (Int.toNat x25) (default : Nd)) = (List.getD s_ (Int.toNat x25) (default : Nd)) then
        ask (in64 (x25 + 1)) <|
        slices_Equal_api_Node_api_Node_l0 N s s_ m41 (x25 + 1)
      else
        some (Sum.inr false)
    else
      some (Sum.inl ())
def slices_Equal_api_Node_api_Node (N : Nat) (s : List Nd) (s_ : List Nd) : Option Bool :=
  if ((((List.length s) : Nat) : Int) : Int) = (((List.length s_) : Nat) : Int) then
    Option.bind (slices_Equal_api_Node_api_Node_l0 N s s_ N 0) fun x42 =>
    Sum.elim (fun x47 =>
      some true)
     (fun x63 =>
      some x63) x42
  else
    some false
set_option maxRecDepth 100000 in
set_option maxHeartbeats 4000000 in
theorem slices_Equal_api_Node_api_Node_calls {N : Nat} {S Fa : Nat → Prop} {w0 : World} {r : Bool} (A1 : Option Addr) (c2 : Nat) (A5 : Option Addr) (c6 : Nat) (s : List Nd) (s_ : List Nd) (hk3 : List.length s ≤ c2) (hk7 : List.length s_ ≤ c6) (H : Hp S Fa w0 w0 [.ro false cNode A1 s, .ro false cNode A5 s_]) (hP : slices_Equal_api_Node_api_Node N s s_ = some r) :
    Calls Try.prog 48 #[.slice A1 (List.length s) c2, .slice A5 (List.length s_) c6] w0 fun e w' => ∃ v, e = .returned v ∧ v = .bool r ∧ Hp S Fa w0 w' [] := by
 refine enterV (n := 26) Try.func48 rfl rfl rfl ?_
 intro a E
 replace E := E.pick [(0, .slice A1 (List.length s) c2), (1, .slice A5 (List.length s_) c6)] ⟨rfl, rfl, trivial⟩
 rw [slices_Equal_api_Node_api_Node] at hP
 refine wp_seq ?_
 refine wp_region_lit ?_
 refine vr tbok 1 [] [(0, .slice A1 (List.length s) c2), (1, .slice A5 (List.length s_) c6)] [] E (by kernel_rfl) trivial ?_
 clear E; intro a E
 refine wpList_nil ?_
 refine th_n ?_
 refine wp_seq ?_
 refine wp_seq ?_
 refine wp_region_lit ?_
 refine vr tbok 5 [] [(0, .slice A1 (List.length s) c2), (1, .slice A5 (List.length s_) c6), (10, .bool (((((List.length s) : Nat) : Int) : Int) != (((List.length s_) : Nat) : Int)))] [] E (by kernel_rfl) trivial ?_
 clear E; intro a E
 refine wpList_nil ?_
 refine th_n ?_
 refine E.cases (t := 10) rfl (fun hb_ E_ => ?_) (fun hb_ E_ => ?_)
 ·
  replace E := E_; clear E_
  have h9 : ¬ (((((List.length s) : Nat) : Int) : Int) = (((List.length s_) : Nat) : Int)) := bne_iff_ne.1 hb_
  clear hb_; replace hP := ite_f h9 hP
  refine c_true E rfl ?_
  refine wp_seq ?_
  refine wp_region_lit ?_
  refine vr tbok 1 [] [(4, .bool false)] [] E (by kernel_rfl) trivial ?_
  clear E; intro a E
  refine wpList_nil ?_
  refine th_n ?_
  refine wp_ret ?_
  refine th_ret ?_
  obtain rfl := Option.some.inj hP
  refine ret1 E rfl rfl ?_
  exact ⟨_, rfl, rfl, H.sel [] rfl⟩
 replace E := E_; clear E_
 have h10 : ((((List.length s) : Nat) : Int) : Int) = (((List.length s_) : Nat) : Int) := bne_eq_false_iff_eq.1 hb_
 clear hb_; replace hP := ite_t h10 hP
 refine c_false E rfl ?_
 refine wp_skip ?_
 refine th_n ?_
 refine wp_seq ?_
 refine wp_seq ?_
 refine wp_region_lit ?_
 refine vr tbok 3 [] [(0, .slice A1 (List.length s) c2), (1, .slice A5 (List.length s_) c6), (12, .int .i64 (((List.length s) : Nat) : Int)), (13, .int .i64 0)] [] E (by kernel_rfl) trivial ?_
 clear E; intro a E
 refine wpList_nil ?_
 refine th_n ?_
 refine wp_block ?_
 obtain ⟨x42, hL43, hK44⟩ := bind_inv hP
 clear hP
 refine loop_cut (fun i_ a w_ => (i_ = 0 ∧ ∃ (x47 : Unit), Fr a 26 [] ∧ Hp S Fa w0 w_ [] ∧ x42 = Sum.inl x47)) ?_ ?_
 ·
  refine loopV (fun m46 a w45 => ∃ (x25 : Int), Fr a 26 [(0, .slice A1 (List.length s) c2), (1, .slice A5 (List.length s_) c6), (12, .int .i64 (((List.length s) : Nat) : Int)), (13, .int .i64 x25)] ∧ Hp S Fa w0 w45 [.ro false cNode A1 s, .ro false cNode A5 s_] ∧ slices_Equal_api_Node_api_Node_l0 N s s_ m46 x25 = some x42) N ?_ ?_
  ·
   exact ⟨0, E.pick _ ⟨rfl, rfl, rfl, rfl, trivial⟩, H.sel [0, 1] rfl, hL43⟩
  clear E H hL43; intro m46 a w45 hI_
  obtain ⟨x25, E, H, hP⟩ := hI_
  obtain ⟨m41, rfl⟩ : ∃ q_, m46 = q_ + 1 := by cases m46 with | zero => rw [slices_Equal_api_Node_api_Node_l0] at hP; cases hP | succ q_ => exact ⟨q_, rfl⟩
  rw [slices_Equal_api_Node_api_Node_l0] at hP
  refine wp_seq ?_
  refine wp_region_lit ?_
  refine vr tbok 1 [] [(0, .slice A1 (List.length s) c2), (1, .slice A5 (List.length s_) c6), (12, .int .i64 (((List.length s) : Nat) : Int)), (13, .int .i64 x25), (14, .bool (decide (x25 < (((List.length s) : Nat) : Int))))] [] E (by kernel_rfl) trivial ?_
  clear E; intro a E
  refine wpList_nil ?_
  refine th_n ?_
  refine wp_seq ?_
  refine E.cases (t := 14) rfl (fun hb_ E_ => ?_) (fun hb_ E_ => ?_)
  ·
   replace E := E_; clear E_
   have h48 : x25 < (((List.length s) : Nat) : Int) := of_decide_eq_true hb_
   clear hb_; replace hP := ite_t h48 hP
   refine c_true E rfl ?_
   refine wp_skip ?_
   refine th_n ?_
   refine wp_seq ?_
   refine wp_block ?_
   refine wp_seq ?_
   refine wp_region_lit ?_
   refine vr tbok 2 [] [(0, .slice A1 (List.length s) c2), (1, .slice A5 (List.length s_) c6), (5, .int .i64 x25), (12, .int .i64 (((List.length s) : Nat) : Int)), (13, .int .i64 x25)] [] E (by kernel_rfl) trivial ?_
   clear E; intro a E
   refine wpList_nil ?_
   refine th_n ?_
   refine wp_seq ?_
   obtain ⟨g49, hP⟩ := ask_inv hP
   obtain ⟨b50, o51, e_b50⟩ := (H.rd 0 rds_ro).addr (idx_pos g49)
   subst e_b50
   obtain ⟨g52, hP⟩ := ask_inv hP
   obtain ⟨b53, o54, e_b53⟩ := (H.rd 1 rds_ro).addr (idx_pos g52)
   subst e_b53
   have HR58 := H
   refine dr_start (S := fun w_ => Chg (atL []) w45 w_) (by kernel_rfl) ?_
   intro w55 hc56
   have HS57 : Chg (atL []) w45 w55 := hc56.mono (fun _ _ h_ => h_.elim)
   replace H := H.ext hc56
   refine dr tbok (by kernel_rfl) [0, 1, 2, 3, 4, 5, 6, 7] [.agg #[.int .i64 ((List.getD s (Int.toNat x25) (default : Nd)).P), .int .i64 ((List.getD s (Int.toNat x25) (default : Nd)).Lo), .int .i64 ((List.getD s (Int.toNat x25) (default : Nd)).Hi)], .agg #[.int .i64 ((List.getD s_ (Int.toNat x25) (default : Nd)).P), .int .i64 ((List.getD s_ (Int.toNat x25) (default : Nd)).Lo), .int .i64 ((List.getD s_ (Int.toNat x25) (default : Nd)).Hi)]] [(0, .slice (some ⟨b50, o51, none⟩) (List.length s) c2), (1, .slice (some ⟨b53, o54, none⟩) (List.length s_) c6), (12, .int .i64 (((List.length s) : Nat) : Int)), (13, .int .i64 x25), (19, .agg #[.int .i64 ((List.getD s (Int.toNat x25) (default : Nd)).P), .int .i64 ((List.getD s (Int.toNat x25) (default : Nd)).Lo), .int .i64 ((List.getD s (Int.toNat x25) (default : Nd)).Hi)]), (23, .agg #[.int .i64 ((List.getD s_ (Int.toNat x25) (default : Nd)).P), .int .i64 ((List.getD s_ (Int.toNat x25) (default : Nd)).Lo), .int .i64 ((List.getD s_ (Int.toNat x25) (default : Nd)).Hi)])] (fun w_ => [0 ≤ x25 ∧ x25 < (((List.length s) : Nat) : Int), cellsAt w_ b50 (o51 + (Int.toNat x25) * 3) [.int .i64 ((List.getD s (Int.toNat x25) (default : Nd)).P), .int .i64 ((List.getD s (Int.toNat x25) (default : Nd)).Lo), .int .i64 ((List.getD s (Int.toNat x25) (default : Nd)).Hi)], 0 ≤ x25 ∧ x25 < (((List.length s_) : Nat) : Int), cellsAt w_ b53 (o54 + (Int.toNat x25) * 3) [.int .i64 ((List.getD s_ (Int.toNat x25) (default : Nd)).P), .int .i64 ((List.getD s_ (Int.toNat x25) (default : Nd)).Lo), .int .i64 ((List.getD s_ (Int.toNat x25) (default : Nd)).Hi)]]) 1 E (fun _ _ => by kernel_rfl) (fun w_ hS_ => ⟨g49, Rds.atP (HR58.rdk [] hS_ 0 rds_ro rfl) (default : Nd) g49, g52, Rds.atP (HR58.rdk [] hS_ 1 rds_ro rfl) (default : Nd) g52⟩) (by kernel_rfl) HS57 ?_
   clear E; intro a E
   refine wpAnyH_all (rs := [8]) (by kernel_rfl) (by simp) ?_
   refine all1 ?_
   refine wpOp_of_list rfl ?_
   refine e_eqS E rfl rfl rfl rfl grdNd (eqNd (List.getD s (Int.toNat x25) (default : Nd)) (List.getD s_ (Int.toNat x25) (default : Nd)) _) (!decide ((List.getD s (Int.toNat x25) (default : Nd)) = (List.getD s_ (Int.toNat x25) (default : Nd)))) (.inr ⟨rfl, rfl⟩) rfl ?_
   clear E; intro a E
   refine wpList_nil ?_
   refine th_n ⟨HS57, ?_⟩
   refine dr_done (by kernel_rfl) ?_
   clear HS57 HR58
   refine th_n ?_
   refine E.cases (t := 24) rfl (fun hb_ E_ => ?_) (fun hb_ E_ => ?_)
   ·
    replace E := E_; clear E_
    have h59 : ¬ ((List.getD s (Int.toNat x25) (default : Nd)) = (List.getD s_ (Int.toNat x25) (default : Nd))) := of_decide_eq_false (not_t hb_)
    clear hb_; replace hP := ite_f h59 hP
    refine c_true E rfl ?_
    refine wp_seq ?_
    refine wp_region_lit ?_
    refine vr tbok 1 [] [(4, .bool false)] [] E (by kernel_rfl) trivial ?_
    clear E; intro a E
    refine wpList_nil ?_
    refine th_n ?_
    refine wp_ret ?_
    refine bl_ret ?_
    refine th_ret ?_
    refine th_ret ?_
    refine .inr ⟨rfl, ?_⟩
    refine bl_ret ?_
    refine th_ret ?_
    have hx_ := Option.some.inj hP; subst hx_
    have hP : some (false) = some r := hK44
    obtain rfl := Option.some.inj hP
    refine ret1 E rfl rfl ?_
    exact ⟨_, rfl, rfl, H.sel [] rfl⟩
   replace E := E_; clear E_
   have h60 : (List.getD s (Int.toNat x25) (default : Nd)) = (List.getD s_ (Int.toNat x25) (default : Nd)) := of_decide_eq_true (not_f hb_)
   clear hb_; replace hP := ite_t h60 hP
   refine c_false E rfl ?_
   refine wp_skip ?_
   refine bl_n ?_
   refine th_n ?_
   refine wp_region_lit ?_
   obtain ⟨g61, hP⟩ := ask_inv hP
   refine vr tbok 2 [.int .i64 (x25 + 1)] [(0, .slice (some ⟨b50, o51, none⟩) (List.length s) c2), (1, .slice (some ⟨b53, o54, none⟩) (List.length s_) c6), (12, .int .i64 (((List.length s) : Nat) : Int)), (13, .int .i64 (x25 + 1))] [IntKind.i64.wrap (x25 + 1) = x25 + 1] E (by kernel_rfl) (wrap_in g61) ?_
   clear E; intro a E
   refine wpList_nil ?_
   exact th_n ⟨m41, Nat.lt_succ_self _, x25 + 1, E.pick _ ⟨rfl, rfl, rfl, rfl, trivial⟩, H.sel [0, 1] rfl, hP⟩
  replace E := E_; clear E_
  have h62 : ¬ (x25 < (((List.length s) : Nat) : Int)) := of_decide_eq_false hb_
  clear hb_; replace hP := ite_f h62 hP
  refine c_false E rfl ?_
  refine wp_exit ?_
  refine th_exit ?_
  have hx_ := Option.some.inj hP
  refine th_exit (.inl ⟨0, rfl, ?_⟩)
  exact ⟨rfl, (), E.pick _ trivial, H.sel [] rfl, hx_.symm⟩
 clear E H hL43; intro i_ a w45 hM_
 obtain ⟨rfl, x47, E, H, hx_⟩ := hM_
 subst hx_; have hP := elim_l hK44
 clear hK44
 refine bl_hit ?_
 refine th_n ?_
 refine wp_seq ?_
 refine wp_region_lit ?_
 refine vr tbok 1 [] [(4, .bool true)] [] E (by kernel_rfl) trivial ?_
 clear E; intro a E
 refine wpList_nil ?_
 refine th_n ?_
 refine wp_ret ?_
 obtain rfl := Option.some.inj hP
 refine ret1 E rfl rfl ?_
 exact ⟨_, rfl, rfl, H.sel [] rfl⟩

/-! rejoinder/canon.Same -/
def canon_Same (N : Nat) (aProps : Int) (aAccept : List Bool) (aGuard : List Int) (aNodes : List Nd) (bProps : Int) (bAccept : List Bool) (bGuard : List Int) (bNodes : List Nd) : Option Bool :=
  if (aProps : Int) = bProps then
    Option.bind (slices_Equal_bool_bool N aAccept bAccept) fun r36 =>
    if r36 = true then
      Option.bind (slices_Equal_int_int N aGuard bGuard) fun r46 =>
      if r46 = true then
        Option.bind (slices_Equal_api_Node_api_Node N aNodes bNodes) fun r56 =>
        some r56
      else
        some false
    else
      some false
  else
    some false
set_option maxRecDepth 100000 in
set_option maxHeartbeats 4000000 in
theorem canon_Same_calls {N : Nat} {S Fa : Nat → Prop} {w0 : World} {r : Bool} (A1 : Option Addr) (c2 : Nat) (A5 : Option Addr) (c6 : Nat) (A9 : Option Addr) (c10 : Nat) (A13 : Option Addr) (c14 : Nat) (A17 : Option Addr) (c18 : Nat) (A21 : Option Addr) (c22 : Nat) (aProps : Int) (aAccept : List Bool) (aGuard : List Int) (aNodes : List Nd) (bProps : Int) (bAccept : List Bool) (bGuard : List Int) (bNodes : List Nd) (hk3 : List.length aAccept ≤ c2) (hk7 : List.length aGuard ≤ c6) (hk11 : List.length aNodes ≤ c10) (hk15 : List.length bAccept ≤ c14) (hk19 : List.length bGuard ≤ c18) (hk23 : List.length bNodes ≤ c22) (H : Hp S Fa w0 w0 [.ro false cBool A1 aAccept, .ro false (cInt .i64) A5 aGuard, .ro false cNode A9 aNodes, .ro false cBool A13 bAccept, .ro false (cInt .i64) A17 bGuard, .ro false cNode A21 bNodes]) (hP : canon_Same N aProps aAccept aGuard aNodes bProps bAccept bGuard bNodes = some r) :
    Calls Try.prog 22 #[.agg #[.int .i64 aProps, .slice A1 (List.length aAccept) c2, .slice A5 (List.length aGuard) c6, .slice A9 (List.length aNodes) c10], .agg #[.int .i64 bProps, .slice A13 (List.length bAccept) c14, .slice A17 (List.length bGuard) c18, .slice A21 (List.length bNodes) c22]] w0 fun e w' => ∃ v, e = .returned v ∧ v = .bool r ∧ Hp S Fa w0 w' [] := by
 refine enterV (n := 31) Try.func22 rfl rfl rfl ?_
 intro a E
 replace E := E.pick [(0, .agg #[.int .i64 aProps, .slice A1 (List.length aAccept) c2, .slice A5 (List.length aGuard) c6, .slice A9 (List.length aNodes) c10]), (1, .agg #[.int .i64 bProps, .slice A13 (List.length bAccept) c14, .slice A17 (List.length bGuard) c18, .slice A21 (List.length bNodes) c22])] ⟨rfl, rfl, trivial⟩
 rw [canon_Same] at hP
 refine wp_seq ?_
 refine wp_region_lit ?_
 refine h_box H E rfl rfl rfl ?_
 intro w26 g25 a hc27 hg29 H_ E_
 replace E := E_ _ rfl; clear E_
 replace H := H_; clear H_; try dsimp only [setn, addE, goneL] at H
 refine h_box H E rfl rfl rfl ?_
 intro w31 g30 a hc32 hg34 H_ E_
 replace E := E_ _ rfl; clear E_
 replace H := H_; clear H_; try dsimp only [setn, addE, goneL] at H
 refine vr tbok 1 [] [(2, .pointer (some ⟨g25, 0, none⟩)), (3, .pointer (some ⟨g30, 0, none⟩))] [] E (by kernel_rfl) trivial ?_
 clear E; intro a E
 refine wpList_nil ?_
 refine th_n ?_
 refine wp_seq ?_
 refine wp_region_lit ?_
 refine vr tbok 6 [.int .i64 aProps, .int .i64 bProps] [(2, .pointer (some ⟨g25, 0, none⟩)), (3, .pointer (some ⟨g30, 0, none⟩)), (10, .bool ((aProps : Int) == bProps))] [World.cell? w31 ⟨g25, 0, none⟩ = some (.int .i64 aProps), World.cell? w31 ⟨g30, 0, none⟩ = some (.int .i64 bProps)] E (by kernel_rfl) ⟨(H.box 6 rfl).cell (j := 0) rfl, (H.box 7 rfl).cell (j := 0) rfl⟩ ?_
 clear E; intro a E
 refine E.cases (t := 10) rfl (fun hb_ E_ => ?_) (fun hb_ E_ => ?_)
 ·
  replace E := E_; clear E_
  have h35 : (aProps : Int) = bProps := eq_of_beq hb_
  clear hb_; replace hP := ite_t h35 hP
  refine vr tbok 4 [.slice A1 (List.length aAccept) c2, .slice A13 (List.length bAccept) c14] [(2, .pointer (some ⟨g25, 0, none⟩)), (3, .pointer (some ⟨g30, 0, none⟩)), (10, .bool true), (12, .slice A1 (List.length aAccept) c2), (14, .slice A13 (List.length bAccept) c14)] [World.cell? w31 ⟨g25, 1, none⟩ = some (.slice A1 (List.length aAccept) c2), World.cell? w31 ⟨g30, 1, none⟩ = some (.slice A13 (List.length bAccept) c14)] E (by kernel_rfl) ⟨(H.box 6 rfl).cell (j := 1) rfl, (H.box 7 rfl).cell (j := 1) rfl⟩ ?_
  clear E; intro a E
  obtain ⟨r36, h37, hP⟩ := bind_inv hP
  obtain ⟨Fa38, Hc39, hb40⟩ := H.call [] [(0, false), (3, false)] rfl rfl trivial
  refine e_call E rfl rfl Try.func46 rfl rfl rfl (slices_Equal_bool_bool_calls A1 c2 A13 c14 aAccept bAccept hk3 hk15 Hc39 h37) ?_
  rintro v41 w42 a ⟨rfl, HR43⟩ E_
  replace E := E_ _ rfl; clear E_
  obtain ⟨H_, hc44⟩ := hb40 _ _ HR43 rfl
  replace H := H_; clear H_; try dsimp only [setn, addE, goneL] at H
  refine vr tbok 2 [] [(2, .pointer (some ⟨g25, 0, none⟩)), (3, .pointer (some ⟨g30, 0, none⟩)), (17, .bool r36)] [] E (by kernel_rfl) trivial ?_
  clear E; intro a E
  refine E.cases (t := 17) rfl (fun hb_ E_ => ?_) (fun hb_ E_ => ?_)
  ·
   replace E := E_; clear E_
   have h45 : r36 = true := hb_
   clear hb_; replace hP := ite_t h45 hP
   refine vr tbok 4 [.slice A5 (List.length aGuard) c6, .slice A17 (List.length bGuard) c18] [(2, .pointer (some ⟨g25, 0, none⟩)), (3, .pointer (some ⟨g30, 0, none⟩)), (17, .bool true), (19, .slice A5 (List.length aGuard) c6), (21, .slice A17 (List.length bGuard) c18)] [World.cell? w42 ⟨g25, 2, none⟩ = some (.slice A5 (List.length aGuard) c6), World.cell? w42 ⟨g30, 2, none⟩ = some (.slice A17 (List.length bGuard) c18)] E (by kernel_rfl) ⟨(H.box 6 rfl).cell (j := 2) rfl, (H.box 7 rfl).cell (j := 2) rfl⟩ ?_
   clear E; intro a E
   obtain ⟨r46, h47, hP⟩ := bind_inv hP
   obtain ⟨Fa48, Hc49, hb50⟩ := H.call [] [(1, false), (4, false)] rfl rfl trivial
   refine e_call E rfl rfl Try.func47 rfl rfl rfl (slices_Equal_int_int_calls A5 c6 A17 c18 aGuard bGuard hk7 hk19 Hc49 h47) ?_
   rintro v51 w52 a ⟨rfl, HR53⟩ E_
   replace E := E_ _ rfl; clear E_
   obtain ⟨H_, hc54⟩ := hb50 _ _ HR53 rfl
   replace H := H_; clear H_; try dsimp only [setn, addE, goneL] at H
   refine vr tbok 2 [] [(2, .pointer (some ⟨g25, 0, none⟩)), (3, .pointer (some ⟨g30, 0, none⟩)), (24, .bool r46)] [] E (by kernel_rfl) trivial ?_
   clear E; intro a E
   refine E.cases (t := 24) rfl (fun hb_ E_ => ?_) (fun hb_ E_ => ?_)
   ·
    replace E := E_; clear E_
    have h55 : r46 = true := hb_
    clear hb_; replace hP := ite_t h55 hP
    refine vr tbok 4 [.slice A9 (List.length aNodes) c10, .slice A21 (List.length bNodes) c22] [(24, .bool true), (26, .slice A9 (List.length aNodes) c10), (28, .slice A21 (List.length bNodes) c22)] [World.cell? w52 ⟨g25, 3, none⟩ = some (.slice A9 (List.length aNodes) c10), World.cell? w52 ⟨g30, 3, none⟩ = some (.slice A21 (List.length bNodes) c22)] E (by kernel_rfl) ⟨(H.box 6 rfl).cell (j := 3) rfl, (H.box 7 rfl).cell (j := 3) rfl⟩ ?_
    clear E; intro a E
    obtain ⟨r56, h57, hP⟩ := bind_inv hP
    obtain ⟨Fa58, Hc59, hb60⟩ := H.call [] [(2, false), (5, false)] rfl rfl trivial
    refine e_call E rfl rfl Try.func48 rfl rfl rfl (slices_Equal_api_Node_api_Node_calls A9 c10 A21 c22 aNodes bNodes hk11 hk23 Hc59 h57) ?_
    rintro v61 w62 a ⟨rfl, HR63⟩ E_
    replace E := E_ _ rfl; clear E_
    obtain ⟨H_, hc64⟩ := hb60 _ _ HR63 rfl
    replace H := H_; clear H_; try dsimp only [setn, addE, goneL] at H
    refine vr tbok 2 [] [(4, .bool r56)] [] E (by kernel_rfl) trivial ?_
    clear E; intro a E
    refine wpList_nil ?_
    refine th_n ?_
    refine wp_ret ?_
    obtain rfl := Option.some.inj hP
    refine ret1 E rfl rfl ?_
    exact ⟨_, rfl, rfl, H.sel [] rfl⟩
   replace E := E_; clear E_
   have h65 : ¬ (r46 = true) := (ne_true_of_eq_false hb_)
   clear hb_; replace hP := ite_f h65 hP
   refine vr tbok 7 [] [(4, .bool false)] [] E (by kernel_rfl) trivial ?_
   clear E; intro a E
   refine wpList_nil ?_
   refine th_n ?_
   refine wp_ret ?_
   obtain rfl := Option.some.inj hP
   refine ret1 E rfl rfl ?_
   exact ⟨_, rfl, rfl, H.sel [] rfl⟩
  replace E := E_; clear E_
  have h66 : ¬ (r36 = true) := (ne_true_of_eq_false hb_)
  clear hb_; replace hP := ite_f h66 hP
  refine vr tbok 14 [] [(4, .bool false)] [] E (by kernel_rfl) trivial ?_
  clear E; intro a E
  refine wpList_nil ?_
  refine th_n ?_
  refine wp_ret ?_
  obtain rfl := Option.some.inj hP
  refine ret1 E rfl rfl ?_
  exact ⟨_, rfl, rfl, H.sel [] rfl⟩
 replace E := E_; clear E_
 have h67 : ¬ ((aProps : Int) = bProps) := ne_of_beq_false hb_
 clear hb_; replace hP := ite_f h67 hP
 refine vr tbok 21 [] [(4, .bool false)] [] E (by kernel_rfl) trivial ?_
 clear E; intro a E
 refine wpList_nil ?_
 refine th_n ?_
 refine wp_ret ?_
 obtain rfl := Option.some.inj hP
 refine ret1 E rfl rfl ?_
 exact ⟨_, rfl, rfl, H.sel [] rfl⟩

/-! rejoinder/letter.Trace -/
def letter_Trace_l0 (N : Nat) (n : Int) (t : List Int) : Nat → Int → Option (Unit ⊕ Int)
  | 0, _ => none
  | m52 + 1, x34 =>
    if x34 < (((List.length t) : Nat) : Int) then
      ask (idx x34 (List.length t)) <|
      Option.bind (letter_Fits N n (List.getD t (Int.toNat x34) 0)) fun r63 =>
      if r63 = true then
        ask (in64 (x34 + 1)) <|
        letter_Trace_l0 N n t m52 (x34 + 1)
      else
        some (Sum.inr 2)
    else
      some (Sum.inl ())
def letter_Trace (N : Nat) (n : Int) (t : List Int) : Option Int :=
  Option.bind (letter_number N n) fun r5 =>
  if r5 = true then
    if 1024 < (((List.length t) : Nat) : Int) then
      some 3
    else
      Option.bind (letter_Trace_l0 N n t N 0) fun x53 =>
      Sum.elim (fun x58 =>
        some 0)
       (fun x76 =>
        some x76) x53
  else
    some 2
set_option maxRecDepth 100000 in
set_option maxHeartbeats 4000000 in
theorem letter_Trace_calls {N : Nat} {S Fa : Nat → Prop} {w0 : World} {r : Int} (A1 : Option Addr) (c2 : Nat) (n : Int) (t : List Int) (hk3 : List.length t ≤ c2) (H : Hp S Fa w0 w0 [.ro false (cInt .u8) A1 t]) (hP : letter_Trace N n t = some r) :
    Calls Try.prog 34 #[.int .i64 n, .slice A1 (List.length t) c2] w0 fun e w' => ∃ v, e = .returned v ∧ v = .int .i64 r ∧ Hp S Fa w0 w' [] := by
 refine enterV (n := 24) Try.func34 rfl rfl rfl ?_
 intro a E
 replace E := E.pick [(0, .int .i64 n), (1, .slice A1 (List.length t) c2)] ⟨rfl, rfl, trivial⟩
 rw [letter_Trace] at hP
 refine wp_seq ?_
 refine wp_region_lit ?_
 refine vr tbok 1 [] [(0, .int .i64 n), (1, .slice A1 (List.length t) c2)] [] E (by kernel_rfl) trivial ?_
 clear E; intro a E
 refine wpList_nil ?_
 refine th_n ?_
 refine wp_seq ?_
 refine wp_seq ?_
 refine wp_region_lit ?_
 refine vr tbok 1 [] [(0, .int .i64 n), (1, .slice A1 (List.length t) c2), (7, .int .i64 n)] [] E (by kernel_rfl) trivial ?_
 clear E; intro a E
 obtain ⟨r5, h6, hP⟩ := bind_inv hP
 obtain ⟨Fa7, Hc8, hb9⟩ := H.call [] [] rfl rfl trivial
 refine e_call E rfl rfl Try.func56 rfl rfl rfl (letter_number_calls  n  Hc8 h6) ?_
 rintro v10 w11 a ⟨rfl, HR12⟩ E_
 replace E := E_ _ rfl; clear E_
 obtain ⟨H_, hc13⟩ := hb9 _ _ HR12 rfl
 replace H := H_; clear H_; try dsimp only [setn, addE, goneL] at H
 refine vr tbok 1 [] [(0, .int .i64 n), (1, .slice A1 (List.length t) c2), (9, .bool (!r5))] [] E (by kernel_rfl) trivial ?_
 clear E; intro a E
 refine wpList_nil ?_
 refine th_n ?_
 refine E.cases (t := 9) rfl (fun hb_ E_ => ?_) (fun hb_ E_ => ?_)
 ·
  replace E := E_; clear E_
  have h14 : ¬ (r5 = true) := (ne_true_of_eq_false (not_t hb_))
  clear hb_; replace hP := ite_f h14 hP
  refine c_true E rfl ?_
  refine wp_seq ?_
  refine wp_region_lit ?_
  refine vr tbok 1 [] [(4, .int .i64 2)] [] E (by kernel_rfl) trivial ?_
  clear E; intro a E
  refine wpList_nil ?_
  refine th_n ?_
  refine wp_ret ?_
  refine th_ret ?_
  obtain rfl := Option.some.inj hP
  refine ret1 E rfl rfl ?_
  exact ⟨_, rfl, rfl, H.sel [] rfl⟩
 replace E := E_; clear E_
 have h15 : r5 = true := (not_f hb_)
 clear hb_; replace hP := ite_t h15 hP
 refine c_false E rfl ?_
 refine wp_skip ?_
 refine th_n ?_
 refine wp_seq ?_
 refine wp_seq ?_
 refine wp_region_lit ?_
 refine vr tbok 3 [] [(0, .int .i64 n), (1, .slice A1 (List.length t) c2), (12, .bool (decide (1024 < (((List.length t) : Nat) : Int))))] [] E (by kernel_rfl) trivial ?_
 clear E; intro a E
 refine wpList_nil ?_
 refine th_n ?_
 refine E.cases (t := 12) rfl (fun hb_ E_ => ?_) (fun hb_ E_ => ?_)
 ·
  replace E := E_; clear E_
  have h16 : 1024 < (((List.length t) : Nat) : Int) := of_decide_eq_true hb_
  clear hb_; replace hP := ite_t h16 hP
  refine c_true E rfl ?_
  refine wp_seq ?_
  refine wp_region_lit ?_
  refine vr tbok 1 [] [(4, .int .i64 3)] [] E (by kernel_rfl) trivial ?_
  clear E; intro a E
  refine wpList_nil ?_
  refine th_n ?_
  refine wp_ret ?_
  refine th_ret ?_
  obtain rfl := Option.some.inj hP
  refine ret1 E rfl rfl ?_
  exact ⟨_, rfl, rfl, H.sel [] rfl⟩
 replace E := E_; clear E_
 have h17 : ¬ (1024 < (((List.length t) : Nat) : Int)) := of_decide_eq_false hb_
 clear hb_; replace hP := ite_f h17 hP
 refine c_false E rfl ?_
 refine wp_skip ?_
 refine th_n ?_
 refine wp_seq ?_
 refine wp_seq ?_
 refine wp_region_lit ?_
 refine vr tbok 3 [] [(0, .int .i64 n), (13, .slice A1 (List.length t) c2), (14, .int .i64 (((List.length t) : Nat) : Int)), (15, .int .i64 0)] [] E (by kernel_rfl) trivial ?_
 clear E; intro a E
 refine wpList_nil ?_
 refine th_n ?_
 refine wp_block ?_
 obtain ⟨x53, hL54, hK55⟩ := bind_inv hP
 clear hP
 refine loop_cut (fun i_ a w_ => (i_ = 0 ∧ ∃ (x58 : Unit), Fr a 24 [] ∧ Hp S Fa w0 w_ [] ∧ x53 = Sum.inl x58)) ?_ ?_
 ·
  refine loopV (fun m57 a w56 => ∃ (x34 : Int), Fr a 24 [(0, .int .i64 n), (13, .slice A1 (List.length t) c2), (14, .int .i64 (((List.length t) : Nat) : Int)), (15, .int .i64 x34)] ∧ Hp S Fa w0 w56 [.ro false (cInt .u8) A1 t] ∧ letter_Trace_l0 N n t m57 x34 = some x53) N ?_ ?_
  ·
   exact ⟨0, E.pick _ ⟨rfl, rfl, rfl, rfl, trivial⟩, H.sel [0] rfl, hL54⟩
  clear E H hL54; intro m57 a w56 hI_
  obtain ⟨x34, E, H, hP⟩ := hI_
  obtain ⟨m52, rfl⟩ : ∃ q_, m57 = q_ + 1 := by cases m57 with | zero => rw [letter_Trace_l0] at hP; cases hP | succ q_ => exact ⟨q_, rfl⟩
  rw [letter_Trace_l0] at hP
  refine wp_seq ?_
  refine wp_region_lit ?_
  refine vr tbok 1 [] [(0, .int .i64 n), (13, .slice A1 (List.length t) c2), (14, .int .i64 (((List.length t) : Nat) : Int)), (15, .int .i64 x34), (16, .bool (decide (x34 < (((List.length t) : Nat) : Int))))] [] E (by kernel_rfl) trivial ?_
  clear E; intro a E
  refine wpList_nil ?_
  refine th_n ?_
  refine wp_seq ?_
  refine E.cases (t := 16) rfl (fun hb_ E_ => ?_) (fun hb_ E_ => ?_)
  ·
   replace E := E_; clear E_
   have h59 : x34 < (((List.length t) : Nat) : Int) := of_decide_eq_true hb_
   clear hb_; replace hP := ite_t h59 hP
   refine c_true E rfl ?_
   refine wp_skip ?_
   refine th_n ?_
   refine wp_seq ?_
   refine wp_block ?_
   refine wp_seq ?_
   refine wp_region_lit ?_
   obtain ⟨g60, hP⟩ := ask_inv hP
   obtain ⟨b61, o62, e_b61⟩ := (H.rd 0 rds_ro).addr (idx_pos g60)
   subst e_b61
   refine vr tbok 3 [.int .u8 (List.getD t (Int.toNat x34) 0)] [(0, .int .i64 n), (6, .int .u8 (List.getD t (Int.toNat x34) 0)), (13, .slice (some ⟨b61, o62, none⟩) (List.length t) c2), (14, .int .i64 (((List.length t) : Nat) : Int)), (15, .int .i64 x34)] [0 ≤ x34 ∧ x34 < (((List.length t) : Nat) : Int), World.cell? w56 ⟨b61, o62 + (Int.toNat x34) * 1, none⟩ = some (.int .u8 (List.getD t (Int.toNat x34) 0))] E (by kernel_rfl) ⟨g60, Rds.at1 (H.rd 0 rds_ro) 0 g60⟩ ?_
   clear E; intro a E
   refine wpList_nil ?_
   refine th_n ?_
   refine wp_seq ?_
   refine wp_region_lit ?_
   refine vr tbok 2 [] [(0, .int .i64 n), (13, .slice (some ⟨b61, o62, none⟩) (List.length t) c2), (14, .int .i64 (((List.length t) : Nat) : Int)), (15, .int .i64 x34), (19, .int .i64 n), (20, .int .u8 (List.getD t (Int.toNat x34) 0))] [] E (by kernel_rfl) trivial ?_
   clear E; intro a E
   obtain ⟨r63, h64, hP⟩ := bind_inv hP
   obtain ⟨Fa65, Hc66, hb67⟩ := H.call [] [] rfl rfl trivial
   refine e_call E rfl rfl Try.func29 rfl rfl rfl (letter_Fits_calls  n (List.getD t (Int.toNat x34) 0)  Hc66 h64) ?_
   rintro v68 w69 a ⟨rfl, HR70⟩ E_
   replace E := E_ _ rfl; clear E_
   obtain ⟨H_, hc71⟩ := hb67 _ _ HR70 rfl
   replace H := H_; clear H_; try dsimp only [setn, addE, goneL] at H
   refine vr tbok 1 [] [(0, .int .i64 n), (13, .slice (some ⟨b61, o62, none⟩) (List.length t) c2), (14, .int .i64 (((List.length t) : Nat) : Int)), (15, .int .i64 x34), (22, .bool (!r63))] [] E (by kernel_rfl) trivial ?_
   clear E; intro a E
   refine wpList_nil ?_
   refine th_n ?_
   refine E.cases (t := 22) rfl (fun hb_ E_ => ?_) (fun hb_ E_ => ?_)
   ·
    replace E := E_; clear E_
    have h72 : ¬ (r63 = true) := (ne_true_of_eq_false (not_t hb_))
    clear hb_; replace hP := ite_f h72 hP
    refine c_true E rfl ?_
    refine wp_seq ?_
    refine wp_region_lit ?_
    refine vr tbok 1 [] [(4, .int .i64 2)] [] E (by kernel_rfl) trivial ?_
    clear E; intro a E
    refine wpList_nil ?_
    refine th_n ?_
    refine wp_ret ?_
    refine bl_ret ?_
    refine th_ret ?_
    refine th_ret ?_
    refine .inr ⟨rfl, ?_⟩
    refine bl_ret ?_
    refine th_ret ?_
    have hx_ := Option.some.inj hP; subst hx_
    have hP : some (2) = some r := hK55
    obtain rfl := Option.some.inj hP
    refine ret1 E rfl rfl ?_
    exact ⟨_, rfl, rfl, H.sel [] rfl⟩
   replace E := E_; clear E_
   have h73 : r63 = true := (not_f hb_)
   clear hb_; replace hP := ite_t h73 hP
   refine c_false E rfl ?_
   refine wp_skip ?_
   refine bl_n ?_
   refine th_n ?_
   refine wp_region_lit ?_
   obtain ⟨g74, hP⟩ := ask_inv hP
   refine vr tbok 2 [.int .i64 (x34 + 1)] [(0, .int .i64 n), (13, .slice (some ⟨b61, o62, none⟩) (List.length t) c2), (14, .int .i64 (((List.length t) : Nat) : Int)), (15, .int .i64 (x34 + 1))] [IntKind.i64.wrap (x34 + 1) = x34 + 1] E (by kernel_rfl) (wrap_in g74) ?_
   clear E; intro a E
   refine wpList_nil ?_
   exact th_n ⟨m52, Nat.lt_succ_self _, x34 + 1, E.pick _ ⟨rfl, rfl, rfl, rfl, trivial⟩, H.sel [0] rfl, hP⟩
  replace E := E_; clear E_
  have h75 : ¬ (x34 < (((List.length t) : Nat) : Int)) := of_decide_eq_false hb_
  clear hb_; replace hP := ite_f h75 hP
  refine c_false E rfl ?_
  refine wp_exit ?_
  refine th_exit ?_
  have hx_ := Option.some.inj hP
  refine th_exit (.inl ⟨0, rfl, ?_⟩)
  exact ⟨rfl, (), E.pick _ trivial, H.sel [] rfl, hx_.symm⟩
 clear E H hL54; intro i_ a w56 hM_
 obtain ⟨rfl, x58, E, H, hx_⟩ := hM_
 subst hx_; have hP := elim_l hK55
 clear hK55
 refine bl_hit ?_
 refine th_n ?_
 refine wp_seq ?_
 refine wp_region_lit ?_
 refine vr tbok 1 [] [(4, .int .i64 0)] [] E (by kernel_rfl) trivial ?_
 clear E; intro a E
 refine wpList_nil ?_
 refine th_n ?_
 refine wp_ret ?_
 obtain rfl := Option.some.inj hP
 refine ret1 E rfl rfl ?_
 exact ⟨_, rfl, rfl, H.sel [] rfl⟩

end Go.V
