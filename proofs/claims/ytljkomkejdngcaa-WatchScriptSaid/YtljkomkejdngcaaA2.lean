/- Plain functions, and the calls that give them. -/
import Derived.Test.YtljkomkejdngcaaA1
set_option linter.all false
set_option linter.unusedVariables false
set_option linter.unnecessarySimpa false
set_option linter.unusedSimpArgs false
namespace Go.V
open Go Go.Proofs
/-! rejoinder/letter.number -/
def letter_number (N : Nat) (n : Int) : Option Bool :=
  if 0 ≤ n then
    some (decide (n ≤ 8))
  else
    some false
set_option maxRecDepth 100000 in
set_option maxHeartbeats 4000000 in
theorem letter_number_calls {N : Nat} {S Fa : Nat → Prop} {w0 : World} {r : Bool} (n : Int) (H : Hp S Fa w0 w0 []) (hP : letter_number N n = some r) :
    Calls Try.prog 50 #[.int .i64 n] w0 fun e w' => ∃ v, e = .returned v ∧ v = .bool r ∧ Hp S Fa w0 w' [] := by
 refine enterV (n := 9) Try.func50 rfl rfl rfl ?_
 intro a E
 replace E := E.pick [(0, .int .i64 n)] ⟨rfl, trivial⟩
 rw [letter_number] at hP
 refine wp_seq ?_
 refine wp_region_lit ?_
 refine vn tbok 1 [] [] [] E (by kernel_rfl) (by kernel_rfl) trivial ?_
 clear E; intro a E
 refine wpList_nil ?_
 refine th_n ?_
 refine wp_seq ?_
 refine wp_region_lit ?_
 refine vn tbok 3 [] [(5, .bool (decide (0 ≤ n)))] [] E (by kernel_rfl) (by kernel_rfl) trivial ?_
 clear E; intro a E
 refine E.cases (t := 5) rfl (fun hb_ E_ => ?_) (fun hb_ E_ => ?_)
 ·
  replace E := E_; clear E_
  have h1 : 0 ≤ n := of_decide_eq_true hb_
  clear hb_; replace hP := ite_t h1 hP
  refine vn tbok 4 [] [(2, .bool (decide (n ≤ 8)))] [] E (by kernel_rfl) (by kernel_rfl) trivial ?_
  clear E; intro a E
  refine wpList_nil ?_
  refine th_n ?_
  refine wp_ret ?_
  obtain rfl := Option.some.inj hP
  refine ret1 E rfl rfl ?_
  exact ⟨_, rfl, rfl, H.sel [] rfl⟩
 replace E := E_; clear E_
 have h2 : ¬ (0 ≤ n) := of_decide_eq_false hb_
 clear hb_; replace hP := ite_f h2 hP
 refine vn tbok 4 [] [(2, .bool false)] [] E (by kernel_rfl) (by kernel_rfl) trivial ?_
 clear E; intro a E
 refine wpList_nil ?_
 refine th_n ?_
 refine wp_ret ?_
 obtain rfl := Option.some.inj hP
 refine ret1 E rfl rfl ?_
 exact ⟨_, rfl, rfl, H.sel [] rfl⟩

/-! rejoinder/letter.Fits -/
def letter_Fits (N : Nat) (n : Int) (ll : Int) : Option Bool :=
  Option.bind (letter_number N n) fun r1 =>
  if r1 = true then
    ask (in64 ll) <|
    ask (0 ≤ n) <|
    some ((shrV .i64 ll n : Int) == 0)
  else
    some false
set_option maxRecDepth 100000 in
set_option maxHeartbeats 4000000 in
theorem letter_Fits_calls {N : Nat} {S Fa : Nat → Prop} {w0 : World} {r : Bool} (n : Int) (ll : Int) (H : Hp S Fa w0 w0 []) (hP : letter_Fits N n ll = some r) :
    Calls Try.prog 33 #[.int .i64 n, .int .u8 ll] w0 fun e w' => ∃ v, e = .returned v ∧ v = .bool r ∧ Hp S Fa w0 w' [] := by
 refine enterV (n := 14) Try.func33 rfl rfl rfl ?_
 intro a E
 replace E := E.pick [(0, .int .i64 n), (1, .int .u8 ll)] ⟨rfl, rfl, trivial⟩
 rw [letter_Fits] at hP
 refine wp_seq ?_
 refine wp_region_lit ?_
 refine vn tbok 1 [] [] [] E (by kernel_rfl) (by kernel_rfl) trivial ?_
 clear E; intro a E
 refine wpList_nil ?_
 refine th_n ?_
 refine wp_seq ?_
 refine wp_region_lit ?_
 refine vn tbok 1 [] [(5, .int .i64 n)] [] E (by kernel_rfl) (by kernel_rfl) trivial ?_
 clear E; intro a E
 obtain ⟨r1, h2, hP⟩ := bind_inv hP
 obtain ⟨Fa3, Hc4, hb5⟩ := H.call [] [] rfl rfl trivial
 refine e_call E rfl rfl Try.func50 rfl rfl rfl (letter_number_calls  n  Hc4 h2) ?_
 rintro v6 w7 a ⟨rfl, HR8⟩ E_
 replace E := E_ _ rfl; clear E_
 obtain ⟨H_, hc9⟩ := hb5 _ _ HR8 rfl
 replace H := H_; clear H_; try dsimp only [setn, addE, goneL] at H
 refine vn tbok 1 [] [(7, .bool r1)] [] E (by kernel_rfl) (by kernel_rfl) trivial ?_
 clear E; intro a E
 refine E.cases (t := 7) rfl (fun hb_ E_ => ?_) (fun hb_ E_ => ?_)
 ·
  replace E := E_; clear E_
  have h10 : r1 = true := hb_
  clear hb_; replace hP := ite_t h10 hP
  obtain ⟨g11, hP⟩ := ask_inv hP
  obtain ⟨g12, hP⟩ := ask_inv hP
  refine vn tbok 7 [.int .i64 ll, .int .i64 (shrV .i64 ll n)] [(4, .bool ((shrV .i64 ll n : Int) == 0))] [IntKind.i64.wrap ll = ll, 0 ≤ n ∧ Int.fdiv ll (2 ^ (min (Int.toNat n) (IntKind.bits .i64))) = shrV .i64 ll n] E (by kernel_rfl) (by kernel_rfl) ⟨wrap_in g11, ⟨g12, rfl⟩⟩ ?_
  clear E; intro a E
  refine wpList_nil ?_
  refine th_n ?_
  refine wp_ret ?_
  obtain rfl := Option.some.inj hP
  refine ret1 E rfl rfl ?_
  exact ⟨_, rfl, rfl, H.sel [] rfl⟩
 replace E := E_; clear E_
 have h13 : ¬ (r1 = true) := (ne_true_of_eq_false hb_)
 clear hb_; replace hP := ite_f h13 hP
 refine vn tbok 7 [] [(4, .bool false)] [] E (by kernel_rfl) (by kernel_rfl) trivial ?_
 clear E; intro a E
 refine wpList_nil ?_
 refine th_n ?_
 refine wp_ret ?_
 obtain rfl := Option.some.inj hP
 refine ret1 E rfl rfl ?_
 exact ⟨_, rfl, rfl, H.sel [] rfl⟩

/-! rejoinder/letter.Trace -/
/-! rejoinder/guard.Go -/
def guard_Go_l0 (N : Nat) (nodes : List Nd) (ll : Int) : Nat → Int → Int → Option (Unit ⊕ (Int × Bool))
  | 0, _, _ => none
  | m55 + 1, ref27, x28 =>
    if x28 < 9 then
      if ref27 < 0 then
        ask (in64 ((-1) - ref27)) <|
        some (Sum.inr ((-1) - ref27, true))
      else
        if (((List.length nodes) : Nat) : Int) ≤ ref27 then
          some (Sum.inr (0, false))
        else
          ask (idx ref27 (List.length nodes)) <|
          if ((List.getD nodes (Int.toNat ref27) (default : Nd)).P) < 0 then
            some (Sum.inr (0, false))
          else
            if 8 ≤ ((List.getD nodes (Int.toNat ref27) (default : Nd)).P) then
              some (Sum.inr (0, false))
            else
              ask (0 ≤ ((List.getD nodes (Int.toNat ref27) (default : Nd)).P)) <|
              if (andV .u8 (shrV .u8 ll ((List.getD nodes (Int.toNat ref27) (default : Nd)).P)) 1 : Int) = 1 then
                ask (in64 (x28 + 1)) <|
                guard_Go_l0 N nodes ll m55 ((List.getD nodes (Int.toNat ref27) (default : Nd)).Hi) (x28 + 1)
              else
                ask (in64 (x28 + 1)) <|
                guard_Go_l0 N nodes ll m55 ((List.getD nodes (Int.toNat ref27) (default : Nd)).Lo) (x28 + 1)
    else
      some (Sum.inl ())
def guard_Go (N : Nat) (nodes : List Nd) (ref : Int) (ll : Int) : Option (Int × Bool) :=
  Option.bind (guard_Go_l0 N nodes ll N ref 0) fun x56 =>
  Sum.elim (fun x61 =>
    some (0, false))
   (fun x88 =>
    some x88) x56
set_option maxRecDepth 100000 in
set_option maxHeartbeats 4000000 in
theorem guard_Go_calls {N : Nat} {S Fa : Nat → Prop} {w0 : World} {r : Int × Bool} (A1 : Option Addr) (c2 : Nat) (nodes : List Nd) (ref : Int) (ll : Int) (hk3 : List.length nodes ≤ c2) (H : Hp S Fa w0 w0 [.ro false cNode A1 nodes]) (hP : guard_Go N nodes ref ll = some r) :
    Calls Try.prog 34 #[.slice A1 (List.length nodes) c2, .int .i64 ref, .int .u8 ll] w0 fun e w' => ∃ v, e = .returned v ∧ v = .tuple #[.int .i64 r.1, .bool r.2] ∧ Hp S Fa w0 w' [] := by
 refine enterV (n := 50) Try.func34 rfl rfl rfl ?_
 intro a E
 replace E := E.pick [(0, .slice A1 (List.length nodes) c2), (1, .int .i64 ref), (2, .int .u8 ll)] ⟨rfl, rfl, rfl, trivial⟩
 rw [guard_Go] at hP
 refine wp_seq ?_
 refine wp_region_lit ?_
 refine vn tbok 2 [] [] [] E (by kernel_rfl) (by kernel_rfl) trivial ?_
 clear E; intro a E
 refine wpList_nil ?_
 refine th_n ?_
 refine wp_seq ?_
 refine wp_seq ?_
 refine wp_region_lit ?_
 refine vn tbok 1 [] [(9, .int .i64 0)] [] E (by kernel_rfl) (by kernel_rfl) trivial ?_
 clear E; intro a E
 refine wpList_nil ?_
 refine th_n ?_
 refine wp_block ?_
 obtain ⟨x56, hL57, hK58⟩ := bind_inv hP
 clear hP
 refine loop_cut (fun i_ a w_ => (i_ = 0 ∧ ∃ (x61 : Unit), Fr a 50 [] ∧ Hp S Fa w0 w_ [] ∧ x56 = Sum.inl x61)) ?_ ?_
 ·
  refine loopV (fun m60 a w59 => ∃ (ref27 : Int) (x28 : Int), Fr a 50 [(0, .slice A1 (List.length nodes) c2), (1, .int .i64 ref27), (2, .int .u8 ll), (9, .int .i64 x28)] ∧ Hp S Fa w0 w59 [.ro false cNode A1 nodes] ∧ guard_Go_l0 N nodes ll m60 ref27 x28 = some x56) N ?_ ?_
  ·
   exact ⟨ref, 0, E.pick _ ⟨rfl, rfl, rfl, rfl, trivial⟩, H.sel [0] rfl, hL57⟩
  clear E H hL57; intro m60 a w59 hI_
  obtain ⟨ref27, x28, E, H, hP⟩ := hI_
  obtain ⟨m55, rfl⟩ : ∃ q_, m60 = q_ + 1 := by cases m60 with | zero => rw [guard_Go_l0] at hP; cases hP | succ q_ => exact ⟨q_, rfl⟩
  rw [guard_Go_l0] at hP
  refine wp_seq ?_
  refine wp_region_lit ?_
  refine vn tbok 1 [] [(10, .bool (decide (x28 < 9)))] [] E (by kernel_rfl) (by kernel_rfl) trivial ?_
  clear E; intro a E
  refine wpList_nil ?_
  refine th_n ?_
  refine wp_seq ?_
  refine E.cases (t := 10) rfl (fun hb_ E_ => ?_) (fun hb_ E_ => ?_)
  ·
   replace E := E_; clear E_
   have h62 : x28 < 9 := of_decide_eq_true hb_
   clear hb_; replace hP := ite_t h62 hP
   refine c_true E rfl ?_
   refine wp_skip ?_
   refine th_n ?_
   refine wp_seq ?_
   refine wp_block ?_
   refine wp_seq ?_
   refine wp_seq ?_
   refine wp_region_lit ?_
   refine vn tbok 2 [] [(12, .bool (decide (ref27 < 0)))] [] E (by kernel_rfl) (by kernel_rfl) trivial ?_
   clear E; intro a E
   refine wpList_nil ?_
   refine th_n ?_
   refine E.cases (t := 12) rfl (fun hb_ E_ => ?_) (fun hb_ E_ => ?_)
   ·
    replace E := E_; clear E_
    have h63 : ref27 < 0 := of_decide_eq_true hb_
    clear hb_; replace hP := ite_t h63 hP
    refine c_true E rfl ?_
    refine wp_seq ?_
    refine wp_region_lit ?_
    obtain ⟨g64, hP⟩ := ask_inv hP
    refine vn tbok 4 [.int .i64 ((-1) - ref27)] [(6, .int .i64 ((-1) - ref27)), (7, .bool true)] [IntKind.i64.wrap ((-1) - ref27) = (-1) - ref27] E (by kernel_rfl) (by kernel_rfl) (wrap_in g64) ?_
    clear E; intro a E
    refine wpList_nil ?_
    refine th_n ?_
    refine wp_ret ?_
    refine th_ret ?_
    refine bl_ret ?_
    refine th_ret ?_
    refine th_ret ?_
    refine .inr ⟨rfl, ?_⟩
    refine bl_ret ?_
    refine th_ret ?_
    have hx_ := Option.some.inj hP; subst hx_
    have hP : some (((-1) - ref27, true)) = some r := hK58
    obtain rfl := Option.some.inj hP
    refine ret2 E rfl rfl rfl ?_
    exact ⟨_, rfl, rfl, H.sel [] rfl⟩
   replace E := E_; clear E_
   have h65 : ¬ (ref27 < 0) := of_decide_eq_false hb_
   clear hb_; replace hP := ite_f h65 hP
   refine c_false E rfl ?_
   refine wp_skip ?_
   refine th_n ?_
   refine wp_seq ?_
   refine wp_seq ?_
   refine wp_region_lit ?_
   refine vn tbok 5 [] [(19, .bool (decide ((((List.length nodes) : Nat) : Int) ≤ ref27)))] [] E (by kernel_rfl) (by kernel_rfl) trivial ?_
   clear E; intro a E
   refine E.cases (t := 19) rfl (fun hb_ E_ => ?_) (fun hb_ E_ => ?_)
   ·
    replace E := E_; clear E_
    have h66 : (((List.length nodes) : Nat) : Int) ≤ ref27 := of_decide_eq_true hb_
    clear hb_; replace hP := ite_t h66 hP
    refine vn tbok 15 [] [(34, .bool true)] [] E (by kernel_rfl) (by kernel_rfl) trivial ?_
    clear E; intro a E
    refine wpList_nil ?_
    refine th_n ?_
    refine c_true E rfl ?_
    refine wp_seq ?_
    refine wp_region_lit ?_
    refine vn tbok 2 [] [(6, .int .i64 0), (7, .bool false)] [] E (by kernel_rfl) (by kernel_rfl) trivial ?_
    clear E; intro a E
    refine wpList_nil ?_
    refine th_n ?_
    refine wp_ret ?_
    refine th_ret ?_
    refine bl_ret ?_
    refine th_ret ?_
    refine th_ret ?_
    refine .inr ⟨rfl, ?_⟩
    refine bl_ret ?_
    refine th_ret ?_
    have hx_ := Option.some.inj hP; subst hx_
    have hP : some ((0, false)) = some r := hK58
    obtain rfl := Option.some.inj hP
    refine ret2 E rfl rfl rfl ?_
    exact ⟨_, rfl, rfl, H.sel [] rfl⟩
   replace E := E_; clear E_
   have h67 : ¬ ((((List.length nodes) : Nat) : Int) ≤ ref27) := of_decide_eq_false hb_
   clear hb_; replace hP := ite_f h67 hP
   obtain ⟨g68, hP⟩ := ask_inv hP
   obtain ⟨b69, o70, e_b69⟩ := (H.rd 0 rds_ro).addr (idx_pos g68)
   subst e_b69
   refine vn tbok 8 [.int .i64 ((List.getD nodes (Int.toNat ref27) (default : Nd)).P)] [(27, .bool (decide (((List.getD nodes (Int.toNat ref27) (default : Nd)).P) < 0)))] [0 ≤ ref27 ∧ ref27 < (((List.length nodes) : Nat) : Int), World.cell? w59 ⟨b69, o70 + (Int.toNat ref27) * 3, none⟩ = some (.int .i64 ((List.getD nodes (Int.toNat ref27) (default : Nd)).P))] E (by kernel_rfl) (by kernel_rfl) ⟨g68, (Rds.atP (H.rd 0 rds_ro) (default : Nd) g68).1⟩ ?_
   clear E; intro a E
   refine E.cases (t := 27) rfl (fun hb_ E_ => ?_) (fun hb_ E_ => ?_)
   ·
    replace E := E_; clear E_
    have h71 : ((List.getD nodes (Int.toNat ref27) (default : Nd)).P) < 0 := of_decide_eq_true hb_
    clear hb_; replace hP := ite_t h71 hP
    refine vn tbok 7 [] [(34, .bool true)] [] E (by kernel_rfl) (by kernel_rfl) trivial ?_
    clear E; intro a E
    refine wpList_nil ?_
    refine th_n ?_
    refine c_true E rfl ?_
    refine wp_seq ?_
    refine wp_region_lit ?_
    refine vn tbok 2 [] [(6, .int .i64 0), (7, .bool false)] [] E (by kernel_rfl) (by kernel_rfl) trivial ?_
    clear E; intro a E
    refine wpList_nil ?_
    refine th_n ?_
    refine wp_ret ?_
    refine th_ret ?_
    refine bl_ret ?_
    refine th_ret ?_
    refine th_ret ?_
    refine .inr ⟨rfl, ?_⟩
    refine bl_ret ?_
    refine th_ret ?_
    have hx_ := Option.some.inj hP; subst hx_
    have hP : some ((0, false)) = some r := hK58
    obtain rfl := Option.some.inj hP
    refine ret2 E rfl rfl rfl ?_
    exact ⟨_, rfl, rfl, H.sel [] rfl⟩
   replace E := E_; clear E_
   have h72 : ¬ (((List.getD nodes (Int.toNat ref27) (default : Nd)).P) < 0) := of_decide_eq_false hb_
   clear hb_; replace hP := ite_f h72 hP
   refine vn tbok 7 [.int .i64 ((List.getD nodes (Int.toNat ref27) (default : Nd)).P)] [(34, .bool (decide (8 ≤ ((List.getD nodes (Int.toNat ref27) (default : Nd)).P))))] [0 ≤ ref27 ∧ ref27 < (((List.length nodes) : Nat) : Int), World.cell? w59 ⟨b69, o70 + (Int.toNat ref27) * 3, none⟩ = some (.int .i64 ((List.getD nodes (Int.toNat ref27) (default : Nd)).P))] E (by kernel_rfl) (by kernel_rfl) ⟨g68, (Rds.atP (H.rd 0 rds_ro) (default : Nd) g68).1⟩ ?_
   clear E; intro a E
   refine wpList_nil ?_
   refine th_n ?_
   refine E.cases (t := 34) rfl (fun hb_ E_ => ?_) (fun hb_ E_ => ?_)
   ·
    replace E := E_; clear E_
    have h73 : 8 ≤ ((List.getD nodes (Int.toNat ref27) (default : Nd)).P) := of_decide_eq_true hb_
    clear hb_; replace hP := ite_t h73 hP
    refine c_true E rfl ?_
    refine wp_seq ?_
    refine wp_region_lit ?_
    refine vn tbok 2 [] [(6, .int .i64 0), (7, .bool false)] [] E (by kernel_rfl) (by kernel_rfl) trivial ?_
    clear E; intro a E
    refine wpList_nil ?_
    refine th_n ?_
    refine wp_ret ?_
    refine th_ret ?_
    refine bl_ret ?_
    refine th_ret ?_
    refine th_ret ?_
    refine .inr ⟨rfl, ?_⟩
    refine bl_ret ?_
    refine th_ret ?_
    have hx_ := Option.some.inj hP; subst hx_
    have hP : some ((0, false)) = some r := hK58
    obtain rfl := Option.some.inj hP
    refine ret2 E rfl rfl rfl ?_
    exact ⟨_, rfl, rfl, H.sel [] rfl⟩
   replace E := E_; clear E_
   have h74 : ¬ (8 ≤ ((List.getD nodes (Int.toNat ref27) (default : Nd)).P)) := of_decide_eq_false hb_
   clear hb_; replace hP := ite_f h74 hP
   refine c_false E rfl ?_
   refine wp_skip ?_
   refine th_n ?_
   refine wp_seq ?_
   refine wp_region_lit ?_
   refine vn tbok 4 [.agg #[.int .i64 ((List.getD nodes (Int.toNat ref27) (default : Nd)).P), .int .i64 ((List.getD nodes (Int.toNat ref27) (default : Nd)).Lo), .int .i64 ((List.getD nodes (Int.toNat ref27) (default : Nd)).Hi)]] [(38, .agg #[.int .i64 ((List.getD nodes (Int.toNat ref27) (default : Nd)).P), .int .i64 ((List.getD nodes (Int.toNat ref27) (default : Nd)).Lo), .int .i64 ((List.getD nodes (Int.toNat ref27) (default : Nd)).Hi)])] [0 ≤ ref27 ∧ ref27 < (((List.length nodes) : Nat) : Int), cellsAt w59 b69 (o70 + (Int.toNat ref27) * 3) [.int .i64 ((List.getD nodes (Int.toNat ref27) (default : Nd)).P), .int .i64 ((List.getD nodes (Int.toNat ref27) (default : Nd)).Lo), .int .i64 ((List.getD nodes (Int.toNat ref27) (default : Nd)).Hi)]] E (by kernel_rfl) (by kernel_rfl) ⟨g68, Rds.atP (H.rd 0 rds_ro) (default : Nd) g68⟩ ?_
   clear E; intro a E
   refine h_alloc H E rfl rfl tbok rfl ?_
   intro w76 g75 a hc77 hg79 H_ E_
   replace E := E_ _ rfl; clear E_
   replace H := H_; clear H_; try dsimp only [setn, addE, goneL] at H
   refine h_store (g := g75) (off := 0) H 1 rfl E rfl rfl rfl rfl tbok rfl rfl rfl rfl rfl ?_
   clear E; intro w80 a hc81 H_ E
   replace H := H_; clear H_; try dsimp only [setn, addE, goneL] at H
   refine wpList_nil ?_
   refine th_n ?_
   refine wp_seq ?_
   refine wp_region_lit ?_
   refine vn tbok 3 [.int .i64 ((List.getD nodes (Int.toNat ref27) (default : Nd)).Lo)] [(1, .int .i64 ((List.getD nodes (Int.toNat ref27) (default : Nd)).Lo))] [World.cell? w80 ⟨g75, 1, none⟩ = some (.int .i64 ((List.getD nodes (Int.toNat ref27) (default : Nd)).Lo))] E (by kernel_rfl) (by kernel_rfl) ((H.box 1 rfl).cell (j := 1) rfl) ?_
   clear E; intro a E
   refine wpList_nil ?_
   refine th_n ?_
   refine wp_seq ?_
   refine wp_region_lit ?_
   obtain ⟨g82, hP⟩ := ask_inv hP
   refine vn tbok 6 [.int .i64 ((List.getD nodes (Int.toNat ref27) (default : Nd)).P), .int .u8 (shrV .u8 ll ((List.getD nodes (Int.toNat ref27) (default : Nd)).P)), .int .u8 (andV .u8 (shrV .u8 ll ((List.getD nodes (Int.toNat ref27) (default : Nd)).P)) 1)] [(46, .bool ((andV .u8 (shrV .u8 ll ((List.getD nodes (Int.toNat ref27) (default : Nd)).P)) 1 : Int) == 1))] [World.cell? w80 ⟨g75, 0, none⟩ = some (.int .i64 ((List.getD nodes (Int.toNat ref27) (default : Nd)).P)), 0 ≤ ((List.getD nodes (Int.toNat ref27) (default : Nd)).P) ∧ Int.fdiv ll (2 ^ (min (Int.toNat ((List.getD nodes (Int.toNat ref27) (default : Nd)).P)) (IntKind.bits .u8))) = shrV .u8 ll ((List.getD nodes (Int.toNat ref27) (default : Nd)).P), IntKind.u8.wrap (BitVec.ofInt (IntKind.bits .u8) (shrV .u8 ll ((List.getD nodes (Int.toNat ref27) (default : Nd)).P)) &&& BitVec.ofInt (IntKind.bits .u8) 1).toNat = andV .u8 (shrV .u8 ll ((List.getD nodes (Int.toNat ref27) (default : Nd)).P)) 1] E (by kernel_rfl) (by kernel_rfl) ⟨(H.box 1 rfl).cell (j := 0) rfl, ⟨g82, rfl⟩, rfl⟩ ?_
   clear E; intro a E
   refine wpList_nil ?_
   refine th_n ?_
   refine E.cases (t := 46) rfl (fun hb_ E_ => ?_) (fun hb_ E_ => ?_)
   ·
    replace E := E_; clear E_
    have h83 : (andV .u8 (shrV .u8 ll ((List.getD nodes (Int.toNat ref27) (default : Nd)).P)) 1 : Int) = 1 := eq_of_beq hb_
    clear hb_; replace hP := ite_t h83 hP
    refine c_true E rfl ?_
    refine wp_region_lit ?_
    refine vn tbok 3 [.int .i64 ((List.getD nodes (Int.toNat ref27) (default : Nd)).Hi)] [(1, .int .i64 ((List.getD nodes (Int.toNat ref27) (default : Nd)).Hi))] [World.cell? w80 ⟨g75, 2, none⟩ = some (.int .i64 ((List.getD nodes (Int.toNat ref27) (default : Nd)).Hi))] E (by kernel_rfl) (by kernel_rfl) ((H.box 1 rfl).cell (j := 2) rfl) ?_
    clear E; intro a E
    refine wpList_nil ?_
    refine bl_n ?_
    refine th_n ?_
    refine wp_region_lit ?_
    obtain ⟨g84, hP⟩ := ask_inv hP
    refine vn tbok 2 [.int .i64 (x28 + 1)] [(9, .int .i64 (x28 + 1))] [IntKind.i64.wrap (x28 + 1) = x28 + 1] E (by kernel_rfl) (by kernel_rfl) (wrap_in g84) ?_
    clear E; intro a E
    refine wpList_nil ?_
    exact th_n ⟨m55, Nat.lt_succ_self _, (List.getD nodes (Int.toNat ref27) (default : Nd)).Hi, x28 + 1, E.pick _ ⟨rfl, rfl, rfl, rfl, trivial⟩, H.sel [0] rfl, hP⟩
   replace E := E_; clear E_
   have h85 : ¬ ((andV .u8 (shrV .u8 ll ((List.getD nodes (Int.toNat ref27) (default : Nd)).P)) 1 : Int) = 1) := ne_of_beq_false hb_
   clear hb_; replace hP := ite_f h85 hP
   refine c_false E rfl ?_
   refine wp_skip ?_
   refine bl_n ?_
   refine th_n ?_
   refine wp_region_lit ?_
   obtain ⟨g86, hP⟩ := ask_inv hP
   refine vn tbok 2 [.int .i64 (x28 + 1)] [(9, .int .i64 (x28 + 1))] [IntKind.i64.wrap (x28 + 1) = x28 + 1] E (by kernel_rfl) (by kernel_rfl) (wrap_in g86) ?_
   clear E; intro a E
   refine wpList_nil ?_
   exact th_n ⟨m55, Nat.lt_succ_self _, (List.getD nodes (Int.toNat ref27) (default : Nd)).Lo, x28 + 1, E.pick _ ⟨rfl, rfl, rfl, rfl, trivial⟩, H.sel [0] rfl, hP⟩
  replace E := E_; clear E_
  have h87 : ¬ (x28 < 9) := of_decide_eq_false hb_
  clear hb_; replace hP := ite_f h87 hP
  refine c_false E rfl ?_
  refine wp_exit ?_
  refine th_exit ?_
  have hx_ := Option.some.inj hP
  refine th_exit (.inl ⟨0, rfl, ?_⟩)
  exact ⟨rfl, (), E.pick _ trivial, H.sel [] rfl, hx_.symm⟩
 clear E H hL57; intro i_ a w59 hM_
 obtain ⟨rfl, x61, E, H, hx_⟩ := hM_
 subst hx_; have hP := elim_l hK58
 clear hK58
 refine bl_hit ?_
 refine th_n ?_
 refine wp_seq ?_
 refine wp_region_lit ?_
 refine vn tbok 2 [] [(6, .int .i64 0), (7, .bool false)] [] E (by kernel_rfl) (by kernel_rfl) trivial ?_
 clear E; intro a E
 refine wpList_nil ?_
 refine th_n ?_
 refine wp_ret ?_
 obtain rfl := Option.some.inj hP
 refine ret2 E rfl rfl rfl ?_
 exact ⟨_, rfl, rfl, H.sel [] rfl⟩

/-! rejoinder/guard.Table -/
def guard_Table_l0 (N : Nat) (n : Int) (nodes : List Nd) (ref : Int) : Nat → (List Int) → Int → Option ((List Int) ⊕ ((List Int) × Int))
  | 0, _, _ => none
  | m72 + 1, out38, x41 =>
    if x41 < (shlV .i64 1 n) then
      Option.bind (guard_Go N nodes ref (IntKind.u8.wrap x41)) fun r81 =>
      if r81.2 = true then
        ask (List.length out38 + List.length ([r81.1] : List Int) ≤ 1000000000) <|
        ask (in64 (x41 + 1)) <|
        guard_Table_l0 N n nodes ref m72 (out38 ++ ([r81.1] : List Int)) (x41 + 1)
      else
        some (Sum.inr ([], 12))
    else
      some (Sum.inl out38)
def guard_Table (N : Nat) (n : Int) (nodes : List Nd) (ref : Int) : Option ((List Int) × Int) :=
  if n < 0 then
    some ([], 2)
  else
    if 8 < n then
      some ([], 2)
    else
      ask (0 ≤ n) <|
      Option.bind (guard_Table_l0 N n nodes ref N [] 0) fun x73 =>
      Sum.elim (fun x79 =>
        some (x79, 0))
       (fun x106 =>
        some x106) x73
set_option maxRecDepth 100000 in
set_option maxHeartbeats 4000000 in
theorem guard_Table_calls {N : Nat} {S Fa : Nat → Prop} {w0 : World} {r : (List Int) × Int} (A1 : Option Addr) (c2 : Nat) (n : Int) (nodes : List Nd) (ref : Int) (hk3 : List.length nodes ≤ c2) (H : Hp S Fa w0 w0 [.ro false cNode A1 nodes]) (hP : guard_Table N n nodes ref = some r) :
    Calls Try.prog 52 #[.int .i64 n, .slice A1 (List.length nodes) c2, .int .i64 ref] w0 fun e w' => ∃ v, e = .returned v ∧ ∃ (A107 : Option Addr) (c108 : Nat), v = .tuple #[.slice A107 (List.length r.1) c108, .int .i64 r.2] ∧ Hp S Fa w0 w' [.row true (cInt .i64) 3 A107 c108 r.1] := by
 refine enterV (n := 39) Try.func52 rfl rfl rfl ?_
 intro a E
 replace E := E.pick [(0, .int .i64 n), (1, .slice A1 (List.length nodes) c2), (2, .int .i64 ref)] ⟨rfl, rfl, rfl, trivial⟩
 rw [guard_Table] at hP
 refine wp_seq ?_
 refine wp_region_lit ?_
 refine vn tbok 2 [] [] [] E (by kernel_rfl) (by kernel_rfl) trivial ?_
 clear E; intro a E
 refine wpList_nil ?_
 refine th_n ?_
 refine wp_seq ?_
 refine wp_seq ?_
 refine wp_region_lit ?_
 refine vn tbok 3 [] [(14, .bool (decide (n < 0)))] [] E (by kernel_rfl) (by kernel_rfl) trivial ?_
 clear E; intro a E
 refine E.cases (t := 14) rfl (fun hb_ E_ => ?_) (fun hb_ E_ => ?_)
 ·
  replace E := E_; clear E_
  have h5 : n < 0 := of_decide_eq_true hb_
  clear hb_; replace hP := ite_t h5 hP
  refine vn tbok 3 [] [(17, .bool true)] [] E (by kernel_rfl) (by kernel_rfl) trivial ?_
  clear E; intro a E
  refine wpList_nil ?_
  refine th_n ?_
  refine c_true E rfl ?_
  refine wp_seq ?_
  refine wp_region_lit ?_
  refine vn tbok 2 [] [(6, .slice none 0 0), (7, .int .i64 2)] [] E (by kernel_rfl) (by kernel_rfl) trivial ?_
  clear E; intro a E
  refine wpList_nil ?_
  refine th_n ?_
  refine wp_ret ?_
  refine th_ret ?_
  replace H := H.nilrow (cInt .i64) 3; try dsimp only [setn, addE, goneL] at H
  obtain rfl := Option.some.inj hP
  refine ret2 E rfl rfl rfl ?_
  exact ⟨_, rfl, none, 0, rfl, H.sel [1] rfl⟩
 replace E := E_; clear E_
 have h7 : ¬ (n < 0) := of_decide_eq_false hb_
 clear hb_; replace hP := ite_f h7 hP
 refine vn tbok 3 [] [(17, .bool (decide (8 < n)))] [] E (by kernel_rfl) (by kernel_rfl) trivial ?_
 clear E; intro a E
 refine wpList_nil ?_
 refine th_n ?_
 refine E.cases (t := 17) rfl (fun hb_ E_ => ?_) (fun hb_ E_ => ?_)
 ·
  replace E := E_; clear E_
  have h8 : 8 < n := of_decide_eq_true hb_
  clear hb_; replace hP := ite_t h8 hP
  refine c_true E rfl ?_
  refine wp_seq ?_
  refine wp_region_lit ?_
  refine vn tbok 2 [] [(6, .slice none 0 0), (7, .int .i64 2)] [] E (by kernel_rfl) (by kernel_rfl) trivial ?_
  clear E; intro a E
  refine wpList_nil ?_
  refine th_n ?_
  refine wp_ret ?_
  refine th_ret ?_
  replace H := H.nilrow (cInt .i64) 3; try dsimp only [setn, addE, goneL] at H
  obtain rfl := Option.some.inj hP
  refine ret2 E rfl rfl rfl ?_
  exact ⟨_, rfl, none, 0, rfl, H.sel [1] rfl⟩
 replace E := E_; clear E_
 have h10 : ¬ (8 < n) := of_decide_eq_false hb_
 clear hb_; replace hP := ite_f h10 hP
 refine c_false E rfl ?_
 refine wp_skip ?_
 refine th_n ?_
 refine wp_seq ?_
 refine wp_region_lit ?_
 refine vn tbok 1 [] [(8, .slice none 0 0)] [] E (by kernel_rfl) (by kernel_rfl) trivial ?_
 clear E; intro a E
 refine wpList_nil ?_
 refine th_n ?_
 refine wp_seq ?_
 refine wp_seq ?_
 refine wp_region_lit ?_
 obtain ⟨g11, hP⟩ := ask_inv hP
 refine vn tbok 3 [.int .i64 (shlV .i64 1 n)] [(19, .int .i64 (shlV .i64 1 n)), (20, .int .i64 0)] [0 ≤ n ∧ IntKind.i64.wrap (1 * 2 ^ (min (Int.toNat n) (IntKind.bits .i64))) = shlV .i64 1 n] E (by kernel_rfl) (by kernel_rfl) (⟨g11, rfl⟩) ?_
 clear E; intro a E
 refine wpList_nil ?_
 refine th_n ?_
 refine wp_block ?_
 obtain ⟨x73, hL74, hK75⟩ := bind_inv hP
 clear hP
 replace H := H.nilrow (cInt .i64) 3; try dsimp only [setn, addE, goneL] at H
 refine loop_cut (fun i_ a w_ => (i_ = 0 ∧ ∃ (x79 : List Int), ∃ (A70 : Option Addr) (c71 : Nat), Fr a 39 [(8, .slice A70 (List.length x79) c71)] ∧ Hp S Fa w0 w_ [.row true (cInt .i64) 3 A70 c71 x79] ∧ x73 = Sum.inl x79)) ?_ ?_
 ·
  refine loopV (fun m78 a w77 => ∃ (out38 : List Int) (x41 : Int), ∃ (A39 : Option Addr) (c40 : Nat), Fr a 39 [(1, .slice A1 (List.length nodes) c2), (2, .int .i64 ref), (8, .slice A39 (List.length out38) c40), (19, .int .i64 (shlV .i64 1 n)), (20, .int .i64 x41)] ∧ Hp S Fa w0 w77 [.ro false cNode A1 nodes, .row true (cInt .i64) 3 A39 c40 out38] ∧ guard_Table_l0 N n nodes ref m78 out38 x41 = some x73) N ?_ ?_
  ·
   exact ⟨[], 0, none, 0, E.pick _ ⟨rfl, rfl, rfl, rfl, rfl, trivial⟩, H.sel [0, 1] rfl, hL74⟩
  clear E H hL74; intro m78 a w77 hI_
  obtain ⟨out38, x41, A39, c40, E, H, hP⟩ := hI_
  obtain ⟨m72, rfl⟩ : ∃ q_, m78 = q_ + 1 := by cases m78 with | zero => rw [guard_Table_l0] at hP; cases hP | succ q_ => exact ⟨q_, rfl⟩
  rw [guard_Table_l0] at hP
  refine wp_seq ?_
  refine wp_region_lit ?_
  refine vn tbok 1 [] [(21, .bool (decide (x41 < (shlV .i64 1 n))))] [] E (by kernel_rfl) (by kernel_rfl) trivial ?_
  clear E; intro a E
  refine wpList_nil ?_
  refine th_n ?_
  refine wp_seq ?_
  refine E.cases (t := 21) rfl (fun hb_ E_ => ?_) (fun hb_ E_ => ?_)
  ·
   replace E := E_; clear E_
   have h80 : x41 < (shlV .i64 1 n) := of_decide_eq_true hb_
   clear hb_; replace hP := ite_t h80 hP
   refine c_true E rfl ?_
   refine wp_skip ?_
   refine th_n ?_
   refine wp_seq ?_
   refine wp_block ?_
   refine wp_seq ?_
   refine wp_region_lit ?_
   refine vn tbok 2 [] [(9, .int .i64 x41)] [] E (by kernel_rfl) (by kernel_rfl) trivial ?_
   clear E; intro a E
   refine wpList_nil ?_
   refine th_n ?_
   refine wp_seq ?_
   refine wp_region_lit ?_
   refine vn tbok 4 [.int .u8 (IntKind.u8.wrap x41)] [(24, .slice A1 (List.length nodes) c2), (25, .int .i64 ref), (27, .int .u8 (IntKind.u8.wrap x41))] [IntKind.u8.wrap x41 = (IntKind.u8.wrap x41)] E (by kernel_rfl) (by kernel_rfl) (rfl) ?_
   clear E; intro a E
   obtain ⟨r81, h82, hP⟩ := bind_inv hP
   obtain ⟨Fa83, Hc84, hb85⟩ := H.call [] [(0, false)] rfl rfl trivial
   refine e_call E rfl rfl Try.func34 rfl rfl rfl (guard_Go_calls A1 c2 nodes ref (IntKind.u8.wrap x41) hk3 Hc84 h82) ?_
   rintro v86 w87 a ⟨rfl, HR88⟩ E_
   replace E := E_ _ rfl; clear E_
   obtain ⟨H_, hc89⟩ := hb85 _ _ HR88 rfl
   replace H := H_; clear H_; try dsimp only [setn, addE, goneL] at H
   refine vn tbok 5 [] [(10, .int .i64 r81.1), (11, .bool r81.2)] [] E (by kernel_rfl) (by kernel_rfl) trivial ?_
   clear E; intro a E
   refine wpList_nil ?_
   refine th_n ?_
   refine wp_seq ?_
   refine wp_seq ?_
   refine wp_region_lit ?_
   refine vn tbok 2 [] [(32, .bool (!r81.2))] [] E (by kernel_rfl) (by kernel_rfl) trivial ?_
   clear E; intro a E
   refine wpList_nil ?_
   refine th_n ?_
   refine E.cases (t := 32) rfl (fun hb_ E_ => ?_) (fun hb_ E_ => ?_)
   ·
    replace E := E_; clear E_
    have h90 : ¬ (r81.2 = true) := (ne_true_of_eq_false (not_t hb_))
    clear hb_; replace hP := ite_f h90 hP
    refine c_true E rfl ?_
    refine wp_seq ?_
    refine wp_region_lit ?_
    refine vn tbok 2 [] [(6, .slice none 0 0), (7, .int .i64 12)] [] E (by kernel_rfl) (by kernel_rfl) trivial ?_
    clear E; intro a E
    refine wpList_nil ?_
    refine th_n ?_
    refine wp_ret ?_
    refine th_ret ?_
    refine bl_ret ?_
    refine th_ret ?_
    refine th_ret ?_
    refine .inr ⟨rfl, ?_⟩
    refine bl_ret ?_
    refine th_ret ?_
    replace H := H.nilrow (cInt .i64) 3; try dsimp only [setn, addE, goneL] at H
    have hx_ := Option.some.inj hP; subst hx_
    have hP : some (([], 12)) = some r := hK75
    obtain rfl := Option.some.inj hP
    refine ret2 E rfl rfl rfl ?_
    exact ⟨_, rfl, none, 0, rfl, H.sel [2] rfl⟩
   replace E := E_; clear E_
   have h92 : r81.2 = true := (not_f hb_)
   clear hb_; replace hP := ite_t h92 hP
   refine c_false E rfl ?_
   refine wp_skip ?_
   refine th_n ?_
   refine wp_region_lit ?_
   refine vn tbok 2 [] [(33, .slice A39 (List.length out38) c40), (34, .int .i64 r81.1)] [] E (by kernel_rfl) (by kernel_rfl) trivial ?_
   clear E; intro a E
   refine h_buildSlice (ps := [(0, .int .i64 r81.1)]) (cs := [.int .i64 r81.1]) H E rfl rfl tbok rfl rfl (by kernel_rfl) ?_
   intro w94 g93 a hc95 hg97 H_ E_
   replace E := E_ _ rfl; clear E_
   replace H := H_; clear H_; try dsimp only [setn, addE, goneL] at H
   obtain ⟨g98, hP⟩ := ask_inv hP
   refine h_append (cInt .i64) (xs := out38) (ys := ([r81.1] : List Int)) (0 : Int) H 1 rfl E rfl rfl tbok rfl rfl rfl rfl rfl (fun _ _ => rfl) rfl rfl (fun _ HF_ => HF_.srcB 2 rfl (⟨_, _, rfl, rfl, rfl⟩)) g98 ?_
   intro w99 A100 c101 a hc102 hA103 H_ E_
   replace E := E_ _ rfl; clear E_
   replace H := H_; clear H_; try dsimp only [setn, addE, goneL] at H
   refine vn tbok 1 [] [(8, .slice A100 (List.length (out38 ++ ([r81.1] : List Int))) c101)] [] E (by kernel_rfl) (by kernel_rfl) trivial ?_
   clear E; intro a E
   refine wpList_nil ?_
   refine bl_n ?_
   refine th_n ?_
   refine wp_region_lit ?_
   obtain ⟨g104, hP⟩ := ask_inv hP
   refine vn tbok 2 [.int .i64 (x41 + 1)] [(20, .int .i64 (x41 + 1))] [IntKind.i64.wrap (x41 + 1) = x41 + 1] E (by kernel_rfl) (by kernel_rfl) (wrap_in g104) ?_
   clear E; intro a E
   refine wpList_nil ?_
   exact th_n ⟨m72, Nat.lt_succ_self _, out38 ++ ([r81.1] : List Int), x41 + 1, A100, c101, E.pick _ ⟨rfl, rfl, rfl, rfl, rfl, trivial⟩, H.sel [0, 1] rfl, hP⟩
  replace E := E_; clear E_
  have h105 : ¬ (x41 < (shlV .i64 1 n)) := of_decide_eq_false hb_
  clear hb_; replace hP := ite_f h105 hP
  refine c_false E rfl ?_
  refine wp_exit ?_
  refine th_exit ?_
  have hx_ := Option.some.inj hP
  refine th_exit (.inl ⟨0, rfl, ?_⟩)
  exact ⟨rfl, out38, A39, c40, E.pick _ ⟨rfl, trivial⟩, H.sel [1] rfl, hx_.symm⟩
 clear E H hL74; intro i_ a w77 hM_
 obtain ⟨rfl, x79, A70, c71, E, H, hx_⟩ := hM_
 subst hx_; have hP := elim_l hK75
 clear hK75
 refine bl_hit ?_
 refine th_n ?_
 refine wp_seq ?_
 refine wp_region_lit ?_
 refine vn tbok 3 [] [(6, .slice A70 (List.length x79) c71), (7, .int .i64 0)] [] E (by kernel_rfl) (by kernel_rfl) trivial ?_
 clear E; intro a E
 refine wpList_nil ?_
 refine th_n ?_
 refine wp_ret ?_
 obtain rfl := Option.some.inj hP
 refine ret2 E rfl rfl rfl ?_
 exact ⟨_, rfl, A70, c71, rfl, H.sel [0] rfl⟩

/-! rejoinder/watch.backward -/
def watch_backward_l0 (N : Nat) (good : List Bool) : Nat → (List Int) → Int → Option (List Int)
  | 0, _, _ => none
  | m50 + 1, off30, x31 =>
    if x31 < (((List.length good) : Nat) : Int) then
      ask (idx x31 (List.length good)) <|
      ask (idx x31 (List.length off30)) <|
      if (List.getD good (Int.toNat x31) false) = true then
        ask (idx x31 (List.length (List.set off30 (Int.toNat x31) (-1)))) <|
        ask (in64 (x31 + 1)) <|
        watch_backward_l0 N good m50 (List.set (List.set off30 (Int.toNat x31) (-1)) (Int.toNat x31) 0) (x31 + 1)
      else
        ask (in64 (x31 + 1)) <|
        watch_backward_l0 N good m50 (List.set off30 (Int.toNat x31) (-1)) (x31 + 1)
    else
      some off30
def watch_backward_l3 (N : Nat) (where_ : List (List Int)) (k160 : Int) (off304 : List Int) (more305 : Bool) (x306 : Int) : Nat → Int → Option ((List Int) × Bool)
  | 0, _ => none
  | m400 + 1, x384 =>
    if x384 < (((List.length (List.getD where_ (Int.toNat x306) [])) : Nat) : Int) then
      ask (idx x384 (List.length (List.getD where_ (Int.toNat x306) []))) <|
      ask (idx (List.getD (List.getD where_ (Int.toNat x306) []) (Int.toNat x384) 0) (List.length off304)) <|
      if ((List.getD off304 (Int.toNat (List.getD (List.getD where_ (Int.toNat x306) []) (Int.toNat x384) 0)) 0) : Int) = k160 then
        ask (in64 (k160 + 1)) <|
        some (List.set off304 (Int.toNat x306) (k160 + 1), true)
      else
        ask (in64 (x384 + 1)) <|
        watch_backward_l3 N where_ k160 off304 more305 x306 m400 (x384 + 1)
    else
      some (off304, more305)
def watch_backward_l2 (N : Nat) (where_ : List (List Int)) (off159 : List Int) (k160 : Int) : Nat → (List Int) → Bool → Int → Option ((List Int) × Bool)
  | 0, _, _, _ => none
  | m352 + 1, off304, more305, x306 =>
    if x306 < (((List.length off159) : Nat) : Int) then
      ask (idx x306 (List.length off304)) <|
      if 0 ≤ (List.getD off304 (Int.toNat x306) 0) then
        ask (in64 (x306 + 1)) <|
        watch_backward_l2 N where_ off159 k160 m352 off304 more305 (x306 + 1)
      else
        ask (idx x306 (List.length where_)) <|
        Option.bind (watch_backward_l3 N where_ k160 off304 more305 x306 N 0) fun x401 =>
        ask (in64 (x306 + 1)) <|
        watch_backward_l2 N where_ off159 k160 m352 x401.1 x401.2 (x306 + 1)
    else
      some (off304, more305)
def watch_backward_l1 (N : Nat) (where_ : List (List Int)) : Nat → (List Int) → Int → Bool → Option (List Int)
  | 0, _, _, _ => none
  | m255 + 1, off159, k160, more161 =>
    if more161 = true then
      Option.bind (watch_backward_l2 N where_ off159 k160 N off159 false 0) fun x353 =>
      ask (in64 (k160 + 1)) <|
      watch_backward_l1 N where_ m255 x353.1 (k160 + 1) x353.2
    else
      some off159
def watch_backward (N : Nat) (where_ : List (List Int)) (good : List Bool) : Option (List Int) :=
  ask (0 ≤ (((List.length good) : Nat) : Int) ∧ (((List.length good) : Nat) : Int) ≤ 1000000000) <|
  Option.bind (watch_backward_l0 N good N (List.replicate (Int.toNat (((List.length good) : Nat) : Int)) (0 : Int)) 0) fun x51 =>
  Option.bind (watch_backward_l1 N where_ N x51 0 true) fun x256 =>
  some x256
set_option maxRecDepth 100000 in
set_option maxHeartbeats 4000000 in
theorem watch_backward_calls {N : Nat} {S Fa : Nat → Prop} {w0 : World} {r : List Int} (A1 : Option Addr) (c2 : Nat) (A5 : Option Addr) (c6 : Nat) (where_ : List (List Int)) (good : List Bool) (hk3 : List.length where_ ≤ c2) (hk7 : List.length good ≤ c6) (H : Hp S Fa w0 w0 [.ro false (cSl (cInt .i64)) A1 where_, .ro false cBool A5 good]) (hP : watch_backward N where_ good = some r) :
    Calls Try.prog 53 #[.slice A1 (List.length where_) c2, .slice A5 (List.length good) c6] w0 fun e w' => ∃ v, e = .returned v ∧ ∃ (A424 : Option Addr) (c425 : Nat), v = .slice A424 (List.length r) c425 ∧ Hp S Fa w0 w' [.row true (cInt .i64) 3 A424 c425 r] := by
 refine enterV (n := 67) Try.func53 rfl rfl rfl ?_
 intro a E
 replace E := E.pick [(0, .slice A1 (List.length where_) c2), (1, .slice A5 (List.length good) c6)] ⟨rfl, rfl, trivial⟩
 rw [watch_backward] at hP
 refine wp_seq ?_
 refine wp_region_lit ?_
 refine vn tbok 1 [] [] [] E (by kernel_rfl) (by kernel_rfl) trivial ?_
 clear E; intro a E
 refine wpList_nil ?_
 refine th_n ?_
 refine wp_seq ?_
 refine wp_region_lit ?_
 refine vn tbok 2 [] [(14, .int .i64 (((List.length good) : Nat) : Int))] [] E (by kernel_rfl) (by kernel_rfl) trivial ?_
 clear E; intro a E
 obtain ⟨g9, hP⟩ := ask_inv hP
 refine h_make (cInt .i64) (0 : Int) H E rfl rfl tbok rfl rfl rfl rfl ⟨g9.1, Int.le_refl _, g9.2⟩ rfl rfl rfl (fun _ _ => rfl) ?_
 intro w11 g10 a hc12 hg14 H_ E_
 replace E := E_ _ rfl; clear E_
 replace H := H_; clear H_; try dsimp only [setn, addE, goneL] at H
 refine vn tbok 1 [] [(5, .slice (some ⟨g10, 0, none⟩) (List.length (List.replicate (Int.toNat (((List.length good) : Nat) : Int)) (0 : Int))) (Int.toNat (((List.length good) : Nat) : Int)))] [] E (by kernel_rfl) (by kernel_rfl) trivial ?_
 clear E; intro a E
 refine wpList_nil ?_
 refine th_n ?_
 refine wp_seq ?_
 refine wp_seq ?_
 refine wp_region_lit ?_
 refine vn tbok 3 [] [(16, .slice A5 (List.length good) c6), (17, .int .i64 (((List.length good) : Nat) : Int)), (18, .int .i64 0)] [] E (by kernel_rfl) (by kernel_rfl) trivial ?_
 clear E; intro a E
 refine wpList_nil ?_
 refine th_n ?_
 refine wp_block ?_
 obtain ⟨x51, hL52, hK53⟩ := bind_inv hP
 clear hP
 refine loop_cut (fun i_ a w_ => (i_ = 0 ∧ ∃ (x56 : List Int), Fr a 67 [(0, .slice A1 (List.length where_) c2), (5, .slice (some ⟨g10, 0, none⟩) (List.length x56) (Int.toNat (((List.length good) : Nat) : Int)))] ∧ Hp S Fa w0 w_ [.ro false (cSl (cInt .i64)) A1 where_, .rowx true (cInt .i64) 3 (some ⟨g10, 0, none⟩) (Int.toNat (((List.length good) : Nat) : Int)) x56 (List.replicate (Int.toNat (((List.length good) : Nat) : Int) - Int.toNat (((List.length good) : Nat) : Int)) (0 : Int))] ∧ x51 = x56)) ?_ ?_
 ·
  refine loopV (fun m55 a w54 => ∃ (off30 : List Int) (x31 : Int), Fr a 67 [(0, .slice A1 (List.length where_) c2), (5, .slice (some ⟨g10, 0, none⟩) (List.length off30) (Int.toNat (((List.length good) : Nat) : Int))), (16, .slice A5 (List.length good) c6), (17, .int .i64 (((List.length good) : Nat) : Int)), (18, .int .i64 x31)] ∧ Hp S Fa w0 w54 [.ro false (cSl (cInt .i64)) A1 where_, .rowx true (cInt .i64) 3 (some ⟨g10, 0, none⟩) (Int.toNat (((List.length good) : Nat) : Int)) off30 (List.replicate (Int.toNat (((List.length good) : Nat) : Int) - Int.toNat (((List.length good) : Nat) : Int)) (0 : Int)), .ro false cBool A5 good] ∧ watch_backward_l0 N good m55 off30 x31 = some x51) N ?_ ?_
  ·
   exact ⟨List.replicate (Int.toNat (((List.length good) : Nat) : Int)) (0 : Int), 0, E.pick _ ⟨rfl, rfl, rfl, rfl, rfl, trivial⟩, H.sel [0, 2, 1] rfl, hL52⟩
  clear E H hL52; intro m55 a w54 hI_
  obtain ⟨off30, x31, E, H, hP⟩ := hI_
  obtain ⟨m50, rfl⟩ : ∃ q_, m55 = q_ + 1 := by cases m55 with | zero => rw [watch_backward_l0] at hP; cases hP | succ q_ => exact ⟨q_, rfl⟩
  rw [watch_backward_l0] at hP
  refine wp_seq ?_
  refine wp_region_lit ?_
  refine vn tbok 1 [] [(19, .bool (decide (x31 < (((List.length good) : Nat) : Int))))] [] E (by kernel_rfl) (by kernel_rfl) trivial ?_
  clear E; intro a E
  refine wpList_nil ?_
  refine th_n ?_
  refine wp_seq ?_
  refine E.cases (t := 19) rfl (fun hb_ E_ => ?_) (fun hb_ E_ => ?_)
  ·
   replace E := E_; clear E_
   have h57 : x31 < (((List.length good) : Nat) : Int) := of_decide_eq_true hb_
   clear hb_; replace hP := ite_t h57 hP
   refine c_true E rfl ?_
   refine wp_skip ?_
   refine th_n ?_
   refine wp_seq ?_
   refine wp_block ?_
   refine wp_seq ?_
   refine wp_region_lit ?_
   obtain ⟨g58, hP⟩ := ask_inv hP
   obtain ⟨b59, o60, e_b59⟩ := (H.rd 2 rds_ro).addr (idx_pos g58)
   subst e_b59
   refine vn tbok 5 [.bool (List.getD good (Int.toNat x31) false)] [(6, .int .i64 x31), (7, .bool (List.getD good (Int.toNat x31) false))] [0 ≤ x31 ∧ x31 < (((List.length good) : Nat) : Int), World.cell? w54 ⟨b59, o60 + (Int.toNat x31) * 1, none⟩ = some (.bool (List.getD good (Int.toNat x31) false))] E (by kernel_rfl) (by kernel_rfl) ⟨g58, Rds.at1 (H.rd 2 rds_ro) false g58⟩ ?_
   clear E; intro a E
   refine wpList_nil ?_
   refine th_n ?_
   refine wp_seq ?_
   refine wp_region_lit ?_
   obtain ⟨g61, hP⟩ := ask_inv hP
   refine vn tbok 3 [] [(25, .pointer (some ⟨g10, 0 + (Int.toNat x31) * 1, none⟩))] [0 ≤ x31 ∧ x31 < (((List.length off30) : Nat) : Int)] E (by kernel_rfl) (by kernel_rfl) (g61) ?_
   clear E; intro a E
   refine h_setx (g := g10) (i := x31) (-1) H 1 rfl E rfl rfl rfl rfl tbok rfl (fun _ HF_ => rfl) rfl g61 rfl ?_
   clear E; intro w62 a hc63 H_ E
   replace H := H_; clear H_; try dsimp only [setn, addE, goneL] at H
   have hn64 : (List.length off30) = (List.length (List.set off30 (Int.toNat x31) (-1))) := by simp only [List.length_set]
   replace E := E.same (t := 5) (u := .slice (some ⟨g10, 0, none⟩) (List.length (List.set off30 (Int.toNat x31) (-1))) (Int.toNat (((List.length good) : Nat) : Int))) rfl (congrArg (fun n_ => Value.slice (some ⟨g10, 0, none⟩) n_ (Int.toNat (((List.length good) : Nat) : Int))) hn64)
   refine wpList_nil ?_
   refine th_n ?_
   refine wp_seq ?_
   refine wp_region_lit ?_
   refine vn tbok 1 [] [(26, .bool (List.getD good (Int.toNat x31) false))] [] E (by kernel_rfl) (by kernel_rfl) trivial ?_
   clear E; intro a E
   refine wpList_nil ?_
   refine th_n ?_
   refine E.cases (t := 26) rfl (fun hb_ E_ => ?_) (fun hb_ E_ => ?_)
   ·
    replace E := E_; clear E_
    have h65 : (List.getD good (Int.toNat x31) false) = true := hb_
    clear hb_; replace hP := ite_t h65 hP
    refine c_true E rfl ?_
    refine wp_region_lit ?_
    obtain ⟨g66, hP⟩ := ask_inv hP
    refine vn tbok 3 [] [(29, .pointer (some ⟨g10, 0 + (Int.toNat x31) * 1, none⟩))] [0 ≤ x31 ∧ x31 < (((List.length (List.set off30 (Int.toNat x31) (-1))) : Nat) : Int)] E (by kernel_rfl) (by kernel_rfl) (g66) ?_
    clear E; intro a E
    refine h_setx (g := g10) (i := x31) 0 H 1 rfl E rfl rfl rfl rfl tbok rfl (fun _ HF_ => rfl) rfl g66 rfl ?_
    clear E; intro w67 a hc68 H_ E
    replace H := H_; clear H_; try dsimp only [setn, addE, goneL] at H
    have hn69 : (List.length (List.set off30 (Int.toNat x31) (-1))) = (List.length (List.set (List.set off30 (Int.toNat x31) (-1)) (Int.toNat x31) 0)) := by simp only [List.length_set]
    replace E := E.same (t := 5) (u := .slice (some ⟨g10, 0, none⟩) (List.length (List.set (List.set off30 (Int.toNat x31) (-1)) (Int.toNat x31) 0)) (Int.toNat (((List.length good) : Nat) : Int))) rfl (congrArg (fun n_ => Value.slice (some ⟨g10, 0, none⟩) n_ (Int.toNat (((List.length good) : Nat) : Int))) hn69)
    refine wpList_nil ?_
    refine bl_n ?_
    refine th_n ?_
    refine wp_region_lit ?_
    obtain ⟨g70, hP⟩ := ask_inv hP
    refine vn tbok 2 [.int .i64 (x31 + 1)] [(18, .int .i64 (x31 + 1))] [IntKind.i64.wrap (x31 + 1) = x31 + 1] E (by kernel_rfl) (by kernel_rfl) (wrap_in g70) ?_
    clear E; intro a E
    refine wpList_nil ?_
    exact th_n ⟨m50, Nat.lt_succ_self _, List.set (List.set off30 (Int.toNat x31) (-1)) (Int.toNat x31) 0, x31 + 1, E.pick _ ⟨rfl, rfl, rfl, rfl, rfl, trivial⟩, H.sel [0, 1, 2] rfl, hP⟩
   replace E := E_; clear E_
   have h71 : ¬ ((List.getD good (Int.toNat x31) false) = true) := (ne_true_of_eq_false hb_)
   clear hb_; replace hP := ite_f h71 hP
   refine c_false E rfl ?_
   refine wp_skip ?_
   refine bl_n ?_
   refine th_n ?_
   refine wp_region_lit ?_
   obtain ⟨g72, hP⟩ := ask_inv hP
   refine vn tbok 2 [.int .i64 (x31 + 1)] [(18, .int .i64 (x31 + 1))] [IntKind.i64.wrap (x31 + 1) = x31 + 1] E (by kernel_rfl) (by kernel_rfl) (wrap_in g72) ?_
   clear E; intro a E
   refine wpList_nil ?_
   exact th_n ⟨m50, Nat.lt_succ_self _, List.set off30 (Int.toNat x31) (-1), x31 + 1, E.pick _ ⟨rfl, rfl, rfl, rfl, rfl, trivial⟩, H.sel [0, 1, 2] rfl, hP⟩
  replace E := E_; clear E_
  have h73 : ¬ (x31 < (((List.length good) : Nat) : Int)) := of_decide_eq_false hb_
  clear hb_; replace hP := ite_f h73 hP
  refine c_false E rfl ?_
  refine wp_exit ?_
  refine th_exit ?_
  have hx_ := Option.some.inj hP
  refine th_exit (.inl ⟨0, rfl, ?_⟩)
  exact ⟨rfl, off30, E.pick _ ⟨rfl, rfl, trivial⟩, H.sel [0, 1] rfl, hx_.symm⟩
 clear E H hL52; intro i_ a w54 hM_
 obtain ⟨rfl, x56, E, H, hx_⟩ := hM_
 subst hx_; have hP := hK53; clear hK53
 refine bl_hit ?_
 refine th_n ?_
 refine wp_seq ?_
 refine wp_seq ?_
 refine wp_region_lit ?_
 refine vn tbok 2 [] [(8, .int .i64 0), (9, .bool true)] [] E (by kernel_rfl) (by kernel_rfl) trivial ?_
 clear E; intro a E
 refine wpList_nil ?_
 refine th_n ?_
 refine wp_block ?_
 obtain ⟨x256, hL257, hK258⟩ := bind_inv hP
 clear hP
 refine loop_cut (fun i_ a w_ => (i_ = 2 ∧ ∃ (x261 : List Int), Fr a 67 [(5, .slice (some ⟨g10, 0, none⟩) (List.length x261) (Int.toNat (((List.length good) : Nat) : Int)))] ∧ Hp S Fa w0 w_ [.rowx true (cInt .i64) 3 (some ⟨g10, 0, none⟩) (Int.toNat (((List.length good) : Nat) : Int)) x261 (List.replicate (Int.toNat (((List.length good) : Nat) : Int) - Int.toNat (((List.length good) : Nat) : Int)) (0 : Int))] ∧ x256 = x261)) ?_ ?_
 ·
  refine loopV (fun m260 a w259 => ∃ (off159 : List Int) (k160 : Int) (more161 : Bool), Fr a 67 [(0, .slice A1 (List.length where_) c2), (5, .slice (some ⟨g10, 0, none⟩) (List.length off159) (Int.toNat (((List.length good) : Nat) : Int))), (8, .int .i64 k160), (9, .bool more161)] ∧ Hp S Fa w0 w259 [.ro false (cSl (cInt .i64)) A1 where_, .rowx true (cInt .i64) 3 (some ⟨g10, 0, none⟩) (Int.toNat (((List.length good) : Nat) : Int)) off159 (List.replicate (Int.toNat (((List.length good) : Nat) : Int) - Int.toNat (((List.length good) : Nat) : Int)) (0 : Int))] ∧ watch_backward_l1 N where_ m260 off159 k160 more161 = some x256) N ?_ ?_
  ·
   exact ⟨x51, 0, true, E.pick _ ⟨rfl, rfl, rfl, rfl, trivial⟩, H.sel [0, 1] rfl, hL257⟩
  clear E H hL257; intro m260 a w259 hI_
  obtain ⟨off159, k160, more161, E, H, hP⟩ := hI_
  obtain ⟨m255, rfl⟩ : ∃ q_, m260 = q_ + 1 := by cases m260 with | zero => rw [watch_backward_l1] at hP; cases hP | succ q_ => exact ⟨q_, rfl⟩
  rw [watch_backward_l1] at hP
  refine wp_seq ?_
  refine wp_seq ?_
  refine wp_region_lit ?_
  refine vn tbok 1 [] [(31, .bool more161)] [] E (by kernel_rfl) (by kernel_rfl) trivial ?_
  clear E; intro a E
  refine wpList_nil ?_
  refine th_n ?_
  refine E.cases (t := 31) rfl (fun hb_ E_ => ?_) (fun hb_ E_ => ?_)
  ·
   replace E := E_; clear E_
   have h262 : more161 = true := hb_
   clear hb_; replace hP := ite_t h262 hP
   refine c_true E rfl ?_
   refine wp_skip ?_
   refine th_n ?_
   refine wp_seq ?_
   refine wp_block ?_
   refine wp_seq ?_
   refine wp_region_lit ?_
   refine vn tbok 1 [] [(9, .bool false)] [] E (by kernel_rfl) (by kernel_rfl) trivial ?_
   clear E; intro a E
   refine wpList_nil ?_
   refine th_n ?_
   refine wp_seq ?_
   refine wp_region_lit ?_
   refine vn tbok 3 [] [(35, .int .i64 (((List.length off159) : Nat) : Int)), (36, .int .i64 0)] [] E (by kernel_rfl) (by kernel_rfl) trivial ?_
   clear E; intro a E
   refine wpList_nil ?_
   refine th_n ?_
   refine wp_block ?_
   obtain ⟨x353, hL354, hK355⟩ := bind_inv hP
   clear hP
   refine loop_cut (fun i_ a w_ => (i_ = 4 ∧ ∃ (x358 : (List Int) × Bool), Fr a 67 [(0, .slice A1 (List.length where_) c2), (5, .slice (some ⟨g10, 0, none⟩) (List.length x358.1) (Int.toNat (((List.length good) : Nat) : Int))), (8, .int .i64 k160), (9, .bool x358.2)] ∧ Hp S Fa w0 w_ [.ro false (cSl (cInt .i64)) A1 where_, .rowx true (cInt .i64) 3 (some ⟨g10, 0, none⟩) (Int.toNat (((List.length good) : Nat) : Int)) x358.1 (List.replicate (Int.toNat (((List.length good) : Nat) : Int) - Int.toNat (((List.length good) : Nat) : Int)) (0 : Int))] ∧ x353 = x358)) ?_ ?_
   ·
    refine loopV (fun m357 a w356 => ∃ (off304 : List Int) (more305 : Bool) (x306 : Int), Fr a 67 [(0, .slice A1 (List.length where_) c2), (5, .slice (some ⟨g10, 0, none⟩) (List.length off304) (Int.toNat (((List.length good) : Nat) : Int))), (8, .int .i64 k160), (9, .bool more305), (35, .int .i64 (((List.length off159) : Nat) : Int)), (36, .int .i64 x306)] ∧ Hp S Fa w0 w356 [.ro false (cSl (cInt .i64)) A1 where_, .rowx true (cInt .i64) 3 (some ⟨g10, 0, none⟩) (Int.toNat (((List.length good) : Nat) : Int)) off304 (List.replicate (Int.toNat (((List.length good) : Nat) : Int) - Int.toNat (((List.length good) : Nat) : Int)) (0 : Int))] ∧ watch_backward_l2 N where_ off159 k160 m357 off304 more305 x306 = some x353) N ?_ ?_
    ·
     exact ⟨off159, false, 0, E.pick _ ⟨rfl, rfl, rfl, rfl, rfl, rfl, trivial⟩, H.sel [0, 1] rfl, hL354⟩
    clear E H hL354; intro m357 a w356 hI_
    obtain ⟨off304, more305, x306, E, H, hP⟩ := hI_
    obtain ⟨m352, rfl⟩ : ∃ q_, m357 = q_ + 1 := by cases m357 with | zero => rw [watch_backward_l2] at hP; cases hP | succ q_ => exact ⟨q_, rfl⟩
    rw [watch_backward_l2] at hP
    refine wp_seq ?_
    refine wp_region_lit ?_
    refine vn tbok 1 [] [(37, .bool (decide (x306 < (((List.length off159) : Nat) : Int))))] [] E (by kernel_rfl) (by kernel_rfl) trivial ?_
    clear E; intro a E
    refine wpList_nil ?_
    refine th_n ?_
    refine wp_seq ?_
    refine E.cases (t := 37) rfl (fun hb_ E_ => ?_) (fun hb_ E_ => ?_)
    ·
     replace E := E_; clear E_
     have h359 : x306 < (((List.length off159) : Nat) : Int) := of_decide_eq_true hb_
     clear hb_; replace hP := ite_t h359 hP
     refine c_true E rfl ?_
     refine wp_skip ?_
     refine th_n ?_
     refine wp_seq ?_
     refine wp_block ?_
     refine wp_seq ?_
     refine wp_region_lit ?_
     refine vn tbok 2 [] [(10, .int .i64 x306)] [] E (by kernel_rfl) (by kernel_rfl) trivial ?_
     clear E; intro a E
     refine wpList_nil ?_
     refine th_n ?_
     refine wp_seq ?_
     refine wp_seq ?_
     refine wp_region_lit ?_
     obtain ⟨g360, hP⟩ := ask_inv hP
     refine vn tbok 5 [.int .i64 (List.getD off304 (Int.toNat x306) 0)] [(43, .bool (decide (0 ≤ (List.getD off304 (Int.toNat x306) 0))))] [0 ≤ x306 ∧ x306 < (((List.length off304) : Nat) : Int), World.cell? w356 ⟨g10, 0 + (Int.toNat x306) * 1, none⟩ = some (.int .i64 (List.getD off304 (Int.toNat x306) 0))] E (by kernel_rfl) (by kernel_rfl) ⟨g360, Rds.at1 (H.rd 1 rds_rowx) 0 g360⟩ ?_
     clear E; intro a E
     refine wpList_nil ?_
     refine th_n ?_
     refine E.cases (t := 43) rfl (fun hb_ E_ => ?_) (fun hb_ E_ => ?_)
     ·
      replace E := E_; clear E_
      have h361 : 0 ≤ (List.getD off304 (Int.toNat x306) 0) := of_decide_eq_true hb_
      clear hb_; replace hP := ite_t h361 hP
      refine c_true E rfl ?_
      refine wp_exit ?_
      refine th_exit ?_
      refine bl_hit ?_
      refine th_n ?_
      refine wp_region_lit ?_
      obtain ⟨g362, hP⟩ := ask_inv hP
      refine vn tbok 2 [.int .i64 (x306 + 1)] [(36, .int .i64 (x306 + 1))] [IntKind.i64.wrap (x306 + 1) = x306 + 1] E (by kernel_rfl) (by kernel_rfl) (wrap_in g362) ?_
      clear E; intro a E
      refine wpList_nil ?_
      exact th_n ⟨m352, Nat.lt_succ_self _, off304, more305, x306 + 1, E.pick _ ⟨rfl, rfl, rfl, rfl, rfl, rfl, trivial⟩, H.sel [0, 1] rfl, hP⟩
     replace E := E_; clear E_
     have h363 : ¬ (0 ≤ (List.getD off304 (Int.toNat x306) 0)) := of_decide_eq_false hb_
     clear hb_; replace hP := ite_f h363 hP
     refine c_false E rfl ?_
     refine wp_skip ?_
     refine th_n ?_
     refine wp_seq ?_
     refine wp_region_lit ?_
     obtain ⟨g364, hP⟩ := ask_inv hP
     obtain ⟨b365, o366, e_b365⟩ := (H.rd 0 rds_ro).addr (idx_pos g364)
     subst e_b365
     obtain ⟨A367, c368, hl369, hk370, H⟩ := H.subSl 0 false (el_ro rfl) g364
     try dsimp only [addE] at H
     refine vn tbok 6 [.slice A367 (List.length (List.getD where_ (Int.toNat x306) [])) c368] [(47, .slice A367 (List.length (List.getD where_ (Int.toNat x306) [])) c368), (48, .int .i64 (((List.length (List.getD where_ (Int.toNat x306) [])) : Nat) : Int)), (49, .int .i64 0)] [0 ≤ x306 ∧ x306 < (((List.length where_) : Nat) : Int), World.cell? w356 ⟨b365, o366 + (Int.toNat x306) * 1, none⟩ = some (.slice A367 (List.length (List.getD where_ (Int.toNat x306) [])) c368)] E (by kernel_rfl) (by kernel_rfl) ⟨g364, hl369⟩ ?_
     clear E; intro a E
     refine wpList_nil ?_
     refine th_n ?_
     refine wp_block ?_
     obtain ⟨x401, hL402, hK403⟩ := bind_inv hP
     clear hP
     refine loop_cut (fun i_ a w_ => (i_ = 6 ∧ ∃ (x406 : (List Int) × Bool), Fr a 67 [(0, .slice (some ⟨b365, o366, none⟩) (List.length where_) c2), (5, .slice (some ⟨g10, 0, none⟩) (List.length x406.1) (Int.toNat (((List.length good) : Nat) : Int))), (8, .int .i64 k160), (9, .bool x406.2), (35, .int .i64 (((List.length off159) : Nat) : Int)), (36, .int .i64 x306)] ∧ Hp S Fa w0 w_ [.ro false (cSl (cInt .i64)) (some ⟨b365, o366, none⟩) where_, .rowx true (cInt .i64) 3 (some ⟨g10, 0, none⟩) (Int.toNat (((List.length good) : Nat) : Int)) x406.1 (List.replicate (Int.toNat (((List.length good) : Nat) : Int) - Int.toNat (((List.length good) : Nat) : Int)) (0 : Int))] ∧ x401 = x406)) ?_ ?_
     ·
      refine loopV (fun m405 a w404 => ∃ (x384 : Int), Fr a 67 [(0, .slice (some ⟨b365, o366, none⟩) (List.length where_) c2), (5, .slice (some ⟨g10, 0, none⟩) (List.length off304) (Int.toNat (((List.length good) : Nat) : Int))), (8, .int .i64 k160), (9, .bool more305), (10, .int .i64 x306), (35, .int .i64 (((List.length off159) : Nat) : Int)), (36, .int .i64 x306), (47, .slice A367 (List.length (List.getD where_ (Int.toNat x306) [])) c368), (48, .int .i64 (((List.length (List.getD where_ (Int.toNat x306) [])) : Nat) : Int)), (49, .int .i64 x384)] ∧ Hp S Fa w0 w404 [.ro false (cSl (cInt .i64)) (some ⟨b365, o366, none⟩) where_, .rowx true (cInt .i64) 3 (some ⟨g10, 0, none⟩) (Int.toNat (((List.length good) : Nat) : Int)) off304 (List.replicate (Int.toNat (((List.length good) : Nat) : Int) - Int.toNat (((List.length good) : Nat) : Int)) (0 : Int)), .ro false (cInt .i64) A367 (List.getD where_ (Int.toNat x306) [])] ∧ watch_backward_l3 N where_ k160 off304 more305 x306 m405 x384 = some x401) N ?_ ?_
      ·
       exact ⟨0, E.pick _ ⟨rfl, rfl, rfl, rfl, rfl, rfl, rfl, rfl, rfl, rfl, trivial⟩, H.sel [0, 1, 2] rfl, hL402⟩
      clear E H hL402; intro m405 a w404 hI_
      obtain ⟨x384, E, H, hP⟩ := hI_
      obtain ⟨m400, rfl⟩ : ∃ q_, m405 = q_ + 1 := by cases m405 with | zero => rw [watch_backward_l3] at hP; cases hP | succ q_ => exact ⟨q_, rfl⟩
      rw [watch_backward_l3] at hP
      refine wp_seq ?_
      refine wp_region_lit ?_
      refine vn tbok 1 [] [(50, .bool (decide (x384 < (((List.length (List.getD where_ (Int.toNat x306) [])) : Nat) : Int))))] [] E (by kernel_rfl) (by kernel_rfl) trivial ?_
      clear E; intro a E
      refine wpList_nil ?_
      refine th_n ?_
      refine wp_seq ?_
      refine E.cases (t := 50) rfl (fun hb_ E_ => ?_) (fun hb_ E_ => ?_)
      ·
       replace E := E_; clear E_
       have h407 : x384 < (((List.length (List.getD where_ (Int.toNat x306) [])) : Nat) : Int) := of_decide_eq_true hb_
       clear hb_; replace hP := ite_t h407 hP
       refine c_true E rfl ?_
       refine wp_skip ?_
       refine th_n ?_
       refine wp_seq ?_
       refine wp_block ?_
       refine wp_seq ?_
       refine wp_region_lit ?_
       obtain ⟨g408, hP⟩ := ask_inv hP
       obtain ⟨b409, o410, e_b409⟩ := (H.rd 2 rds_ro).addr (idx_pos g408)
       subst e_b409
       refine vn tbok 3 [.int .i64 (List.getD (List.getD where_ (Int.toNat x306) []) (Int.toNat x384) 0)] [(12, .int .i64 (List.getD (List.getD where_ (Int.toNat x306) []) (Int.toNat x384) 0))] [0 ≤ x384 ∧ x384 < (((List.length (List.getD where_ (Int.toNat x306) [])) : Nat) : Int), World.cell? w404 ⟨b409, o410 + (Int.toNat x384) * 1, none⟩ = some (.int .i64 (List.getD (List.getD where_ (Int.toNat x306) []) (Int.toNat x384) 0))] E (by kernel_rfl) (by kernel_rfl) ⟨g408, Rds.at1 (H.rd 2 rds_ro) 0 g408⟩ ?_
       clear E; intro a E
       refine wpList_nil ?_
       refine th_n ?_
       refine wp_seq ?_
       refine wp_region_lit ?_
       obtain ⟨g411, hP⟩ := ask_inv hP
       refine vn tbok 6 [.int .i64 (List.getD off304 (Int.toNat (List.getD (List.getD where_ (Int.toNat x306) []) (Int.toNat x384) 0)) 0)] [(58, .bool (((List.getD off304 (Int.toNat (List.getD (List.getD where_ (Int.toNat x306) []) (Int.toNat x384) 0)) 0) : Int) == k160))] [0 ≤ (List.getD (List.getD where_ (Int.toNat x306) []) (Int.toNat x384) 0) ∧ (List.getD (List.getD where_ (Int.toNat x306) []) (Int.toNat x384) 0) < (((List.length off304) : Nat) : Int), World.cell? w404 ⟨g10, 0 + (Int.toNat (List.getD (List.getD where_ (Int.toNat x306) []) (Int.toNat x384) 0)) * 1, none⟩ = some (.int .i64 (List.getD off304 (Int.toNat (List.getD (List.getD where_ (Int.toNat x306) []) (Int.toNat x384) 0)) 0))] E (by kernel_rfl) (by kernel_rfl) ⟨g411, Rds.at1 (H.rd 1 rds_rowx) 0 g411⟩ ?_
       clear E; intro a E
       refine wpList_nil ?_
       refine th_n ?_
       refine E.cases (t := 58) rfl (fun hb_ E_ => ?_) (fun hb_ E_ => ?_)
       ·
        replace E := E_; clear E_
        have h412 : ((List.getD off304 (Int.toNat (List.getD (List.getD where_ (Int.toNat x306) []) (Int.toNat x384) 0)) 0) : Int) = k160 := eq_of_beq hb_
        clear hb_; replace hP := ite_t h412 hP
        refine c_true E rfl ?_
        refine wp_seq ?_
        refine wp_region_lit ?_
        obtain ⟨g413, hP⟩ := ask_inv hP
        refine vn tbok 5 [.int .i64 (k160 + 1)] [(62, .int .i64 (k160 + 1)), (63, .pointer (some ⟨g10, 0 + (Int.toNat x306) * 1, none⟩))] [IntKind.i64.wrap (k160 + 1) = k160 + 1, 0 ≤ x306 ∧ x306 < (((List.length off304) : Nat) : Int)] E (by kernel_rfl) (by kernel_rfl) ⟨wrap_in g413, g360⟩ ?_
        clear E; intro a E
        refine h_setx (g := g10) (i := x306) (k160 + 1) H 1 rfl E rfl rfl rfl rfl tbok rfl (fun _ HF_ => rfl) rfl g360 rfl ?_
        clear E; intro w414 a hc415 H_ E
        replace H := H_; clear H_; try dsimp only [setn, addE, goneL] at H
        have hn416 : (List.length off304) = (List.length (List.set off304 (Int.toNat x306) (k160 + 1))) := by simp only [List.length_set]
        replace E := E.same (t := 5) (u := .slice (some ⟨g10, 0, none⟩) (List.length (List.set off304 (Int.toNat x306) (k160 + 1))) (Int.toNat (((List.length good) : Nat) : Int))) rfl (congrArg (fun n_ => Value.slice (some ⟨g10, 0, none⟩) n_ (Int.toNat (((List.length good) : Nat) : Int))) hn416)
        refine vn tbok 1 [] [(9, .bool true)] [] E (by kernel_rfl) (by kernel_rfl) trivial ?_
        clear E; intro a E
        refine wpList_nil ?_
        refine th_n ?_
        refine wp_exit ?_
        refine bl_miss rfl ?_
        refine th_exit ?_
        have hx_ := Option.some.inj hP
        refine th_exit (.inl ⟨6, rfl, ?_⟩)
        exact ⟨rfl, (List.set off304 (Int.toNat x306) (k160 + 1), true), E.pick _ ⟨rfl, rfl, rfl, rfl, rfl, rfl, trivial⟩, H.sel [0, 1] rfl, hx_.symm⟩
       replace E := E_; clear E_
       have h417 : ¬ (((List.getD off304 (Int.toNat (List.getD (List.getD where_ (Int.toNat x306) []) (Int.toNat x384) 0)) 0) : Int) = k160) := ne_of_beq_false hb_
       clear hb_; replace hP := ite_f h417 hP
       refine c_false E rfl ?_
       refine wp_skip ?_
       refine bl_n ?_
       refine th_n ?_
       refine wp_region_lit ?_
       obtain ⟨g418, hP⟩ := ask_inv hP
       refine vn tbok 2 [.int .i64 (x384 + 1)] [(49, .int .i64 (x384 + 1))] [IntKind.i64.wrap (x384 + 1) = x384 + 1] E (by kernel_rfl) (by kernel_rfl) (wrap_in g418) ?_
       clear E; intro a E
       refine wpList_nil ?_
       exact th_n ⟨m400, Nat.lt_succ_self _, x384 + 1, E.pick _ ⟨rfl, rfl, rfl, rfl, rfl, rfl, rfl, rfl, rfl, rfl, trivial⟩, H.sel [0, 1, 2] rfl, hP⟩
      replace E := E_; clear E_
      have h419 : ¬ (x384 < (((List.length (List.getD where_ (Int.toNat x306) [])) : Nat) : Int)) := of_decide_eq_false hb_
      clear hb_; replace hP := ite_f h419 hP
      refine c_false E rfl ?_
      refine wp_exit ?_
      refine th_exit ?_
      have hx_ := Option.some.inj hP
      refine th_exit (.inl ⟨6, rfl, ?_⟩)
      exact ⟨rfl, (off304, more305), E.pick _ ⟨rfl, rfl, rfl, rfl, rfl, rfl, trivial⟩, H.sel [0, 1] rfl, hx_.symm⟩
     clear E H hL402; intro i_ a w404 hM_
     obtain ⟨rfl, x406, E, H, hx_⟩ := hM_
     subst hx_; have hP := hK403; clear hK403
     refine bl_hit ?_
     refine bl_n ?_
     refine th_n ?_
     refine wp_region_lit ?_
     obtain ⟨g420, hP⟩ := ask_inv hP
     refine vn tbok 2 [.int .i64 (x306 + 1)] [(36, .int .i64 (x306 + 1))] [IntKind.i64.wrap (x306 + 1) = x306 + 1] E (by kernel_rfl) (by kernel_rfl) (wrap_in g420) ?_
     clear E; intro a E
     refine wpList_nil ?_
     exact th_n ⟨m352, Nat.lt_succ_self _, x401.1, x401.2, x306 + 1, E.pick _ ⟨rfl, rfl, rfl, rfl, rfl, rfl, trivial⟩, H.sel [0, 1] rfl, hP⟩
    replace E := E_; clear E_
    have h421 : ¬ (x306 < (((List.length off159) : Nat) : Int)) := of_decide_eq_false hb_
    clear hb_; replace hP := ite_f h421 hP
    refine c_false E rfl ?_
    refine wp_exit ?_
    refine th_exit ?_
    have hx_ := Option.some.inj hP
    refine th_exit (.inl ⟨4, rfl, ?_⟩)
    exact ⟨rfl, (off304, more305), E.pick _ ⟨rfl, rfl, rfl, rfl, trivial⟩, H.sel [0, 1] rfl, hx_.symm⟩
   clear E H hL354; intro i_ a w356 hM_
   obtain ⟨rfl, x358, E, H, hx_⟩ := hM_
   subst hx_; have hP := hK355; clear hK355
   refine bl_hit ?_
   refine bl_n ?_
   refine th_n ?_
   refine wp_region_lit ?_
   obtain ⟨g422, hP⟩ := ask_inv hP
   refine vn tbok 3 [.int .i64 (k160 + 1)] [(8, .int .i64 (k160 + 1))] [IntKind.i64.wrap (k160 + 1) = k160 + 1] E (by kernel_rfl) (by kernel_rfl) (wrap_in g422) ?_
   clear E; intro a E
   refine wpList_nil ?_
   exact th_n ⟨m255, Nat.lt_succ_self _, x353.1, k160 + 1, x353.2, E.pick _ ⟨rfl, rfl, rfl, rfl, trivial⟩, H.sel [0, 1] rfl, hP⟩
  replace E := E_; clear E_
  have h423 : ¬ (more161 = true) := (ne_true_of_eq_false hb_)
  clear hb_; replace hP := ite_f h423 hP
  refine c_false E rfl ?_
  refine wp_exit ?_
  refine th_exit ?_
  have hx_ := Option.some.inj hP
  refine th_exit (.inl ⟨2, rfl, ?_⟩)
  exact ⟨rfl, off159, E.pick _ ⟨rfl, trivial⟩, H.sel [1] rfl, hx_.symm⟩
 clear E H hL257; intro i_ a w259 hM_
 obtain ⟨rfl, x261, E, H, hx_⟩ := hM_
 subst hx_; have hP := hK258; clear hK258
 refine bl_hit ?_
 refine th_n ?_
 refine wp_seq ?_
 refine wp_region_lit ?_
 refine vn tbok 2 [] [(4, .slice (some ⟨g10, 0, none⟩) (List.length x256) (Int.toNat (((List.length good) : Nat) : Int)))] [] E (by kernel_rfl) (by kernel_rfl) trivial ?_
 clear E; intro a E
 refine wpList_nil ?_
 refine th_n ?_
 refine wp_ret ?_
 replace H := H.rowx 0 rfl; try dsimp only [setn, addE, goneL] at H
 obtain rfl := Option.some.inj hP
 refine ret1 E rfl rfl ?_
 exact ⟨_, rfl, (some ⟨g10, 0, none⟩), (Int.toNat (((List.length good) : Nat) : Int)), rfl, H.sel [0] rfl⟩

end Go.V
