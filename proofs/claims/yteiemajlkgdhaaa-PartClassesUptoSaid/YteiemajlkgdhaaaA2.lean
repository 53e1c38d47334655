/- Plain functions, and the calls that give them. -/
import Derived.Test.YteiemajlkgdhaaaA1
set_option linter.all false
set_option linter.unusedVariables false
set_option linter.unnecessarySimpa false
set_option linter.unusedSimpArgs false
namespace Go.V
open Go Go.Proofs
/-! rejoinder/guard.Go -/
def guard_Go_l0 (N : Nat) (nodes : List Nd) (ll : Int) : Nat → Int → Int → Option (Unit ⊕ (Int × Bool))
  | 0, _, _ => none
  | m55 + 1, ref27, x28 =>
    if x28 < 9 then
      if ref27 < 0 then
        ask (in64 ((-1) - ref27)) <|
        some (Sum.inr ((-1) - ref27, true))
      else
        if (((List.length nodes) : Nat) : Int) ≤ ref27 then
          some (Sum.inr (0, false))
        else
          ask (idx ref27 (List.length nodes)) <|
          if ((List.getD nodes (Int.toNat ref27) (default : Nd)).P) < 0 then
            some (Sum.inr (0, false))
          else
            if 8 ≤ ((List.getD nodes (Int.toNat ref27) (default : Nd)).P) then
              some (Sum.inr (0, false))
            else
              ask (0 ≤ ((List.getD nodes (Int.toNat ref27) (default : Nd)).P)) <|
              if (andV .u8 (shrV .u8 ll ((List.getD nodes (Int.toNat ref27) (default : Nd)).P)) 1 : Int) = 1 then
                ask (in64 (x28 + 1)) <|
                guard_Go_l0 N nodes ll m55 ((List.getD nodes (Int.toNat ref27) (default : Nd)).Hi) (x28 + 1)
              else
                ask (in64 (x28 + 1)) <|
                guard_Go_l0 N nodes ll m55 ((List.getD nodes (Int.toNat ref27) (default : Nd)).Lo) (x28 + 1)
    else
      some (Sum.inl ())
def guard_Go (N : Nat) (nodes : List Nd) (ref : Int) (ll : Int) : Option (Int × Bool) :=
  Option.bind (guard_Go_l0 N nodes ll N ref 0) fun x56 =>
  Sum.elim (fun x61 =>
    some (0, false))
   (fun x88 =>
    some x88) x56
set_option maxRecDepth 100000 in
set_option maxHeartbeats 4000000 in
theorem guard_Go_calls {N : Nat} {S Fa : Nat → Prop} {w0 : World} {r : Int × Bool} (A1 : Option Addr) (c2 : Nat) (nodes : List Nd) (ref : Int) (ll : Int) (hk3 : List.length nodes ≤ c2) (H : Hp S Fa w0 w0 [.ro false cNode A1 nodes]) (hP : guard_Go N nodes ref ll = some r) :
    Calls Try.prog 28 #[.slice A1 (List.length nodes) c2, .int .i64 ref, .int .u8 ll] w0 fun e w' => ∃ v, e = .returned v ∧ v = .tuple #[.int .i64 r.1, .bool r.2] ∧ Hp S Fa w0 w' [] := by
 refine enterV (n := 50) Try.func28 rfl rfl rfl ?_
 intro a E
 replace E := E.pick [(0, .slice A1 (List.length nodes) c2), (1, .int .i64 ref), (2, .int .u8 ll)] ⟨rfl, rfl, rfl, trivial⟩
 rw [guard_Go] at hP
 refine wp_seq ?_
 refine wp_region_lit ?_
 refine vr tbok 2 [] [(0, .slice A1 (List.length nodes) c2), (1, .int .i64 ref), (2, .int .u8 ll)] [] E (by kernel_rfl) trivial ?_
 clear E; intro a E
 refine wpList_nil ?_
 refine th_n ?_
 refine wp_seq ?_
 refine wp_seq ?_
 refine wp_region_lit ?_
 refine vr tbok 1 [] [(0, .slice A1 (List.length nodes) c2), (1, .int .i64 ref), (2, .int .u8 ll), (9, .int .i64 0)] [] E (by kernel_rfl) trivial ?_
 clear E; intro a E
 refine wpList_nil ?_
 refine th_n ?_
 refine wp_block ?_
 obtain ⟨x56, hL57, hK58⟩ := bind_inv hP
 clear hP
 refine loop_cut (fun i_ a w_ => (i_ = 0 ∧ ∃ (x61 : Unit), Fr a 50 [] ∧ Hp S Fa w0 w_ [] ∧ x56 = Sum.inl x61)) ?_ ?_
 ·
  refine loopV (fun m60 a w59 => ∃ (ref27 : Int) (x28 : Int), Fr a 50 [(0, .slice A1 (List.length nodes) c2), (1, .int .i64 ref27), (2, .int .u8 ll), (9, .int .i64 x28)] ∧ Hp S Fa w0 w59 [.ro false cNode A1 nodes] ∧ guard_Go_l0 N nodes ll m60 ref27 x28 = some x56) N ?_ ?_
  ·
   exact ⟨ref, 0, E.pick _ ⟨rfl, rfl, rfl, rfl, trivial⟩, H.sel [0] rfl, hL57⟩
  clear E H hL57; intro m60 a w59 hI_
  obtain ⟨ref27, x28, E, H, hP⟩ := hI_
  obtain ⟨m55, rfl⟩ : ∃ q_, m60 = q_ + 1 := by cases m60 with | zero => rw [guard_Go_l0] at hP; cases hP | succ q_ => exact ⟨q_, rfl⟩
  rw [guard_Go_l0] at hP
  refine wp_seq ?_
  refine wp_region_lit ?_
  refine vr tbok 1 [] [(0, .slice A1 (List.length nodes) c2), (1, .int .i64 ref27), (2, .int .u8 ll), (9, .int .i64 x28), (10, .bool (decide (x28 < 9)))] [] E (by kernel_rfl) trivial ?_
  clear E; intro a E
  refine wpList_nil ?_
  refine th_n ?_
  refine wp_seq ?_
  refine E.cases (t := 10) rfl (fun hb_ E_ => ?_) (fun hb_ E_ => ?_)
  ·
   replace E := E_; clear E_
   have h62 : x28 < 9 := of_decide_eq_true hb_
   clear hb_; replace hP := ite_t h62 hP
   refine c_true E rfl ?_
   refine wp_skip ?_
   refine th_n ?_
   refine wp_seq ?_
   refine wp_block ?_
   refine wp_seq ?_
   refine wp_seq ?_
   refine wp_region_lit ?_
   refine vr tbok 2 [] [(0, .slice A1 (List.length nodes) c2), (1, .int .i64 ref27), (2, .int .u8 ll), (9, .int .i64 x28), (12, .bool (decide (ref27 < 0)))] [] E (by kernel_rfl) trivial ?_
   clear E; intro a E
   refine wpList_nil ?_
   refine th_n ?_
   refine E.cases (t := 12) rfl (fun hb_ E_ => ?_) (fun hb_ E_ => ?_)
   ·
    replace E := E_; clear E_
    have h63 : ref27 < 0 := of_decide_eq_true hb_
    clear hb_; replace hP := ite_t h63 hP
    refine c_true E rfl ?_
    refine wp_seq ?_
    refine wp_region_lit ?_
    obtain ⟨g64, hP⟩ := ask_inv hP
    refine vr tbok 4 [.int .i64 ((-1) - ref27)] [(6, .int .i64 ((-1) - ref27)), (7, .bool true)] [IntKind.i64.wrap ((-1) - ref27) = (-1) - ref27] E (by kernel_rfl) (wrap_in g64) ?_
    clear E; intro a E
    refine wpList_nil ?_
    refine th_n ?_
    refine wp_ret ?_
    refine th_ret ?_
    refine bl_ret ?_
    refine th_ret ?_
    refine th_ret ?_
    refine .inr ⟨rfl, ?_⟩
    refine bl_ret ?_
    refine th_ret ?_
    have hx_ := Option.some.inj hP; subst hx_
    have hP : some (((-1) - ref27, true)) = some r := hK58
    obtain rfl := Option.some.inj hP
    refine ret2 E rfl rfl rfl ?_
    exact ⟨_, rfl, rfl, H.sel [] rfl⟩
   replace E := E_; clear E_
   have h65 : ¬ (ref27 < 0) := of_decide_eq_false hb_
   clear hb_; replace hP := ite_f h65 hP
   refine c_false E rfl ?_
   refine wp_skip ?_
   refine th_n ?_
   refine wp_seq ?_
   refine wp_seq ?_
   refine wp_region_lit ?_
   refine vr tbok 5 [] [(0, .slice A1 (List.length nodes) c2), (1, .int .i64 ref27), (2, .int .u8 ll), (9, .int .i64 x28), (19, .bool (decide ((((List.length nodes) : Nat) : Int) ≤ ref27)))] [] E (by kernel_rfl) trivial ?_
   clear E; intro a E
   refine E.cases (t := 19) rfl (fun hb_ E_ => ?_) (fun hb_ E_ => ?_)
   ·
    replace E := E_; clear E_
    have h66 : (((List.length nodes) : Nat) : Int) ≤ ref27 := of_decide_eq_true hb_
    clear hb_; replace hP := ite_t h66 hP
    refine vr tbok 15 [] [(0, .slice A1 (List.length nodes) c2), (1, .int .i64 ref27), (2, .int .u8 ll), (9, .int .i64 x28), (34, .bool true)] [] E (by kernel_rfl) trivial ?_
    clear E; intro a E
    refine wpList_nil ?_
    refine th_n ?_
    refine c_true E rfl ?_
    refine wp_seq ?_
    refine wp_region_lit ?_
    refine vr tbok 2 [] [(6, .int .i64 0), (7, .bool false)] [] E (by kernel_rfl) trivial ?_
    clear E; intro a E
    refine wpList_nil ?_
    refine th_n ?_
    refine wp_ret ?_
    refine th_ret ?_
    refine bl_ret ?_
    refine th_ret ?_
    refine th_ret ?_
    refine .inr ⟨rfl, ?_⟩
    refine bl_ret ?_
    refine th_ret ?_
    have hx_ := Option.some.inj hP; subst hx_
    have hP : some ((0, false)) = some r := hK58
    obtain rfl := Option.some.inj hP
    refine ret2 E rfl rfl rfl ?_
    exact ⟨_, rfl, rfl, H.sel [] rfl⟩
   replace E := E_; clear E_
   have h67 : ¬ ((((List.length nodes) : Nat) : Int) ≤ ref27) := of_decide_eq_false hb_
   clear hb_; replace hP := ite_f h67 hP
   obtain ⟨g68, hP⟩ := ask_inv hP
   obtain ⟨b69, o70, e_b69⟩ := (H.rd 0 rds_ro).addr (idx_pos g68)
   subst e_b69
   refine vr tbok 8 [.int .i64 ((List.getD nodes (Int.toNat ref27) (default : Nd)).P)] [(0, .slice (some ⟨b69, o70, none⟩) (List.length nodes) c2), (1, .int .i64 ref27), (2, .int .u8 ll), (9, .int .i64 x28), (27, .bool (decide (((List.getD nodes (Int.toNat ref27) (default : Nd)).P) < 0)))] [0 ≤ ref27 ∧ ref27 < (((List.length nodes) : Nat) : Int), World.cell? w59 ⟨b69, o70 + (Int.toNat ref27) * 3, none⟩ = some (.int .i64 ((List.getD nodes (Int.toNat ref27) (default : Nd)).P))] E (by kernel_rfl) ⟨g68, (Rds.atP (H.rd 0 rds_ro) (default : Nd) g68).1⟩ ?_
   clear E; intro a E
   refine E.cases (t := 27) rfl (fun hb_ E_ => ?_) (fun hb_ E_ => ?_)
   ·
    replace E := E_; clear E_
    have h71 : ((List.getD nodes (Int.toNat ref27) (default : Nd)).P) < 0 := of_decide_eq_true hb_
    clear hb_; replace hP := ite_t h71 hP
    refine vr tbok 7 [] [(0, .slice (some ⟨b69, o70, none⟩) (List.length nodes) c2), (1, .int .i64 ref27), (2, .int .u8 ll), (9, .int .i64 x28), (34, .bool true)] [] E (by kernel_rfl) trivial ?_
    clear E; intro a E
    refine wpList_nil ?_
    refine th_n ?_
    refine c_true E rfl ?_
    refine wp_seq ?_
    refine wp_region_lit ?_
    refine vr tbok 2 [] [(6, .int .i64 0), (7, .bool false)] [] E (by kernel_rfl) trivial ?_
    clear E; intro a E
    refine wpList_nil ?_
    refine th_n ?_
    refine wp_ret ?_
    refine th_ret ?_
    refine bl_ret ?_
    refine th_ret ?_
    refine th_ret ?_
    refine .inr ⟨rfl, ?_⟩
    refine bl_ret ?_
    refine th_ret ?_
    have hx_ := Option.some.inj hP; subst hx_
    have hP : some ((0, false)) = some r := hK58
    obtain rfl := Option.some.inj hP
    refine ret2 E rfl rfl rfl ?_
    exact ⟨_, rfl, rfl, H.sel [] rfl⟩
   replace E := E_; clear E_
   have h72 : ¬ (((List.getD nodes (Int.toNat ref27) (default : Nd)).P) < 0) := of_decide_eq_false hb_
   clear hb_; replace hP := ite_f h72 hP
   refine vr tbok 7 [.int .i64 ((List.getD nodes (Int.toNat ref27) (default : Nd)).P)] [(0, .slice (some ⟨b69, o70, none⟩) (List.length nodes) c2), (1, .int .i64 ref27), (2, .int .u8 ll), (9, .int .i64 x28), (34, .bool (decide (8 ≤ ((List.getD nodes (Int.toNat ref27) (default : Nd)).P))))] [0 ≤ ref27 ∧ ref27 < (((List.length nodes) : Nat) : Int), World.cell? w59 ⟨b69, o70 + (Int.toNat ref27) * 3, none⟩ = some (.int .i64 ((List.getD nodes (Int.toNat ref27) (default : Nd)).P))] E (by kernel_rfl) ⟨g68, (Rds.atP (H.rd 0 rds_ro) (default : Nd) g68).1⟩ ?_
   clear E; intro a E
   refine wpList_nil ?_
   refine th_n ?_
   refine E.cases (t := 34) rfl (fun hb_ E_ => ?_) (fun hb_ E_ => ?_)
   ·
    replace E := E_; clear E_
    have h73 : 8 ≤ ((List.getD nodes (Int.toNat ref27) (default : Nd)).P) := of_decide_eq_true hb_
    clear hb_; replace hP := ite_t h73 hP
    refine c_true E rfl ?_
    refine wp_seq ?_
    refine wp_region_lit ?_
    refine vr tbok 2 [] [(6, .int .i64 0), (7, .bool false)] [] E (by kernel_rfl) trivial ?_
    clear E; intro a E
    refine wpList_nil ?_
    refine th_n ?_
    refine wp_ret ?_
    refine th_ret ?_
    refine bl_ret ?_
    refine th_ret ?_
    refine th_ret ?_
    refine .inr ⟨rfl, ?_⟩
    refine bl_ret ?_
    refine th_ret ?_
    have hx_ := Option.some.inj hP; subst hx_
    have hP : some ((0, false)) = some r := hK58
    obtain rfl := Option.some.inj hP
    refine ret2 E rfl rfl rfl ?_
    exact ⟨_, rfl, rfl, H.sel [] rfl⟩
   replace E := E_; clear E_
   have h74 : ¬ (8 ≤ ((List.getD nodes (Int.toNat ref27) (default : Nd)).P)) := of_decide_eq_false hb_
   clear hb_; replace hP := ite_f h74 hP
   refine c_false E rfl ?_
   refine wp_skip ?_
   refine th_n ?_
   refine wp_seq ?_
   refine wp_region_lit ?_
   refine vr tbok 4 [.agg #[.int .i64 ((List.getD nodes (Int.toNat ref27) (default : Nd)).P), .int .i64 ((List.getD nodes (Int.toNat ref27) (default : Nd)).Lo), .int .i64 ((List.getD nodes (Int.toNat ref27) (default : Nd)).Hi)]] [(0, .slice (some ⟨b69, o70, none⟩) (List.length nodes) c2), (2, .int .u8 ll), (9, .int .i64 x28), (38, .agg #[.int .i64 ((List.getD nodes (Int.toNat ref27) (default : Nd)).P), .int .i64 ((List.getD nodes (Int.toNat ref27) (default : Nd)).Lo), .int .i64 ((List.getD nodes (Int.toNat ref27) (default : Nd)).Hi)])] [0 ≤ ref27 ∧ ref27 < (((List.length nodes) : Nat) : Int), cellsAt w59 b69 (o70 + (Int.toNat ref27) * 3) [.int .i64 ((List.getD nodes (Int.toNat ref27) (default : Nd)).P), .int .i64 ((List.getD nodes (Int.toNat ref27) (default : Nd)).Lo), .int .i64 ((List.getD nodes (Int.toNat ref27) (default : Nd)).Hi)]] E (by kernel_rfl) ⟨g68, Rds.atP (H.rd 0 rds_ro) (default : Nd) g68⟩ ?_
   clear E; intro a E
   refine h_alloc H E rfl rfl tbok rfl ?_
   intro w76 g75 a hc77 hg79 H_ E_
   replace E := E_ _ rfl; clear E_
   replace H := H_; clear H_; try dsimp only [setn, addE, goneL] at H
   refine h_store (g := g75) (off := 0) H 1 rfl E rfl rfl rfl rfl tbok rfl rfl rfl rfl rfl ?_
   clear E; intro w80 a hc81 H_ E
   replace H := H_; clear H_; try dsimp only [setn, addE, goneL] at H
   refine wpList_nil ?_
   refine th_n ?_
   refine wp_seq ?_
   refine wp_region_lit ?_
   refine vr tbok 3 [.int .i64 ((List.getD nodes (Int.toNat ref27) (default : Nd)).Lo)] [(0, .slice (some ⟨b69, o70, none⟩) (List.length nodes) c2), (1, .int .i64 ((List.getD nodes (Int.toNat ref27) (default : Nd)).Lo)), (2, .int .u8 ll), (8, .pointer (some ⟨g75, 0, none⟩)), (9, .int .i64 x28)] [World.cell? w80 ⟨g75, 1, none⟩ = some (.int .i64 ((List.getD nodes (Int.toNat ref27) (default : Nd)).Lo))] E (by kernel_rfl) ((H.box 1 rfl).cell (j := 1) rfl) ?_
   clear E; intro a E
   refine wpList_nil ?_
   refine th_n ?_
   refine wp_seq ?_
   refine wp_region_lit ?_
   obtain ⟨g82, hP⟩ := ask_inv hP
   refine vr tbok 6 [.int .i64 ((List.getD nodes (Int.toNat ref27) (default : Nd)).P), .int .u8 (shrV .u8 ll ((List.getD nodes (Int.toNat ref27) (default : Nd)).P)), .int .u8 (andV .u8 (shrV .u8 ll ((List.getD nodes (Int.toNat ref27) (default : Nd)).P)) 1)] [(0, .slice (some ⟨b69, o70, none⟩) (List.length nodes) c2), (1, .int .i64 ((List.getD nodes (Int.toNat ref27) (default : Nd)).Lo)), (2, .int .u8 ll), (8, .pointer (some ⟨g75, 0, none⟩)), (9, .int .i64 x28), (46, .bool ((andV .u8 (shrV .u8 ll ((List.getD nodes (Int.toNat ref27) (default : Nd)).P)) 1 : Int) == 1))] [World.cell? w80 ⟨g75, 0, none⟩ = some (.int .i64 ((List.getD nodes (Int.toNat ref27) (default : Nd)).P)), 0 ≤ ((List.getD nodes (Int.toNat ref27) (default : Nd)).P) ∧ Int.fdiv ll (2 ^ (min (Int.toNat ((List.getD nodes (Int.toNat ref27) (default : Nd)).P)) (IntKind.bits .u8))) = shrV .u8 ll ((List.getD nodes (Int.toNat ref27) (default : Nd)).P), IntKind.u8.wrap (BitVec.ofInt (IntKind.bits .u8) (shrV .u8 ll ((List.getD nodes (Int.toNat ref27) (default : Nd)).P)) &&& BitVec.ofInt (IntKind.bits .u8) 1).toNat = andV .u8 (shrV .u8 ll ((List.getD nodes (Int.toNat ref27) (default : Nd)).P)) 1] E (by kernel_rfl) ⟨(H.box 1 rfl).cell (j := 0) rfl, ⟨g82, rfl⟩, rfl⟩ ?_
   clear E; intro a E
   refine wpList_nil ?_
   refine th_n ?_
   refine E.cases (t := 46) rfl (fun hb_ E_ => ?_) (fun hb_ E_ => ?_)
   ·
    replace E := E_; clear E_
    have h83 : (andV .u8 (shrV .u8 ll ((List.getD nodes (Int.toNat ref27) (default : Nd)).P)) 1 : Int) = 1 := eq_of_beq hb_
    clear hb_; replace hP := ite_t h83 hP
    refine c_true E rfl ?_
    refine wp_region_lit ?_
    refine vr tbok 3 [.int .i64 ((List.getD nodes (Int.toNat ref27) (default : Nd)).Hi)] [(0, .slice (some ⟨b69, o70, none⟩) (List.length nodes) c2), (1, .int .i64 ((List.getD nodes (Int.toNat ref27) (default : Nd)).Hi)), (2, .int .u8 ll), (9, .int .i64 x28)] [World.cell? w80 ⟨g75, 2, none⟩ = some (.int .i64 ((List.getD nodes (Int.toNat ref27) (default : Nd)).Hi))] E (by kernel_rfl) ((H.box 1 rfl).cell (j := 2) rfl) ?_
    clear E; intro a E
    refine wpList_nil ?_
    refine bl_n ?_
    refine th_n ?_
    refine wp_region_lit ?_
    obtain ⟨g84, hP⟩ := ask_inv hP
    refine vr tbok 2 [.int .i64 (x28 + 1)] [(0, .slice (some ⟨b69, o70, none⟩) (List.length nodes) c2), (1, .int .i64 ((List.getD nodes (Int.toNat ref27) (default : Nd)).Hi)), (2, .int .u8 ll), (9, .int .i64 (x28 + 1))] [IntKind.i64.wrap (x28 + 1) = x28 + 1] E (by kernel_rfl) (wrap_in g84) ?_
    clear E; intro a E
    refine wpList_nil ?_
    exact th_n ⟨m55, Nat.lt_succ_self _, (List.getD nodes (Int.toNat ref27) (default : Nd)).Hi, x28 + 1, E.pick _ ⟨rfl, rfl, rfl, rfl, trivial⟩, H.sel [0] rfl, hP⟩
   replace E := E_; clear E_
   have h85 : ¬ ((andV .u8 (shrV .u8 ll ((List.getD nodes (Int.toNat ref27) (default : Nd)).P)) 1 : Int) = 1) := ne_of_beq_false hb_
   clear hb_; replace hP := ite_f h85 hP
   refine c_false E rfl ?_
   refine wp_skip ?_
   refine bl_n ?_
   refine th_n ?_
   refine wp_region_lit ?_
   obtain ⟨g86, hP⟩ := ask_inv hP
   refine vr tbok 2 [.int .i64 (x28 + 1)] [(0, .slice (some ⟨b69, o70, none⟩) (List.length nodes) c2), (1, .int .i64 ((List.getD nodes (Int.toNat ref27) (default : Nd)).Lo)), (2, .int .u8 ll), (9, .int .i64 (x28 + 1))] [IntKind.i64.wrap (x28 + 1) = x28 + 1] E (by kernel_rfl) (wrap_in g86) ?_
   clear E; intro a E
   refine wpList_nil ?_
   exact th_n ⟨m55, Nat.lt_succ_self _, (List.getD nodes (Int.toNat ref27) (default : Nd)).Lo, x28 + 1, E.pick _ ⟨rfl, rfl, rfl, rfl, trivial⟩, H.sel [0] rfl, hP⟩
  replace E := E_; clear E_
  have h87 : ¬ (x28 < 9) := of_decide_eq_false hb_
  clear hb_; replace hP := ite_f h87 hP
  refine c_false E rfl ?_
  refine wp_exit ?_
  refine th_exit ?_
  have hx_ := Option.some.inj hP
  refine th_exit (.inl ⟨0, rfl, ?_⟩)
  exact ⟨rfl, (), E.pick _ trivial, H.sel [] rfl, hx_.symm⟩
 clear E H hL57; intro i_ a w59 hM_
 obtain ⟨rfl, x61, E, H, hx_⟩ := hM_
 subst hx_; have hP := elim_l hK58
 clear hK58
 refine bl_hit ?_
 refine th_n ?_
 refine wp_seq ?_
 refine wp_region_lit ?_
 refine vr tbok 2 [] [(6, .int .i64 0), (7, .bool false)] [] E (by kernel_rfl) trivial ?_
 clear E; intro a E
 refine wpList_nil ?_
 refine th_n ?_
 refine wp_ret ?_
 obtain rfl := Option.some.inj hP
 refine ret2 E rfl rfl rfl ?_
 exact ⟨_, rfl, rfl, H.sel [] rfl⟩

/-! rejoinder/guard.Table -/
def guard_Table_l0 (N : Nat) (n : Int) (nodes : List Nd) (ref : Int) : Nat → (List Int) → Int → Option ((List Int) ⊕ ((List Int) × Int))
  | 0, _, _ => none
  | m72 + 1, out38, x41 =>
    if x41 < (shlV .i64 1 n) then
      Option.bind (guard_Go N nodes ref (IntKind.u8.wrap x41)) fun r81 =>
      if r81.2 = true then
        ask (List.length out38 + List.length ([r81.1] : List Int) ≤ 1000000000) <|
        ask (in64 (x41 + 1)) <|
        guard_Table_l0 N n nodes ref m72 (out38 ++ ([r81.1] : List Int)) (x41 + 1)
      else
        some (Sum.inr ([], 12))
    else
      some (Sum.inl out38)
def guard_Table (N : Nat) (n : Int) (nodes : List Nd) (ref : Int) : Option ((List Int) × Int) :=
  if n < 0 then
    some ([], 2)
  else
    if 8 < n then
      some ([], 2)
    else
      ask (0 ≤ n) <|
      Option.bind (guard_Table_l0 N n nodes ref N [] 0) fun x73 =>
      Sum.elim (fun x79 =>
        some (x79, 0))
       (fun x106 =>
        some x106) x73
set_option maxRecDepth 100000 in
set_option maxHeartbeats 4000000 in
theorem guard_Table_calls {N : Nat} {S Fa : Nat → Prop} {w0 : World} {r : (List Int) × Int} (A1 : Option Addr) (c2 : Nat) (n : Int) (nodes : List Nd) (ref : Int) (hk3 : List.length nodes ≤ c2) (H : Hp S Fa w0 w0 [.ro false cNode A1 nodes]) (hP : guard_Table N n nodes ref = some r) :
    Calls Try.prog 39 #[.int .i64 n, .slice A1 (List.length nodes) c2, .int .i64 ref] w0 fun e w' => ∃ v, e = .returned v ∧ ∃ (A107 : Option Addr) (c108 : Nat), v = .tuple #[.slice A107 (List.length r.1) c108, .int .i64 r.2] ∧ Hp S Fa w0 w' [.row true (cInt .i64) 3 A107 c108 r.1] := by
 refine enterV (n := 39) Try.func39 rfl rfl rfl ?_
 intro a E
 replace E := E.pick [(0, .int .i64 n), (1, .slice A1 (List.length nodes) c2), (2, .int .i64 ref)] ⟨rfl, rfl, rfl, trivial⟩
 rw [guard_Table] at hP
 refine wp_seq ?_
 refine wp_region_lit ?_
 refine vr tbok 2 [] [(0, .int .i64 n), (1, .slice A1 (List.length nodes) c2), (2, .int .i64 ref)] [] E (by kernel_rfl) trivial ?_
 clear E; intro a E
 refine wpList_nil ?_
 refine th_n ?_
 refine wp_seq ?_
 refine wp_seq ?_
 refine wp_region_lit ?_
 refine vr tbok 3 [] [(0, .int .i64 n), (1, .slice A1 (List.length nodes) c2), (2, .int .i64 ref), (14, .bool (decide (n < 0)))] [] E (by kernel_rfl) trivial ?_
 clear E; intro a E
 refine E.cases (t := 14) rfl (fun hb_ E_ => ?_) (fun hb_ E_ => ?_)
 ·
  replace E := E_; clear E_
  have h5 : n < 0 := of_decide_eq_true hb_
  clear hb_; replace hP := ite_t h5 hP
  refine vr tbok 3 [] [(0, .int .i64 n), (1, .slice A1 (List.length nodes) c2), (2, .int .i64 ref), (17, .bool true)] [] E (by kernel_rfl) trivial ?_
  clear E; intro a E
  refine wpList_nil ?_
  refine th_n ?_
  refine c_true E rfl ?_
  refine wp_seq ?_
  refine wp_region_lit ?_
  refine vr tbok 2 [] [(6, .slice none 0 0), (7, .int .i64 2)] [] E (by kernel_rfl) trivial ?_
  clear E; intro a E
  refine wpList_nil ?_
  refine th_n ?_
  refine wp_ret ?_
  refine th_ret ?_
  replace H := H.nilrow (cInt .i64) 3; try dsimp only [setn, addE, goneL] at H
  obtain rfl := Option.some.inj hP
  refine ret2 E rfl rfl rfl ?_
  exact ⟨_, rfl, none, 0, rfl, H.sel [1] rfl⟩
 replace E := E_; clear E_
 have h7 : ¬ (n < 0) := of_decide_eq_false hb_
 clear hb_; replace hP := ite_f h7 hP
 refine vr tbok 3 [] [(0, .int .i64 n), (1, .slice A1 (List.length nodes) c2), (2, .int .i64 ref), (17, .bool (decide (8 < n)))] [] E (by kernel_rfl) trivial ?_
 clear E; intro a E
 refine wpList_nil ?_
 refine th_n ?_
 refine E.cases (t := 17) rfl (fun hb_ E_ => ?_) (fun hb_ E_ => ?_)
 ·
  replace E := E_; clear E_
  have h8 : 8 < n := of_decide_eq_true hb_
  clear hb_; replace hP := ite_t h8 hP
  refine c_true E rfl ?_
  refine wp_seq ?_
  refine wp_region_lit ?_
  refine vr tbok 2 [] [(6, .slice none 0 0), (7, .int .i64 2)] [] E (by kernel_rfl) trivial ?_
  clear E; intro a E
  refine wpList_nil ?_
  refine th_n ?_
  refine wp_ret ?_
  refine th_ret ?_
  replace H := H.nilrow (cInt .i64) 3; try dsimp only [setn, addE, goneL] at H
  obtain rfl := Option.some.inj hP
  refine ret2 E rfl rfl rfl ?_
  exact ⟨_, rfl, none, 0, rfl, H.sel [1] rfl⟩
 replace E := E_; clear E_
 have h10 : ¬ (8 < n) := of_decide_eq_false hb_
 clear hb_; replace hP := ite_f h10 hP
 refine c_false E rfl ?_
 refine wp_skip ?_
 refine th_n ?_
 refine wp_seq ?_
 refine wp_region_lit ?_
 refine vr tbok 1 [] [(0, .int .i64 n), (1, .slice A1 (List.length nodes) c2), (2, .int .i64 ref), (8, .slice none 0 0)] [] E (by kernel_rfl) trivial ?_
 clear E; intro a E
 refine wpList_nil ?_
 refine th_n ?_
 refine wp_seq ?_
 refine wp_seq ?_
 refine wp_region_lit ?_
 obtain ⟨g11, hP⟩ := ask_inv hP
 refine vr tbok 3 [.int .i64 (shlV .i64 1 n)] [(1, .slice A1 (List.length nodes) c2), (2, .int .i64 ref), (8, .slice none 0 0), (19, .int .i64 (shlV .i64 1 n)), (20, .int .i64 0)] [0 ≤ n ∧ IntKind.i64.wrap (1 * 2 ^ (min (Int.toNat n) (IntKind.bits .i64))) = shlV .i64 1 n] E (by kernel_rfl) (⟨g11, rfl⟩) ?_
 clear E; intro a E
 refine wpList_nil ?_
 refine th_n ?_
 refine wp_block ?_
 obtain ⟨x73, hL74, hK75⟩ := bind_inv hP
 clear hP
 replace H := H.nilrow (cInt .i64) 3; try dsimp only [setn, addE, goneL] at H
 refine loop_cut (fun i_ a w_ => (i_ = 0 ∧ ∃ (x79 : List Int), ∃ (A70 : Option Addr) (c71 : Nat), Fr a 39 [(8, .slice A70 (List.length x79) c71)] ∧ Hp S Fa w0 w_ [.row true (cInt .i64) 3 A70 c71 x79] ∧ x73 = Sum.inl x79)) ?_ ?_
 ·
  refine loopV (fun m78 a w77 => ∃ (out38 : List Int) (x41 : Int), ∃ (A39 : Option Addr) (c40 : Nat), Fr a 39 [(1, .slice A1 (List.length nodes) c2), (2, .int .i64 ref), (8, .slice A39 (List.length out38) c40), (19, .int .i64 (shlV .i64 1 n)), (20, .int .i64 x41)] ∧ Hp S Fa w0 w77 [.ro false cNode A1 nodes, .row true (cInt .i64) 3 A39 c40 out38] ∧ guard_Table_l0 N n nodes ref m78 out38 x41 = some x73) N ?_ ?_
  ·
   exact ⟨[], 0, none, 0, E.pick _ ⟨rfl, rfl, rfl, rfl, rfl, trivial⟩, H.sel [0, 1] rfl, hL74⟩
  clear E H hL74; intro m78 a w77 hI_
  obtain ⟨out38, x41, A39, c40, E, H, hP⟩ := hI_
  obtain ⟨m72, rfl⟩ : ∃ q_, m78 = q_ + 1 := by cases m78 with | zero => rw [guard_Table_l0] at hP; cases hP | succ q_ => exact ⟨q_, rfl⟩
  rw [guard_Table_l0] at hP
  refine wp_seq ?_
  refine wp_region_lit ?_
  refine vr tbok 1 [] [(1, .slice A1 (List.length nodes) c2), (2, .int .i64 ref), (8, .slice A39 (List.length out38) c40), (19, .int .i64 (shlV .i64 1 n)), (20, .int .i64 x41), (21, .bool (decide (x41 < (shlV .i64 1 n))))] [] E (by kernel_rfl) trivial ?_
  clear E; intro a E
  refine wpList_nil ?_
  refine th_n ?_
  refine wp_seq ?_
  refine E.cases (t := 21) rfl (fun hb_ E_ => ?_) (fun hb_ E_ => ?_)
  ·
   replace E := E_; clear E_
   have h80 : x41 < (shlV .i64 1 n) := of_decide_eq_true hb_
   clear hb_; replace hP := ite_t h80 hP
   refine c_true E rfl ?_
   refine wp_skip ?_
   refine th_n ?_
   refine wp_seq ?_
   refine wp_block ?_
   refine wp_seq ?_
   refine wp_region_lit ?_
   refine vr tbok 2 [] [(1, .slice A1 (List.length nodes) c2), (2, .int .i64 ref), (8, .slice A39 (List.length out38) c40), (9, .int .i64 x41), (19, .int .i64 (shlV .i64 1 n)), (20, .int .i64 x41)] [] E (by kernel_rfl) trivial ?_
   clear E; intro a E
   refine wpList_nil ?_
   refine th_n ?_
   refine wp_seq ?_
   refine wp_region_lit ?_
   refine vr tbok 4 [.int .u8 (IntKind.u8.wrap x41)] [(1, .slice A1 (List.length nodes) c2), (2, .int .i64 ref), (8, .slice A39 (List.length out38) c40), (19, .int .i64 (shlV .i64 1 n)), (20, .int .i64 x41), (24, .slice A1 (List.length nodes) c2), (25, .int .i64 ref), (27, .int .u8 (IntKind.u8.wrap x41))] [IntKind.u8.wrap x41 = (IntKind.u8.wrap x41)] E (by kernel_rfl) (rfl) ?_
   clear E; intro a E
   obtain ⟨r81, h82, hP⟩ := bind_inv hP
   obtain ⟨Fa83, Hc84, hb85⟩ := H.call [] [(0, false)] rfl rfl trivial
   refine e_call E rfl rfl Try.func28 rfl rfl rfl (guard_Go_calls A1 c2 nodes ref (IntKind.u8.wrap x41) hk3 Hc84 h82) ?_
   rintro v86 w87 a ⟨rfl, HR88⟩ E_
   replace E := E_ _ rfl; clear E_
   obtain ⟨H_, hc89⟩ := hb85 _ _ HR88 rfl
   replace H := H_; clear H_; try dsimp only [setn, addE, goneL] at H
   refine vr tbok 5 [] [(1, .slice A1 (List.length nodes) c2), (2, .int .i64 ref), (8, .slice A39 (List.length out38) c40), (10, .int .i64 r81.1), (11, .bool r81.2), (19, .int .i64 (shlV .i64 1 n)), (20, .int .i64 x41)] [] E (by kernel_rfl) trivial ?_
   clear E; intro a E
   refine wpList_nil ?_
   refine th_n ?_
   refine wp_seq ?_
   refine wp_seq ?_
   refine wp_region_lit ?_
   refine vr tbok 2 [] [(1, .slice A1 (List.length nodes) c2), (2, .int .i64 ref), (8, .slice A39 (List.length out38) c40), (10, .int .i64 r81.1), (19, .int .i64 (shlV .i64 1 n)), (20, .int .i64 x41), (32, .bool (!r81.2))] [] E (by kernel_rfl) trivial ?_
   clear E; intro a E
   refine wpList_nil ?_
   refine th_n ?_
   refine E.cases (t := 32) rfl (fun hb_ E_ => ?_) (fun hb_ E_ => ?_)
   ·
    replace E := E_; clear E_
    have h90 : ¬ (r81.2 = true) := (ne_true_of_eq_false (not_t hb_))
    clear hb_; replace hP := ite_f h90 hP
    refine c_true E rfl ?_
    refine wp_seq ?_
    refine wp_region_lit ?_
    refine vr tbok 2 [] [(6, .slice none 0 0), (7, .int .i64 12)] [] E (by kernel_rfl) trivial ?_
    clear E; intro a E
    refine wpList_nil ?_
    refine th_n ?_
    refine wp_ret ?_
    refine th_ret ?_
    refine bl_ret ?_
    refine th_ret ?_
    refine th_ret ?_
    refine .inr ⟨rfl, ?_⟩
    refine bl_ret ?_
    refine th_ret ?_
    replace H := H.nilrow (cInt .i64) 3; try dsimp only [setn, addE, goneL] at H
    have hx_ := Option.some.inj hP; subst hx_
    have hP : some (([], 12)) = some r := hK75
    obtain rfl := Option.some.inj hP
    refine ret2 E rfl rfl rfl ?_
    exact ⟨_, rfl, none, 0, rfl, H.sel [2] rfl⟩
   replace E := E_; clear E_
   have h92 : r81.2 = true := (not_f hb_)
   clear hb_; replace hP := ite_t h92 hP
   refine c_false E rfl ?_
   refine wp_skip ?_
   refine th_n ?_
   refine wp_region_lit ?_
   refine vr tbok 2 [] [(1, .slice A1 (List.length nodes) c2), (2, .int .i64 ref), (19, .int .i64 (shlV .i64 1 n)), (20, .int .i64 x41), (33, .slice A39 (List.length out38) c40), (34, .int .i64 r81.1)] [] E (by kernel_rfl) trivial ?_
   clear E; intro a E
   refine h_buildSlice (ps := [(0, .int .i64 r81.1)]) (cs := [.int .i64 r81.1]) H E rfl rfl tbok rfl rfl (by kernel_rfl) ?_
   intro w94 g93 a hc95 hg97 H_ E_
   replace E := E_ _ rfl; clear E_
   replace H := H_; clear H_; try dsimp only [setn, addE, goneL] at H
   obtain ⟨g98, hP⟩ := ask_inv hP
   refine h_append (cInt .i64) (xs := out38) (ys := ([r81.1] : List Int)) (0 : Int) H 1 rfl E rfl rfl tbok rfl rfl rfl rfl rfl (fun _ _ => rfl) rfl rfl (fun _ HF_ => HF_.srcB 2 rfl (⟨_, _, rfl, rfl, rfl⟩)) g98 ?_
   intro w99 A100 c101 a hc102 hA103 H_ E_
   replace E := E_ _ rfl; clear E_
   replace H := H_; clear H_; try dsimp only [setn, addE, goneL] at H
   refine vr tbok 1 [] [(1, .slice A1 (List.length nodes) c2), (2, .int .i64 ref), (8, .slice A100 (List.length (out38 ++ ([r81.1] : List Int))) c101), (19, .int .i64 (shlV .i64 1 n)), (20, .int .i64 x41)] [] E (by kernel_rfl) trivial ?_
   clear E; intro a E
   refine wpList_nil ?_
   refine bl_n ?_
   refine th_n ?_
   refine wp_region_lit ?_
   obtain ⟨g104, hP⟩ := ask_inv hP
   refine vr tbok 2 [.int .i64 (x41 + 1)] [(1, .slice A1 (List.length nodes) c2), (2, .int .i64 ref), (8, .slice A100 (List.length (out38 ++ ([r81.1] : List Int))) c101), (19, .int .i64 (shlV .i64 1 n)), (20, .int .i64 (x41 + 1))] [IntKind.i64.wrap (x41 + 1) = x41 + 1] E (by kernel_rfl) (wrap_in g104) ?_
   clear E; intro a E
   refine wpList_nil ?_
   exact th_n ⟨m72, Nat.lt_succ_self _, out38 ++ ([r81.1] : List Int), x41 + 1, A100, c101, E.pick _ ⟨rfl, rfl, rfl, rfl, rfl, trivial⟩, H.sel [0, 1] rfl, hP⟩
  replace E := E_; clear E_
  have h105 : ¬ (x41 < (shlV .i64 1 n)) := of_decide_eq_false hb_
  clear hb_; replace hP := ite_f h105 hP
  refine c_false E rfl ?_
  refine wp_exit ?_
  refine th_exit ?_
  have hx_ := Option.some.inj hP
  refine th_exit (.inl ⟨0, rfl, ?_⟩)
  exact ⟨rfl, out38, A39, c40, E.pick _ ⟨rfl, trivial⟩, H.sel [1] rfl, hx_.symm⟩
 clear E H hL74; intro i_ a w77 hM_
 obtain ⟨rfl, x79, A70, c71, E, H, hx_⟩ := hM_
 subst hx_; have hP := elim_l hK75
 clear hK75
 refine bl_hit ?_
 refine th_n ?_
 refine wp_seq ?_
 refine wp_region_lit ?_
 refine vr tbok 3 [] [(6, .slice A70 (List.length x79) c71), (7, .int .i64 0)] [] E (by kernel_rfl) trivial ?_
 clear E; intro a E
 refine wpList_nil ?_
 refine th_n ?_
 refine wp_ret ?_
 obtain rfl := Option.some.inj hP
 refine ret2 E rfl rfl rfl ?_
 exact ⟨_, rfl, A70, c71, rfl, H.sel [0] rfl⟩

/-! rejoinder/part.rows -/
def part_rows_l0 (N : Nat) (aProps : Int) (aGuard : List Int) (aNodes : List Nd) : Nat → (List (List Int)) → Int → Option (List (List Int))
  | 0, _, _ => none
  | m88 + 1, out49, x52 =>
    if x52 < (((List.length aGuard) : Nat) : Int) then
      ask (idx x52 (List.length aGuard)) <|
      Option.bind (guard_Table N aProps aNodes (List.getD aGuard (Int.toNat x52) 0)) fun r100 =>
      ask (List.length out49 + List.length ([r100.1] : List (List Int)) ≤ 1000000000) <|
      ask (in64 (x52 + 1)) <|
      part_rows_l0 N aProps aGuard aNodes m88 (out49 ++ ([r100.1] : List (List Int))) (x52 + 1)
    else
      some out49
def part_rows (N : Nat) (aProps : Int) (aAccept : List Bool) (aGuard : List Int) (aNodes : List Nd) : Option (List (List Int)) :=
  Option.bind (part_rows_l0 N aProps aGuard aNodes N [] 0) fun x89 =>
  some x89
set_option maxRecDepth 100000 in
set_option maxHeartbeats 4000000 in
theorem part_rows_calls {N : Nat} {S Fa : Nat → Prop} {w0 : World} {r : List (List Int)} (A1 : Option Addr) (c2 : Nat) (A5 : Option Addr) (c6 : Nat) (A9 : Option Addr) (c10 : Nat) (aProps : Int) (aAccept : List Bool) (aGuard : List Int) (aNodes : List Nd) (hk3 : List.length aAccept ≤ c2) (hk7 : List.length aGuard ≤ c6) (hk11 : List.length aNodes ≤ c10) (H : Hp S Fa w0 w0 [.ro false cBool A1 aAccept, .ro false (cInt .i64) A5 aGuard, .ro false cNode A9 aNodes]) (hP : part_rows N aProps aAccept aGuard aNodes = some r) :
    Calls Try.prog 26 #[.agg #[.int .i64 aProps, .slice A1 (List.length aAccept) c2, .slice A5 (List.length aGuard) c6, .slice A9 (List.length aNodes) c10]] w0 fun e w' => ∃ v, e = .returned v ∧ ∃ (A126 : Option Addr) (c127 : Nat), v = .slice A126 (List.length r) c127 ∧ Hp S Fa w0 w' [.row true (cSl (cInt .i64)) 23 A126 c127 r] := by
 refine enterV (n := 30) Try.func26 rfl rfl rfl ?_
 intro a E
 replace E := E.pick [(0, .agg #[.int .i64 aProps, .slice A1 (List.length aAccept) c2, .slice A5 (List.length aGuard) c6, .slice A9 (List.length aNodes) c10])] ⟨rfl, trivial⟩
 rw [part_rows] at hP
 refine wp_seq ?_
 refine wp_region_lit ?_
 refine h_box H E rfl rfl rfl ?_
 intro w14 g13 a hc15 hg17 H_ E_
 replace E := E_ _ rfl; clear E_
 replace H := H_; clear H_; try dsimp only [setn, addE, goneL] at H
 refine vr tbok 1 [] [(1, .pointer (some ⟨g13, 0, none⟩))] [] E (by kernel_rfl) trivial ?_
 clear E; intro a E
 refine wpList_nil ?_
 refine th_n ?_
 refine wp_seq ?_
 refine wp_region_lit ?_
 refine vr tbok 1 [] [(1, .pointer (some ⟨g13, 0, none⟩)), (3, .slice none 0 0)] [] E (by kernel_rfl) trivial ?_
 clear E; intro a E
 refine wpList_nil ?_
 refine th_n ?_
 refine wp_seq ?_
 refine wp_seq ?_
 refine wp_region_lit ?_
 refine vr tbok 4 [.slice A5 (List.length aGuard) c6] [(1, .pointer (some ⟨g13, 0, none⟩)), (3, .slice none 0 0), (9, .slice A5 (List.length aGuard) c6), (10, .int .i64 (((List.length aGuard) : Nat) : Int)), (11, .int .i64 0)] [World.cell? w14 ⟨g13, 2, none⟩ = some (.slice A5 (List.length aGuard) c6)] E (by kernel_rfl) ((H.box 3 rfl).cell (j := 2) rfl) ?_
 clear E; intro a E
 refine wpList_nil ?_
 refine th_n ?_
 refine wp_block ?_
 obtain ⟨x89, hL90, hK91⟩ := bind_inv hP
 clear hP
 replace H := H.nilrow (cSl (cInt .i64)) 23; try dsimp only [setn, addE, goneL] at H
 refine loop_cut (fun i_ a w_ => (i_ = 0 ∧ ∃ (x95 : List (List Int)), ∃ (A86 : Option Addr) (c87 : Nat), Fr a 30 [(3, .slice A86 (List.length x95) c87)] ∧ Hp S Fa w0 w_ [.row true (cSl (cInt .i64)) 23 A86 c87 x95] ∧ x89 = x95)) ?_ ?_
 ·
  refine loopV (fun m94 a w93 => ∃ (out49 : List (List Int)) (x52 : Int), ∃ (A50 : Option Addr) (c51 : Nat), Fr a 30 [(1, .pointer (some ⟨g13, 0, none⟩)), (3, .slice A50 (List.length out49) c51), (9, .slice A5 (List.length aGuard) c6), (10, .int .i64 (((List.length aGuard) : Nat) : Int)), (11, .int .i64 x52)] ∧ Hp S Fa w0 w93 [.ro false cBool A1 aAccept, .ro false (cInt .i64) A5 aGuard, .ro false cNode A9 aNodes, .box g13 26 [.int .i64 aProps, .slice A1 (List.length aAccept) c2, .slice A5 (List.length aGuard) c6, .slice A9 (List.length aNodes) c10], .row true (cSl (cInt .i64)) 23 A50 c51 out49] ∧ part_rows_l0 N aProps aGuard aNodes m94 out49 x52 = some x89) N ?_ ?_
  ·
   exact ⟨[], 0, none, 0, E.pick _ ⟨rfl, rfl, rfl, rfl, rfl, trivial⟩, H.sel [0, 1, 2, 3, 4] rfl, hL90⟩
  clear E H hL90; intro m94 a w93 hI_
  obtain ⟨out49, x52, A50, c51, E, H, hP⟩ := hI_
  obtain ⟨m88, rfl⟩ : ∃ q_, m94 = q_ + 1 := by cases m94 with | zero => rw [part_rows_l0] at hP; cases hP | succ q_ => exact ⟨q_, rfl⟩
  rw [part_rows_l0] at hP
  refine wp_seq ?_
  refine wp_region_lit ?_
  refine vr tbok 1 [] [(1, .pointer (some ⟨g13, 0, none⟩)), (3, .slice A50 (List.length out49) c51), (9, .slice A5 (List.length aGuard) c6), (10, .int .i64 (((List.length aGuard) : Nat) : Int)), (11, .int .i64 x52), (12, .bool (decide (x52 < (((List.length aGuard) : Nat) : Int))))] [] E (by kernel_rfl) trivial ?_
  clear E; intro a E
  refine wpList_nil ?_
  refine th_n ?_
  refine wp_seq ?_
  refine E.cases (t := 12) rfl (fun hb_ E_ => ?_) (fun hb_ E_ => ?_)
  ·
   replace E := E_; clear E_
   have h96 : x52 < (((List.length aGuard) : Nat) : Int) := of_decide_eq_true hb_
   clear hb_; replace hP := ite_t h96 hP
   refine c_true E rfl ?_
   refine wp_skip ?_
   refine th_n ?_
   refine wp_seq ?_
   refine wp_block ?_
   refine wp_seq ?_
   refine wp_region_lit ?_
   obtain ⟨g97, hP⟩ := ask_inv hP
   obtain ⟨b98, o99, e_b98⟩ := (H.rd 1 rds_ro).addr (idx_pos g97)
   subst e_b98
   refine vr tbok 3 [.int .i64 (List.getD aGuard (Int.toNat x52) 0)] [(1, .pointer (some ⟨g13, 0, none⟩)), (3, .slice A50 (List.length out49) c51), (5, .int .i64 (List.getD aGuard (Int.toNat x52) 0)), (9, .slice (some ⟨b98, o99, none⟩) (List.length aGuard) c6), (10, .int .i64 (((List.length aGuard) : Nat) : Int)), (11, .int .i64 x52)] [0 ≤ x52 ∧ x52 < (((List.length aGuard) : Nat) : Int), World.cell? w93 ⟨b98, o99 + (Int.toNat x52) * 1, none⟩ = some (.int .i64 (List.getD aGuard (Int.toNat x52) 0))] E (by kernel_rfl) ⟨g97, Rds.at1 (H.rd 1 rds_ro) 0 g97⟩ ?_
   clear E; intro a E
   refine wpList_nil ?_
   refine th_n ?_
   refine wp_seq ?_
   refine wp_region_lit ?_
   refine vr tbok 5 [.int .i64 aProps, .slice A9 (List.length aNodes) c10] [(1, .pointer (some ⟨g13, 0, none⟩)), (3, .slice A50 (List.length out49) c51), (9, .slice (some ⟨b98, o99, none⟩) (List.length aGuard) c6), (10, .int .i64 (((List.length aGuard) : Nat) : Int)), (11, .int .i64 x52), (17, .int .i64 aProps), (19, .slice A9 (List.length aNodes) c10), (20, .int .i64 (List.getD aGuard (Int.toNat x52) 0))] [World.cell? w93 ⟨g13, 0, none⟩ = some (.int .i64 aProps), World.cell? w93 ⟨g13, 3, none⟩ = some (.slice A9 (List.length aNodes) c10)] E (by kernel_rfl) ⟨(H.box 3 rfl).cell (j := 0) rfl, (H.box 3 rfl).cell (j := 3) rfl⟩ ?_
   clear E; intro a E
   obtain ⟨r100, h101, hP⟩ := bind_inv hP
   obtain ⟨Fa102, Hc103, hb104⟩ := H.call [] [(2, false)] rfl rfl trivial
   refine e_call E rfl rfl Try.func39 rfl rfl rfl (guard_Table_calls A9 c10 aProps aNodes (List.getD aGuard (Int.toNat x52) 0) hk11 Hc103 h101) ?_
   rintro v105 w106 a ⟨A109, c110, rfl, HR107⟩ E_
   replace E := E_ _ rfl; clear E_
   obtain ⟨H_, hc108⟩ := hb104 _ _ HR107 rfl
   replace H := H_; clear H_; try dsimp only [setn, addE, goneL] at H
   refine vr tbok 5 [] [(1, .pointer (some ⟨g13, 0, none⟩)), (3, .slice A50 (List.length out49) c51), (6, .slice A109 (List.length r100.1) c110), (9, .slice (some ⟨b98, o99, none⟩) (List.length aGuard) c6), (10, .int .i64 (((List.length aGuard) : Nat) : Int)), (11, .int .i64 x52)] [] E (by kernel_rfl) trivial ?_
   clear E; intro a E
   refine wpList_nil ?_
   refine th_n ?_
   refine wp_region_lit ?_
   refine vr tbok 2 [] [(1, .pointer (some ⟨g13, 0, none⟩)), (9, .slice (some ⟨b98, o99, none⟩) (List.length aGuard) c6), (10, .int .i64 (((List.length aGuard) : Nat) : Int)), (11, .int .i64 x52), (24, .slice A50 (List.length out49) c51), (25, .slice A109 (List.length r100.1) c110)] [] E (by kernel_rfl) trivial ?_
   clear E; intro a E
   refine h_buildSlice (ps := [(0, .slice A109 (List.length r100.1) c110)]) (cs := [.slice A109 (List.length r100.1) c110]) H E rfl rfl tbok rfl rfl (by kernel_rfl) ?_
   intro w113 g112 a hc114 hg116 H_ E_
   replace E := E_ _ rfl; clear E_
   replace H := H_; clear H_; try dsimp only [setn, addE, goneL] at H
   have hk117 := H.rcap 5 rfl
   replace H := H.frz 5 rfl; try dsimp only [setn, addE, goneL] at H
   obtain ⟨g118, hP⟩ := ask_inv hP
   refine h_append (cSl (cInt .i64)) (xs := out49) (ys := ([r100.1] : List (List Int))) ([] : List Int) H 4 rfl E rfl rfl tbok rfl rfl rfl rfl rfl (fun _ _ => kSl_nil) rfl rfl (fun _ HF_ => HF_.srcB 6 rfl ⟨_, _, rfl, ⟨_, _, rfl, hk117, (HF_.roC 5 rfl)⟩, rfl⟩) g118 ?_
   intro w119 A120 c121 a hc122 hA123 H_ E_
   replace E := E_ _ rfl; clear E_
   replace H := H_; clear H_; try dsimp only [setn, addE, goneL] at H
   refine vr tbok 1 [] [(1, .pointer (some ⟨g13, 0, none⟩)), (3, .slice A120 (List.length (out49 ++ ([r100.1] : List (List Int)))) c121), (9, .slice (some ⟨b98, o99, none⟩) (List.length aGuard) c6), (10, .int .i64 (((List.length aGuard) : Nat) : Int)), (11, .int .i64 x52)] [] E (by kernel_rfl) trivial ?_
   clear E; intro a E
   refine wpList_nil ?_
   refine bl_n ?_
   refine th_n ?_
   refine wp_region_lit ?_
   obtain ⟨g124, hP⟩ := ask_inv hP
   refine vr tbok 2 [.int .i64 (x52 + 1)] [(1, .pointer (some ⟨g13, 0, none⟩)), (3, .slice A120 (List.length (out49 ++ ([r100.1] : List (List Int)))) c121), (9, .slice (some ⟨b98, o99, none⟩) (List.length aGuard) c6), (10, .int .i64 (((List.length aGuard) : Nat) : Int)), (11, .int .i64 (x52 + 1))] [IntKind.i64.wrap (x52 + 1) = x52 + 1] E (by kernel_rfl) (wrap_in g124) ?_
   clear E; intro a E
   refine wpList_nil ?_
   exact th_n ⟨m88, Nat.lt_succ_self _, out49 ++ ([r100.1] : List (List Int)), x52 + 1, A120, c121, E.pick _ ⟨rfl, rfl, rfl, rfl, rfl, trivial⟩, H.sel [0, 1, 2, 3, 4] rfl, hP⟩
  replace E := E_; clear E_
  have h125 : ¬ (x52 < (((List.length aGuard) : Nat) : Int)) := of_decide_eq_false hb_
  clear hb_; replace hP := ite_f h125 hP
  refine c_false E rfl ?_
  refine wp_exit ?_
  refine th_exit ?_
  have hx_ := Option.some.inj hP
  refine th_exit (.inl ⟨0, rfl, ?_⟩)
  exact ⟨rfl, out49, A50, c51, E.pick _ ⟨rfl, trivial⟩, H.sel [4] rfl, hx_.symm⟩
 clear E H hL90; intro i_ a w93 hM_
 obtain ⟨rfl, x95, A86, c87, E, H, hx_⟩ := hM_
 subst hx_; have hP := hK91; clear hK91
 refine bl_hit ?_
 refine th_n ?_
 refine wp_seq ?_
 refine wp_region_lit ?_
 refine vr tbok 2 [] [(2, .slice A86 (List.length x89) c87)] [] E (by kernel_rfl) trivial ?_
 clear E; intro a E
 refine wpList_nil ?_
 refine th_n ?_
 refine wp_ret ?_
 obtain rfl := Option.some.inj hP
 refine ret1 E rfl rfl ?_
 exact ⟨_, rfl, A86, c87, rfl, H.sel [0] rfl⟩

/-! rejoinder/part.classes -/
def part_classes_l0 (N : Nat) (aAccept : List Bool) : Nat → (List Int) → Int → Option (List Int)
  | 0, _, _ => none
  | m110 + 1, of91, x92 =>
    if x92 < (((List.length aAccept) : Nat) : Int) then
      ask (idx x92 (List.length aAccept)) <|
      ask (idx (0 : Int) (List.length aAccept)) <|
      if (List.getD aAccept (Int.toNat x92) false) = (List.getD aAccept (Int.toNat (0 : Int)) false) then
        ask (in64 (x92 + 1)) <|
        part_classes_l0 N aAccept m110 of91 (x92 + 1)
      else
        ask (idx x92 (List.length of91)) <|
        ask (in64 (x92 + 1)) <|
        part_classes_l0 N aAccept m110 (List.set of91 (Int.toNat x92) 1) (x92 + 1)
    else
      some of91
def part_classes_l3 (N : Nat) (r18 : List (List Int)) (of281 : List Int) (x545 : Int) : Nat → (List Int) → Int → Option (List Int)
  | 0, _, _ => none
  | m662 + 1, s648, x649 =>
    if x649 < (((List.length (List.getD r18 (Int.toNat x545) [])) : Nat) : Int) then
      ask (idx x649 (List.length (List.getD r18 (Int.toNat x545) []))) <|
      ask (in64 (1 + x649)) <|
      ask (idx (List.getD (List.getD r18 (Int.toNat x545) []) (Int.toNat x649) 0) (List.length of281)) <|
      ask (idx (1 + x649) 257) <|
      ask (in64 (x649 + 1)) <|
      part_classes_l3 N r18 of281 x545 m662 (List.set s648 (Int.toNat (1 + x649)) (List.getD of281 (Int.toNat (List.getD (List.getD r18 (Int.toNat x545) []) (Int.toNat x649) 0)) 0)) (x649 + 1)
    else
      some s648
def part_classes_l2 (N : Nat) (r18 : List (List Int)) (of281 : List Int) : Nat → (List ((List Int) × Int)) → (List Int) → Int → Option ((List ((List Int) × Int)) × (List Int))
  | 0, _, _, _ => none
  | m612 + 1, numbers543, next544, x545 =>
    if x545 < (((List.length of281) : Nat) : Int) then
      ask (idx x545 (List.length of281)) <|
      ask (idx (0 : Int) 257) <|
      ask (idx x545 (List.length r18)) <|
      Option.bind (part_classes_l3 N r18 of281 x545 N (List.set (List.replicate 257 (0 : Int)) (Int.toNat (0 : Int)) (List.getD of281 (Int.toNat x545) 0)) 0) fun x663 =>
      ask (arrOk 257 x663) <|
      if (Option.isSome (mget numbers543 x663)) = true then
        ask (idx x545 (List.length next544)) <|
        ask (in64 (x545 + 1)) <|
        part_classes_l2 N r18 of281 m612 numbers543 (List.set next544 (Int.toNat x545) (Option.getD (mget numbers543 x663) 0)) (x545 + 1)
      else
        ask (mget numbers543 x663 = none) <|
        ask (idx x545 (List.length next544)) <|
        ask (in64 (x545 + 1)) <|
        part_classes_l2 N r18 of281 m612 (numbers543 ++ [(x663, ((List.length numbers543 : Nat) : Int))]) (List.set next544 (Int.toNat x545) ((List.length numbers543 : Nat) : Int)) (x545 + 1)
    else
      some (numbers543, next544)
def part_classes_l1 (N : Nat) (aAccept : List Bool) (r18 : List (List Int)) : Nat → (List Int) → Int → Option (List Int)
  | 0, _, _ => none
  | m432 + 1, of281, many283 =>
    Option.bind (part_classes_l2 N r18 of281 N ([] : List ((List Int) × Int)) (List.replicate (Int.toNat (((List.length aAccept) : Nat) : Int)) (0 : Int)) 0) fun x613 =>
    if (((List.length x613.1 : Nat) : Int) : Int) = many283 then
      some x613.2
    else
      part_classes_l1 N aAccept r18 m432 x613.2 ((List.length x613.1 : Nat) : Int)
def part_classes (N : Nat) (aProps : Int) (aAccept : List Bool) (aGuard : List Int) (aNodes : List Nd) : Option (List Int) :=
  Option.bind (part_rows N aProps aAccept aGuard aNodes) fun r18 =>
  ask (0 ≤ (((List.length aAccept) : Nat) : Int) ∧ (((List.length aAccept) : Nat) : Int) ≤ 1000000000) <|
  Option.bind (part_classes_l0 N aAccept N (List.replicate (Int.toNat (((List.length aAccept) : Nat) : Int)) (0 : Int)) 0) fun x111 =>
  Option.bind (part_classes_l1 N aAccept r18 N x111 0) fun x433 =>
  some x433
set_option maxRecDepth 100000 in
set_option maxHeartbeats 4000000 in
theorem part_classes_calls {N : Nat} {S Fa : Nat → Prop} {w0 : World} {r : List Int} (A1 : Option Addr) (c2 : Nat) (A5 : Option Addr) (c6 : Nat) (A9 : Option Addr) (c10 : Nat) (aProps : Int) (aAccept : List Bool) (aGuard : List Int) (aNodes : List Nd) (hk3 : List.length aAccept ≤ c2) (hk7 : List.length aGuard ≤ c6) (hk11 : List.length aNodes ≤ c10) (H : Hp S Fa w0 w0 [.ro false cBool A1 aAccept, .ro false (cInt .i64) A5 aGuard, .ro false cNode A9 aNodes]) (hP : part_classes N aProps aAccept aGuard aNodes = some r) :
    Calls Try.prog 25 #[.agg #[.int .i64 aProps, .slice A1 (List.length aAccept) c2, .slice A5 (List.length aGuard) c6, .slice A9 (List.length aNodes) c10]] w0 fun e w' => ∃ v, e = .returned v ∧ ∃ (A703 : Option Addr) (c704 : Nat), v = .slice A703 (List.length r) c704 ∧ Hp S Fa w0 w' [.row true (cInt .i64) 3 A703 c704 r] := by
 refine enterV (n := 99) Try.func25 rfl rfl rfl ?_
 intro a E
 replace E := E.pick [(0, .agg #[.int .i64 aProps, .slice A1 (List.length aAccept) c2, .slice A5 (List.length aGuard) c6, .slice A9 (List.length aNodes) c10])] ⟨rfl, trivial⟩
 rw [part_classes] at hP
 refine wp_seq ?_
 refine wp_region_lit ?_
 refine h_box H E rfl rfl rfl ?_
 intro w14 g13 a hc15 hg17 H_ E_
 replace E := E_ _ rfl; clear E_
 replace H := H_; clear H_; try dsimp only [setn, addE, goneL] at H
 refine vr tbok 1 [] [(1, .pointer (some ⟨g13, 0, none⟩))] [] E (by kernel_rfl) trivial ?_
 clear E; intro a E
 refine wpList_nil ?_
 refine th_n ?_
 refine wp_seq ?_
 refine wp_region_lit ?_
 refine vr tbok 4 [.slice A1 (List.length aAccept) c2] [(1, .pointer (some ⟨g13, 0, none⟩)), (3, .int .i64 (((List.length aAccept) : Nat) : Int))] [World.cell? w14 ⟨g13, 1, none⟩ = some (.slice A1 (List.length aAccept) c2)] E (by kernel_rfl) ((H.box 3 rfl).cell (j := 1) rfl) ?_
 clear E; intro a E
 refine wpList_nil ?_
 refine th_n ?_
 refine wp_seq ?_
 obtain ⟨r18, h19, hP⟩ := bind_inv hP
 obtain ⟨g30, hP⟩ := ask_inv hP
 refine meet_cut (fun a w41 => ∃ (A37 : Option Addr) (c38 : Nat) (A40 : Option Addr), Fr a 99 [(1, .pointer (some ⟨g13, 0, none⟩)), (3, .int .i64 (((List.length aAccept) : Nat) : Int)), (4, .slice A37 (List.length r18) c38), (5, .slice A40 (List.length (List.replicate (Int.toNat (((List.length aAccept) : Nat) : Int)) (0 : Int))) (Int.toNat (((List.length aAccept) : Nat) : Int)))] ∧ Hp S Fa w0 w41 [.ro false cBool A1 aAccept, .ro false (cInt .i64) A5 aGuard, .ro false cNode A9 aNodes, .box g13 26 [.int .i64 aProps, .slice A1 (List.length aAccept) c2, .slice A5 (List.length aGuard) c6, .slice A9 (List.length aNodes) c10], .row true (cSl (cInt .i64)) 23 A37 c38 r18, .rowx true (cInt .i64) 3 A40 (Int.toNat (((List.length aAccept) : Nat) : Int)) (List.replicate (Int.toNat (((List.length aAccept) : Nat) : Int)) (0 : Int)) (List.replicate (Int.toNat (((List.length aAccept) : Nat) : Int) - Int.toNat (((List.length aAccept) : Nat) : Int)) (0 : Int))]) ?_ ?_
 ·
  have HR45 := H
  refine dr_start (S := fun w_ => Chg (atL []) w14 w_) (by kernel_rfl) ?_
  intro w42 hc43
  have HS44 : Chg (atL []) w14 w42 := hc43.mono (fun _ _ h_ => h_.elim)
  replace H := H.ext hc43
  refine dr tbok (by kernel_rfl) [0, 2] [.agg #[.int .i64 aProps, .slice A1 (List.length aAccept) c2, .slice A5 (List.length aGuard) c6, .slice A9 (List.length aNodes) c10]] [(1, .pointer (some ⟨g13, 0, none⟩)), (3, .int .i64 (((List.length aAccept) : Nat) : Int)), (20, .agg #[.int .i64 aProps, .slice A1 (List.length aAccept) c2, .slice A5 (List.length aGuard) c6, .slice A9 (List.length aNodes) c10]), (22, .int .i64 (((List.length aAccept) : Nat) : Int))] (fun w_ => [cellsAt w_ g13 (0) [.int .i64 aProps, .slice A1 (List.length aAccept) c2, .slice A5 (List.length aGuard) c6, .slice A9 (List.length aNodes) c10]]) 4 E (fun _ _ => by kernel_rfl) (fun w_ hS_ => ((HR45.boxk [] hS_ 3 rfl rfl).sub 0 _ rfl)) (by kernel_rfl) HS44 ?_
  clear E; intro a E
  refine wpAnyH_all (rs := [1, 3]) (by kernel_rfl) (by simp) ?_
  refine all2 ?_ ?_
  ·
   refine wpOp_of_list rfl ?_
   obtain ⟨Fa46, Hc47, hb48⟩ := H.call [] [(0, false), (1, false), (2, false)] rfl rfl trivial
   refine e_call E rfl rfl Try.func26 rfl rfl rfl (part_rows_calls A1 c2 A5 c6 A9 c10 aProps aAccept aGuard aNodes hk3 hk7 hk11 Hc47 h19) ?_
   rintro v49 w50 a ⟨A53, c54, rfl, HR51⟩ E_
   replace E := E_ _ rfl; clear E_
   obtain ⟨H_, hc52⟩ := hb48 _ _ HR51 rfl
   replace HS44 := HS44.ext (callS_ext hc52)
   replace H := H_; clear H_; try dsimp only [setn, addE, goneL] at H
   refine wpList_nil ?_
   refine th_n ⟨HS44, ?_⟩
   refine dr tbok (by kernel_rfl) [4] [] [(1, .pointer (some ⟨g13, 0, none⟩)), (3, .int .i64 (((List.length aAccept) : Nat) : Int)), (4, .slice A53 (List.length r18) c54), (22, .int .i64 (((List.length aAccept) : Nat) : Int))] (fun w_ => []) 2 E (fun _ _ => by kernel_rfl) (fun w_ hS_ => trivial) (by kernel_rfl) HS44 ?_
   clear E; intro a E
   refine wpAnyH_all (rs := [3]) (by kernel_rfl) (by simp) ?_
   refine all1 ?_
   refine wpOp_of_list rfl ?_
   refine h_make (cInt .i64) (0 : Int) H E rfl rfl tbok rfl rfl rfl rfl ⟨g30.1, Int.le_refl _, g30.2⟩ rfl rfl rfl (fun _ _ => rfl) ?_
   intro w57 g56 a hc58 hg60 H_ E_
   replace E := E_ _ rfl; clear E_
   have hin61 : ∀ q_, q_ < w14.heap.size → At (some ⟨g56, 0, none⟩) q_ → (atL []) q_ := fun q_ h1_ h2_ => by have hs_ := HS44.size; have h4_ : q_ = g56 := At.of_g h2_; exfalso; omega
   replace HS44 := HS44.ext hc58
   replace H := H_; clear H_; try dsimp only [setn, addE, goneL] at H
   refine wpList_nil ?_
   refine th_n ⟨HS44, ?_⟩
   refine dr tbok (by kernel_rfl) [5] [] [(1, .pointer (some ⟨g13, 0, none⟩)), (3, .int .i64 (((List.length aAccept) : Nat) : Int)), (4, .slice A53 (List.length r18) c54), (5, .slice (some ⟨g56, 0, none⟩) (List.length (List.replicate (Int.toNat (((List.length aAccept) : Nat) : Int)) (0 : Int))) (Int.toNat (((List.length aAccept) : Nat) : Int)))] (fun w_ => []) 0 E (fun _ _ => by kernel_rfl) (fun w_ hS_ => trivial) (by kernel_rfl) HS44 ?_
   clear E; intro a E
   refine dr_done (by kernel_rfl) ?_
   exact .inl ⟨rfl, A53, c54, (some ⟨g56, 0, none⟩), E.pick _ ⟨rfl, rfl, rfl, rfl, trivial⟩, H.sel [0, 1, 2, 3, 4, 5] rfl⟩
  refine wpOp_of_list rfl ?_
  refine h_make (cInt .i64) (0 : Int) H E rfl rfl tbok rfl rfl rfl rfl ⟨g30.1, Int.le_refl _, g30.2⟩ rfl rfl rfl (fun _ _ => rfl) ?_
  intro w63 g62 a hc64 hg66 H_ E_
  replace E := E_ _ rfl; clear E_
  have hin67 : ∀ q_, q_ < w14.heap.size → At (some ⟨g62, 0, none⟩) q_ → (atL []) q_ := fun q_ h1_ h2_ => by have hs_ := HS44.size; have h4_ : q_ = g62 := At.of_g h2_; exfalso; omega
  replace HS44 := HS44.ext hc64
  replace H := H_; clear H_; try dsimp only [setn, addE, goneL] at H
  refine wpList_nil ?_
  refine th_n ⟨HS44, ?_⟩
  refine wpAnyH_all (rs := [1]) (by kernel_rfl) (by simp) ?_
  refine all1 ?_
  refine wpOp_of_list rfl ?_
  obtain ⟨Fa68, Hc69, hb70⟩ := H.call [] [(0, false), (1, false), (2, false)] rfl rfl trivial
  refine e_call E rfl rfl Try.func26 rfl rfl rfl (part_rows_calls A1 c2 A5 c6 A9 c10 aProps aAccept aGuard aNodes hk3 hk7 hk11 Hc69 h19) ?_
  rintro v71 w72 a ⟨A75, c76, rfl, HR73⟩ E_
  replace E := E_ _ rfl; clear E_
  obtain ⟨H_, hc74⟩ := hb70 _ _ HR73 rfl
  replace HS44 := HS44.ext (callS_ext hc74)
  replace H := H_; clear H_; try dsimp only [setn, addE, goneL] at H
  refine wpList_nil ?_
  refine th_n ⟨HS44, ?_⟩
  refine dr tbok (by kernel_rfl) [4, 5] [] [(1, .pointer (some ⟨g13, 0, none⟩)), (3, .int .i64 (((List.length aAccept) : Nat) : Int)), (4, .slice A75 (List.length r18) c76), (5, .slice (some ⟨g62, 0, none⟩) (List.length (List.replicate (Int.toNat (((List.length aAccept) : Nat) : Int)) (0 : Int))) (Int.toNat (((List.length aAccept) : Nat) : Int)))] (fun w_ => []) 0 E (fun _ _ => by kernel_rfl) (fun w_ hS_ => trivial) (by kernel_rfl) HS44 ?_
  clear E; intro a E
  refine dr_done (by kernel_rfl) ?_
  exact .inl ⟨rfl, A75, c76, (some ⟨g62, 0, none⟩), E.pick _ ⟨rfl, rfl, rfl, rfl, trivial⟩, H.sel [0, 1, 2, 3, 5, 4] rfl⟩
 clear E H; rintro a w41 ⟨A37, c38, A40, E, H⟩
 refine th_n ?_
 refine wp_seq ?_
 refine wp_seq ?_
 refine wp_region_lit ?_
 refine vr tbok 4 [.slice A1 (List.length aAccept) c2] [(1, .pointer (some ⟨g13, 0, none⟩)), (3, .int .i64 (((List.length aAccept) : Nat) : Int)), (4, .slice A37 (List.length r18) c38), (5, .slice A40 (List.length (List.replicate (Int.toNat (((List.length aAccept) : Nat) : Int)) (0 : Int))) (Int.toNat (((List.length aAccept) : Nat) : Int))), (25, .slice A1 (List.length aAccept) c2), (26, .int .i64 (((List.length aAccept) : Nat) : Int)), (27, .int .i64 0)] [World.cell? w41 ⟨g13, 1, none⟩ = some (.slice A1 (List.length aAccept) c2)] E (by kernel_rfl) ((H.box 3 rfl).cell (j := 1) rfl) ?_
 clear E; intro a E
 refine wpList_nil ?_
 refine th_n ?_
 refine wp_block ?_
 obtain ⟨x111, hL112, hK113⟩ := bind_inv hP
 clear hP
 refine loop_cut (fun i_ a w_ => (i_ = 0 ∧ ∃ (x116 : List Int), Fr a 99 [(3, .int .i64 (((List.length aAccept) : Nat) : Int)), (4, .slice A37 (List.length r18) c38), (5, .slice A40 (List.length x116) (Int.toNat (((List.length aAccept) : Nat) : Int)))] ∧ Hp S Fa w0 w_ [.row true (cSl (cInt .i64)) 23 A37 c38 r18, .rowx true (cInt .i64) 3 A40 (Int.toNat (((List.length aAccept) : Nat) : Int)) x116 (List.replicate (Int.toNat (((List.length aAccept) : Nat) : Int) - Int.toNat (((List.length aAccept) : Nat) : Int)) (0 : Int))] ∧ x111 = x116)) ?_ ?_
 ·
  refine loopV (fun m115 a w114 => ∃ (of91 : List Int) (x92 : Int), Fr a 99 [(1, .pointer (some ⟨g13, 0, none⟩)), (3, .int .i64 (((List.length aAccept) : Nat) : Int)), (4, .slice A37 (List.length r18) c38), (5, .slice A40 (List.length of91) (Int.toNat (((List.length aAccept) : Nat) : Int))), (25, .slice A1 (List.length aAccept) c2), (26, .int .i64 (((List.length aAccept) : Nat) : Int)), (27, .int .i64 x92)] ∧ Hp S Fa w0 w114 [.ro false cBool A1 aAccept, .ro false (cInt .i64) A5 aGuard, .ro false cNode A9 aNodes, .box g13 26 [.int .i64 aProps, .slice A1 (List.length aAccept) c2, .slice A5 (List.length aGuard) c6, .slice A9 (List.length aNodes) c10], .row true (cSl (cInt .i64)) 23 A37 c38 r18, .rowx true (cInt .i64) 3 A40 (Int.toNat (((List.length aAccept) : Nat) : Int)) of91 (List.replicate (Int.toNat (((List.length aAccept) : Nat) : Int) - Int.toNat (((List.length aAccept) : Nat) : Int)) (0 : Int))] ∧ part_classes_l0 N aAccept m115 of91 x92 = some x111) N ?_ ?_
  ·
   exact ⟨List.replicate (Int.toNat (((List.length aAccept) : Nat) : Int)) (0 : Int), 0, E.pick _ ⟨rfl, rfl, rfl, rfl, rfl, rfl, rfl, trivial⟩, H.sel [0, 1, 2, 3, 4, 5] rfl, hL112⟩
  clear E H hL112; intro m115 a w114 hI_
  obtain ⟨of91, x92, E, H, hP⟩ := hI_
  obtain ⟨m110, rfl⟩ : ∃ q_, m115 = q_ + 1 := by cases m115 with | zero => rw [part_classes_l0] at hP; cases hP | succ q_ => exact ⟨q_, rfl⟩
  rw [part_classes_l0] at hP
  refine wp_seq ?_
  refine wp_region_lit ?_
  refine vr tbok 1 [] [(1, .pointer (some ⟨g13, 0, none⟩)), (3, .int .i64 (((List.length aAccept) : Nat) : Int)), (4, .slice A37 (List.length r18) c38), (5, .slice A40 (List.length of91) (Int.toNat (((List.length aAccept) : Nat) : Int))), (25, .slice A1 (List.length aAccept) c2), (26, .int .i64 (((List.length aAccept) : Nat) : Int)), (27, .int .i64 x92), (28, .bool (decide (x92 < (((List.length aAccept) : Nat) : Int))))] [] E (by kernel_rfl) trivial ?_
  clear E; intro a E
  refine wpList_nil ?_
  refine th_n ?_
  refine wp_seq ?_
  refine E.cases (t := 28) rfl (fun hb_ E_ => ?_) (fun hb_ E_ => ?_)
  ·
   replace E := E_; clear E_
   have h117 : x92 < (((List.length aAccept) : Nat) : Int) := of_decide_eq_true hb_
   clear hb_; replace hP := ite_t h117 hP
   refine c_true E rfl ?_
   refine wp_skip ?_
   refine th_n ?_
   refine wp_seq ?_
   refine wp_block ?_
   refine wp_seq ?_
   refine wp_region_lit ?_
   obtain ⟨g118, hP⟩ := ask_inv hP
   obtain ⟨b119, o120, e_b119⟩ := (H.rd 0 rds_ro).addr (idx_pos g118)
   subst e_b119
   refine vr tbok 5 [.bool (List.getD aAccept (Int.toNat x92) false)] [(1, .pointer (some ⟨g13, 0, none⟩)), (3, .int .i64 (((List.length aAccept) : Nat) : Int)), (4, .slice A37 (List.length r18) c38), (5, .slice A40 (List.length of91) (Int.toNat (((List.length aAccept) : Nat) : Int))), (6, .int .i64 x92), (7, .bool (List.getD aAccept (Int.toNat x92) false)), (25, .slice (some ⟨b119, o120, none⟩) (List.length aAccept) c2), (26, .int .i64 (((List.length aAccept) : Nat) : Int)), (27, .int .i64 x92)] [0 ≤ x92 ∧ x92 < (((List.length aAccept) : Nat) : Int), World.cell? w114 ⟨b119, o120 + (Int.toNat x92) * 1, none⟩ = some (.bool (List.getD aAccept (Int.toNat x92) false))] E (by kernel_rfl) ⟨g118, Rds.at1 (H.rd 0 rds_ro) false g118⟩ ?_
   clear E; intro a E
   refine wpList_nil ?_
   refine th_n ?_
   refine wp_seq ?_
   refine wp_region_lit ?_
   obtain ⟨g121, hP⟩ := ask_inv hP
   refine vr tbok 6 [.slice (some ⟨b119, o120, none⟩) (List.length aAccept) c2, .bool (List.getD aAccept (Int.toNat (0 : Int)) false)] [(1, .pointer (some ⟨g13, 0, none⟩)), (3, .int .i64 (((List.length aAccept) : Nat) : Int)), (4, .slice A37 (List.length r18) c38), (5, .slice A40 (List.length of91) (Int.toNat (((List.length aAccept) : Nat) : Int))), (6, .int .i64 x92), (25, .slice (some ⟨b119, o120, none⟩) (List.length aAccept) c2), (26, .int .i64 (((List.length aAccept) : Nat) : Int)), (27, .int .i64 x92), (37, .bool (!((List.getD aAccept (Int.toNat x92) false) == (List.getD aAccept (Int.toNat (0 : Int)) false))))] [World.cell? w114 ⟨g13, 1, none⟩ = some (.slice (some ⟨b119, o120, none⟩) (List.length aAccept) c2), 0 ≤ (0 : Int) ∧ (0 : Int) < (((List.length aAccept) : Nat) : Int), World.cell? w114 ⟨b119, o120 + (Int.toNat (0 : Int)) * 1, none⟩ = some (.bool (List.getD aAccept (Int.toNat (0 : Int)) false))] E (by kernel_rfl) ⟨(H.box 3 rfl).cell (j := 1) rfl, g121, Rds.at1 (H.rd 0 rds_ro) false g121⟩ ?_
   clear E; intro a E
   refine wpList_nil ?_
   refine th_n ?_
   refine E.cases (t := 37) rfl (fun hb_ E_ => ?_) (fun hb_ E_ => ?_)
   ·
    replace E := E_; clear E_
    have h122 : ¬ ((List.getD aAccept (Int.toNat x92) false) = (List.getD aAccept (Int.toNat (0 : Int)) false)) := (by simpa using hb_)
    clear hb_; replace hP := ite_f h122 hP
    refine c_true E rfl ?_
    refine wp_region_lit ?_
    obtain ⟨g123, hP⟩ := ask_inv hP
    obtain ⟨b124, e_b124⟩ := H.raddrx 5 rfl (idx_pos g123)
    subst e_b124
    refine vr tbok 3 [] [(1, .pointer (some ⟨g13, 0, none⟩)), (3, .int .i64 (((List.length aAccept) : Nat) : Int)), (4, .slice A37 (List.length r18) c38), (5, .slice (some ⟨b124, 0, none⟩) (List.length of91) (Int.toNat (((List.length aAccept) : Nat) : Int))), (25, .slice (some ⟨b119, o120, none⟩) (List.length aAccept) c2), (26, .int .i64 (((List.length aAccept) : Nat) : Int)), (27, .int .i64 x92), (40, .pointer (some ⟨b124, 0 + (Int.toNat x92) * 1, none⟩))] [0 ≤ x92 ∧ x92 < (((List.length of91) : Nat) : Int)] E (by kernel_rfl) (g123) ?_
    clear E; intro a E
    refine h_setx (g := b124) (i := x92) 1 H 5 rfl E rfl rfl rfl rfl tbok rfl (fun _ HF_ => rfl) rfl g123 rfl ?_
    clear E; intro w126 a hc127 H_ E
    replace H := H_; clear H_; try dsimp only [setn, addE, goneL] at H
    have hn128 : (List.length of91) = (List.length (List.set of91 (Int.toNat x92) 1)) := by simp only [List.length_set]
    replace E := E.same (t := 5) (u := .slice (some ⟨b124, 0, none⟩) (List.length (List.set of91 (Int.toNat x92) 1)) (Int.toNat (((List.length aAccept) : Nat) : Int))) rfl (congrArg (fun n_ => Value.slice (some ⟨b124, 0, none⟩) n_ (Int.toNat (((List.length aAccept) : Nat) : Int))) hn128)
    refine wpList_nil ?_
    refine bl_n ?_
    refine th_n ?_
    refine wp_region_lit ?_
    obtain ⟨g129, hP⟩ := ask_inv hP
    refine vr tbok 2 [.int .i64 (x92 + 1)] [(1, .pointer (some ⟨g13, 0, none⟩)), (3, .int .i64 (((List.length aAccept) : Nat) : Int)), (4, .slice A37 (List.length r18) c38), (5, .slice (some ⟨b124, 0, none⟩) (List.length (List.set of91 (Int.toNat x92) 1)) (Int.toNat (((List.length aAccept) : Nat) : Int))), (25, .slice (some ⟨b119, o120, none⟩) (List.length aAccept) c2), (26, .int .i64 (((List.length aAccept) : Nat) : Int)), (27, .int .i64 (x92 + 1))] [IntKind.i64.wrap (x92 + 1) = x92 + 1] E (by kernel_rfl) (wrap_in g129) ?_
    clear E; intro a E
    refine wpList_nil ?_
    exact th_n ⟨m110, Nat.lt_succ_self _, List.set of91 (Int.toNat x92) 1, x92 + 1, E.pick _ ⟨rfl, rfl, rfl, rfl, rfl, rfl, rfl, trivial⟩, H.sel [0, 1, 2, 3, 4, 5] rfl, hP⟩
   replace E := E_; clear E_
   have h130 : (List.getD aAccept (Int.toNat x92) false) = (List.getD aAccept (Int.toNat (0 : Int)) false) := (by simpa using hb_)
   clear hb_; replace hP := ite_t h130 hP
   refine c_false E rfl ?_
   refine wp_skip ?_
   refine bl_n ?_
   refine th_n ?_
   refine wp_region_lit ?_
   obtain ⟨g131, hP⟩ := ask_inv hP
   refine vr tbok 2 [.int .i64 (x92 + 1)] [(1, .pointer (some ⟨g13, 0, none⟩)), (3, .int .i64 (((List.length aAccept) : Nat) : Int)), (4, .slice A37 (List.length r18) c38), (5, .slice A40 (List.length of91) (Int.toNat (((List.length aAccept) : Nat) : Int))), (25, .slice (some ⟨b119, o120, none⟩) (List.length aAccept) c2), (26, .int .i64 (((List.length aAccept) : Nat) : Int)), (27, .int .i64 (x92 + 1))] [IntKind.i64.wrap (x92 + 1) = x92 + 1] E (by kernel_rfl) (wrap_in g131) ?_
   clear E; intro a E
   refine wpList_nil ?_
   exact th_n ⟨m110, Nat.lt_succ_self _, of91, x92 + 1, E.pick _ ⟨rfl, rfl, rfl, rfl, rfl, rfl, rfl, trivial⟩, H.sel [0, 1, 2, 3, 4, 5] rfl, hP⟩
  replace E := E_; clear E_
  have h132 : ¬ (x92 < (((List.length aAccept) : Nat) : Int)) := of_decide_eq_false hb_
  clear hb_; replace hP := ite_f h132 hP
  refine c_false E rfl ?_
  refine wp_exit ?_
  refine th_exit ?_
  have hx_ := Option.some.inj hP
  refine th_exit (.inl ⟨0, rfl, ?_⟩)
  exact ⟨rfl, of91, E.pick _ ⟨rfl, rfl, rfl, trivial⟩, H.sel [4, 5] rfl, hx_.symm⟩
 clear E H hL112; intro i_ a w114 hM_
 obtain ⟨rfl, x116, E, H, hx_⟩ := hM_
 subst hx_; have hP := hK113; clear hK113
 refine bl_hit ?_
 refine th_n ?_
 refine wp_seq ?_
 refine wp_region_lit ?_
 refine vr tbok 1 [] [(3, .int .i64 (((List.length aAccept) : Nat) : Int)), (4, .slice A37 (List.length r18) c38), (5, .slice A40 (List.length x111) (Int.toNat (((List.length aAccept) : Nat) : Int))), (8, .int .i64 0)] [] E (by kernel_rfl) trivial ?_
 clear E; intro a E
 refine wpList_nil ?_
 refine th_n ?_
 refine wp_block ?_
 obtain ⟨x433, hL434, hK435⟩ := bind_inv hP
 clear hP
 refine loop_cut (fun i_ a w_ => False) ?_ ?_
 ·
  refine loopV (fun m437 a w436 => ∃ (of281 : List Int) (many283 : Int), ∃ (A282 : Option Addr), Fr a 99 [(3, .int .i64 (((List.length aAccept) : Nat) : Int)), (4, .slice A37 (List.length r18) c38), (5, .slice A282 (List.length of281) (Int.toNat (((List.length aAccept) : Nat) : Int))), (8, .int .i64 many283)] ∧ Hp S Fa w0 w436 [.row true (cSl (cInt .i64)) 23 A37 c38 r18, .rowx true (cInt .i64) 3 A282 (Int.toNat (((List.length aAccept) : Nat) : Int)) of281 (List.replicate (Int.toNat (((List.length aAccept) : Nat) : Int) - Int.toNat (((List.length aAccept) : Nat) : Int)) (0 : Int))] ∧ part_classes_l1 N aAccept r18 m437 of281 many283 = some x433) N ?_ ?_
  ·
   exact ⟨x111, 0, A40, E.pick _ ⟨rfl, rfl, rfl, rfl, trivial⟩, H.sel [0, 1] rfl, hL434⟩
  clear E H hL434; intro m437 a w436 hI_
  obtain ⟨of281, many283, A282, E, H, hP⟩ := hI_
  obtain ⟨m432, rfl⟩ : ∃ q_, m437 = q_ + 1 := by cases m437 with | zero => rw [part_classes_l1] at hP; cases hP | succ q_ => exact ⟨q_, rfl⟩
  rw [part_classes_l1] at hP
  refine wp_block ?_
  refine wp_seq ?_
  refine meet_cut (fun a w452 => ∃ (g449 : Nat) (A451 : Option Addr), Fr a 99 [(3, .int .i64 (((List.length aAccept) : Nat) : Int)), (4, .slice A37 (List.length r18) c38), (5, .slice A282 (List.length of281) (Int.toNat (((List.length aAccept) : Nat) : Int))), (8, .int .i64 many283), (9, .map (some g449)), (10, .slice A451 (List.length (List.replicate (Int.toNat (((List.length aAccept) : Nat) : Int)) (0 : Int))) (Int.toNat (((List.length aAccept) : Nat) : Int)))] ∧ Hp S Fa w0 w452 [.row true (cSl (cInt .i64)) 23 A37 c38 r18, .rowx true (cInt .i64) 3 A282 (Int.toNat (((List.length aAccept) : Nat) : Int)) of281 (List.replicate (Int.toNat (((List.length aAccept) : Nat) : Int) - Int.toNat (((List.length aAccept) : Nat) : Int)) (0 : Int)), .mp Try.prog 79 g449 (List.map (fun p_ => ((fun xs_ : List Int => .agg (arrV (iV .i64) xs_)) p_.1, (fun u_ : Int => .int .i64 u_) p_.2)) ([] : List ((List Int) × Int))), .rowx true (cInt .i64) 3 A451 (Int.toNat (((List.length aAccept) : Nat) : Int)) (List.replicate (Int.toNat (((List.length aAccept) : Nat) : Int)) (0 : Int)) (List.replicate (Int.toNat (((List.length aAccept) : Nat) : Int) - Int.toNat (((List.length aAccept) : Nat) : Int)) (0 : Int))]) ?_ ?_
  ·
   have HR456 := H
   refine dr_start (S := fun w_ => Chg (atL []) w436 w_) (by kernel_rfl) ?_
   intro w453 hc454
   have HS455 : Chg (atL []) w436 w453 := hc454.mono (fun _ _ h_ => h_.elim)
   replace H := H.ext hc454
   refine dr tbok (by kernel_rfl) [1] [] [(3, .int .i64 (((List.length aAccept) : Nat) : Int)), (4, .slice A37 (List.length r18) c38), (5, .slice A282 (List.length of281) (Int.toNat (((List.length aAccept) : Nat) : Int))), (8, .int .i64 many283), (43, .int .i64 (((List.length aAccept) : Nat) : Int))] (fun w_ => []) 4 E (fun _ _ => by kernel_rfl) (fun w_ hS_ => trivial) (by kernel_rfl) HS455 ?_
   clear E; intro a E
   refine wpAnyH_all (rs := [0, 2]) (by kernel_rfl) (by simp) ?_
   refine all2 ?_ ?_
   ·
    refine wpOp_of_list rfl ?_
    refine h_makeMap (P := Try.prog) (k0 := 79) H E rfl rfl ?_
    intro w458 g457 a hc459 hg460 H_ E_
    replace E := E_ _ rfl; clear E_
    have hin462 : ∀ q_, q_ < w436.heap.size → q_ = g457 → (atL []) q_ := fun q_ h1_ h2_ => by have hs_ := HS455.size; have h4_ : q_ = g457 := h2_; exfalso; omega
    replace HS455 := HS455.ext hc459
    replace H := H_; clear H_; try dsimp only [setn, addE, goneL] at H
    refine wpList_nil ?_
    refine th_n ⟨HS455, ?_⟩
    refine dr tbok (by kernel_rfl) [3] [] [(3, .int .i64 (((List.length aAccept) : Nat) : Int)), (4, .slice A37 (List.length r18) c38), (5, .slice A282 (List.length of281) (Int.toNat (((List.length aAccept) : Nat) : Int))), (8, .int .i64 many283), (9, .map (some g457)), (43, .int .i64 (((List.length aAccept) : Nat) : Int))] (fun w_ => []) 2 E (fun _ _ => by kernel_rfl) (fun w_ hS_ => trivial) (by kernel_rfl) HS455 ?_
    clear E; intro a E
    refine wpAnyH_all (rs := [2]) (by kernel_rfl) (by simp) ?_
    refine all1 ?_
    refine wpOp_of_list rfl ?_
    refine h_make (cInt .i64) (0 : Int) H E rfl rfl tbok rfl rfl rfl rfl ⟨g30.1, Int.le_refl _, g30.2⟩ rfl rfl rfl (fun _ _ => rfl) ?_
    intro w464 g463 a hc465 hg467 H_ E_
    replace E := E_ _ rfl; clear E_
    have hin468 : ∀ q_, q_ < w436.heap.size → At (some ⟨g463, 0, none⟩) q_ → (atL []) q_ := fun q_ h1_ h2_ => by have hs_ := HS455.size; have h4_ : q_ = g463 := At.of_g h2_; exfalso; omega
    replace HS455 := HS455.ext hc465
    replace H := H_; clear H_; try dsimp only [setn, addE, goneL] at H
    refine wpList_nil ?_
    refine th_n ⟨HS455, ?_⟩
    refine dr tbok (by kernel_rfl) [4] [] [(3, .int .i64 (((List.length aAccept) : Nat) : Int)), (4, .slice A37 (List.length r18) c38), (5, .slice A282 (List.length of281) (Int.toNat (((List.length aAccept) : Nat) : Int))), (8, .int .i64 many283), (9, .map (some g457)), (10, .slice (some ⟨g463, 0, none⟩) (List.length (List.replicate (Int.toNat (((List.length aAccept) : Nat) : Int)) (0 : Int))) (Int.toNat (((List.length aAccept) : Nat) : Int)))] (fun w_ => []) 0 E (fun _ _ => by kernel_rfl) (fun w_ hS_ => trivial) (by kernel_rfl) HS455 ?_
    clear E; intro a E
    refine dr_done (by kernel_rfl) ?_
    exact .inl ⟨rfl, g457, (some ⟨g463, 0, none⟩), E.pick _ ⟨rfl, rfl, rfl, rfl, rfl, rfl, trivial⟩, H.sel [0, 1, 2, 3] rfl⟩
   refine wpOp_of_list rfl ?_
   refine h_make (cInt .i64) (0 : Int) H E rfl rfl tbok rfl rfl rfl rfl ⟨g30.1, Int.le_refl _, g30.2⟩ rfl rfl rfl (fun _ _ => rfl) ?_
   intro w470 g469 a hc471 hg473 H_ E_
   replace E := E_ _ rfl; clear E_
   have hin474 : ∀ q_, q_ < w436.heap.size → At (some ⟨g469, 0, none⟩) q_ → (atL []) q_ := fun q_ h1_ h2_ => by have hs_ := HS455.size; have h4_ : q_ = g469 := At.of_g h2_; exfalso; omega
   replace HS455 := HS455.ext hc471
   replace H := H_; clear H_; try dsimp only [setn, addE, goneL] at H
   refine wpList_nil ?_
   refine th_n ⟨HS455, ?_⟩
   refine wpAnyH_all (rs := [0]) (by kernel_rfl) (by simp) ?_
   refine all1 ?_
   refine wpOp_of_list rfl ?_
   refine h_makeMap (P := Try.prog) (k0 := 79) H E rfl rfl ?_
   intro w476 g475 a hc477 hg478 H_ E_
   replace E := E_ _ rfl; clear E_
   have hin480 : ∀ q_, q_ < w436.heap.size → q_ = g475 → (atL []) q_ := fun q_ h1_ h2_ => by have hs_ := HS455.size; have h4_ : q_ = g475 := h2_; exfalso; omega
   replace HS455 := HS455.ext hc477
   replace H := H_; clear H_; try dsimp only [setn, addE, goneL] at H
   refine wpList_nil ?_
   refine th_n ⟨HS455, ?_⟩
   refine dr tbok (by kernel_rfl) [3, 4] [] [(3, .int .i64 (((List.length aAccept) : Nat) : Int)), (4, .slice A37 (List.length r18) c38), (5, .slice A282 (List.length of281) (Int.toNat (((List.length aAccept) : Nat) : Int))), (8, .int .i64 many283), (9, .map (some g475)), (10, .slice (some ⟨g469, 0, none⟩) (List.length (List.replicate (Int.toNat (((List.length aAccept) : Nat) : Int)) (0 : Int))) (Int.toNat (((List.length aAccept) : Nat) : Int)))] (fun w_ => []) 0 E (fun _ _ => by kernel_rfl) (fun w_ hS_ => trivial) (by kernel_rfl) HS455 ?_
   clear E; intro a E
   refine dr_done (by kernel_rfl) ?_
   exact .inl ⟨rfl, g475, (some ⟨g469, 0, none⟩), E.pick _ ⟨rfl, rfl, rfl, rfl, rfl, rfl, trivial⟩, H.sel [0, 1, 3, 2] rfl⟩
  clear E H; rintro a w452 ⟨g449, A451, E, H⟩
  refine th_n ?_
  refine wp_seq ?_
  refine wp_seq ?_
  refine wp_region_lit ?_
  refine vr tbok 3 [] [(3, .int .i64 (((List.length aAccept) : Nat) : Int)), (4, .slice A37 (List.length r18) c38), (5, .slice A282 (List.length of281) (Int.toNat (((List.length aAccept) : Nat) : Int))), (8, .int .i64 many283), (9, .map (some g449)), (10, .slice A451 (List.length (List.replicate (Int.toNat (((List.length aAccept) : Nat) : Int)) (0 : Int))) (Int.toNat (((List.length aAccept) : Nat) : Int))), (46, .int .i64 (((List.length of281) : Nat) : Int)), (47, .int .i64 0)] [] E (by kernel_rfl) trivial ?_
  clear E; intro a E
  refine wpList_nil ?_
  refine th_n ?_
  refine wp_block ?_
  obtain ⟨x613, hL614, hK615⟩ := bind_inv hP
  clear hP
  refine loop_cut (fun i_ a w_ => (i_ = 4 ∧ ∃ (x618 : (List ((List Int) × Int)) × (List Int)), Fr a 99 [(3, .int .i64 (((List.length aAccept) : Nat) : Int)), (4, .slice A37 (List.length r18) c38), (8, .int .i64 many283), (9, .map (some g449)), (10, .slice A451 (List.length x618.2) (Int.toNat (((List.length aAccept) : Nat) : Int)))] ∧ Hp S Fa w0 w_ [.row true (cSl (cInt .i64)) 23 A37 c38 r18, .mp Try.prog 79 g449 (List.map (fun p_ => ((fun xs_ : List Int => .agg (arrV (iV .i64) xs_)) p_.1, (fun u_ : Int => .int .i64 u_) p_.2)) x618.1), .rowx true (cInt .i64) 3 A451 (Int.toNat (((List.length aAccept) : Nat) : Int)) x618.2 (List.replicate (Int.toNat (((List.length aAccept) : Nat) : Int) - Int.toNat (((List.length aAccept) : Nat) : Int)) (0 : Int))] ∧ x613 = x618)) ?_ ?_
  ·
   refine loopV (fun m617 a w616 => ∃ (numbers543 : List ((List Int) × Int)) (next544 : List Int) (x545 : Int), Fr a 99 [(3, .int .i64 (((List.length aAccept) : Nat) : Int)), (4, .slice A37 (List.length r18) c38), (5, .slice A282 (List.length of281) (Int.toNat (((List.length aAccept) : Nat) : Int))), (8, .int .i64 many283), (9, .map (some g449)), (10, .slice A451 (List.length next544) (Int.toNat (((List.length aAccept) : Nat) : Int))), (46, .int .i64 (((List.length of281) : Nat) : Int)), (47, .int .i64 x545)] ∧ Hp S Fa w0 w616 [.row true (cSl (cInt .i64)) 23 A37 c38 r18, .rowx true (cInt .i64) 3 A282 (Int.toNat (((List.length aAccept) : Nat) : Int)) of281 (List.replicate (Int.toNat (((List.length aAccept) : Nat) : Int) - Int.toNat (((List.length aAccept) : Nat) : Int)) (0 : Int)), .mp Try.prog 79 g449 (List.map (fun p_ => ((fun xs_ : List Int => .agg (arrV (iV .i64) xs_)) p_.1, (fun u_ : Int => .int .i64 u_) p_.2)) numbers543), .rowx true (cInt .i64) 3 A451 (Int.toNat (((List.length aAccept) : Nat) : Int)) next544 (List.replicate (Int.toNat (((List.length aAccept) : Nat) : Int) - Int.toNat (((List.length aAccept) : Nat) : Int)) (0 : Int))] ∧ part_classes_l2 N r18 of281 m617 numbers543 next544 x545 = some x613) N ?_ ?_
   ·
    exact ⟨([] : List ((List Int) × Int)), List.replicate (Int.toNat (((List.length aAccept) : Nat) : Int)) (0 : Int), 0, E.pick _ ⟨rfl, rfl, rfl, rfl, rfl, rfl, rfl, rfl, trivial⟩, H.sel [0, 1, 2, 3] rfl, hL614⟩
   clear E H hL614; intro m617 a w616 hI_
   obtain ⟨numbers543, next544, x545, E, H, hP⟩ := hI_
   obtain ⟨m612, rfl⟩ : ∃ q_, m617 = q_ + 1 := by cases m617 with | zero => rw [part_classes_l2] at hP; cases hP | succ q_ => exact ⟨q_, rfl⟩
   rw [part_classes_l2] at hP
   refine wp_seq ?_
   refine wp_region_lit ?_
   refine vr tbok 1 [] [(3, .int .i64 (((List.length aAccept) : Nat) : Int)), (4, .slice A37 (List.length r18) c38), (5, .slice A282 (List.length of281) (Int.toNat (((List.length aAccept) : Nat) : Int))), (8, .int .i64 many283), (9, .map (some g449)), (10, .slice A451 (List.length next544) (Int.toNat (((List.length aAccept) : Nat) : Int))), (46, .int .i64 (((List.length of281) : Nat) : Int)), (47, .int .i64 x545), (48, .bool (decide (x545 < (((List.length of281) : Nat) : Int))))] [] E (by kernel_rfl) trivial ?_
   clear E; intro a E
   refine wpList_nil ?_
   refine th_n ?_
   refine wp_seq ?_
   refine E.cases (t := 48) rfl (fun hb_ E_ => ?_) (fun hb_ E_ => ?_)
   ·
    replace E := E_; clear E_
    have h619 : x545 < (((List.length of281) : Nat) : Int) := of_decide_eq_true hb_
    clear hb_; replace hP := ite_t h619 hP
    refine c_true E rfl ?_
    refine wp_skip ?_
    refine th_n ?_
    refine wp_seq ?_
    refine wp_block ?_
    refine wp_seq ?_
    refine wp_region_lit ?_
    refine vr tbok 2 [] [(3, .int .i64 (((List.length aAccept) : Nat) : Int)), (4, .slice A37 (List.length r18) c38), (5, .slice A282 (List.length of281) (Int.toNat (((List.length aAccept) : Nat) : Int))), (8, .int .i64 many283), (9, .map (some g449)), (10, .slice A451 (List.length next544) (Int.toNat (((List.length aAccept) : Nat) : Int))), (11, .int .i64 x545), (46, .int .i64 (((List.length of281) : Nat) : Int)), (47, .int .i64 x545)] [] E (by kernel_rfl) trivial ?_
    clear E; intro a E
    refine wpList_nil ?_
    refine th_n ?_
    refine wp_seq ?_
    refine wp_region_lit ?_
    refine h_allocArr (cInt .i64) (0 : Int) [.int .i64 0] 257 H E rfl rfl tbok rfl (fun _ _ => rfl) (by kernel_rfl) (by kernel_rfl) ?_
    intro w621 g620 a hc622 hg623 H_ E_
    replace E := E_ _ rfl; clear E_
    replace H := H_; clear H_; try dsimp only [setn, addE, goneL] at H
    refine wpList_nil ?_
    refine th_n ?_
    refine wp_seq ?_
    refine wp_region_lit ?_
    obtain ⟨g625, hP⟩ := ask_inv hP
    obtain ⟨b626, e_b626⟩ := H.raddrx 1 rfl (idx_pos g625)
    subst e_b626
    obtain ⟨g628, hP⟩ := ask_inv hP
    refine vr tbok 5 [.int .i64 (List.getD of281 (Int.toNat x545) 0)] [(3, .int .i64 (((List.length aAccept) : Nat) : Int)), (4, .slice A37 (List.length r18) c38), (5, .slice (some ⟨b626, 0, none⟩) (List.length of281) (Int.toNat (((List.length aAccept) : Nat) : Int))), (8, .int .i64 many283), (9, .map (some g449)), (10, .slice A451 (List.length next544) (Int.toNat (((List.length aAccept) : Nat) : Int))), (11, .int .i64 x545), (12, .pointer (some ⟨g620, 0, none⟩)), (46, .int .i64 (((List.length of281) : Nat) : Int)), (47, .int .i64 x545), (53, .int .i64 (List.getD of281 (Int.toNat x545) 0)), (54, .pointer (some ⟨g620, 0 + (Int.toNat (0 : Int)) * 1, none⟩))] [0 ≤ x545 ∧ x545 < (((List.length of281) : Nat) : Int), World.cell? w621 ⟨b626, 0 + (Int.toNat x545) * 1, none⟩ = some (.int .i64 (List.getD of281 (Int.toNat x545) 0)), 0 ≤ (0 : Int) ∧ (0 : Int) < ((257 : Nat) : Int)] E (by kernel_rfl) ⟨g625, Rds.at1 (H.rd 1 rds_rowx) 0 g625, g628⟩ ?_
    clear E; intro a E
    refine h_setx (g := g620) (i := (0 : Int)) (List.getD of281 (Int.toNat x545) 0) H 4 rfl E rfl rfl rfl rfl tbok rfl (fun _ HF_ => rfl) rfl (arr_hx (H.rcapE 4 rfl) g628) rfl ?_
    clear E; intro w629 a hc630 H_ E
    replace H := H_; clear H_; try dsimp only [setn, addE, goneL] at H
    refine wpList_nil ?_
    refine th_n ?_
    refine wp_seq ?_
    refine wp_seq ?_
    refine wp_region_lit ?_
    obtain ⟨g631, hP⟩ := ask_inv hP
    obtain ⟨b632, e_b632⟩ := H.raddr 0 rfl (idx_pos g631)
    subst e_b632
    obtain ⟨A634, c635, hl636, hk637, H⟩ := H.subSl 0 true (el_row rfl) g631
    try dsimp only [addE] at H
    refine vr tbok 6 [.slice A634 (List.length (List.getD r18 (Int.toNat x545) [])) c635] [(3, .int .i64 (((List.length aAccept) : Nat) : Int)), (4, .slice (some ⟨b632, 0, none⟩) (List.length r18) c38), (5, .slice (some ⟨b626, 0, none⟩) (List.length of281) (Int.toNat (((List.length aAccept) : Nat) : Int))), (8, .int .i64 many283), (9, .map (some g449)), (10, .slice A451 (List.length next544) (Int.toNat (((List.length aAccept) : Nat) : Int))), (11, .int .i64 x545), (12, .pointer (some ⟨g620, 0, none⟩)), (46, .int .i64 (((List.length of281) : Nat) : Int)), (47, .int .i64 x545), (58, .slice A634 (List.length (List.getD r18 (Int.toNat x545) [])) c635), (59, .int .i64 (((List.length (List.getD r18 (Int.toNat x545) [])) : Nat) : Int)), (60, .int .i64 0)] [0 ≤ x545 ∧ x545 < (((List.length r18) : Nat) : Int), World.cell? w629 ⟨b632, 0 + (Int.toNat x545) * 1, none⟩ = some (.slice A634 (List.length (List.getD r18 (Int.toNat x545) [])) c635)] E (by kernel_rfl) ⟨g631, hl636⟩ ?_
    clear E; intro a E
    refine wpList_nil ?_
    refine th_n ?_
    refine wp_block ?_
    obtain ⟨x663, hL664, hK665⟩ := bind_inv hP
    clear hP
    refine loop_cut (fun i_ a w_ => (i_ = 6 ∧ ∃ (x668 : List Int), Fr a 99 [(3, .int .i64 (((List.length aAccept) : Nat) : Int)), (4, .slice (some ⟨b632, 0, none⟩) (List.length r18) c38), (5, .slice (some ⟨b626, 0, none⟩) (List.length of281) (Int.toNat (((List.length aAccept) : Nat) : Int))), (8, .int .i64 many283), (9, .map (some g449)), (10, .slice A451 (List.length next544) (Int.toNat (((List.length aAccept) : Nat) : Int))), (11, .int .i64 x545), (12, .pointer (some ⟨g620, 0, none⟩)), (46, .int .i64 (((List.length of281) : Nat) : Int)), (47, .int .i64 x545)] ∧ Hp S Fa w0 w_ [.row true (cSl (cInt .i64)) 23 (some ⟨b632, 0, none⟩) c38 r18, .rowx true (cInt .i64) 3 (some ⟨b626, 0, none⟩) (Int.toNat (((List.length aAccept) : Nat) : Int)) of281 (List.replicate (Int.toNat (((List.length aAccept) : Nat) : Int) - Int.toNat (((List.length aAccept) : Nat) : Int)) (0 : Int)), .mp Try.prog 79 g449 (List.map (fun p_ => ((fun xs_ : List Int => .agg (arrV (iV .i64) xs_)) p_.1, (fun u_ : Int => .int .i64 u_) p_.2)) numbers543), .rowx true (cInt .i64) 3 A451 (Int.toNat (((List.length aAccept) : Nat) : Int)) next544 (List.replicate (Int.toNat (((List.length aAccept) : Nat) : Int) - Int.toNat (((List.length aAccept) : Nat) : Int)) (0 : Int)), .rowx true (cInt .i64) 79 (some ⟨g620, 0, none⟩) 257 x668 []] ∧ x663 = x668)) ?_ ?_
    ·
     refine loopV (fun m667 a w666 => ∃ (s648 : List Int) (x649 : Int), Fr a 99 [(3, .int .i64 (((List.length aAccept) : Nat) : Int)), (4, .slice (some ⟨b632, 0, none⟩) (List.length r18) c38), (5, .slice (some ⟨b626, 0, none⟩) (List.length of281) (Int.toNat (((List.length aAccept) : Nat) : Int))), (8, .int .i64 many283), (9, .map (some g449)), (10, .slice A451 (List.length next544) (Int.toNat (((List.length aAccept) : Nat) : Int))), (11, .int .i64 x545), (12, .pointer (some ⟨g620, 0, none⟩)), (46, .int .i64 (((List.length of281) : Nat) : Int)), (47, .int .i64 x545), (58, .slice A634 (List.length (List.getD r18 (Int.toNat x545) [])) c635), (59, .int .i64 (((List.length (List.getD r18 (Int.toNat x545) [])) : Nat) : Int)), (60, .int .i64 x649)] ∧ Hp S Fa w0 w666 [.row true (cSl (cInt .i64)) 23 (some ⟨b632, 0, none⟩) c38 r18, .rowx true (cInt .i64) 3 (some ⟨b626, 0, none⟩) (Int.toNat (((List.length aAccept) : Nat) : Int)) of281 (List.replicate (Int.toNat (((List.length aAccept) : Nat) : Int) - Int.toNat (((List.length aAccept) : Nat) : Int)) (0 : Int)), .mp Try.prog 79 g449 (List.map (fun p_ => ((fun xs_ : List Int => .agg (arrV (iV .i64) xs_)) p_.1, (fun u_ : Int => .int .i64 u_) p_.2)) numbers543), .rowx true (cInt .i64) 3 A451 (Int.toNat (((List.length aAccept) : Nat) : Int)) next544 (List.replicate (Int.toNat (((List.length aAccept) : Nat) : Int) - Int.toNat (((List.length aAccept) : Nat) : Int)) (0 : Int)), .rowx true (cInt .i64) 79 (some ⟨g620, 0, none⟩) 257 s648 [], .ro true (cInt .i64) A634 (List.getD r18 (Int.toNat x545) [])] ∧ part_classes_l3 N r18 of281 x545 m667 s648 x649 = some x663) N ?_ ?_
     ·
      exact ⟨List.set (List.replicate 257 (0 : Int)) (Int.toNat (0 : Int)) (List.getD of281 (Int.toNat x545) 0), 0, E.pick _ ⟨rfl, rfl, rfl, rfl, rfl, rfl, rfl, rfl, rfl, rfl, rfl, rfl, rfl, trivial⟩, H.sel [0, 1, 2, 3, 4, 5] rfl, hL664⟩
     clear E H hL664; intro m667 a w666 hI_
     obtain ⟨s648, x649, E, H, hP⟩ := hI_
     obtain ⟨m662, rfl⟩ : ∃ q_, m667 = q_ + 1 := by cases m667 with | zero => rw [part_classes_l3] at hP; cases hP | succ q_ => exact ⟨q_, rfl⟩
     rw [part_classes_l3] at hP
     refine wp_seq ?_
     refine wp_region_lit ?_
     refine vr tbok 1 [] [(3, .int .i64 (((List.length aAccept) : Nat) : Int)), (4, .slice (some ⟨b632, 0, none⟩) (List.length r18) c38), (5, .slice (some ⟨b626, 0, none⟩) (List.length of281) (Int.toNat (((List.length aAccept) : Nat) : Int))), (8, .int .i64 many283), (9, .map (some g449)), (10, .slice A451 (List.length next544) (Int.toNat (((List.length aAccept) : Nat) : Int))), (11, .int .i64 x545), (12, .pointer (some ⟨g620, 0, none⟩)), (46, .int .i64 (((List.length of281) : Nat) : Int)), (47, .int .i64 x545), (58, .slice A634 (List.length (List.getD r18 (Int.toNat x545) [])) c635), (59, .int .i64 (((List.length (List.getD r18 (Int.toNat x545) [])) : Nat) : Int)), (60, .int .i64 x649), (61, .bool (decide (x649 < (((List.length (List.getD r18 (Int.toNat x545) [])) : Nat) : Int))))] [] E (by kernel_rfl) trivial ?_
     clear E; intro a E
     refine wpList_nil ?_
     refine th_n ?_
     refine wp_seq ?_
     refine E.cases (t := 61) rfl (fun hb_ E_ => ?_) (fun hb_ E_ => ?_)
     ·
      replace E := E_; clear E_
      have h669 : x649 < (((List.length (List.getD r18 (Int.toNat x545) [])) : Nat) : Int) := of_decide_eq_true hb_
      clear hb_; replace hP := ite_t h669 hP
      refine c_true E rfl ?_
      refine wp_skip ?_
      refine th_n ?_
      refine wp_seq ?_
      refine wp_block ?_
      refine wp_seq ?_
      refine wp_region_lit ?_
      obtain ⟨g670, hP⟩ := ask_inv hP
      obtain ⟨b671, o672, e_b671⟩ := (H.rd 5 rds_ro).addr (idx_pos g670)
      subst e_b671
      refine vr tbok 5 [.int .i64 (List.getD (List.getD r18 (Int.toNat x545) []) (Int.toNat x649) 0)] [(3, .int .i64 (((List.length aAccept) : Nat) : Int)), (4, .slice (some ⟨b632, 0, none⟩) (List.length r18) c38), (5, .slice (some ⟨b626, 0, none⟩) (List.length of281) (Int.toNat (((List.length aAccept) : Nat) : Int))), (8, .int .i64 many283), (9, .map (some g449)), (10, .slice A451 (List.length next544) (Int.toNat (((List.length aAccept) : Nat) : Int))), (11, .int .i64 x545), (12, .pointer (some ⟨g620, 0, none⟩)), (13, .int .i64 x649), (14, .int .i64 (List.getD (List.getD r18 (Int.toNat x545) []) (Int.toNat x649) 0)), (46, .int .i64 (((List.length of281) : Nat) : Int)), (47, .int .i64 x545), (58, .slice (some ⟨b671, o672, none⟩) (List.length (List.getD r18 (Int.toNat x545) [])) c635), (59, .int .i64 (((List.length (List.getD r18 (Int.toNat x545) [])) : Nat) : Int)), (60, .int .i64 x649)] [0 ≤ x649 ∧ x649 < (((List.length (List.getD r18 (Int.toNat x545) [])) : Nat) : Int), World.cell? w666 ⟨b671, o672 + (Int.toNat x649) * 1, none⟩ = some (.int .i64 (List.getD (List.getD r18 (Int.toNat x545) []) (Int.toNat x649) 0))] E (by kernel_rfl) ⟨g670, Rds.at1 (H.rd 5 rds_ro) 0 g670⟩ ?_
      clear E; intro a E
      refine wpList_nil ?_
      refine th_n ?_
      refine wp_region_lit ?_
      obtain ⟨g673, hP⟩ := ask_inv hP
      obtain ⟨g674, hP⟩ := ask_inv hP
      obtain ⟨g675, hP⟩ := ask_inv hP
      refine vr tbok 7 [.int .i64 (1 + x649), .int .i64 (List.getD of281 (Int.toNat (List.getD (List.getD r18 (Int.toNat x545) []) (Int.toNat x649) 0)) 0)] [(3, .int .i64 (((List.length aAccept) : Nat) : Int)), (4, .slice (some ⟨b632, 0, none⟩) (List.length r18) c38), (5, .slice (some ⟨b626, 0, none⟩) (List.length of281) (Int.toNat (((List.length aAccept) : Nat) : Int))), (8, .int .i64 many283), (9, .map (some g449)), (10, .slice A451 (List.length next544) (Int.toNat (((List.length aAccept) : Nat) : Int))), (11, .int .i64 x545), (12, .pointer (some ⟨g620, 0, none⟩)), (46, .int .i64 (((List.length of281) : Nat) : Int)), (47, .int .i64 x545), (58, .slice (some ⟨b671, o672, none⟩) (List.length (List.getD r18 (Int.toNat x545) [])) c635), (59, .int .i64 (((List.length (List.getD r18 (Int.toNat x545) [])) : Nat) : Int)), (60, .int .i64 x649), (70, .int .i64 (List.getD of281 (Int.toNat (List.getD (List.getD r18 (Int.toNat x545) []) (Int.toNat x649) 0)) 0)), (71, .pointer (some ⟨g620, 0 + (Int.toNat (1 + x649)) * 1, none⟩))] [IntKind.i64.wrap (1 + x649) = 1 + x649, 0 ≤ (List.getD (List.getD r18 (Int.toNat x545) []) (Int.toNat x649) 0) ∧ (List.getD (List.getD r18 (Int.toNat x545) []) (Int.toNat x649) 0) < (((List.length of281) : Nat) : Int), World.cell? w666 ⟨b626, 0 + (Int.toNat (List.getD (List.getD r18 (Int.toNat x545) []) (Int.toNat x649) 0)) * 1, none⟩ = some (.int .i64 (List.getD of281 (Int.toNat (List.getD (List.getD r18 (Int.toNat x545) []) (Int.toNat x649) 0)) 0)), 0 ≤ (1 + x649) ∧ (1 + x649) < ((257 : Nat) : Int)] E (by kernel_rfl) ⟨wrap_in g673, g674, Rds.at1 (H.rd 1 rds_rowx) 0 g674, g675⟩ ?_
      clear E; intro a E
      refine h_setx (g := g620) (i := (1 + x649)) (List.getD of281 (Int.toNat (List.getD (List.getD r18 (Int.toNat x545) []) (Int.toNat x649) 0)) 0) H 4 rfl E rfl rfl rfl rfl tbok rfl (fun _ HF_ => rfl) rfl (arr_hx (H.rcapE 4 rfl) g675) rfl ?_
      clear E; intro w676 a hc677 H_ E
      replace H := H_; clear H_; try dsimp only [setn, addE, goneL] at H
      refine wpList_nil ?_
      refine bl_n ?_
      refine th_n ?_
      refine wp_region_lit ?_
      obtain ⟨g678, hP⟩ := ask_inv hP
      refine vr tbok 2 [.int .i64 (x649 + 1)] [(3, .int .i64 (((List.length aAccept) : Nat) : Int)), (4, .slice (some ⟨b632, 0, none⟩) (List.length r18) c38), (5, .slice (some ⟨b626, 0, none⟩) (List.length of281) (Int.toNat (((List.length aAccept) : Nat) : Int))), (8, .int .i64 many283), (9, .map (some g449)), (10, .slice A451 (List.length next544) (Int.toNat (((List.length aAccept) : Nat) : Int))), (11, .int .i64 x545), (12, .pointer (some ⟨g620, 0, none⟩)), (46, .int .i64 (((List.length of281) : Nat) : Int)), (47, .int .i64 x545), (58, .slice (some ⟨b671, o672, none⟩) (List.length (List.getD r18 (Int.toNat x545) [])) c635), (59, .int .i64 (((List.length (List.getD r18 (Int.toNat x545) [])) : Nat) : Int)), (60, .int .i64 (x649 + 1))] [IntKind.i64.wrap (x649 + 1) = x649 + 1] E (by kernel_rfl) (wrap_in g678) ?_
      clear E; intro a E
      refine wpList_nil ?_
      exact th_n ⟨m662, Nat.lt_succ_self _, List.set s648 (Int.toNat (1 + x649)) (List.getD of281 (Int.toNat (List.getD (List.getD r18 (Int.toNat x545) []) (Int.toNat x649) 0)) 0), x649 + 1, E.pick _ ⟨rfl, rfl, rfl, rfl, rfl, rfl, rfl, rfl, rfl, rfl, rfl, rfl, rfl, trivial⟩, H.sel [0, 1, 2, 3, 4, 5] rfl, hP⟩
     replace E := E_; clear E_
     have h679 : ¬ (x649 < (((List.length (List.getD r18 (Int.toNat x545) [])) : Nat) : Int)) := of_decide_eq_false hb_
     clear hb_; replace hP := ite_f h679 hP
     refine c_false E rfl ?_
     refine wp_exit ?_
     refine th_exit ?_
     have hx_ := Option.some.inj hP
     refine th_exit (.inl ⟨6, rfl, ?_⟩)
     exact ⟨rfl, s648, E.pick _ ⟨rfl, rfl, rfl, rfl, rfl, rfl, rfl, rfl, rfl, rfl, trivial⟩, H.sel [0, 1, 2, 3, 4] rfl, hx_.symm⟩
    clear E H hL664; intro i_ a w666 hM_
    obtain ⟨rfl, x668, E, H, hx_⟩ := hM_
    subst hx_; have hP := hK665; clear hK665
    refine bl_hit ?_
    refine th_n ?_
    refine wp_seq ?_
    refine wp_region_lit ?_
    refine vr tbok 1 [] [(3, .int .i64 (((List.length aAccept) : Nat) : Int)), (4, .slice (some ⟨b632, 0, none⟩) (List.length r18) c38), (5, .slice (some ⟨b626, 0, none⟩) (List.length of281) (Int.toNat (((List.length aAccept) : Nat) : Int))), (8, .int .i64 many283), (9, .map (some g449)), (10, .slice A451 (List.length next544) (Int.toNat (((List.length aAccept) : Nat) : Int))), (11, .int .i64 x545), (12, .pointer (some ⟨g620, 0, none⟩)), (46, .int .i64 (((List.length of281) : Nat) : Int)), (47, .int .i64 x545), (74, .map (some g449))] [] E (by kernel_rfl) trivial ?_
    clear E; intro a E
    refine h_loadArr (iV .i64) (xs := x663) H 4 rfl E rfl rfl tbok rfl rfl rfl rfl (fun _ _ _ _ h_ => h_) (by kernel_rfl) rfl ?_
    clear E; intro a E
    obtain ⟨g680, hP⟩ := ask_inv hP
    refine h_lookupC (fun xs_ : List Int => .agg (arrV (iV .i64) xs_)) (fun u_ : Int => .int .i64 u_) x663 0 H 2 rfl E rfl rfl tbok rfl rfl (kArr Try.underlying79 Try.underlying3 (by kernel_rfl) (by kernel_rfl) (by kernel_rfl) (by kernel_rfl) (Maps.Keyed.of_law (deep_law (m := 3) (by decide) (by kernel_rfl) (by kernel_rfl) (by kernel_rfl)))) rfl rfl rfl g680 (fun _ => ⟨_, rfl⟩) ?_
    clear E; intro a E_; replace E := E_ _ rfl; clear E_
    refine vr tbok 5 [] [(3, .int .i64 (((List.length aAccept) : Nat) : Int)), (4, .slice (some ⟨b632, 0, none⟩) (List.length r18) c38), (5, .slice (some ⟨b626, 0, none⟩) (List.length of281) (Int.toNat (((List.length aAccept) : Nat) : Int))), (8, .int .i64 many283), (9, .map (some g449)), (10, .slice A451 (List.length next544) (Int.toNat (((List.length aAccept) : Nat) : Int))), (11, .int .i64 x545), (12, .pointer (some ⟨g620, 0, none⟩)), (15, .int .i64 (Option.getD (mget numbers543 x663) 0)), (16, .bool (Option.isSome (mget numbers543 x663))), (46, .int .i64 (((List.length of281) : Nat) : Int)), (47, .int .i64 x545)] [] E (by kernel_rfl) trivial ?_
    clear E; intro a E
    refine wpList_nil ?_
    refine th_n ?_
    refine wp_seq ?_
    refine wp_seq ?_
    refine wp_region_lit ?_
    refine vr tbok 2 [] [(3, .int .i64 (((List.length aAccept) : Nat) : Int)), (4, .slice (some ⟨b632, 0, none⟩) (List.length r18) c38), (5, .slice (some ⟨b626, 0, none⟩) (List.length of281) (Int.toNat (((List.length aAccept) : Nat) : Int))), (8, .int .i64 many283), (9, .map (some g449)), (10, .slice A451 (List.length next544) (Int.toNat (((List.length aAccept) : Nat) : Int))), (11, .int .i64 x545), (12, .pointer (some ⟨g620, 0, none⟩)), (15, .int .i64 (Option.getD (mget numbers543 x663) 0)), (46, .int .i64 (((List.length of281) : Nat) : Int)), (47, .int .i64 x545), (80, .bool (!(Option.isSome (mget numbers543 x663))))] [] E (by kernel_rfl) trivial ?_
    clear E; intro a E
    refine wpList_nil ?_
    refine th_n ?_
    refine E.cases (t := 80) rfl (fun hb_ E_ => ?_) (fun hb_ E_ => ?_)
    ·
     replace E := E_; clear E_
     have h681 : ¬ ((Option.isSome (mget numbers543 x663)) = true) := (ne_true_of_eq_false (not_t hb_))
     clear hb_; replace hP := ite_f h681 hP
     refine c_true E rfl ?_
     refine wp_seq ?_
     refine wp_region_lit ?_
     refine vr tbok 1 [] [(3, .int .i64 (((List.length aAccept) : Nat) : Int)), (4, .slice (some ⟨b632, 0, none⟩) (List.length r18) c38), (5, .slice (some ⟨b626, 0, none⟩) (List.length of281) (Int.toNat (((List.length aAccept) : Nat) : Int))), (8, .int .i64 many283), (9, .map (some g449)), (10, .slice A451 (List.length next544) (Int.toNat (((List.length aAccept) : Nat) : Int))), (11, .int .i64 x545), (12, .pointer (some ⟨g620, 0, none⟩)), (46, .int .i64 (((List.length of281) : Nat) : Int)), (47, .int .i64 x545), (81, .map (some g449))] [] E (by kernel_rfl) trivial ?_
     clear E; intro a E
     refine h_maplen (fun xs_ : List Int => .agg (arrV (iV .i64) xs_)) (fun u_ : Int => .int .i64 u_) H 2 rfl E rfl rfl tbok rfl rfl rfl ?_
     clear E; intro a E
     refine vr tbok 1 [] [(3, .int .i64 (((List.length aAccept) : Nat) : Int)), (4, .slice (some ⟨b632, 0, none⟩) (List.length r18) c38), (5, .slice (some ⟨b626, 0, none⟩) (List.length of281) (Int.toNat (((List.length aAccept) : Nat) : Int))), (8, .int .i64 many283), (9, .map (some g449)), (10, .slice A451 (List.length next544) (Int.toNat (((List.length aAccept) : Nat) : Int))), (11, .int .i64 x545), (12, .pointer (some ⟨g620, 0, none⟩)), (15, .int .i64 ((List.length numbers543 : Nat) : Int)), (46, .int .i64 (((List.length of281) : Nat) : Int)), (47, .int .i64 x545)] [] E (by kernel_rfl) trivial ?_
     clear E; intro a E
     refine wpList_nil ?_
     refine th_n ?_
     refine wp_region_lit ?_
     refine vr tbok 1 [] [(3, .int .i64 (((List.length aAccept) : Nat) : Int)), (4, .slice (some ⟨b632, 0, none⟩) (List.length r18) c38), (5, .slice (some ⟨b626, 0, none⟩) (List.length of281) (Int.toNat (((List.length aAccept) : Nat) : Int))), (8, .int .i64 many283), (9, .map (some g449)), (10, .slice A451 (List.length next544) (Int.toNat (((List.length aAccept) : Nat) : Int))), (11, .int .i64 x545), (12, .pointer (some ⟨g620, 0, none⟩)), (15, .int .i64 ((List.length numbers543 : Nat) : Int)), (46, .int .i64 (((List.length of281) : Nat) : Int)), (47, .int .i64 x545), (83, .map (some g449))] [] E (by kernel_rfl) trivial ?_
     clear E; intro a E
     refine h_loadArr (iV .i64) (xs := x663) H 4 rfl E rfl rfl tbok rfl rfl rfl rfl (fun _ _ _ _ h_ => h_) (by kernel_rfl) rfl ?_
     clear E; intro a E
     refine vr tbok 1 [] [(3, .int .i64 (((List.length aAccept) : Nat) : Int)), (4, .slice (some ⟨b632, 0, none⟩) (List.length r18) c38), (5, .slice (some ⟨b626, 0, none⟩) (List.length of281) (Int.toNat (((List.length aAccept) : Nat) : Int))), (8, .int .i64 many283), (9, .map (some g449)), (10, .slice A451 (List.length next544) (Int.toNat (((List.length aAccept) : Nat) : Int))), (11, .int .i64 x545), (15, .int .i64 ((List.length numbers543 : Nat) : Int)), (46, .int .i64 (((List.length of281) : Nat) : Int)), (47, .int .i64 x545), (83, .map (some g449)), (84, .agg (arrV (iV .i64) x663)), (85, .int .i64 ((List.length numbers543 : Nat) : Int))] [] E (by kernel_rfl) trivial ?_
     clear E; intro a E
     obtain ⟨g682, hP⟩ := ask_inv hP
     refine h_mapUpdate (fun xs_ : List Int => .agg (arrV (iV .i64) xs_)) (fun u_ : Int => .int .i64 u_) x663 ((List.length numbers543 : Nat) : Int) H 2 rfl E rfl rfl tbok rfl (kArr Try.underlying79 Try.underlying3 (by kernel_rfl) (by kernel_rfl) (by kernel_rfl) (by kernel_rfl) (Maps.Keyed.of_law (deep_law (m := 3) (by decide) (by kernel_rfl) (by kernel_rfl) (by kernel_rfl)))) rfl rfl rfl g680 g682 rfl ?_
     clear E; intro w683 a hc684 H_ E
     replace H := H_; clear H_; try dsimp only [setn, addE, goneL] at H
     refine wpList_nil ?_
     refine th_n ?_
     refine wp_region_lit ?_
     obtain ⟨g685, hP⟩ := ask_inv hP
     obtain ⟨b686, e_b686⟩ := H.raddrx 3 rfl (idx_pos g685)
     subst e_b686
     refine vr tbok 4 [] [(3, .int .i64 (((List.length aAccept) : Nat) : Int)), (4, .slice (some ⟨b632, 0, none⟩) (List.length r18) c38), (5, .slice (some ⟨b626, 0, none⟩) (List.length of281) (Int.toNat (((List.length aAccept) : Nat) : Int))), (8, .int .i64 many283), (9, .map (some g449)), (10, .slice (some ⟨b686, 0, none⟩) (List.length next544) (Int.toNat (((List.length aAccept) : Nat) : Int))), (46, .int .i64 (((List.length of281) : Nat) : Int)), (47, .int .i64 x545), (88, .int .i64 ((List.length numbers543 : Nat) : Int)), (89, .pointer (some ⟨b686, 0 + (Int.toNat x545) * 1, none⟩))] [0 ≤ x545 ∧ x545 < (((List.length next544) : Nat) : Int)] E (by kernel_rfl) (g685) ?_
     clear E; intro a E
     refine h_setx (g := b686) (i := x545) ((List.length numbers543 : Nat) : Int) H 3 rfl E rfl rfl rfl rfl tbok rfl (fun _ HF_ => rfl) rfl g685 rfl ?_
     clear E; intro w688 a hc689 H_ E
     replace H := H_; clear H_; try dsimp only [setn, addE, goneL] at H
     have hn690 : (List.length next544) = (List.length (List.set next544 (Int.toNat x545) ((List.length numbers543 : Nat) : Int))) := by simp only [List.length_set]
     replace E := E.same (t := 10) (u := .slice (some ⟨b686, 0, none⟩) (List.length (List.set next544 (Int.toNat x545) ((List.length numbers543 : Nat) : Int))) (Int.toNat (((List.length aAccept) : Nat) : Int))) rfl (congrArg (fun n_ => Value.slice (some ⟨b686, 0, none⟩) n_ (Int.toNat (((List.length aAccept) : Nat) : Int))) hn690)
     refine wpList_nil ?_
     refine bl_n ?_
     refine th_n ?_
     refine wp_region_lit ?_
     obtain ⟨g691, hP⟩ := ask_inv hP
     refine vr tbok 2 [.int .i64 (x545 + 1)] [(3, .int .i64 (((List.length aAccept) : Nat) : Int)), (4, .slice (some ⟨b632, 0, none⟩) (List.length r18) c38), (5, .slice (some ⟨b626, 0, none⟩) (List.length of281) (Int.toNat (((List.length aAccept) : Nat) : Int))), (8, .int .i64 many283), (9, .map (some g449)), (10, .slice (some ⟨b686, 0, none⟩) (List.length (List.set next544 (Int.toNat x545) ((List.length numbers543 : Nat) : Int))) (Int.toNat (((List.length aAccept) : Nat) : Int))), (46, .int .i64 (((List.length of281) : Nat) : Int)), (47, .int .i64 (x545 + 1))] [IntKind.i64.wrap (x545 + 1) = x545 + 1] E (by kernel_rfl) (wrap_in g691) ?_
     clear E; intro a E
     refine wpList_nil ?_
     exact th_n ⟨m612, Nat.lt_succ_self _, numbers543 ++ [(x663, ((List.length numbers543 : Nat) : Int))], List.set next544 (Int.toNat x545) ((List.length numbers543 : Nat) : Int), x545 + 1, E.pick _ ⟨rfl, rfl, rfl, rfl, rfl, rfl, rfl, rfl, trivial⟩, H.sel [0, 1, 2, 3] rfl, hP⟩
    replace E := E_; clear E_
    have h692 : (Option.isSome (mget numbers543 x663)) = true := (not_f hb_)
    clear hb_; replace hP := ite_t h692 hP
    refine c_false E rfl ?_
    refine wp_skip ?_
    refine th_n ?_
    refine wp_region_lit ?_
    obtain ⟨g693, hP⟩ := ask_inv hP
    obtain ⟨b694, e_b694⟩ := H.raddrx 3 rfl (idx_pos g693)
    subst e_b694
    refine vr tbok 4 [] [(3, .int .i64 (((List.length aAccept) : Nat) : Int)), (4, .slice (some ⟨b632, 0, none⟩) (List.length r18) c38), (5, .slice (some ⟨b626, 0, none⟩) (List.length of281) (Int.toNat (((List.length aAccept) : Nat) : Int))), (8, .int .i64 many283), (9, .map (some g449)), (10, .slice (some ⟨b694, 0, none⟩) (List.length next544) (Int.toNat (((List.length aAccept) : Nat) : Int))), (46, .int .i64 (((List.length of281) : Nat) : Int)), (47, .int .i64 x545), (88, .int .i64 (Option.getD (mget numbers543 x663) 0)), (89, .pointer (some ⟨b694, 0 + (Int.toNat x545) * 1, none⟩))] [0 ≤ x545 ∧ x545 < (((List.length next544) : Nat) : Int)] E (by kernel_rfl) (g693) ?_
    clear E; intro a E
    refine h_setx (g := b694) (i := x545) (Option.getD (mget numbers543 x663) 0) H 3 rfl E rfl rfl rfl rfl tbok rfl (fun _ HF_ => rfl) rfl g693 rfl ?_
    clear E; intro w696 a hc697 H_ E
    replace H := H_; clear H_; try dsimp only [setn, addE, goneL] at H
    have hn698 : (List.length next544) = (List.length (List.set next544 (Int.toNat x545) (Option.getD (mget numbers543 x663) 0))) := by simp only [List.length_set]
    replace E := E.same (t := 10) (u := .slice (some ⟨b694, 0, none⟩) (List.length (List.set next544 (Int.toNat x545) (Option.getD (mget numbers543 x663) 0))) (Int.toNat (((List.length aAccept) : Nat) : Int))) rfl (congrArg (fun n_ => Value.slice (some ⟨b694, 0, none⟩) n_ (Int.toNat (((List.length aAccept) : Nat) : Int))) hn698)
    refine wpList_nil ?_
    refine bl_n ?_
    refine th_n ?_
    refine wp_region_lit ?_
    obtain ⟨g699, hP⟩ := ask_inv hP
    refine vr tbok 2 [.int .i64 (x545 + 1)] [(3, .int .i64 (((List.length aAccept) : Nat) : Int)), (4, .slice (some ⟨b632, 0, none⟩) (List.length r18) c38), (5, .slice (some ⟨b626, 0, none⟩) (List.length of281) (Int.toNat (((List.length aAccept) : Nat) : Int))), (8, .int .i64 many283), (9, .map (some g449)), (10, .slice (some ⟨b694, 0, none⟩) (List.length (List.set next544 (Int.toNat x545) (Option.getD (mget numbers543 x663) 0))) (Int.toNat (((List.length aAccept) : Nat) : Int))), (46, .int .i64 (((List.length of281) : Nat) : Int)), (47, .int .i64 (x545 + 1))] [IntKind.i64.wrap (x545 + 1) = x545 + 1] E (by kernel_rfl) (wrap_in g699) ?_
    clear E; intro a E
    refine wpList_nil ?_
    exact th_n ⟨m612, Nat.lt_succ_self _, numbers543, List.set next544 (Int.toNat x545) (Option.getD (mget numbers543 x663) 0), x545 + 1, E.pick _ ⟨rfl, rfl, rfl, rfl, rfl, rfl, rfl, rfl, trivial⟩, H.sel [0, 1, 2, 3] rfl, hP⟩
   replace E := E_; clear E_
   have h700 : ¬ (x545 < (((List.length of281) : Nat) : Int)) := of_decide_eq_false hb_
   clear hb_; replace hP := ite_f h700 hP
   refine c_false E rfl ?_
   refine wp_exit ?_
   refine th_exit ?_
   have hx_ := Option.some.inj hP
   refine th_exit (.inl ⟨4, rfl, ?_⟩)
   exact ⟨rfl, (numbers543, next544), E.pick _ ⟨rfl, rfl, rfl, rfl, rfl, trivial⟩, H.sel [0, 2, 3] rfl, hx_.symm⟩
  clear E H hL614; intro i_ a w616 hM_
  obtain ⟨rfl, x618, E, H, hx_⟩ := hM_
  subst hx_; have hP := hK615; clear hK615
  refine bl_hit ?_
  refine th_n ?_
  refine wp_seq ?_
  refine wp_region_lit ?_
  refine vr tbok 2 [] [(3, .int .i64 (((List.length aAccept) : Nat) : Int)), (4, .slice A37 (List.length r18) c38), (5, .slice A451 (List.length x613.2) (Int.toNat (((List.length aAccept) : Nat) : Int))), (8, .int .i64 many283), (9, .map (some g449))] [] E (by kernel_rfl) trivial ?_
  clear E; intro a E
  refine wpList_nil ?_
  refine th_n ?_
  refine wp_seq ?_
  refine wp_seq ?_
  refine wp_region_lit ?_
  refine vr tbok 1 [] [(3, .int .i64 (((List.length aAccept) : Nat) : Int)), (4, .slice A37 (List.length r18) c38), (5, .slice A451 (List.length x613.2) (Int.toNat (((List.length aAccept) : Nat) : Int))), (8, .int .i64 many283), (9, .map (some g449)), (92, .map (some g449))] [] E (by kernel_rfl) trivial ?_
  clear E; intro a E
  refine h_maplen (fun xs_ : List Int => .agg (arrV (iV .i64) xs_)) (fun u_ : Int => .int .i64 u_) H 1 rfl E rfl rfl tbok rfl rfl rfl ?_
  clear E; intro a E
  refine vr tbok 2 [] [(3, .int .i64 (((List.length aAccept) : Nat) : Int)), (4, .slice A37 (List.length r18) c38), (5, .slice A451 (List.length x613.2) (Int.toNat (((List.length aAccept) : Nat) : Int))), (9, .map (some g449)), (95, .bool ((((List.length x613.1 : Nat) : Int) : Int) == many283))] [] E (by kernel_rfl) trivial ?_
  clear E; intro a E
  refine wpList_nil ?_
  refine th_n ?_
  refine E.cases (t := 95) rfl (fun hb_ E_ => ?_) (fun hb_ E_ => ?_)
  ·
   replace E := E_; clear E_
   have h701 : (((List.length x613.1 : Nat) : Int) : Int) = many283 := eq_of_beq hb_
   clear hb_; replace hP := ite_t h701 hP
   refine c_true E rfl ?_
   refine wp_seq ?_
   refine wp_region_lit ?_
   refine vr tbok 2 [] [(2, .slice A451 (List.length x613.2) (Int.toNat (((List.length aAccept) : Nat) : Int)))] [] E (by kernel_rfl) trivial ?_
   clear E; intro a E
   refine wpList_nil ?_
   refine th_n ?_
   refine wp_ret ?_
   refine th_ret ?_
   refine bl_ret ?_
   refine th_ret ?_
   refine .inr ⟨rfl, ?_⟩
   refine bl_ret ?_
   replace H := H.rowx 2 rfl; try dsimp only [setn, addE, goneL] at H
   have hx_ := Option.some.inj hP; subst hx_
   have hP : some (x613.2) = some r := hK435
   obtain rfl := Option.some.inj hP
   refine ret1 E rfl rfl ?_
   exact ⟨_, rfl, A451, (Int.toNat (((List.length aAccept) : Nat) : Int)), rfl, H.sel [2] rfl⟩
  replace E := E_; clear E_
  have h702 : ¬ ((((List.length x613.1 : Nat) : Int) : Int) = many283) := ne_of_beq_false hb_
  clear hb_; replace hP := ite_f h702 hP
  refine c_false E rfl ?_
  refine wp_skip ?_
  refine th_n ?_
  refine wp_region_lit ?_
  refine vr tbok 1 [] [(3, .int .i64 (((List.length aAccept) : Nat) : Int)), (4, .slice A37 (List.length r18) c38), (5, .slice A451 (List.length x613.2) (Int.toNat (((List.length aAccept) : Nat) : Int))), (97, .map (some g449))] [] E (by kernel_rfl) trivial ?_
  clear E; intro a E
  refine h_maplen (fun xs_ : List Int => .agg (arrV (iV .i64) xs_)) (fun u_ : Int => .int .i64 u_) H 1 rfl E rfl rfl tbok rfl rfl rfl ?_
  clear E; intro a E
  refine vr tbok 1 [] [(3, .int .i64 (((List.length aAccept) : Nat) : Int)), (4, .slice A37 (List.length r18) c38), (5, .slice A451 (List.length x613.2) (Int.toNat (((List.length aAccept) : Nat) : Int))), (8, .int .i64 ((List.length x613.1 : Nat) : Int))] [] E (by kernel_rfl) trivial ?_
  clear E; intro a E
  refine wpList_nil ?_
  refine bl_n ?_
  exact th_n ⟨m432, Nat.lt_succ_self _, x613.2, ((List.length x613.1 : Nat) : Int), A451, E.pick _ ⟨rfl, rfl, rfl, rfl, trivial⟩, H.sel [0, 2] rfl, hP⟩
 clear E H hL434; intro i_ a w436 hM_
 exact hM_.elim

end Go.V
