/- Plain functions, and the calls that give them. -/
import Derived.Test.YtflangjkfaalkaaA3
set_option linter.all false
set_option linter.unusedVariables false
set_option linter.unnecessarySimpa false
set_option linter.unusedSimpArgs false
namespace Go.V
open Go Go.Proofs
/-! (*rejoinder/moore.game).ranks -/
def moore_game_ranks_l0 (N : Nat) (g : (Int × (List Bool) × (List Int) × (List Nd)) × (Int × Int) × (List Int) × (List Int)) : Nat → (List Int) → Int → Option (List Int)
  | 0, _, _ => none
  | m128 + 1, out112, x113 =>
    if x113 < (((List.length g.1.2.1) : Nat) : Int) then
      ask (idx x113 (List.length g.1.2.1)) <|
      if (List.getD g.1.2.1 (Int.toNat x113) false) = true then
        ask (in64 (x113 + 1)) <|
        moore_game_ranks_l0 N g m128 out112 (x113 + 1)
      else
        ask (idx x113 (List.length out112)) <|
        ask (in64 (x113 + 1)) <|
        moore_game_ranks_l0 N g m128 (List.set out112 (Int.toNat x113) (-1)) (x113 + 1)
    else
      some out112
def moore_game_ranks_f5 (N : Nat) (g : (Int × (List Bool) × (List Int) × (List Nd)) × (Int × Int) × (List Int) × (List Int)) (out386 : List Int) (x765 : Int) (x1002 : Int) : Option Bool :=
    Option.bind (moore_game_worst N g (([] : List Int) ++ out386) x765 (List.getD g.2.2.1 (Int.toNat x1002) 0)) fun r1047 =>
    some (decide (0 ≤ r1047))
def moore_game_ranks_l4 (N : Nat) (g : (Int × (List Bool) × (List Int) × (List Nd)) × (Int × Int) × (List Int) × (List Int)) (out386 : List Int) (x765 : Int) : Nat → Int → Option (Unit ⊕ Int)
  | 0, _ => none
  | m1023 + 1, x1002 =>
    if x1002 < (((List.length g.2.2.1) : Nat) : Int) then
      ask (idx x1002 (List.length g.2.2.1)) <|
      Option.bind (moore_game_ranks_f5 N g out386 x765 x1002) fun x1044 =>
      if x1044 = true then
        some (Sum.inr x1002)
      else
        ask (in64 (x1002 + 1)) <|
        moore_game_ranks_l4 N g out386 x765 m1023 (x1002 + 1)
    else
      some (Sum.inl ())
def moore_game_ranks_f3 (N : Nat) (g : (Int × (List Bool) × (List Int) × (List Nd)) × (Int × Int) × (List Int) × (List Int)) (out386 : List Int) (x765 : Int) : Option Int :=
    Option.bind (moore_game_ranks_l4 N g out386 x765 N 0) fun x1024 =>
    Sum.elim (fun x1029 =>
      some (-1))
     (fun x1062 =>
      some x1062) x1024
def moore_game_ranks_l2 (N : Nat) (g : (Int × (List Bool) × (List Int) × (List Nd)) × (Int × Int) × (List Int) × (List Int)) (out386 : List Int) (k387 : Int) : Nat → (List Int) → Bool → Int → Option ((List Int) × Bool)
  | 0, _, _, _ => none
  | m877 + 1, out763, more764, x765 =>
    if x765 < (((List.length (([] : List Int) ++ out386)) : Nat) : Int) then
      ask (idx x765 (List.length (([] : List Int) ++ out386))) <|
      if (List.getD (([] : List Int) ++ out386) (Int.toNat x765) 0) < 0 then
        Option.bind (moore_game_ranks_f3 N g out386 x765) fun x980 =>
        if 0 ≤ x980 then
          ask (idx x765 (List.length out763)) <|
          ask (in64 (x765 + 1)) <|
          moore_game_ranks_l2 N g out386 k387 m877 (List.set out763 (Int.toNat x765) k387) true (x765 + 1)
        else
          ask (in64 (x765 + 1)) <|
          moore_game_ranks_l2 N g out386 k387 m877 out763 more764 (x765 + 1)
      else
        ask (in64 (x765 + 1)) <|
        moore_game_ranks_l2 N g out386 k387 m877 out763 more764 (x765 + 1)
    else
      some (out763, more764)
def moore_game_ranks_l1 (N : Nat) (g : (Int × (List Bool) × (List Int) × (List Nd)) × (Int × Int) × (List Int) × (List Int)) : Nat → (List Int) → Int → Bool → Option (List Int)
  | 0, _, _, _ => none
  | m631 + 1, out386, k387, more388 =>
    if more388 = true then
      ask (List.length ([] : List Int) + List.length out386 ≤ 1000000000) <|
      Option.bind (moore_game_ranks_l2 N g out386 k387 N out386 false 0) fun x878 =>
      ask (in64 (k387 + 1)) <|
      moore_game_ranks_l1 N g m631 x878.1 (k387 + 1) x878.2
    else
      some out386
def moore_game_ranks (N : Nat) (g : (Int × (List Bool) × (List Int) × (List Nd)) × (Int × Int) × (List Int) × (List Int)) : Option (List Int) :=
  ask (0 ≤ (((List.length g.1.2.1) : Nat) : Int) ∧ (((List.length g.1.2.1) : Nat) : Int) ≤ 1000000000) <|
  Option.bind (moore_game_ranks_l0 N g N (List.replicate (Int.toNat (((List.length g.1.2.1) : Nat) : Int)) (0 : Int)) 0) fun x129 =>
  Option.bind (moore_game_ranks_l1 N g N x129 1 true) fun x632 =>
  some x632
set_option maxRecDepth 100000 in
set_option maxHeartbeats 4000000 in
theorem moore_game_ranks_calls {N : Nat} {S Fa : Nat → Prop} {w0 : World} {r : List Int} (b1 : Nat) (o2 : Nat) (g : (Int × (List Bool) × (List Int) × (List Nd)) × (Int × Int) × (List Int) × (List Int)) (H : Hp S Fa w0 w0 [.ro false cS87 (some ⟨b1, o2, none⟩) ([g])]) (hP : moore_game_ranks N g = some r) :
    Calls Try.prog 32 #[.pointer (some ⟨b1, o2, none⟩)] w0 fun e w' => ∃ v, e = .returned v ∧ ∃ (A1078 : Option Addr) (c1079 : Nat), v = .slice A1078 (List.length r) c1079 ∧ Hp S Fa w0 w' [.row true (cInt .i64) 3 A1078 c1079 r] := by
 refine enterV (n := 65) Try.func32 rfl rfl rfl ?_
 intro a E
 replace E := E.pick [(0, .pointer (some ⟨b1, o2, none⟩))] ⟨rfl, trivial⟩
 rw [moore_game_ranks] at hP
 refine wp_seq ?_
 refine wp_region_lit ?_
 refine h_box H E rfl rfl rfl ?_
 intro w5 g4 a hc6 hg8 H_ E_
 replace E := E_ _ rfl; clear E_
 replace H := H_; clear H_; try dsimp only [setn, addE, goneL] at H
 refine vr tbok 1 [] [(1, .pointer (some ⟨g4, 0, none⟩))] [] E (by kernel_rfl) trivial ?_
 clear E; intro a E
 refine wpList_nil ?_
 refine th_n ?_
 refine wp_seq ?_
 refine wp_region_lit ?_
 obtain ⟨Fz9, cs11, HF10, hK12, hc13⟩ := H.elem 0 false (el_ro rfl) g (idx_one _)
 obtain ⟨_, _, rfl, hK14, hK15⟩ := hK12
 obtain ⟨_, _, rfl, hK16, hK17⟩ := hK14
 obtain rfl := hK16
 obtain ⟨_, _, rfl, hK18, hK19⟩ := hK17
 obtain ⟨A20, c21, rfl, hk22, hC23⟩ := hK18
 obtain ⟨_, _, rfl, hK25, hK26⟩ := hK19
 obtain ⟨A27, c28, rfl, hk29, hC30⟩ := hK25
 obtain ⟨A32, c33, rfl, hk34, hC35⟩ := hK26
 obtain ⟨_, _, rfl, hK37, hK38⟩ := hK15
 obtain rfl := hK37
 obtain ⟨_, _, rfl, hK39, hK40⟩ := hK38
 obtain ⟨A41, c42, rfl, hk43, hC44⟩ := hK39
 obtain ⟨A46, c47, rfl, hk48, hC49⟩ := hK40
 replace HF10 := HF10.ins hC23
 replace HF10 := HF10.ins hC30
 replace HF10 := HF10.ins hC35
 replace HF10 := HF10.ins hC44
 replace HF10 := HF10.ins hC49
 replace H := HF10.hp; try dsimp only [addE] at H
 have hc51 : cellsAt w5 b1 (o2) [.int .i64 g.1.1, .slice A20 (List.length g.1.2.1) c21, .slice A27 (List.length g.1.2.2.1) c28, .slice A32 (List.length g.1.2.2.2) c33, .int .u8 g.2.1.1, .int .u8 g.2.1.2, .slice A41 (List.length g.2.2.1) c42, .slice A46 (List.length g.2.2.2) c47] := hc13
 refine vr tbok 6 [.pointer (some ⟨b1, o2, none⟩), .slice A20 (List.length g.1.2.1) c21] [(1, .pointer (some ⟨g4, 0, none⟩)), (16, .int .i64 (((List.length g.1.2.1) : Nat) : Int))] [World.cell? w5 ⟨g4, 0, none⟩ = some (.pointer (some ⟨b1, o2, none⟩)), World.cell? w5 ⟨b1, o2 + 1, none⟩ = some (.slice A20 (List.length g.1.2.1) c21)] E (by kernel_rfl) ⟨(H.box 1 rfl).cell (j := 0) rfl, hc51.get 1 _ rfl⟩ ?_
 clear E; intro a E
 obtain ⟨g52, hP⟩ := ask_inv hP
 refine h_make (cInt .i64) (0 : Int) H E rfl rfl tbok rfl rfl rfl rfl ⟨g52.1, Int.le_refl _, g52.2⟩ rfl rfl rfl (fun _ _ => rfl) ?_
 intro w54 g53 a hc55 hg57 H_ E_
 replace E := E_ _ rfl; clear E_
 replace H := H_; clear H_; try dsimp only [setn, addE, goneL] at H
 refine vr tbok 1 [] [(1, .pointer (some ⟨g4, 0, none⟩)), (3, .slice (some ⟨g53, 0, none⟩) (List.length (List.replicate (Int.toNat (((List.length g.1.2.1) : Nat) : Int)) (0 : Int))) (Int.toNat (((List.length g.1.2.1) : Nat) : Int)))] [] E (by kernel_rfl) trivial ?_
 clear E; intro a E
 refine wpList_nil ?_
 refine th_n ?_
 refine wp_seq ?_
 refine wp_seq ?_
 refine wp_region_lit ?_
 obtain ⟨Fz58, cs60, HF59, hK61, hc62⟩ := H.elem 0 false (el_ro rfl) g (idx_one _)
 obtain ⟨_, _, rfl, hK63, hK64⟩ := hK61
 obtain ⟨_, _, rfl, hK65, hK66⟩ := hK63
 obtain rfl := hK65
 obtain ⟨_, _, rfl, hK67, hK68⟩ := hK66
 obtain ⟨A69, c70, rfl, hk71, hC72⟩ := hK67
 obtain ⟨_, _, rfl, hK74, hK75⟩ := hK68
 obtain ⟨A76, c77, rfl, hk78, hC79⟩ := hK74
 obtain ⟨A81, c82, rfl, hk83, hC84⟩ := hK75
 obtain ⟨_, _, rfl, hK86, hK87⟩ := hK64
 obtain rfl := hK86
 obtain ⟨_, _, rfl, hK88, hK89⟩ := hK87
 obtain ⟨A90, c91, rfl, hk92, hC93⟩ := hK88
 obtain ⟨A95, c96, rfl, hk97, hC98⟩ := hK89
 replace HF59 := HF59.ins hC72
 replace HF59 := HF59.ins hC79
 replace HF59 := HF59.ins hC84
 replace HF59 := HF59.ins hC93
 replace HF59 := HF59.ins hC98
 replace H := HF59.hp; try dsimp only [addE] at H
 have hc100 : cellsAt w54 b1 (o2) [.int .i64 g.1.1, .slice A69 (List.length g.1.2.1) c70, .slice A76 (List.length g.1.2.2.1) c77, .slice A81 (List.length g.1.2.2.2) c82, .int .u8 g.2.1.1, .int .u8 g.2.1.2, .slice A90 (List.length g.2.2.1) c91, .slice A95 (List.length g.2.2.2) c96] := hc62
 refine vr tbok 7 [.pointer (some ⟨b1, o2, none⟩), .slice A69 (List.length g.1.2.1) c70] [(1, .pointer (some ⟨g4, 0, none⟩)), (3, .slice (some ⟨g53, 0, none⟩) (List.length (List.replicate (Int.toNat (((List.length g.1.2.1) : Nat) : Int)) (0 : Int))) (Int.toNat (((List.length g.1.2.1) : Nat) : Int))), (22, .slice A69 (List.length g.1.2.1) c70), (23, .int .i64 (((List.length g.1.2.1) : Nat) : Int)), (24, .int .i64 0)] [World.cell? w54 ⟨g4, 0, none⟩ = some (.pointer (some ⟨b1, o2, none⟩)), World.cell? w54 ⟨b1, o2 + 1, none⟩ = some (.slice A69 (List.length g.1.2.1) c70)] E (by kernel_rfl) ⟨(H.box 1 rfl).cell (j := 0) rfl, hc100.get 1 _ rfl⟩ ?_
 clear E; intro a E
 refine wpList_nil ?_
 refine th_n ?_
 refine wp_block ?_
 obtain ⟨x129, hL130, hK131⟩ := bind_inv hP
 clear hP
 refine loop_cut (fun i_ a w_ => (i_ = 0 ∧ ∃ (x134 : List Int), Fr a 65 [(1, .pointer (some ⟨g4, 0, none⟩)), (3, .slice (some ⟨g53, 0, none⟩) (List.length x134) (Int.toNat (((List.length g.1.2.1) : Nat) : Int)))] ∧ Hp S Fa w0 w_ [.ro false cS87 (some ⟨b1, o2, none⟩) ([g]), .box g4 62 [.pointer (some ⟨b1, o2, none⟩)], .rowx true (cInt .i64) 3 (some ⟨g53, 0, none⟩) (Int.toNat (((List.length g.1.2.1) : Nat) : Int)) x134 (List.replicate (Int.toNat (((List.length g.1.2.1) : Nat) : Int) - Int.toNat (((List.length g.1.2.1) : Nat) : Int)) (0 : Int))] ∧ x129 = x134)) ?_ ?_
 ·
  refine loopV (fun m133 a w132 => ∃ (out112 : List Int) (x113 : Int), Fr a 65 [(1, .pointer (some ⟨g4, 0, none⟩)), (3, .slice (some ⟨g53, 0, none⟩) (List.length out112) (Int.toNat (((List.length g.1.2.1) : Nat) : Int))), (22, .slice A69 (List.length g.1.2.1) c70), (23, .int .i64 (((List.length g.1.2.1) : Nat) : Int)), (24, .int .i64 x113)] ∧ Hp S Fa w0 w132 [.ro false cS87 (some ⟨b1, o2, none⟩) ([g]), .box g4 62 [.pointer (some ⟨b1, o2, none⟩)], .rowx true (cInt .i64) 3 (some ⟨g53, 0, none⟩) (Int.toNat (((List.length g.1.2.1) : Nat) : Int)) out112 (List.replicate (Int.toNat (((List.length g.1.2.1) : Nat) : Int) - Int.toNat (((List.length g.1.2.1) : Nat) : Int)) (0 : Int)), .ro false cBool A69 g.1.2.1] ∧ moore_game_ranks_l0 N g m133 out112 x113 = some x129) N ?_ ?_
  ·
   exact ⟨List.replicate (Int.toNat (((List.length g.1.2.1) : Nat) : Int)) (0 : Int), 0, E.pick _ ⟨rfl, rfl, rfl, rfl, rfl, trivial⟩, H.sel [0, 1, 7, 8] rfl, hL130⟩
  ·
   clear E H hL130; intro m133 a w132 hI_
   obtain ⟨out112, x113, E, H, hP⟩ := hI_
   obtain ⟨m128, rfl⟩ : ∃ q_, m133 = q_ + 1 := by cases m133 with | zero => rw [moore_game_ranks_l0] at hP; cases hP | succ q_ => exact ⟨q_, rfl⟩
   rw [moore_game_ranks_l0] at hP
   refine wp_seq ?_
   refine wp_region_lit ?_
   refine vr tbok 1 [] [(1, .pointer (some ⟨g4, 0, none⟩)), (3, .slice (some ⟨g53, 0, none⟩) (List.length out112) (Int.toNat (((List.length g.1.2.1) : Nat) : Int))), (22, .slice A69 (List.length g.1.2.1) c70), (23, .int .i64 (((List.length g.1.2.1) : Nat) : Int)), (24, .int .i64 x113), (25, .bool (decide (x113 < (((List.length g.1.2.1) : Nat) : Int))))] [] E (by kernel_rfl) trivial ?_
   clear E; intro a E
   refine wpList_nil ?_
   refine th_n ?_
   refine wp_seq ?_
   refine E.cases (t := 25) rfl (fun hb_ E_ => ?_) (fun hb_ E_ => ?_)
   ·
    replace E := E_; clear E_
    have h135 : x113 < (((List.length g.1.2.1) : Nat) : Int) := of_decide_eq_true hb_
    clear hb_; replace hP := ite_t h135 hP
    refine c_true E rfl ?_
    refine wp_skip ?_
    refine th_n ?_
    refine wp_seq ?_
    refine wp_block ?_
    refine wp_seq ?_
    refine wp_region_lit ?_
    obtain ⟨g136, hP⟩ := ask_inv hP
    obtain ⟨b137, o138, e_b137⟩ := (H.rd 3 rds_ro).addr (idx_pos g136)
    subst e_b137
    refine vr tbok 5 [.bool (List.getD g.1.2.1 (Int.toNat x113) false)] [(1, .pointer (some ⟨g4, 0, none⟩)), (3, .slice (some ⟨g53, 0, none⟩) (List.length out112) (Int.toNat (((List.length g.1.2.1) : Nat) : Int))), (4, .int .i64 x113), (5, .bool (List.getD g.1.2.1 (Int.toNat x113) false)), (22, .slice (some ⟨b137, o138, none⟩) (List.length g.1.2.1) c70), (23, .int .i64 (((List.length g.1.2.1) : Nat) : Int)), (24, .int .i64 x113)] [0 ≤ x113 ∧ x113 < (((List.length g.1.2.1) : Nat) : Int), World.cell? w132 ⟨b137, o138 + (Int.toNat x113) * 1, none⟩ = some (.bool (List.getD g.1.2.1 (Int.toNat x113) false))] E (by kernel_rfl) ⟨g136, Rds.at1 (H.rd 3 rds_ro) false g136⟩ ?_
    clear E; intro a E
    refine wpList_nil ?_
    refine th_n ?_
    refine wp_seq ?_
    refine wp_region_lit ?_
    refine vr tbok 2 [] [(1, .pointer (some ⟨g4, 0, none⟩)), (3, .slice (some ⟨g53, 0, none⟩) (List.length out112) (Int.toNat (((List.length g.1.2.1) : Nat) : Int))), (4, .int .i64 x113), (22, .slice (some ⟨b137, o138, none⟩) (List.length g.1.2.1) c70), (23, .int .i64 (((List.length g.1.2.1) : Nat) : Int)), (24, .int .i64 x113), (30, .bool (!(List.getD g.1.2.1 (Int.toNat x113) false)))] [] E (by kernel_rfl) trivial ?_
    clear E; intro a E
    refine wpList_nil ?_
    refine th_n ?_
    refine E.cases (t := 30) rfl (fun hb_ E_ => ?_) (fun hb_ E_ => ?_)
    ·
     replace E := E_; clear E_
     have h139 : ¬ ((List.getD g.1.2.1 (Int.toNat x113) false) = true) := (ne_true_of_eq_false (not_t hb_))
     clear hb_; replace hP := ite_f h139 hP
     refine c_true E rfl ?_
     refine wp_region_lit ?_
     obtain ⟨g140, hP⟩ := ask_inv hP
     refine vr tbok 3 [] [(1, .pointer (some ⟨g4, 0, none⟩)), (3, .slice (some ⟨g53, 0, none⟩) (List.length out112) (Int.toNat (((List.length g.1.2.1) : Nat) : Int))), (22, .slice (some ⟨b137, o138, none⟩) (List.length g.1.2.1) c70), (23, .int .i64 (((List.length g.1.2.1) : Nat) : Int)), (24, .int .i64 x113), (33, .pointer (some ⟨g53, 0 + (Int.toNat x113) * 1, none⟩))] [0 ≤ x113 ∧ x113 < (((List.length out112) : Nat) : Int)] E (by kernel_rfl) (g140) ?_
     clear E; intro a E
     refine h_setx (g := g53) (i := x113) (-1) H 2 rfl E rfl rfl rfl rfl tbok rfl (fun _ HF_ => rfl) rfl g140 rfl ?_
     clear E; intro w141 a hc142 H_ E
     replace H := H_; clear H_; try dsimp only [setn, addE, goneL] at H
     have hn143 : (List.length out112) = (List.length (List.set out112 (Int.toNat x113) (-1))) := by simp only [List.length_set]
     replace E := E.same (t := 3) (u := .slice (some ⟨g53, 0, none⟩) (List.length (List.set out112 (Int.toNat x113) (-1))) (Int.toNat (((List.length g.1.2.1) : Nat) : Int))) rfl (congrArg (fun n_ => Value.slice (some ⟨g53, 0, none⟩) n_ (Int.toNat (((List.length g.1.2.1) : Nat) : Int))) hn143)
     refine wpList_nil ?_
     refine bl_n ?_
     refine th_n ?_
     refine wp_region_lit ?_
     obtain ⟨g144, hP⟩ := ask_inv hP
     refine vr tbok 2 [.int .i64 (x113 + 1)] [(1, .pointer (some ⟨g4, 0, none⟩)), (3, .slice (some ⟨g53, 0, none⟩) (List.length (List.set out112 (Int.toNat x113) (-1))) (Int.toNat (((List.length g.1.2.1) : Nat) : Int))), (22, .slice (some ⟨b137, o138, none⟩) (List.length g.1.2.1) c70), (23, .int .i64 (((List.length g.1.2.1) : Nat) : Int)), (24, .int .i64 (x113 + 1))] [IntKind.i64.wrap (x113 + 1) = x113 + 1] E (by kernel_rfl) (wrap_in g144) ?_
     clear E; intro a E
     refine wpList_nil ?_
     exact th_n ⟨m128, Nat.lt_succ_self _, List.set out112 (Int.toNat x113) (-1), x113 + 1, E.pick _ ⟨rfl, rfl, rfl, rfl, rfl, trivial⟩, H.sel [0, 1, 2, 3] rfl, hP⟩
    ·
     replace E := E_; clear E_
     have h145 : (List.getD g.1.2.1 (Int.toNat x113) false) = true := (not_f hb_)
     clear hb_; replace hP := ite_t h145 hP
     refine c_false E rfl ?_
     refine wp_skip ?_
     refine bl_n ?_
     refine th_n ?_
     refine wp_region_lit ?_
     obtain ⟨g146, hP⟩ := ask_inv hP
     refine vr tbok 2 [.int .i64 (x113 + 1)] [(1, .pointer (some ⟨g4, 0, none⟩)), (3, .slice (some ⟨g53, 0, none⟩) (List.length out112) (Int.toNat (((List.length g.1.2.1) : Nat) : Int))), (22, .slice (some ⟨b137, o138, none⟩) (List.length g.1.2.1) c70), (23, .int .i64 (((List.length g.1.2.1) : Nat) : Int)), (24, .int .i64 (x113 + 1))] [IntKind.i64.wrap (x113 + 1) = x113 + 1] E (by kernel_rfl) (wrap_in g146) ?_
     clear E; intro a E
     refine wpList_nil ?_
     exact th_n ⟨m128, Nat.lt_succ_self _, out112, x113 + 1, E.pick _ ⟨rfl, rfl, rfl, rfl, rfl, trivial⟩, H.sel [0, 1, 2, 3] rfl, hP⟩
   ·
    replace E := E_; clear E_
    have h147 : ¬ (x113 < (((List.length g.1.2.1) : Nat) : Int)) := of_decide_eq_false hb_
    clear hb_; replace hP := ite_f h147 hP
    refine c_false E rfl ?_
    refine wp_exit ?_
    refine th_exit ?_
    have hx_ := Option.some.inj hP
    refine th_exit (.inl ⟨0, rfl, ?_⟩)
    exact ⟨rfl, out112, E.pick _ ⟨rfl, rfl, trivial⟩, H.sel [0, 1, 2] rfl, hx_.symm⟩
 ·
  clear E H hL130; intro i_ a w132 hM_
  obtain ⟨rfl, x134, E, H, hx_⟩ := hM_
  subst hx_; have hP := hK131; clear hK131
  refine bl_hit ?_
  refine th_n ?_
  refine wp_seq ?_
  refine wp_seq ?_
  refine wp_region_lit ?_
  refine vr tbok 2 [] [(1, .pointer (some ⟨g4, 0, none⟩)), (3, .slice (some ⟨g53, 0, none⟩) (List.length x129) (Int.toNat (((List.length g.1.2.1) : Nat) : Int))), (6, .int .i64 1), (7, .bool true)] [] E (by kernel_rfl) trivial ?_
  clear E; intro a E
  refine wpList_nil ?_
  refine th_n ?_
  refine wp_block ?_
  obtain ⟨x632, hL633, hK634⟩ := bind_inv hP
  clear hP
  refine loop_cut (fun i_ a w_ => (i_ = 2 ∧ ∃ (x637 : List Int), Fr a 65 [(3, .slice (some ⟨g53, 0, none⟩) (List.length x637) (Int.toNat (((List.length g.1.2.1) : Nat) : Int)))] ∧ Hp S Fa w0 w_ [.rowx true (cInt .i64) 3 (some ⟨g53, 0, none⟩) (Int.toNat (((List.length g.1.2.1) : Nat) : Int)) x637 (List.replicate (Int.toNat (((List.length g.1.2.1) : Nat) : Int) - Int.toNat (((List.length g.1.2.1) : Nat) : Int)) (0 : Int))] ∧ x632 = x637)) ?_ ?_
  ·
   refine loopV (fun m636 a w635 => ∃ (out386 : List Int) (k387 : Int) (more388 : Bool), Fr a 65 [(1, .pointer (some ⟨g4, 0, none⟩)), (3, .slice (some ⟨g53, 0, none⟩) (List.length out386) (Int.toNat (((List.length g.1.2.1) : Nat) : Int))), (6, .int .i64 k387), (7, .bool more388)] ∧ Hp S Fa w0 w635 [.ro false cS87 (some ⟨b1, o2, none⟩) ([g]), .box g4 62 [.pointer (some ⟨b1, o2, none⟩)], .rowx true (cInt .i64) 3 (some ⟨g53, 0, none⟩) (Int.toNat (((List.length g.1.2.1) : Nat) : Int)) out386 (List.replicate (Int.toNat (((List.length g.1.2.1) : Nat) : Int) - Int.toNat (((List.length g.1.2.1) : Nat) : Int)) (0 : Int))] ∧ moore_game_ranks_l1 N g m636 out386 k387 more388 = some x632) N ?_ ?_
   ·
    exact ⟨x129, 1, true, E.pick _ ⟨rfl, rfl, rfl, rfl, trivial⟩, H.sel [0, 1, 2] rfl, hL633⟩
   ·
    clear E H hL633; intro m636 a w635 hI_
    obtain ⟨out386, k387, more388, E, H, hP⟩ := hI_
    obtain ⟨m631, rfl⟩ : ∃ q_, m636 = q_ + 1 := by cases m636 with | zero => rw [moore_game_ranks_l1] at hP; cases hP | succ q_ => exact ⟨q_, rfl⟩
    rw [moore_game_ranks_l1] at hP
    refine wp_seq ?_
    refine wp_seq ?_
    refine wp_region_lit ?_
    refine vr tbok 1 [] [(1, .pointer (some ⟨g4, 0, none⟩)), (3, .slice (some ⟨g53, 0, none⟩) (List.length out386) (Int.toNat (((List.length g.1.2.1) : Nat) : Int))), (6, .int .i64 k387), (35, .bool more388)] [] E (by kernel_rfl) trivial ?_
    clear E; intro a E
    refine wpList_nil ?_
    refine th_n ?_
    refine E.cases (t := 35) rfl (fun hb_ E_ => ?_) (fun hb_ E_ => ?_)
    ·
     replace E := E_; clear E_
     have h638 : more388 = true := hb_
     clear hb_; replace hP := ite_t h638 hP
     refine c_true E rfl ?_
     refine wp_skip ?_
     refine th_n ?_
     refine wp_seq ?_
     refine wp_block ?_
     refine wp_seq ?_
     refine wp_region_lit ?_
     refine vr tbok 1 [] [(1, .pointer (some ⟨g4, 0, none⟩)), (3, .slice (some ⟨g53, 0, none⟩) (List.length out386) (Int.toNat (((List.length g.1.2.1) : Nat) : Int))), (6, .int .i64 k387), (7, .bool false)] [] E (by kernel_rfl) trivial ?_
     clear E; intro a E
     refine wpList_nil ?_
     refine th_n ?_
     refine wp_seq ?_
     refine wp_region_lit ?_
     refine h_buildSlice (ps := []) (cs := []) H E rfl rfl tbok rfl rfl (by kernel_rfl) ?_
     intro w640 g639 a hc641 hg643 H_ E_
     replace E := E_ _ rfl; clear E_
     replace H := H_; clear H_; try dsimp only [setn, addE, goneL] at H
     refine vr tbok 1 [] [(1, .pointer (some ⟨g4, 0, none⟩)), (3, .slice (some ⟨g53, 0, none⟩) (List.length out386) (Int.toNat (((List.length g.1.2.1) : Nat) : Int))), (6, .int .i64 k387), (7, .bool false), (38, .slice (some ⟨g639, 0, none⟩) 0 0), (39, .slice (some ⟨g53, 0, none⟩) (List.length out386) (Int.toNat (((List.length g.1.2.1) : Nat) : Int)))] [] E (by kernel_rfl) trivial ?_
     clear E; intro a E
     replace H := H.boxRow (cInt .i64) true ([] : List Int) 3 rfl (fun _ _ => rfl) (Nat.le_of_ble_eq_true rfl); try dsimp only [setn, addE, goneL] at H
     replace H := H.rowx 3 rfl; try dsimp only [setn, addE, goneL] at H
     obtain ⟨g644, hP⟩ := ask_inv hP
     refine h_append (cInt .i64) (xs := ([] : List Int)) (ys := out386) (0 : Int) H 3 rfl E rfl rfl tbok rfl rfl rfl rfl rfl (fun _ _ => rfl) rfl rfl (fun _ HF_ => HF_.srcF flat_plain 2 rds_rowx) g644 ?_
     intro w645 A646 c647 a hc648 hA649 H_ E_
     replace E := E_ _ rfl; clear E_
     replace H := H_; clear H_; try dsimp only [setn, addE, goneL] at H
     refine h_alloc H E rfl rfl tbok rfl ?_
     intro w651 g650 a hc652 hg654 H_ E_
     replace E := E_ _ rfl; clear E_
     replace H := H_; clear H_; try dsimp only [setn, addE, goneL] at H
     refine h_store (g := g650) (off := 0) H 4 rfl E rfl rfl rfl rfl tbok rfl rfl rfl rfl rfl ?_
     clear E; intro w655 a hc656 H_ E
     replace H := H_; clear H_; try dsimp only [setn, addE, goneL] at H
     refine wpList_nil ?_
     refine th_n ?_
     refine wp_seq ?_
     refine wp_region_lit ?_
     refine vr tbok 3 [.slice A646 (List.length (([] : List Int) ++ out386)) c647] [(1, .pointer (some ⟨g4, 0, none⟩)), (3, .slice (some ⟨g53, 0, none⟩) (List.length out386) (Int.toNat (((List.length g.1.2.1) : Nat) : Int))), (6, .int .i64 k387), (7, .bool false), (8, .pointer (some ⟨g650, 0, none⟩)), (41, .slice A646 (List.length (([] : List Int) ++ out386)) c647), (42, .int .i64 (((List.length (([] : List Int) ++ out386)) : Nat) : Int)), (43, .int .i64 0)] [World.cell? w655 ⟨g650, 0, none⟩ = some (.slice A646 (List.length (([] : List Int) ++ out386)) c647)] E (by kernel_rfl) ((H.box 4 rfl).cell (j := 0) rfl) ?_
     clear E; intro a E
     refine wpList_nil ?_
     refine th_n ?_
     refine wp_block ?_
     obtain ⟨x878, hL879, hK880⟩ := bind_inv hP
     clear hP
     refine loop_cut (fun i_ a w_ => (i_ = 4 ∧ ∃ (x883 : (List Int) × Bool), Fr a 65 [(1, .pointer (some ⟨g4, 0, none⟩)), (3, .slice (some ⟨g53, 0, none⟩) (List.length x883.1) (Int.toNat (((List.length g.1.2.1) : Nat) : Int))), (6, .int .i64 k387), (7, .bool x883.2)] ∧ Hp S Fa w0 w_ [.ro false cS87 (some ⟨b1, o2, none⟩) ([g]), .box g4 62 [.pointer (some ⟨b1, o2, none⟩)], .rowx true (cInt .i64) 3 (some ⟨g53, 0, none⟩) (Int.toNat (((List.length g.1.2.1) : Nat) : Int)) x883.1 (List.replicate (Int.toNat (((List.length g.1.2.1) : Nat) : Int) - Int.toNat (((List.length g.1.2.1) : Nat) : Int)) (0 : Int))] ∧ x878 = x883)) ?_ ?_
     ·
      refine loopV (fun m882 a w881 => ∃ (out763 : List Int) (more764 : Bool) (x765 : Int), Fr a 65 [(1, .pointer (some ⟨g4, 0, none⟩)), (3, .slice (some ⟨g53, 0, none⟩) (List.length out763) (Int.toNat (((List.length g.1.2.1) : Nat) : Int))), (6, .int .i64 k387), (7, .bool more764), (8, .pointer (some ⟨g650, 0, none⟩)), (41, .slice A646 (List.length (([] : List Int) ++ out386)) c647), (42, .int .i64 (((List.length (([] : List Int) ++ out386)) : Nat) : Int)), (43, .int .i64 x765)] ∧ Hp S Fa w0 w881 [.ro false cS87 (some ⟨b1, o2, none⟩) ([g]), .box g4 62 [.pointer (some ⟨b1, o2, none⟩)], .rowx true (cInt .i64) 3 (some ⟨g53, 0, none⟩) (Int.toNat (((List.length g.1.2.1) : Nat) : Int)) out763 (List.replicate (Int.toNat (((List.length g.1.2.1) : Nat) : Int) - Int.toNat (((List.length g.1.2.1) : Nat) : Int)) (0 : Int)), .row true (cInt .i64) 3 A646 c647 (([] : List Int) ++ out386), .box g650 23 [.slice A646 (List.length (([] : List Int) ++ out386)) c647]] ∧ moore_game_ranks_l2 N g out386 k387 m882 out763 more764 x765 = some x878) N ?_ ?_
      ·
       exact ⟨out386, false, 0, E.pick _ ⟨rfl, rfl, rfl, rfl, rfl, rfl, rfl, rfl, trivial⟩, H.sel [0, 1, 2, 3, 4] rfl, hL879⟩
      ·
       clear E H hL879; intro m882 a w881 hI_
       obtain ⟨out763, more764, x765, E, H, hP⟩ := hI_
       obtain ⟨m877, rfl⟩ : ∃ q_, m882 = q_ + 1 := by cases m882 with | zero => rw [moore_game_ranks_l2] at hP; cases hP | succ q_ => exact ⟨q_, rfl⟩
       rw [moore_game_ranks_l2] at hP
       refine wp_seq ?_
       refine wp_region_lit ?_
       refine vr tbok 1 [] [(1, .pointer (some ⟨g4, 0, none⟩)), (3, .slice (some ⟨g53, 0, none⟩) (List.length out763) (Int.toNat (((List.length g.1.2.1) : Nat) : Int))), (6, .int .i64 k387), (7, .bool more764), (8, .pointer (some ⟨g650, 0, none⟩)), (41, .slice A646 (List.length (([] : List Int) ++ out386)) c647), (42, .int .i64 (((List.length (([] : List Int) ++ out386)) : Nat) : Int)), (43, .int .i64 x765), (44, .bool (decide (x765 < (((List.length (([] : List Int) ++ out386)) : Nat) : Int))))] [] E (by kernel_rfl) trivial ?_
       clear E; intro a E
       refine wpList_nil ?_
       refine th_n ?_
       refine wp_seq ?_
       refine E.cases (t := 44) rfl (fun hb_ E_ => ?_) (fun hb_ E_ => ?_)
       ·
        replace E := E_; clear E_
        have h884 : x765 < (((List.length (([] : List Int) ++ out386)) : Nat) : Int) := of_decide_eq_true hb_
        clear hb_; replace hP := ite_t h884 hP
        refine c_true E rfl ?_
        refine wp_skip ?_
        refine th_n ?_
        refine wp_seq ?_
        refine wp_block ?_
        refine wp_seq ?_
        refine wp_region_lit ?_
        obtain ⟨g885, hP⟩ := ask_inv hP
        obtain ⟨b886, e_b886⟩ := H.raddr 3 rfl (idx_pos g885)
        subst e_b886
        refine vr tbok 3 [.int .i64 (List.getD (([] : List Int) ++ out386) (Int.toNat x765) 0)] [(1, .pointer (some ⟨g4, 0, none⟩)), (3, .slice (some ⟨g53, 0, none⟩) (List.length out763) (Int.toNat (((List.length g.1.2.1) : Nat) : Int))), (6, .int .i64 k387), (7, .bool more764), (8, .pointer (some ⟨g650, 0, none⟩)), (41, .slice (some ⟨b886, 0, none⟩) (List.length (([] : List Int) ++ out386)) c647), (42, .int .i64 (((List.length (([] : List Int) ++ out386)) : Nat) : Int)), (43, .int .i64 x765), (45, .int .i64 x765), (47, .int .i64 (List.getD (([] : List Int) ++ out386) (Int.toNat x765) 0))] [0 ≤ x765 ∧ x765 < (((List.length (([] : List Int) ++ out386)) : Nat) : Int), World.cell? w881 ⟨b886, 0 + (Int.toNat x765) * 1, none⟩ = some (.int .i64 (List.getD (([] : List Int) ++ out386) (Int.toNat x765) 0))] E (by kernel_rfl) ⟨g885, Rds.at1 (H.rd 3 rds_row) 0 g885⟩ ?_
        clear E; intro a E
        refine h_alloc H E rfl rfl tbok rfl ?_
        intro w889 g888 a hc890 hg892 H_ E_
        replace E := E_ _ rfl; clear E_
        replace H := H_; clear H_; try dsimp only [setn, addE, goneL] at H
        refine h_store (g := g888) (off := 0) H 5 rfl E rfl rfl rfl rfl tbok rfl rfl rfl rfl rfl ?_
        clear E; intro w893 a hc894 H_ E
        replace H := H_; clear H_; try dsimp only [setn, addE, goneL] at H
        refine vr tbok 1 [] [(1, .pointer (some ⟨g4, 0, none⟩)), (3, .slice (some ⟨g53, 0, none⟩) (List.length out763) (Int.toNat (((List.length g.1.2.1) : Nat) : Int))), (6, .int .i64 k387), (7, .bool more764), (8, .pointer (some ⟨g650, 0, none⟩)), (9, .pointer (some ⟨g888, 0, none⟩)), (10, .int .i64 (List.getD (([] : List Int) ++ out386) (Int.toNat x765) 0)), (41, .slice (some ⟨b886, 0, none⟩) (List.length (([] : List Int) ++ out386)) c647), (42, .int .i64 (((List.length (([] : List Int) ++ out386)) : Nat) : Int)), (43, .int .i64 x765)] [] E (by kernel_rfl) trivial ?_
        clear E; intro a E
        refine wpList_nil ?_
        refine th_n ?_
        refine wp_seq ?_
        refine wp_region_lit ?_
        refine vr tbok 3 [] [(1, .pointer (some ⟨g4, 0, none⟩)), (3, .slice (some ⟨g53, 0, none⟩) (List.length out763) (Int.toNat (((List.length g.1.2.1) : Nat) : Int))), (6, .int .i64 k387), (7, .bool more764), (8, .pointer (some ⟨g650, 0, none⟩)), (9, .pointer (some ⟨g888, 0, none⟩)), (41, .slice (some ⟨b886, 0, none⟩) (List.length (([] : List Int) ++ out386)) c647), (42, .int .i64 (((List.length (([] : List Int) ++ out386)) : Nat) : Int)), (43, .int .i64 x765), (50, .bool (decide ((List.getD (([] : List Int) ++ out386) (Int.toNat x765) 0) < 0)))] [] E (by kernel_rfl) trivial ?_
        clear E; intro a E
        refine E.cases (t := 50) rfl (fun hb_ E_ => ?_) (fun hb_ E_ => ?_)
        ·
         replace E := E_; clear E_
         have h895 : (List.getD (([] : List Int) ++ out386) (Int.toNat x765) 0) < 0 := of_decide_eq_true hb_
         clear hb_; replace hP := ite_t h895 hP
         obtain ⟨Fz896, cs898, HF897, hK899, hc900⟩ := H.elem 0 false (el_ro rfl) g (idx_one _)
         obtain ⟨_, _, rfl, hK901, hK902⟩ := hK899
         obtain ⟨_, _, rfl, hK903, hK904⟩ := hK901
         obtain rfl := hK903
         obtain ⟨_, _, rfl, hK905, hK906⟩ := hK904
         obtain ⟨A907, c908, rfl, hk909, hC910⟩ := hK905
         obtain ⟨_, _, rfl, hK912, hK913⟩ := hK906
         obtain ⟨A914, c915, rfl, hk916, hC917⟩ := hK912
         obtain ⟨A919, c920, rfl, hk921, hC922⟩ := hK913
         obtain ⟨_, _, rfl, hK924, hK925⟩ := hK902
         obtain rfl := hK924
         obtain ⟨_, _, rfl, hK926, hK927⟩ := hK925
         obtain ⟨A928, c929, rfl, hk930, hC931⟩ := hK926
         obtain ⟨A933, c934, rfl, hk935, hC936⟩ := hK927
         replace HF897 := HF897.ins hC910
         replace HF897 := HF897.ins hC917
         replace HF897 := HF897.ins hC922
         replace HF897 := HF897.ins hC931
         replace HF897 := HF897.ins hC936
         replace H := HF897.hp; try dsimp only [addE] at H
         have hc938 : cellsAt w893 b1 (o2) [.int .i64 g.1.1, .slice A907 (List.length g.1.2.1) c908, .slice A914 (List.length g.1.2.2.1) c915, .slice A919 (List.length g.1.2.2.2) c920, .int .u8 g.2.1.1, .int .u8 g.2.1.2, .slice A928 (List.length g.2.2.1) c929, .slice A933 (List.length g.2.2.2) c934] := hc900
         refine vr tbok 4 [.pointer (some ⟨b1, o2, none⟩), .slice A928 (List.length g.2.2.1) c929] [(1, .pointer (some ⟨g4, 0, none⟩)), (3, .slice (some ⟨g53, 0, none⟩) (List.length out763) (Int.toNat (((List.length g.1.2.1) : Nat) : Int))), (6, .int .i64 k387), (7, .bool more764), (8, .pointer (some ⟨g650, 0, none⟩)), (9, .pointer (some ⟨g888, 0, none⟩)), (41, .slice (some ⟨b886, 0, none⟩) (List.length (([] : List Int) ++ out386)) c647), (42, .int .i64 (((List.length (([] : List Int) ++ out386)) : Nat) : Int)), (43, .int .i64 x765), (50, .bool true), (51, .pointer (some ⟨b1, o2, none⟩)), (52, .pointer (some ⟨b1, o2, none⟩)), (53, .pointer (some ⟨b1, o2 + 6, none⟩)), (54, .slice A928 (List.length g.2.2.1) c929)] [World.cell? w893 ⟨g4, 0, none⟩ = some (.pointer (some ⟨b1, o2, none⟩)), World.cell? w893 ⟨b1, o2 + 6, none⟩ = some (.slice A928 (List.length g.2.2.1) c929)] E (by kernel_rfl) ⟨(H.box 1 rfl).cell (j := 0) rfl, hc938.get 6 _ rfl⟩ ?_
         clear E; intro a E
         refine e_makeFunc (vs := [.pointer (some ⟨g4, 0, none⟩), .pointer (some ⟨g650, 0, none⟩), .pointer (some ⟨g888, 0, none⟩)]) E rfl rfl rfl rfl ?_
         clear E; intro a E
         obtain ⟨x980, h981, hP⟩ := bind_inv hP
         refine e_call (R := fun v_ w_ => ∃ (x982 : Int), v_ = .int .i64 x982 ∧ Hp S Fa w0 w_ [.ro false cS87 (some ⟨b1, o2, none⟩) ([g]), .box g4 62 [.pointer (some ⟨b1, o2, none⟩)], .rowx true (cInt .i64) 3 (some ⟨g53, 0, none⟩) (Int.toNat (((List.length g.1.2.1) : Nat) : Int)) out763 (List.replicate (Int.toNat (((List.length g.1.2.1) : Nat) : Int) - Int.toNat (((List.length g.1.2.1) : Nat) : Int)) (0 : Int)), .row true (cInt .i64) 3 (some ⟨b886, 0, none⟩) c647 (([] : List Int) ++ out386), .box g650 23 [.slice (some ⟨b886, 0, none⟩) (List.length (([] : List Int) ++ out386)) c647], .box g888 3 [.int .i64 x765], .ro false (cInt .u8) A928 g.2.2.1] ∧ x980 = x982) E rfl rfl Try.func58 rfl rfl rfl ?_ ?_
         ·
          clear E hP; have hP := h981; clear h981; rw [moore_game_ranks_f3] at hP
          refine enterV (n := 19) Try.func58 rfl rfl rfl ?_
          intro a E
          replace E := E.pick [(0, .slice A928 (List.length g.2.2.1) c929), (1, .func (.func 59) #[] #[.pointer (some ⟨g4, 0, none⟩), .pointer (some ⟨g650, 0, none⟩), .pointer (some ⟨g888, 0, none⟩)])] ⟨rfl, rfl, trivial⟩
          refine wp_seq ?_
          refine wp_region_lit ?_
          refine vr tbok 1 [] [(0, .slice A928 (List.length g.2.2.1) c929), (1, .func (.func 59) #[] #[.pointer (some ⟨g4, 0, none⟩), .pointer (some ⟨g650, 0, none⟩), .pointer (some ⟨g888, 0, none⟩)])] [] E (by kernel_rfl) trivial ?_
          clear E; intro a E
          refine wpList_nil ?_
          refine th_n ?_
          refine wp_seq ?_
          refine wp_seq ?_
          refine wp_region_lit ?_
          refine vr tbok 3 [] [(1, .func (.func 59) #[] #[.pointer (some ⟨g4, 0, none⟩), .pointer (some ⟨g650, 0, none⟩), .pointer (some ⟨g888, 0, none⟩)]), (7, .slice A928 (List.length g.2.2.1) c929), (8, .int .i64 (((List.length g.2.2.1) : Nat) : Int)), (9, .int .i64 0)] [] E (by kernel_rfl) trivial ?_
          clear E; intro a E
          refine wpList_nil ?_
          refine th_n ?_
          refine wp_block ?_
          obtain ⟨x1024, hL1025, hK1026⟩ := bind_inv hP
          clear hP
          refine loop_cut (fun i_ a w_ => (i_ = 0 ∧ ∃ (x1029 : Unit), Fr a 19 [] ∧ Hp S Fa w0 w_ [.ro false cS87 (some ⟨b1, o2, none⟩) ([g]), .box g4 62 [.pointer (some ⟨b1, o2, none⟩)], .rowx true (cInt .i64) 3 (some ⟨g53, 0, none⟩) (Int.toNat (((List.length g.1.2.1) : Nat) : Int)) out763 (List.replicate (Int.toNat (((List.length g.1.2.1) : Nat) : Int) - Int.toNat (((List.length g.1.2.1) : Nat) : Int)) (0 : Int)), .row true (cInt .i64) 3 (some ⟨b886, 0, none⟩) c647 (([] : List Int) ++ out386), .box g650 23 [.slice (some ⟨b886, 0, none⟩) (List.length (([] : List Int) ++ out386)) c647], .box g888 3 [.int .i64 x765], .ro false (cInt .u8) A928 g.2.2.1] ∧ x1024 = Sum.inl x1029)) ?_ ?_
          ·
           refine loopV (fun m1028 a w1027 => ∃ (x1002 : Int), Fr a 19 [(1, .func (.func 59) #[] #[.pointer (some ⟨g4, 0, none⟩), .pointer (some ⟨g650, 0, none⟩), .pointer (some ⟨g888, 0, none⟩)]), (7, .slice A928 (List.length g.2.2.1) c929), (8, .int .i64 (((List.length g.2.2.1) : Nat) : Int)), (9, .int .i64 x1002)] ∧ Hp S Fa w0 w1027 [.ro false cS87 (some ⟨b1, o2, none⟩) ([g]), .box g4 62 [.pointer (some ⟨b1, o2, none⟩)], .row true (cInt .i64) 3 (some ⟨b886, 0, none⟩) c647 (([] : List Int) ++ out386), .box g650 23 [.slice (some ⟨b886, 0, none⟩) (List.length (([] : List Int) ++ out386)) c647], .box g888 3 [.int .i64 x765], .ro false (cInt .u8) A928 g.2.2.1, .rowx true (cInt .i64) 3 (some ⟨g53, 0, none⟩) (Int.toNat (((List.length g.1.2.1) : Nat) : Int)) out763 (List.replicate (Int.toNat (((List.length g.1.2.1) : Nat) : Int) - Int.toNat (((List.length g.1.2.1) : Nat) : Int)) (0 : Int))] ∧ moore_game_ranks_l4 N g out386 x765 m1028 x1002 = some x1024) N ?_ ?_
           ·
            exact ⟨0, E.pick _ ⟨rfl, rfl, rfl, rfl, trivial⟩, H.sel [0, 1, 3, 4, 5, 9, 2] rfl, hL1025⟩
           ·
            clear E H hL1025; intro m1028 a w1027 hI_
            obtain ⟨x1002, E, H, hP⟩ := hI_
            obtain ⟨m1023, rfl⟩ : ∃ q_, m1028 = q_ + 1 := by cases m1028 with | zero => rw [moore_game_ranks_l4] at hP; cases hP | succ q_ => exact ⟨q_, rfl⟩
            rw [moore_game_ranks_l4] at hP
            refine wp_seq ?_
            refine wp_region_lit ?_
            refine vr tbok 1 [] [(1, .func (.func 59) #[] #[.pointer (some ⟨g4, 0, none⟩), .pointer (some ⟨g650, 0, none⟩), .pointer (some ⟨g888, 0, none⟩)]), (7, .slice A928 (List.length g.2.2.1) c929), (8, .int .i64 (((List.length g.2.2.1) : Nat) : Int)), (9, .int .i64 x1002), (10, .bool (decide (x1002 < (((List.length g.2.2.1) : Nat) : Int))))] [] E (by kernel_rfl) trivial ?_
            clear E; intro a E
            refine wpList_nil ?_
            refine th_n ?_
            refine wp_seq ?_
            refine E.cases (t := 10) rfl (fun hb_ E_ => ?_) (fun hb_ E_ => ?_)
            ·
             replace E := E_; clear E_
             have h1030 : x1002 < (((List.length g.2.2.1) : Nat) : Int) := of_decide_eq_true hb_
             clear hb_; replace hP := ite_t h1030 hP
             refine c_true E rfl ?_
             refine wp_skip ?_
             refine th_n ?_
             refine wp_seq ?_
             refine wp_block ?_
             refine wp_seq ?_
             refine wp_region_lit ?_
             obtain ⟨g1031, hP⟩ := ask_inv hP
             obtain ⟨b1032, o1033, e_b1032⟩ := (H.rd 5 rds_ro).addr (idx_pos g1031)
             subst e_b1032
             refine vr tbok 5 [.int .u8 (List.getD g.2.2.1 (Int.toNat x1002) 0)] [(1, .func (.func 59) #[] #[.pointer (some ⟨g4, 0, none⟩), .pointer (some ⟨g650, 0, none⟩), .pointer (some ⟨g888, 0, none⟩)]), (5, .int .i64 x1002), (6, .int .u8 (List.getD g.2.2.1 (Int.toNat x1002) 0)), (7, .slice (some ⟨b1032, o1033, none⟩) (List.length g.2.2.1) c929), (8, .int .i64 (((List.length g.2.2.1) : Nat) : Int)), (9, .int .i64 x1002)] [0 ≤ x1002 ∧ x1002 < (((List.length g.2.2.1) : Nat) : Int), World.cell? w1027 ⟨b1032, o1033 + (Int.toNat x1002) * 1, none⟩ = some (.int .u8 (List.getD g.2.2.1 (Int.toNat x1002) 0))] E (by kernel_rfl) ⟨g1031, Rds.at1 (H.rd 5 rds_ro) 0 g1031⟩ ?_
             clear E; intro a E
             refine wpList_nil ?_
             refine th_n ?_
             refine wp_seq ?_
             refine wp_region_lit ?_
             refine vr tbok 2 [] [(1, .func (.func 59) #[] #[.pointer (some ⟨g4, 0, none⟩), .pointer (some ⟨g650, 0, none⟩), .pointer (some ⟨g888, 0, none⟩)]), (5, .int .i64 x1002), (7, .slice (some ⟨b1032, o1033, none⟩) (List.length g.2.2.1) c929), (8, .int .i64 (((List.length g.2.2.1) : Nat) : Int)), (9, .int .i64 x1002), (14, .func (.func 59) #[] #[.pointer (some ⟨g4, 0, none⟩), .pointer (some ⟨g650, 0, none⟩), .pointer (some ⟨g888, 0, none⟩)]), (15, .int .u8 (List.getD g.2.2.1 (Int.toNat x1002) 0))] [] E (by kernel_rfl) trivial ?_
             clear E; intro a E
             obtain ⟨x1044, h1045, hP⟩ := bind_inv hP
             refine e_callv (R := fun v_ w_ => ∃ (x1046 : Bool), v_ = .bool x1046 ∧ Hp S Fa w0 w_ [.ro false cS87 (some ⟨b1, o2, none⟩) ([g]), .box g4 62 [.pointer (some ⟨b1, o2, none⟩)], .rowx true (cInt .i64) 3 (some ⟨g53, 0, none⟩) (Int.toNat (((List.length g.1.2.1) : Nat) : Int)) out763 (List.replicate (Int.toNat (((List.length g.1.2.1) : Nat) : Int) - Int.toNat (((List.length g.1.2.1) : Nat) : Int)) (0 : Int)), .row true (cInt .i64) 3 (some ⟨b886, 0, none⟩) c647 (([] : List Int) ++ out386), .box g650 23 [.slice (some ⟨b886, 0, none⟩) (List.length (([] : List Int) ++ out386)) c647], .box g888 3 [.int .i64 x765], .ro false (cInt .u8) (some ⟨b1032, o1033, none⟩) g.2.2.1] ∧ x1044 = x1046) E rfl rfl rfl Try.func59 rfl rfl rfl ?_ ?_
             ·
              clear E hP; have hP := h1045; clear h1045; rw [moore_game_ranks_f5] at hP
              refine enterV (n := 12) Try.func59 rfl rfl rfl ?_
              intro a E
              replace E := E.pick [(0, .int .u8 (List.getD g.2.2.1 (Int.toNat x1002) 0)), (1, .pointer (some ⟨g4, 0, none⟩)), (2, .pointer (some ⟨g650, 0, none⟩)), (3, .pointer (some ⟨g888, 0, none⟩))] ⟨rfl, rfl, rfl, rfl, trivial⟩
              refine wp_seq ?_
              refine wp_region_lit ?_
              refine vr tbok 1 [] [(0, .int .u8 (List.getD g.2.2.1 (Int.toNat x1002) 0)), (1, .pointer (some ⟨g4, 0, none⟩)), (2, .pointer (some ⟨g650, 0, none⟩)), (3, .pointer (some ⟨g888, 0, none⟩))] [] E (by kernel_rfl) trivial ?_
              clear E; intro a E
              refine wpList_nil ?_
              refine th_n ?_
              refine wp_seq ?_
              refine wp_region_lit ?_
              refine vr tbok 4 [.pointer (some ⟨b1, o2, none⟩), .slice (some ⟨b886, 0, none⟩) (List.length (([] : List Int) ++ out386)) c647, .int .i64 x765] [(6, .pointer (some ⟨b1, o2, none⟩)), (7, .slice (some ⟨b886, 0, none⟩) (List.length (([] : List Int) ++ out386)) c647), (8, .int .i64 x765), (9, .int .u8 (List.getD g.2.2.1 (Int.toNat x1002) 0))] [World.cell? w1027 ⟨g4, 0, none⟩ = some (.pointer (some ⟨b1, o2, none⟩)), World.cell? w1027 ⟨g650, 0, none⟩ = some (.slice (some ⟨b886, 0, none⟩) (List.length (([] : List Int) ++ out386)) c647), World.cell? w1027 ⟨g888, 0, none⟩ = some (.int .i64 x765)] E (by kernel_rfl) ⟨(H.box 1 rfl).cell (j := 0) rfl, (H.box 3 rfl).cell (j := 0) rfl, (H.box 4 rfl).cell (j := 0) rfl⟩ ?_
              clear E; intro a E
              obtain ⟨r1047, h1048, hP⟩ := bind_inv hP
              obtain ⟨Fa1049, Hc1050, hb1051⟩ := H.call [] [(0, false), (2, false)] rfl rfl trivial
              refine e_call E rfl rfl Try.func60 rfl rfl rfl (moore_game_worst_calls b1 o2 (some ⟨b886, 0, none⟩) c647 g (([] : List Int) ++ out386) x765 (List.getD g.2.2.1 (Int.toNat x1002) 0) (H.rcap 2 rfl) Hc1050 h1048) ?_
              rintro v1052 w1053 a ⟨rfl, HR1054⟩ E_
              replace E := E_ _ rfl; clear E_
              obtain ⟨H_, hc1055⟩ := hb1051 _ _ HR1054 rfl
              replace H := H_; clear H_; try dsimp only [setn, addE, goneL] at H
              refine vr tbok 2 [] [(5, .bool (decide (0 ≤ r1047)))] [] E (by kernel_rfl) trivial ?_
              clear E; intro a E
              refine wpList_nil ?_
              refine th_n ?_
              refine wp_ret ?_
              have hx_ := Option.some.inj hP
              refine ret1 E rfl rfl ?_
              exact ⟨_, rfl, decide (0 ≤ r1047), rfl, H.sel [0, 1, 6, 2, 3, 4, 5] rfl, hx_.symm⟩
             ·
              clear H
              rintro v1057 w1056 a ⟨x1046, rfl, H, hx_⟩ E_
              subst hx_
              replace E := E_ _ rfl; clear E_
              refine wpList_nil ?_
              refine th_n ?_
              refine E.cases (t := 16) rfl (fun hb_ E_ => ?_) (fun hb_ E_ => ?_)
              ·
               replace E := E_; clear E_
               have h1058 : x1044 = true := hb_
               clear hb_; replace hP := ite_t h1058 hP
               refine c_true E rfl ?_
               refine wp_seq ?_
               refine wp_region_lit ?_
               refine vr tbok 2 [] [(4, .int .i64 x1002)] [] E (by kernel_rfl) trivial ?_
               clear E; intro a E
               refine wpList_nil ?_
               refine th_n ?_
               refine wp_ret ?_
               refine bl_ret ?_
               refine th_ret ?_
               refine th_ret ?_
               refine .inr ⟨rfl, ?_⟩
               refine bl_ret ?_
               refine th_ret ?_
               have hx_ := Option.some.inj hP; subst hx_
               have hP : some (x1002) = some x980 := hK1026
               have hx_ := Option.some.inj hP
               refine ret1 E rfl rfl ?_
               exact ⟨_, rfl, x1002, rfl, H.sel [0, 1, 2, 3, 4, 5, 6] rfl, hx_.symm⟩
              ·
               replace E := E_; clear E_
               have h1059 : ¬ (x1044 = true) := (ne_true_of_eq_false hb_)
               clear hb_; replace hP := ite_f h1059 hP
               refine c_false E rfl ?_
               refine wp_skip ?_
               refine bl_n ?_
               refine th_n ?_
               refine wp_region_lit ?_
               obtain ⟨g1060, hP⟩ := ask_inv hP
               refine vr tbok 2 [.int .i64 (x1002 + 1)] [(1, .func (.func 59) #[] #[.pointer (some ⟨g4, 0, none⟩), .pointer (some ⟨g650, 0, none⟩), .pointer (some ⟨g888, 0, none⟩)]), (7, .slice (some ⟨b1032, o1033, none⟩) (List.length g.2.2.1) c929), (8, .int .i64 (((List.length g.2.2.1) : Nat) : Int)), (9, .int .i64 (x1002 + 1))] [IntKind.i64.wrap (x1002 + 1) = x1002 + 1] E (by kernel_rfl) (wrap_in g1060) ?_
               clear E; intro a E
               refine wpList_nil ?_
               exact th_n ⟨m1023, Nat.lt_succ_self _, x1002 + 1, E.pick _ ⟨rfl, rfl, rfl, rfl, trivial⟩, H.sel [0, 1, 3, 4, 5, 6, 2] rfl, hP⟩
            ·
             replace E := E_; clear E_
             have h1061 : ¬ (x1002 < (((List.length g.2.2.1) : Nat) : Int)) := of_decide_eq_false hb_
             clear hb_; replace hP := ite_f h1061 hP
             refine c_false E rfl ?_
             refine wp_exit ?_
             refine th_exit ?_
             have hx_ := Option.some.inj hP
             refine th_exit (.inl ⟨0, rfl, ?_⟩)
             exact ⟨rfl, (), E.pick _ trivial, H.sel [0, 1, 6, 2, 3, 4, 5] rfl, hx_.symm⟩
          ·
           clear E H hL1025; intro i_ a w1027 hM_
           obtain ⟨rfl, x1029, E, H, hx_⟩ := hM_
           subst hx_; have hP := elim_l hK1026
           clear hK1026
           refine bl_hit ?_
           refine th_n ?_
           refine wp_seq ?_
           refine wp_region_lit ?_
           refine vr tbok 1 [] [(4, .int .i64 (-1))] [] E (by kernel_rfl) trivial ?_
           clear E; intro a E
           refine wpList_nil ?_
           refine th_n ?_
           refine wp_ret ?_
           have hx_ := Option.some.inj hP
           refine ret1 E rfl rfl ?_
           exact ⟨_, rfl, -1, rfl, H.sel [0, 1, 2, 3, 4, 5, 6] rfl, hx_.symm⟩
         ·
          clear H
          rintro v1064 w1063 a ⟨x982, rfl, H, hx_⟩ E_
          subst hx_
          replace E := E_ _ rfl; clear E_
          refine vr tbok 2 [] [(1, .pointer (some ⟨g4, 0, none⟩)), (3, .slice (some ⟨g53, 0, none⟩) (List.length out763) (Int.toNat (((List.length g.1.2.1) : Nat) : Int))), (6, .int .i64 k387), (7, .bool more764), (8, .pointer (some ⟨g650, 0, none⟩)), (9, .pointer (some ⟨g888, 0, none⟩)), (41, .slice (some ⟨b886, 0, none⟩) (List.length (([] : List Int) ++ out386)) c647), (42, .int .i64 (((List.length (([] : List Int) ++ out386)) : Nat) : Int)), (43, .int .i64 x765), (51, .pointer (some ⟨b1, o2, none⟩)), (52, .pointer (some ⟨b1, o2, none⟩)), (53, .pointer (some ⟨b1, o2 + 6, none⟩)), (54, .slice A928 (List.length g.2.2.1) c929), (55, .func (.func 59) #[] #[.pointer (some ⟨g4, 0, none⟩), .pointer (some ⟨g650, 0, none⟩), .pointer (some ⟨g888, 0, none⟩)]), (56, .int .i64 x980), (57, .bool (decide (0 ≤ x980))), (58, .bool (decide (0 ≤ x980)))] [] E (by kernel_rfl) trivial ?_
          clear E; intro a E
          refine wpList_nil ?_
          refine th_n ?_
          refine E.cases (t := 58) rfl (fun hb_ E_ => ?_) (fun hb_ E_ => ?_)
          ·
           replace E := E_; clear E_
           have h1065 : 0 ≤ x980 := of_decide_eq_true hb_
           clear hb_; replace hP := ite_t h1065 hP
           refine c_true E rfl ?_
           refine wp_region_lit ?_
           obtain ⟨g1066, hP⟩ := ask_inv hP
           refine vr tbok 4 [.int .i64 x765] [(1, .pointer (some ⟨g4, 0, none⟩)), (3, .slice (some ⟨g53, 0, none⟩) (List.length out763) (Int.toNat (((List.length g.1.2.1) : Nat) : Int))), (6, .int .i64 k387), (8, .pointer (some ⟨g650, 0, none⟩)), (41, .slice (some ⟨b886, 0, none⟩) (List.length (([] : List Int) ++ out386)) c647), (42, .int .i64 (((List.length (([] : List Int) ++ out386)) : Nat) : Int)), (43, .int .i64 x765), (51, .pointer (some ⟨b1, o2, none⟩)), (52, .pointer (some ⟨b1, o2, none⟩)), (53, .pointer (some ⟨b1, o2 + 6, none⟩)), (54, .slice A928 (List.length g.2.2.1) c929), (55, .func (.func 59) #[] #[.pointer (some ⟨g4, 0, none⟩), .pointer (some ⟨g650, 0, none⟩), .pointer (some ⟨g888, 0, none⟩)]), (56, .int .i64 x980), (57, .bool (decide (0 ≤ x980))), (61, .int .i64 k387), (62, .pointer (some ⟨g53, 0 + (Int.toNat x765) * 1, none⟩))] [World.cell? w1063 ⟨g888, 0, none⟩ = some (.int .i64 x765), 0 ≤ x765 ∧ x765 < (((List.length out763) : Nat) : Int)] E (by kernel_rfl) ⟨(H.box 5 rfl).cell (j := 0) rfl, g1066⟩ ?_
           clear E; intro a E
           refine h_setx (g := g53) (i := x765) k387 H 2 rfl E rfl rfl rfl rfl tbok rfl (fun _ HF_ => rfl) rfl g1066 rfl ?_
           clear E; intro w1067 a hc1068 H_ E
           replace H := H_; clear H_; try dsimp only [setn, addE, goneL] at H
           have hn1069 : (List.length out763) = (List.length (List.set out763 (Int.toNat x765) k387)) := by simp only [List.length_set]
           replace E := E.same (t := 3) (u := .slice (some ⟨g53, 0, none⟩) (List.length (List.set out763 (Int.toNat x765) k387)) (Int.toNat (((List.length g.1.2.1) : Nat) : Int))) rfl (congrArg (fun n_ => Value.slice (some ⟨g53, 0, none⟩) n_ (Int.toNat (((List.length g.1.2.1) : Nat) : Int))) hn1069)
           refine vr tbok 1 [] [(1, .pointer (some ⟨g4, 0, none⟩)), (3, .slice (some ⟨g53, 0, none⟩) (List.length (List.set out763 (Int.toNat x765) k387)) (Int.toNat (((List.length g.1.2.1) : Nat) : Int))), (6, .int .i64 k387), (7, .bool true), (8, .pointer (some ⟨g650, 0, none⟩)), (41, .slice (some ⟨b886, 0, none⟩) (List.length (([] : List Int) ++ out386)) c647), (42, .int .i64 (((List.length (([] : List Int) ++ out386)) : Nat) : Int)), (43, .int .i64 x765), (51, .pointer (some ⟨b1, o2, none⟩)), (52, .pointer (some ⟨b1, o2, none⟩)), (53, .pointer (some ⟨b1, o2 + 6, none⟩)), (54, .slice A928 (List.length g.2.2.1) c929), (55, .func (.func 59) #[] #[.pointer (some ⟨g4, 0, none⟩), .pointer (some ⟨g650, 0, none⟩), .pointer (some ⟨g888, 0, none⟩)]), (56, .int .i64 x980), (57, .bool (decide (0 ≤ x980)))] [] E (by kernel_rfl) trivial ?_
           clear E; intro a E
           refine wpList_nil ?_
           refine bl_n ?_
           refine th_n ?_
           refine wp_region_lit ?_
           obtain ⟨g1070, hP⟩ := ask_inv hP
           refine vr tbok 2 [.int .i64 (x765 + 1)] [(1, .pointer (some ⟨g4, 0, none⟩)), (3, .slice (some ⟨g53, 0, none⟩) (List.length (List.set out763 (Int.toNat x765) k387)) (Int.toNat (((List.length g.1.2.1) : Nat) : Int))), (6, .int .i64 k387), (7, .bool true), (8, .pointer (some ⟨g650, 0, none⟩)), (41, .slice (some ⟨b886, 0, none⟩) (List.length (([] : List Int) ++ out386)) c647), (42, .int .i64 (((List.length (([] : List Int) ++ out386)) : Nat) : Int)), (43, .int .i64 (x765 + 1)), (51, .pointer (some ⟨b1, o2, none⟩)), (52, .pointer (some ⟨b1, o2, none⟩)), (53, .pointer (some ⟨b1, o2 + 6, none⟩)), (54, .slice A928 (List.length g.2.2.1) c929), (55, .func (.func 59) #[] #[.pointer (some ⟨g4, 0, none⟩), .pointer (some ⟨g650, 0, none⟩), .pointer (some ⟨g888, 0, none⟩)]), (56, .int .i64 x980), (57, .bool (decide (0 ≤ x980)))] [IntKind.i64.wrap (x765 + 1) = x765 + 1] E (by kernel_rfl) (wrap_in g1070) ?_
           clear E; intro a E
           refine wpList_nil ?_
           exact th_n ⟨m877, Nat.lt_succ_self _, List.set out763 (Int.toNat x765) k387, true, x765 + 1, E.pick _ ⟨rfl, rfl, rfl, rfl, rfl, rfl, rfl, rfl, trivial⟩, H.sel [0, 1, 2, 3, 4] rfl, hP⟩
          ·
           replace E := E_; clear E_
           have h1071 : ¬ (0 ≤ x980) := of_decide_eq_false hb_
           clear hb_; replace hP := ite_f h1071 hP
           refine c_false E rfl ?_
           refine wp_skip ?_
           refine bl_n ?_
           refine th_n ?_
           refine wp_region_lit ?_
           obtain ⟨g1072, hP⟩ := ask_inv hP
           refine vr tbok 2 [.int .i64 (x765 + 1)] [(1, .pointer (some ⟨g4, 0, none⟩)), (3, .slice (some ⟨g53, 0, none⟩) (List.length out763) (Int.toNat (((List.length g.1.2.1) : Nat) : Int))), (6, .int .i64 k387), (7, .bool more764), (8, .pointer (some ⟨g650, 0, none⟩)), (41, .slice (some ⟨b886, 0, none⟩) (List.length (([] : List Int) ++ out386)) c647), (42, .int .i64 (((List.length (([] : List Int) ++ out386)) : Nat) : Int)), (43, .int .i64 (x765 + 1)), (51, .pointer (some ⟨b1, o2, none⟩)), (52, .pointer (some ⟨b1, o2, none⟩)), (53, .pointer (some ⟨b1, o2 + 6, none⟩)), (54, .slice A928 (List.length g.2.2.1) c929), (55, .func (.func 59) #[] #[.pointer (some ⟨g4, 0, none⟩), .pointer (some ⟨g650, 0, none⟩), .pointer (some ⟨g888, 0, none⟩)]), (56, .int .i64 x980), (57, .bool (decide (0 ≤ x980)))] [IntKind.i64.wrap (x765 + 1) = x765 + 1] E (by kernel_rfl) (wrap_in g1072) ?_
           clear E; intro a E
           refine wpList_nil ?_
           exact th_n ⟨m877, Nat.lt_succ_self _, out763, more764, x765 + 1, E.pick _ ⟨rfl, rfl, rfl, rfl, rfl, rfl, rfl, rfl, trivial⟩, H.sel [0, 1, 2, 3, 4] rfl, hP⟩
        ·
         replace E := E_; clear E_
         have h1073 : ¬ ((List.getD (([] : List Int) ++ out386) (Int.toNat x765) 0) < 0) := of_decide_eq_false hb_
         clear hb_; replace hP := ite_f h1073 hP
         refine vr tbok 8 [] [(1, .pointer (some ⟨g4, 0, none⟩)), (3, .slice (some ⟨g53, 0, none⟩) (List.length out763) (Int.toNat (((List.length g.1.2.1) : Nat) : Int))), (6, .int .i64 k387), (7, .bool more764), (8, .pointer (some ⟨g650, 0, none⟩)), (9, .pointer (some ⟨g888, 0, none⟩)), (41, .slice (some ⟨b886, 0, none⟩) (List.length (([] : List Int) ++ out386)) c647), (42, .int .i64 (((List.length (([] : List Int) ++ out386)) : Nat) : Int)), (43, .int .i64 x765), (51, .tuple #[]), (52, .tuple #[]), (53, .tuple #[]), (54, .tuple #[]), (55, .tuple #[]), (56, .tuple #[]), (57, .tuple #[]), (58, .bool false)] [] E (by kernel_rfl) trivial ?_
         clear E; intro a E
         refine wpList_nil ?_
         refine th_n ?_
         refine c_false E rfl ?_
         refine wp_skip ?_
         refine bl_n ?_
         refine th_n ?_
         refine wp_region_lit ?_
         obtain ⟨g1074, hP⟩ := ask_inv hP
         refine vr tbok 2 [.int .i64 (x765 + 1)] [(1, .pointer (some ⟨g4, 0, none⟩)), (3, .slice (some ⟨g53, 0, none⟩) (List.length out763) (Int.toNat (((List.length g.1.2.1) : Nat) : Int))), (6, .int .i64 k387), (7, .bool more764), (8, .pointer (some ⟨g650, 0, none⟩)), (41, .slice (some ⟨b886, 0, none⟩) (List.length (([] : List Int) ++ out386)) c647), (42, .int .i64 (((List.length (([] : List Int) ++ out386)) : Nat) : Int)), (43, .int .i64 (x765 + 1)), (51, .tuple #[]), (52, .tuple #[]), (53, .tuple #[]), (54, .tuple #[]), (55, .tuple #[]), (56, .tuple #[]), (57, .tuple #[])] [IntKind.i64.wrap (x765 + 1) = x765 + 1] E (by kernel_rfl) (wrap_in g1074) ?_
         clear E; intro a E
         refine wpList_nil ?_
         exact th_n ⟨m877, Nat.lt_succ_self _, out763, more764, x765 + 1, E.pick _ ⟨rfl, rfl, rfl, rfl, rfl, rfl, rfl, rfl, trivial⟩, H.sel [0, 1, 2, 3, 4] rfl, hP⟩
       ·
        replace E := E_; clear E_
        have h1075 : ¬ (x765 < (((List.length (([] : List Int) ++ out386)) : Nat) : Int)) := of_decide_eq_false hb_
        clear hb_; replace hP := ite_f h1075 hP
        refine c_false E rfl ?_
        refine wp_exit ?_
        refine th_exit ?_
        have hx_ := Option.some.inj hP
        refine th_exit (.inl ⟨4, rfl, ?_⟩)
        exact ⟨rfl, (out763, more764), E.pick _ ⟨rfl, rfl, rfl, rfl, trivial⟩, H.sel [0, 1, 2] rfl, hx_.symm⟩
     ·
      clear E H hL879; intro i_ a w881 hM_
      obtain ⟨rfl, x883, E, H, hx_⟩ := hM_
      subst hx_; have hP := hK880; clear hK880
      refine bl_hit ?_
      refine bl_n ?_
      refine th_n ?_
      refine wp_region_lit ?_
      obtain ⟨g1076, hP⟩ := ask_inv hP
      refine vr tbok 3 [.int .i64 (k387 + 1)] [(1, .pointer (some ⟨g4, 0, none⟩)), (3, .slice (some ⟨g53, 0, none⟩) (List.length x878.1) (Int.toNat (((List.length g.1.2.1) : Nat) : Int))), (6, .int .i64 (k387 + 1)), (7, .bool x878.2)] [IntKind.i64.wrap (k387 + 1) = k387 + 1] E (by kernel_rfl) (wrap_in g1076) ?_
      clear E; intro a E
      refine wpList_nil ?_
      exact th_n ⟨m631, Nat.lt_succ_self _, x878.1, k387 + 1, x878.2, E.pick _ ⟨rfl, rfl, rfl, rfl, trivial⟩, H.sel [0, 1, 2] rfl, hP⟩
    ·
     replace E := E_; clear E_
     have h1077 : ¬ (more388 = true) := (ne_true_of_eq_false hb_)
     clear hb_; replace hP := ite_f h1077 hP
     refine c_false E rfl ?_
     refine wp_exit ?_
     refine th_exit ?_
     have hx_ := Option.some.inj hP
     refine th_exit (.inl ⟨2, rfl, ?_⟩)
     exact ⟨rfl, out386, E.pick _ ⟨rfl, trivial⟩, H.sel [2] rfl, hx_.symm⟩
  ·
   clear E H hL633; intro i_ a w635 hM_
   obtain ⟨rfl, x637, E, H, hx_⟩ := hM_
   subst hx_; have hP := hK634; clear hK634
   refine bl_hit ?_
   refine th_n ?_
   refine wp_seq ?_
   refine wp_region_lit ?_
   refine vr tbok 2 [] [(2, .slice (some ⟨g53, 0, none⟩) (List.length x632) (Int.toNat (((List.length g.1.2.1) : Nat) : Int)))] [] E (by kernel_rfl) trivial ?_
   clear E; intro a E
   refine wpList_nil ?_
   refine th_n ?_
   refine wp_ret ?_
   replace H := H.rowx 0 rfl; try dsimp only [setn, addE, goneL] at H
   obtain rfl := Option.some.inj hP
   refine ret1 E rfl rfl ?_
   exact ⟨_, rfl, (some ⟨g53, 0, none⟩), (Int.toNat (((List.length g.1.2.1) : Nat) : Int)), rfl, H.sel [0] rfl⟩

/-! (*rejoinder/moore.game).choice -/
def moore_game_choice_l0 (N : Nat) (g : (Int × (List Bool) × (List Int) × (List Nd)) × (Int × Int) × (List Int) × (List Int)) (ranks : List Int) (q : Int) : Nat → Int → Int → Option Int
  | 0, _, _ => none
  | m114 + 1, best91, x92 =>
    if x92 < (((List.length g.2.2.1) : Nat) : Int) then
      ask (idx x92 (List.length g.2.2.1)) <|
      Option.bind (moore_game_worst N g ranks q (List.getD g.2.2.1 (Int.toNat x92) 0)) fun r125 =>
      if 0 ≤ r125 then
        ask (in64 (x92 + 1)) <|
        moore_game_choice_l0 N g ranks q m114 (minL best91 [r125]) (x92 + 1)
      else
        ask (in64 (x92 + 1)) <|
        moore_game_choice_l0 N g ranks q m114 best91 (x92 + 1)
    else
      some best91
def moore_game_choice_f3 (N : Nat) (g : (Int × (List Bool) × (List Int) × (List Nd)) × (Int × Int) × (List Int) × (List Int)) (ranks : List Int) (q : Int) (x115 : Int) (x323 : Int) : Option Bool :=
    Option.bind (moore_game_worst N g ranks q (List.getD g.2.2.1 (Int.toNat x323) 0)) fun r390 =>
    some ((r390 : Int) == x115)
def moore_game_choice_l2 (N : Nat) (g : (Int × (List Bool) × (List Int) × (List Nd)) × (Int × Int) × (List Int) × (List Int)) (ranks : List Int) (q : Int) (x115 : Int) : Nat → Int → Option (Unit ⊕ Int)
  | 0, _ => none
  | m355 + 1, x323 =>
    if x323 < (((List.length g.2.2.1) : Nat) : Int) then
      ask (idx x323 (List.length g.2.2.1)) <|
      Option.bind (moore_game_choice_f3 N g ranks q x115 x323) fun x387 =>
      if x387 = true then
        some (Sum.inr x323)
      else
        ask (in64 (x323 + 1)) <|
        moore_game_choice_l2 N g ranks q x115 m355 (x323 + 1)
    else
      some (Sum.inl ())
def moore_game_choice_f1 (N : Nat) (g : (Int × (List Bool) × (List Int) × (List Nd)) × (Int × Int) × (List Int) × (List Int)) (ranks : List Int) (q : Int) (x115 : Int) : Option Int :=
    Option.bind (moore_game_choice_l2 N g ranks q x115 N 0) fun x356 =>
    Sum.elim (fun x361 =>
      some (-1))
     (fun x416 =>
      some x416) x356
def moore_game_choice (N : Nat) (g : (Int × (List Bool) × (List Int) × (List Nd)) × (Int × Int) × (List Int) × (List Int)) (ranks : List Int) (q : Int) : Option Int :=
  Option.bind (moore_game_choice_l0 N g ranks q N (((List.length ranks) : Nat) : Int) 0) fun x115 =>
  Option.bind (moore_game_choice_f1 N g ranks q x115) fun x290 =>
  ask (idx x290 (List.length g.2.2.1)) <|
  some (List.getD g.2.2.1 (Int.toNat x290) 0)
set_option maxRecDepth 100000 in
set_option maxHeartbeats 4000000 in
theorem moore_game_choice_calls {N : Nat} {S Fa : Nat → Prop} {w0 : World} {r : Int} (b1 : Nat) (o2 : Nat) (A4 : Option Addr) (c5 : Nat) (g : (Int × (List Bool) × (List Int) × (List Nd)) × (Int × Int) × (List Int) × (List Int)) (ranks : List Int) (q : Int) (hk6 : List.length ranks ≤ c5) (H : Hp S Fa w0 w0 [.ro false cS87 (some ⟨b1, o2, none⟩) ([g]), .ro false (cInt .i64) A4 ranks]) (hP : moore_game_choice N g ranks q = some r) :
    Calls Try.prog 36 #[.pointer (some ⟨b1, o2, none⟩), .slice A4 (List.length ranks) c5, .int .i64 q] w0 fun e w' => ∃ v, e = .returned v ∧ v = .int .u8 r ∧ Hp S Fa w0 w' [] := by
 refine enterV (n := 45) Try.func36 rfl rfl rfl ?_
 intro a E
 replace E := E.pick [(0, .pointer (some ⟨b1, o2, none⟩)), (1, .slice A4 (List.length ranks) c5), (2, .int .i64 q)] ⟨rfl, rfl, rfl, trivial⟩
 rw [moore_game_choice] at hP
 refine wp_seq ?_
 refine wp_region_lit ?_
 refine h_box H E rfl rfl rfl ?_
 intro w9 g8 a hc10 hg12 H_ E_
 replace E := E_ _ rfl; clear E_
 replace H := H_; clear H_; try dsimp only [setn, addE, goneL] at H
 refine h_box H E rfl rfl rfl ?_
 intro w14 g13 a hc15 hg17 H_ E_
 replace E := E_ _ rfl; clear E_
 replace H := H_; clear H_; try dsimp only [setn, addE, goneL] at H
 refine h_box H E rfl rfl rfl ?_
 intro w19 g18 a hc20 hg22 H_ E_
 replace E := E_ _ rfl; clear E_
 replace H := H_; clear H_; try dsimp only [setn, addE, goneL] at H
 refine vr tbok 1 [] [(3, .pointer (some ⟨g8, 0, none⟩)), (4, .pointer (some ⟨g13, 0, none⟩)), (5, .pointer (some ⟨g18, 0, none⟩))] [] E (by kernel_rfl) trivial ?_
 clear E; intro a E
 refine wpList_nil ?_
 refine th_n ?_
 refine wp_seq ?_
 refine wp_region_lit ?_
 refine vr tbok 2 [.slice A4 (List.length ranks) c5] [(3, .pointer (some ⟨g8, 0, none⟩)), (4, .pointer (some ⟨g13, 0, none⟩)), (5, .pointer (some ⟨g18, 0, none⟩)), (12, .int .i64 (((List.length ranks) : Nat) : Int))] [World.cell? w19 ⟨g13, 0, none⟩ = some (.slice A4 (List.length ranks) c5)] E (by kernel_rfl) ((H.box 3 rfl).cell (j := 0) rfl) ?_
 clear E; intro a E
 refine h_alloc H E rfl rfl tbok rfl ?_
 intro w24 g23 a hc25 hg27 H_ E_
 replace E := E_ _ rfl; clear E_
 replace H := H_; clear H_; try dsimp only [setn, addE, goneL] at H
 refine h_store (g := g23) (off := 0) H 5 rfl E rfl rfl rfl rfl tbok rfl rfl rfl rfl rfl ?_
 clear E; intro w28 a hc29 H_ E
 replace H := H_; clear H_; try dsimp only [setn, addE, goneL] at H
 refine wpList_nil ?_
 refine th_n ?_
 refine wp_seq ?_
 refine wp_seq ?_
 refine wp_region_lit ?_
 obtain ⟨Fz30, cs32, HF31, hK33, hc34⟩ := H.elem 0 false (el_ro rfl) g (idx_one _)
 obtain ⟨_, _, rfl, hK35, hK36⟩ := hK33
 obtain ⟨_, _, rfl, hK37, hK38⟩ := hK35
 obtain rfl := hK37
 obtain ⟨_, _, rfl, hK39, hK40⟩ := hK38
 obtain ⟨A41, c42, rfl, hk43, hC44⟩ := hK39
 obtain ⟨_, _, rfl, hK46, hK47⟩ := hK40
 obtain ⟨A48, c49, rfl, hk50, hC51⟩ := hK46
 obtain ⟨A53, c54, rfl, hk55, hC56⟩ := hK47
 obtain ⟨_, _, rfl, hK58, hK59⟩ := hK36
 obtain rfl := hK58
 obtain ⟨_, _, rfl, hK60, hK61⟩ := hK59
 obtain ⟨A62, c63, rfl, hk64, hC65⟩ := hK60
 obtain ⟨A67, c68, rfl, hk69, hC70⟩ := hK61
 replace HF31 := HF31.ins hC44
 replace HF31 := HF31.ins hC51
 replace HF31 := HF31.ins hC56
 replace HF31 := HF31.ins hC65
 replace HF31 := HF31.ins hC70
 replace H := HF31.hp; try dsimp only [addE] at H
 have hc72 : cellsAt w28 b1 (o2) [.int .i64 g.1.1, .slice A41 (List.length g.1.2.1) c42, .slice A48 (List.length g.1.2.2.1) c49, .slice A53 (List.length g.1.2.2.2) c54, .int .u8 g.2.1.1, .int .u8 g.2.1.2, .slice A62 (List.length g.2.2.1) c63, .slice A67 (List.length g.2.2.2) c68] := hc34
 refine vr tbok 6 [.pointer (some ⟨b1, o2, none⟩), .slice A62 (List.length g.2.2.1) c63] [(3, .pointer (some ⟨g8, 0, none⟩)), (4, .pointer (some ⟨g13, 0, none⟩)), (5, .pointer (some ⟨g18, 0, none⟩)), (7, .pointer (some ⟨g23, 0, none⟩)), (16, .slice A62 (List.length g.2.2.1) c63), (17, .int .i64 (((List.length g.2.2.1) : Nat) : Int)), (18, .int .i64 0)] [World.cell? w28 ⟨g8, 0, none⟩ = some (.pointer (some ⟨b1, o2, none⟩)), World.cell? w28 ⟨b1, o2 + 6, none⟩ = some (.slice A62 (List.length g.2.2.1) c63)] E (by kernel_rfl) ⟨(H.box 2 rfl).cell (j := 0) rfl, hc72.get 6 _ rfl⟩ ?_
 clear E; intro a E
 refine wpList_nil ?_
 refine th_n ?_
 refine wp_block ?_
 obtain ⟨x115, hL116, hK117⟩ := bind_inv hP
 clear hP
 refine loop_cut (fun i_ a w_ => (i_ = 0 ∧ ∃ (x120 : Int), Fr a 45 [(3, .pointer (some ⟨g8, 0, none⟩)), (4, .pointer (some ⟨g13, 0, none⟩)), (5, .pointer (some ⟨g18, 0, none⟩)), (7, .pointer (some ⟨g23, 0, none⟩))] ∧ Hp S Fa w0 w_ [.ro false cS87 (some ⟨b1, o2, none⟩) ([g]), .box g8 62 [.pointer (some ⟨b1, o2, none⟩)], .ro false (cInt .i64) A4 ranks, .box g13 23 [.slice A4 (List.length ranks) c5], .box g18 3 [.int .i64 q], .box g23 3 [.int .i64 x120]] ∧ x115 = x120)) ?_ ?_
 ·
  refine loopV (fun m119 a w118 => ∃ (best91 : Int) (x92 : Int), Fr a 45 [(3, .pointer (some ⟨g8, 0, none⟩)), (4, .pointer (some ⟨g13, 0, none⟩)), (5, .pointer (some ⟨g18, 0, none⟩)), (7, .pointer (some ⟨g23, 0, none⟩)), (16, .slice A62 (List.length g.2.2.1) c63), (17, .int .i64 (((List.length g.2.2.1) : Nat) : Int)), (18, .int .i64 x92)] ∧ Hp S Fa w0 w118 [.ro false cS87 (some ⟨b1, o2, none⟩) ([g]), .box g8 62 [.pointer (some ⟨b1, o2, none⟩)], .ro false (cInt .i64) A4 ranks, .box g13 23 [.slice A4 (List.length ranks) c5], .box g18 3 [.int .i64 q], .box g23 3 [.int .i64 best91], .ro false (cInt .u8) A62 g.2.2.1] ∧ moore_game_choice_l0 N g ranks q m119 best91 x92 = some x115) N ?_ ?_
  ·
   exact ⟨(((List.length ranks) : Nat) : Int), 0, E.pick _ ⟨rfl, rfl, rfl, rfl, rfl, rfl, rfl, trivial⟩, H.sel [0, 2, 1, 3, 4, 5, 9] rfl, hL116⟩
  ·
   clear E H hL116; intro m119 a w118 hI_
   obtain ⟨best91, x92, E, H, hP⟩ := hI_
   obtain ⟨m114, rfl⟩ : ∃ q_, m119 = q_ + 1 := by cases m119 with | zero => rw [moore_game_choice_l0] at hP; cases hP | succ q_ => exact ⟨q_, rfl⟩
   rw [moore_game_choice_l0] at hP
   refine wp_seq ?_
   refine wp_region_lit ?_
   refine vr tbok 1 [] [(3, .pointer (some ⟨g8, 0, none⟩)), (4, .pointer (some ⟨g13, 0, none⟩)), (5, .pointer (some ⟨g18, 0, none⟩)), (7, .pointer (some ⟨g23, 0, none⟩)), (16, .slice A62 (List.length g.2.2.1) c63), (17, .int .i64 (((List.length g.2.2.1) : Nat) : Int)), (18, .int .i64 x92), (19, .bool (decide (x92 < (((List.length g.2.2.1) : Nat) : Int))))] [] E (by kernel_rfl) trivial ?_
   clear E; intro a E
   refine wpList_nil ?_
   refine th_n ?_
   refine wp_seq ?_
   refine E.cases (t := 19) rfl (fun hb_ E_ => ?_) (fun hb_ E_ => ?_)
   ·
    replace E := E_; clear E_
    have h121 : x92 < (((List.length g.2.2.1) : Nat) : Int) := of_decide_eq_true hb_
    clear hb_; replace hP := ite_t h121 hP
    refine c_true E rfl ?_
    refine wp_skip ?_
    refine th_n ?_
    refine wp_seq ?_
    refine wp_block ?_
    refine wp_seq ?_
    refine wp_region_lit ?_
    obtain ⟨g122, hP⟩ := ask_inv hP
    obtain ⟨b123, o124, e_b123⟩ := (H.rd 6 rds_ro).addr (idx_pos g122)
    subst e_b123
    refine vr tbok 3 [.int .u8 (List.getD g.2.2.1 (Int.toNat x92) 0)] [(3, .pointer (some ⟨g8, 0, none⟩)), (4, .pointer (some ⟨g13, 0, none⟩)), (5, .pointer (some ⟨g18, 0, none⟩)), (7, .pointer (some ⟨g23, 0, none⟩)), (9, .int .u8 (List.getD g.2.2.1 (Int.toNat x92) 0)), (16, .slice (some ⟨b123, o124, none⟩) (List.length g.2.2.1) c63), (17, .int .i64 (((List.length g.2.2.1) : Nat) : Int)), (18, .int .i64 x92)] [0 ≤ x92 ∧ x92 < (((List.length g.2.2.1) : Nat) : Int), World.cell? w118 ⟨b123, o124 + (Int.toNat x92) * 1, none⟩ = some (.int .u8 (List.getD g.2.2.1 (Int.toNat x92) 0))] E (by kernel_rfl) ⟨g122, Rds.at1 (H.rd 6 rds_ro) 0 g122⟩ ?_
    clear E; intro a E
    refine wpList_nil ?_
    refine th_n ?_
    refine wp_seq ?_
    refine wp_region_lit ?_
    refine vr tbok 4 [.pointer (some ⟨b1, o2, none⟩), .slice A4 (List.length ranks) c5, .int .i64 q] [(3, .pointer (some ⟨g8, 0, none⟩)), (4, .pointer (some ⟨g13, 0, none⟩)), (5, .pointer (some ⟨g18, 0, none⟩)), (7, .pointer (some ⟨g23, 0, none⟩)), (16, .slice (some ⟨b123, o124, none⟩) (List.length g.2.2.1) c63), (17, .int .i64 (((List.length g.2.2.1) : Nat) : Int)), (18, .int .i64 x92), (22, .pointer (some ⟨b1, o2, none⟩)), (23, .slice A4 (List.length ranks) c5), (24, .int .i64 q), (25, .int .u8 (List.getD g.2.2.1 (Int.toNat x92) 0))] [World.cell? w118 ⟨g8, 0, none⟩ = some (.pointer (some ⟨b1, o2, none⟩)), World.cell? w118 ⟨g13, 0, none⟩ = some (.slice A4 (List.length ranks) c5), World.cell? w118 ⟨g18, 0, none⟩ = some (.int .i64 q)] E (by kernel_rfl) ⟨(H.box 1 rfl).cell (j := 0) rfl, (H.box 3 rfl).cell (j := 0) rfl, (H.box 4 rfl).cell (j := 0) rfl⟩ ?_
    clear E; intro a E
    obtain ⟨r125, h126, hP⟩ := bind_inv hP
    obtain ⟨Fa127, Hc128, hb129⟩ := H.call [] [(0, false), (2, false)] rfl rfl trivial
    refine e_call E rfl rfl Try.func60 rfl rfl rfl (moore_game_worst_calls b1 o2 A4 c5 g ranks q (List.getD g.2.2.1 (Int.toNat x92) 0) hk6 Hc128 h126) ?_
    rintro v130 w131 a ⟨rfl, HR132⟩ E_
    replace E := E_ _ rfl; clear E_
    obtain ⟨H_, hc133⟩ := hb129 _ _ HR132 rfl
    replace H := H_; clear H_; try dsimp only [setn, addE, goneL] at H
    refine vr tbok 1 [] [(3, .pointer (some ⟨g8, 0, none⟩)), (4, .pointer (some ⟨g13, 0, none⟩)), (5, .pointer (some ⟨g18, 0, none⟩)), (7, .pointer (some ⟨g23, 0, none⟩)), (10, .int .i64 r125), (16, .slice (some ⟨b123, o124, none⟩) (List.length g.2.2.1) c63), (17, .int .i64 (((List.length g.2.2.1) : Nat) : Int)), (18, .int .i64 x92)] [] E (by kernel_rfl) trivial ?_
    clear E; intro a E
    refine wpList_nil ?_
    refine th_n ?_
    refine wp_seq ?_
    refine wp_region_lit ?_
    refine vr tbok 2 [] [(3, .pointer (some ⟨g8, 0, none⟩)), (4, .pointer (some ⟨g13, 0, none⟩)), (5, .pointer (some ⟨g18, 0, none⟩)), (7, .pointer (some ⟨g23, 0, none⟩)), (10, .int .i64 r125), (16, .slice (some ⟨b123, o124, none⟩) (List.length g.2.2.1) c63), (17, .int .i64 (((List.length g.2.2.1) : Nat) : Int)), (18, .int .i64 x92), (28, .bool (decide (0 ≤ r125)))] [] E (by kernel_rfl) trivial ?_
    clear E; intro a E
    refine wpList_nil ?_
    refine th_n ?_
    refine E.cases (t := 28) rfl (fun hb_ E_ => ?_) (fun hb_ E_ => ?_)
    ·
     replace E := E_; clear E_
     have h134 : 0 ≤ r125 := of_decide_eq_true hb_
     clear hb_; replace hP := ite_t h134 hP
     refine c_true E rfl ?_
     refine wp_region_lit ?_
     refine vr tbok 2 [.int .i64 best91] [(3, .pointer (some ⟨g8, 0, none⟩)), (4, .pointer (some ⟨g13, 0, none⟩)), (5, .pointer (some ⟨g18, 0, none⟩)), (7, .pointer (some ⟨g23, 0, none⟩)), (16, .slice (some ⟨b123, o124, none⟩) (List.length g.2.2.1) c63), (17, .int .i64 (((List.length g.2.2.1) : Nat) : Int)), (18, .int .i64 x92), (29, .int .i64 best91), (30, .int .i64 r125)] [World.cell? w131 ⟨g23, 0, none⟩ = some (.int .i64 best91)] E (by kernel_rfl) ((H.box 5 rfl).cell (j := 0) rfl) ?_
     clear E; intro a E
     refine e_min (x := best91) (xs := [r125]) E rfl rfl rfl rfl ?_
     clear E; intro a E
     refine h_store (g := g23) (off := 0) H 5 rfl E rfl rfl rfl rfl tbok rfl rfl rfl rfl rfl ?_
     clear E; intro w135 a hc136 H_ E
     replace H := H_; clear H_; try dsimp only [setn, addE, goneL] at H
     refine wpList_nil ?_
     refine bl_n ?_
     refine th_n ?_
     refine wp_region_lit ?_
     obtain ⟨g137, hP⟩ := ask_inv hP
     refine vr tbok 2 [.int .i64 (x92 + 1)] [(3, .pointer (some ⟨g8, 0, none⟩)), (4, .pointer (some ⟨g13, 0, none⟩)), (5, .pointer (some ⟨g18, 0, none⟩)), (7, .pointer (some ⟨g23, 0, none⟩)), (16, .slice (some ⟨b123, o124, none⟩) (List.length g.2.2.1) c63), (17, .int .i64 (((List.length g.2.2.1) : Nat) : Int)), (18, .int .i64 (x92 + 1))] [IntKind.i64.wrap (x92 + 1) = x92 + 1] E (by kernel_rfl) (wrap_in g137) ?_
     clear E; intro a E
     refine wpList_nil ?_
     exact th_n ⟨m114, Nat.lt_succ_self _, (minL best91 [r125]), x92 + 1, E.pick _ ⟨rfl, rfl, rfl, rfl, rfl, rfl, rfl, trivial⟩, H.sel [0, 1, 2, 3, 4, 5, 6] rfl, hP⟩
    ·
     replace E := E_; clear E_
     have h138 : ¬ (0 ≤ r125) := of_decide_eq_false hb_
     clear hb_; replace hP := ite_f h138 hP
     refine c_false E rfl ?_
     refine wp_skip ?_
     refine bl_n ?_
     refine th_n ?_
     refine wp_region_lit ?_
     obtain ⟨g139, hP⟩ := ask_inv hP
     refine vr tbok 2 [.int .i64 (x92 + 1)] [(3, .pointer (some ⟨g8, 0, none⟩)), (4, .pointer (some ⟨g13, 0, none⟩)), (5, .pointer (some ⟨g18, 0, none⟩)), (7, .pointer (some ⟨g23, 0, none⟩)), (16, .slice (some ⟨b123, o124, none⟩) (List.length g.2.2.1) c63), (17, .int .i64 (((List.length g.2.2.1) : Nat) : Int)), (18, .int .i64 (x92 + 1))] [IntKind.i64.wrap (x92 + 1) = x92 + 1] E (by kernel_rfl) (wrap_in g139) ?_
     clear E; intro a E
     refine wpList_nil ?_
     exact th_n ⟨m114, Nat.lt_succ_self _, best91, x92 + 1, E.pick _ ⟨rfl, rfl, rfl, rfl, rfl, rfl, rfl, trivial⟩, H.sel [0, 1, 2, 3, 4, 5, 6] rfl, hP⟩
   ·
    replace E := E_; clear E_
    have h140 : ¬ (x92 < (((List.length g.2.2.1) : Nat) : Int)) := of_decide_eq_false hb_
    clear hb_; replace hP := ite_f h140 hP
    refine c_false E rfl ?_
    refine wp_exit ?_
    refine th_exit ?_
    have hx_ := Option.some.inj hP
    refine th_exit (.inl ⟨0, rfl, ?_⟩)
    exact ⟨rfl, best91, E.pick _ ⟨rfl, rfl, rfl, rfl, trivial⟩, H.sel [0, 1, 2, 3, 4, 5] rfl, hx_.symm⟩
 ·
  clear E H hL116; intro i_ a w118 hM_
  obtain ⟨rfl, x120, E, H, hx_⟩ := hM_
  subst hx_; have hP := hK117; clear hK117
  refine bl_hit ?_
  refine th_n ?_
  refine wp_seq ?_
  obtain ⟨Fz141, cs143, HF142, hK144, hc145⟩ := H.elem 0 false (el_ro rfl) g (idx_one _)
  obtain ⟨_, _, rfl, hK146, hK147⟩ := hK144
  obtain ⟨_, _, rfl, hK148, hK149⟩ := hK146
  obtain rfl := hK148
  obtain ⟨_, _, rfl, hK150, hK151⟩ := hK149
  obtain ⟨A152, c153, rfl, hk154, hC155⟩ := hK150
  obtain ⟨_, _, rfl, hK157, hK158⟩ := hK151
  obtain ⟨A159, c160, rfl, hk161, hC162⟩ := hK157
  obtain ⟨A164, c165, rfl, hk166, hC167⟩ := hK158
  obtain ⟨_, _, rfl, hK169, hK170⟩ := hK147
  obtain rfl := hK169
  obtain ⟨_, _, rfl, hK171, hK172⟩ := hK170
  obtain ⟨A173, c174, rfl, hk175, hC176⟩ := hK171
  obtain ⟨A178, c179, rfl, hk180, hC181⟩ := hK172
  replace HF142 := HF142.ins hC155
  replace HF142 := HF142.ins hC162
  replace HF142 := HF142.ins hC167
  replace HF142 := HF142.ins hC176
  replace HF142 := HF142.ins hC181
  replace H := HF142.hp; try dsimp only [addE] at H
  have hc183 : cellsAt w118 b1 (o2) [.int .i64 g.1.1, .slice A152 (List.length g.1.2.1) c153, .slice A159 (List.length g.1.2.2.1) c160, .slice A164 (List.length g.1.2.2.2) c165, .int .u8 g.2.1.1, .int .u8 g.2.1.2, .slice A173 (List.length g.2.2.1) c174, .slice A178 (List.length g.2.2.2) c179] := hc145
  obtain ⟨Fz184, cs186, HF185, hK187, hc188⟩ := H.elem 0 false (el_ro rfl) g (idx_one _)
  obtain ⟨_, _, rfl, hK189, hK190⟩ := hK187
  obtain ⟨_, _, rfl, hK191, hK192⟩ := hK189
  obtain rfl := hK191
  obtain ⟨_, _, rfl, hK193, hK194⟩ := hK192
  obtain ⟨A195, c196, rfl, hk197, hC198⟩ := hK193
  obtain ⟨_, _, rfl, hK200, hK201⟩ := hK194
  obtain ⟨A202, c203, rfl, hk204, hC205⟩ := hK200
  obtain ⟨A207, c208, rfl, hk209, hC210⟩ := hK201
  obtain ⟨_, _, rfl, hK212, hK213⟩ := hK190
  obtain rfl := hK212
  obtain ⟨_, _, rfl, hK214, hK215⟩ := hK213
  obtain ⟨A216, c217, rfl, hk218, hC219⟩ := hK214
  obtain ⟨A221, c222, rfl, hk223, hC224⟩ := hK215
  replace HF185 := HF185.ins hC198
  replace HF185 := HF185.ins hC205
  replace HF185 := HF185.ins hC210
  replace HF185 := HF185.ins hC219
  replace HF185 := HF185.ins hC224
  replace H := HF185.hp; try dsimp only [addE] at H
  have hc226 : cellsAt w118 b1 (o2) [.int .i64 g.1.1, .slice A195 (List.length g.1.2.1) c196, .slice A202 (List.length g.1.2.2.1) c203, .slice A207 (List.length g.1.2.2.2) c208, .int .u8 g.2.1.1, .int .u8 g.2.1.2, .slice A216 (List.length g.2.2.1) c217, .slice A221 (List.length g.2.2.2) c222] := hc188
  obtain ⟨x290, h291, hP⟩ := bind_inv hP
  obtain ⟨g419, hP⟩ := ask_inv hP
  obtain ⟨b420, o421, e_b420⟩ := (H.rd 9 rds_ro).addr (idx_pos g419)
  subst e_b420
  have HR425 := H
  refine dr_start (S := fun w_ => Chg (atL []) w118 w_) (by kernel_rfl) ?_
  intro w422 hc423
  have HS424 : Chg (atL []) w118 w422 := hc423.mono (fun _ _ h_ => h_.elim)
  replace H := H.ext hc423
  refine dr tbok (by kernel_rfl) [0, 1, 2, 3, 4, 5, 6, 7] [.pointer (some ⟨b1, o2, none⟩), .slice (some ⟨b420, o421, none⟩) (List.length g.2.2.1) c174, .pointer (some ⟨b1, o2, none⟩), .slice A216 (List.length g.2.2.1) c217] [(3, .pointer (some ⟨g8, 0, none⟩)), (4, .pointer (some ⟨g13, 0, none⟩)), (5, .pointer (some ⟨g18, 0, none⟩)), (7, .pointer (some ⟨g23, 0, none⟩)), (36, .slice (some ⟨b420, o421, none⟩) (List.length g.2.2.1) c174), (40, .slice A216 (List.length g.2.2.1) c217)] (fun w_ => [World.cell? w_ ⟨g8, 0, none⟩ = some (.pointer (some ⟨b1, o2, none⟩)), World.cell? w_ ⟨b1, o2 + 6, none⟩ = some (.slice (some ⟨b420, o421, none⟩) (List.length g.2.2.1) c174), World.cell? w_ ⟨g8, 0, none⟩ = some (.pointer (some ⟨b1, o2, none⟩)), World.cell? w_ ⟨b1, o2 + 6, none⟩ = some (.slice A216 (List.length g.2.2.1) c217)]) 5 E (fun _ _ => by kernel_rfl) (fun w_ hS_ => ⟨(HR425.boxk [] hS_ 1 rfl rfl).cell (j := 0) rfl, hS_.cell (hc183.get 6 _ rfl) (HR425.blk [] 0 rds_ro (idx_pos (idx_one _)) rfl), (HR425.boxk [] hS_ 1 rfl rfl).cell (j := 0) rfl, hS_.cell (hc226.get 6 _ rfl) (HR425.blk [] 0 rds_ro (idx_pos (idx_one _)) rfl)⟩) (by kernel_rfl) HS424 ?_
  clear E; intro a E
  refine wpAnyH_all (rs := [8]) (by kernel_rfl) (by simp) ?_
  refine all1 ?_
  ·
   refine wpOp_of_list rfl ?_
   refine e_makeFunc (vs := [.pointer (some ⟨g8, 0, none⟩), .pointer (some ⟨g13, 0, none⟩), .pointer (some ⟨g18, 0, none⟩), .pointer (some ⟨g23, 0, none⟩)]) E rfl rfl rfl rfl ?_
   clear E; intro a E
   refine wpList_nil ?_
   refine th_n ⟨HS424, ?_⟩
   refine wpAnyH_all (rs := [9]) (by kernel_rfl) (by simp) ?_
   refine all1 ?_
   ·
    refine wpOp_of_list rfl ?_
    refine e_call (R := fun v_ w_ => ∃ (x489 : Int), v_ = .int .i64 x489 ∧ Hp S Fa w0 w_ [.ro false cS87 (some ⟨b1, o2, none⟩) ([g]), .box g8 62 [.pointer (some ⟨b1, o2, none⟩)], .ro false (cInt .i64) A4 ranks, .box g13 23 [.slice A4 (List.length ranks) c5], .box g18 3 [.int .i64 q], .box g23 3 [.int .i64 x115], .ro false (cInt .u8) (some ⟨b420, o421, none⟩) g.2.2.1, .ro false (cInt .u8) A216 g.2.2.1] ∧ Chg (atL []) w118 w_ ∧ x290 = x489) E rfl rfl Try.func58 rfl rfl rfl ?_ ?_
    ·
     clear E hP; have hP := h291; clear h291; rw [moore_game_choice_f1] at hP
     refine enterV (n := 19) Try.func58 rfl rfl rfl ?_
     intro a E
     replace E := E.pick [(0, .slice A216 (List.length g.2.2.1) c217), (1, .func (.func 64) #[] #[.pointer (some ⟨g8, 0, none⟩), .pointer (some ⟨g13, 0, none⟩), .pointer (some ⟨g18, 0, none⟩), .pointer (some ⟨g23, 0, none⟩)])] ⟨rfl, rfl, trivial⟩
     refine wp_seq ?_
     refine wp_region_lit ?_
     refine vr tbok 1 [] [(0, .slice A216 (List.length g.2.2.1) c217), (1, .func (.func 64) #[] #[.pointer (some ⟨g8, 0, none⟩), .pointer (some ⟨g13, 0, none⟩), .pointer (some ⟨g18, 0, none⟩), .pointer (some ⟨g23, 0, none⟩)])] [] E (by kernel_rfl) trivial ?_
     clear E; intro a E
     refine wpList_nil ?_
     refine th_n ?_
     refine wp_seq ?_
     refine wp_seq ?_
     refine wp_region_lit ?_
     refine vr tbok 3 [] [(1, .func (.func 64) #[] #[.pointer (some ⟨g8, 0, none⟩), .pointer (some ⟨g13, 0, none⟩), .pointer (some ⟨g18, 0, none⟩), .pointer (some ⟨g23, 0, none⟩)]), (7, .slice A216 (List.length g.2.2.1) c217), (8, .int .i64 (((List.length g.2.2.1) : Nat) : Int)), (9, .int .i64 0)] [] E (by kernel_rfl) trivial ?_
     clear E; intro a E
     refine wpList_nil ?_
     refine th_n ?_
     refine wp_block ?_
     obtain ⟨x356, hL552, hK553⟩ := bind_inv hP
     clear hP
     refine loop_cut (fun i_ a w_ => (i_ = 0 ∧ ∃ (x556 : Unit), Fr a 19 [] ∧ Hp S Fa w0 w_ [.ro false cS87 (some ⟨b1, o2, none⟩) ([g]), .box g8 62 [.pointer (some ⟨b1, o2, none⟩)], .ro false (cInt .i64) A4 ranks, .box g13 23 [.slice A4 (List.length ranks) c5], .box g18 3 [.int .i64 q], .box g23 3 [.int .i64 x115], .ro false (cInt .u8) (some ⟨b420, o421, none⟩) g.2.2.1, .ro false (cInt .u8) A216 g.2.2.1] ∧ Chg (atL []) w118 w_ ∧ x356 = Sum.inl x556)) ?_ ?_
     ·
      refine loopV (fun m555 a w554 => ∃ (x323 : Int), Fr a 19 [(1, .func (.func 64) #[] #[.pointer (some ⟨g8, 0, none⟩), .pointer (some ⟨g13, 0, none⟩), .pointer (some ⟨g18, 0, none⟩), .pointer (some ⟨g23, 0, none⟩)]), (7, .slice A216 (List.length g.2.2.1) c217), (8, .int .i64 (((List.length g.2.2.1) : Nat) : Int)), (9, .int .i64 x323)] ∧ Hp S Fa w0 w554 [.ro false cS87 (some ⟨b1, o2, none⟩) ([g]), .box g8 62 [.pointer (some ⟨b1, o2, none⟩)], .ro false (cInt .i64) A4 ranks, .box g13 23 [.slice A4 (List.length ranks) c5], .box g18 3 [.int .i64 q], .box g23 3 [.int .i64 x115], .ro false (cInt .u8) A216 g.2.2.1, .ro false (cInt .u8) (some ⟨b420, o421, none⟩) g.2.2.1] ∧ Chg (atL []) w118 w554 ∧ moore_game_choice_l2 N g ranks q x115 m555 x323 = some x356) N ?_ ?_
      ·
       exact ⟨0, E.pick _ ⟨rfl, rfl, rfl, rfl, trivial⟩, H.sel [0, 1, 2, 3, 4, 5, 14, 9] rfl, HS424, hL552⟩
      ·
       clear E H hL552 HS424; intro m555 a w554 hI_
       obtain ⟨x323, E, H, HS424, hP⟩ := hI_
       obtain ⟨m355, rfl⟩ : ∃ q_, m555 = q_ + 1 := by cases m555 with | zero => rw [moore_game_choice_l2] at hP; cases hP | succ q_ => exact ⟨q_, rfl⟩
       rw [moore_game_choice_l2] at hP
       refine wp_seq ?_
       refine wp_region_lit ?_
       refine vr tbok 1 [] [(1, .func (.func 64) #[] #[.pointer (some ⟨g8, 0, none⟩), .pointer (some ⟨g13, 0, none⟩), .pointer (some ⟨g18, 0, none⟩), .pointer (some ⟨g23, 0, none⟩)]), (7, .slice A216 (List.length g.2.2.1) c217), (8, .int .i64 (((List.length g.2.2.1) : Nat) : Int)), (9, .int .i64 x323), (10, .bool (decide (x323 < (((List.length g.2.2.1) : Nat) : Int))))] [] E (by kernel_rfl) trivial ?_
       clear E; intro a E
       refine wpList_nil ?_
       refine th_n ?_
       refine wp_seq ?_
       refine E.cases (t := 10) rfl (fun hb_ E_ => ?_) (fun hb_ E_ => ?_)
       ·
        replace E := E_; clear E_
        have h557 : x323 < (((List.length g.2.2.1) : Nat) : Int) := of_decide_eq_true hb_
        clear hb_; replace hP := ite_t h557 hP
        refine c_true E rfl ?_
        refine wp_skip ?_
        refine th_n ?_
        refine wp_seq ?_
        refine wp_block ?_
        refine wp_seq ?_
        refine wp_region_lit ?_
        obtain ⟨g558, hP⟩ := ask_inv hP
        obtain ⟨b559, o560, e_b559⟩ := (H.rd 6 rds_ro).addr (idx_pos g558)
        subst e_b559
        refine vr tbok 5 [.int .u8 (List.getD g.2.2.1 (Int.toNat x323) 0)] [(1, .func (.func 64) #[] #[.pointer (some ⟨g8, 0, none⟩), .pointer (some ⟨g13, 0, none⟩), .pointer (some ⟨g18, 0, none⟩), .pointer (some ⟨g23, 0, none⟩)]), (5, .int .i64 x323), (6, .int .u8 (List.getD g.2.2.1 (Int.toNat x323) 0)), (7, .slice (some ⟨b559, o560, none⟩) (List.length g.2.2.1) c217), (8, .int .i64 (((List.length g.2.2.1) : Nat) : Int)), (9, .int .i64 x323)] [0 ≤ x323 ∧ x323 < (((List.length g.2.2.1) : Nat) : Int), World.cell? w554 ⟨b559, o560 + (Int.toNat x323) * 1, none⟩ = some (.int .u8 (List.getD g.2.2.1 (Int.toNat x323) 0))] E (by kernel_rfl) ⟨g558, Rds.at1 (H.rd 6 rds_ro) 0 g558⟩ ?_
        clear E; intro a E
        refine wpList_nil ?_
        refine th_n ?_
        refine wp_seq ?_
        refine wp_region_lit ?_
        refine vr tbok 2 [] [(1, .func (.func 64) #[] #[.pointer (some ⟨g8, 0, none⟩), .pointer (some ⟨g13, 0, none⟩), .pointer (some ⟨g18, 0, none⟩), .pointer (some ⟨g23, 0, none⟩)]), (5, .int .i64 x323), (7, .slice (some ⟨b559, o560, none⟩) (List.length g.2.2.1) c217), (8, .int .i64 (((List.length g.2.2.1) : Nat) : Int)), (9, .int .i64 x323), (14, .func (.func 64) #[] #[.pointer (some ⟨g8, 0, none⟩), .pointer (some ⟨g13, 0, none⟩), .pointer (some ⟨g18, 0, none⟩), .pointer (some ⟨g23, 0, none⟩)]), (15, .int .u8 (List.getD g.2.2.1 (Int.toNat x323) 0))] [] E (by kernel_rfl) trivial ?_
        clear E; intro a E
        obtain ⟨x387, h582, hP⟩ := bind_inv hP
        refine e_callv (R := fun v_ w_ => ∃ (x583 : Bool), v_ = .bool x583 ∧ Hp S Fa w0 w_ [.ro false cS87 (some ⟨b1, o2, none⟩) ([g]), .box g8 62 [.pointer (some ⟨b1, o2, none⟩)], .ro false (cInt .i64) A4 ranks, .box g13 23 [.slice A4 (List.length ranks) c5], .box g18 3 [.int .i64 q], .box g23 3 [.int .i64 x115], .ro false (cInt .u8) (some ⟨b420, o421, none⟩) g.2.2.1, .ro false (cInt .u8) (some ⟨b559, o560, none⟩) g.2.2.1] ∧ Chg (atL []) w118 w_ ∧ x387 = x583) E rfl rfl rfl Try.func64 rfl rfl rfl ?_ ?_
        ·
         clear E hP; have hP := h582; clear h582; rw [moore_game_choice_f3] at hP
         refine enterV (n := 14) Try.func64 rfl rfl rfl ?_
         intro a E
         replace E := E.pick [(0, .int .u8 (List.getD g.2.2.1 (Int.toNat x323) 0)), (1, .pointer (some ⟨g8, 0, none⟩)), (2, .pointer (some ⟨g13, 0, none⟩)), (3, .pointer (some ⟨g18, 0, none⟩)), (4, .pointer (some ⟨g23, 0, none⟩))] ⟨rfl, rfl, rfl, rfl, rfl, trivial⟩
         refine wp_seq ?_
         refine wp_region_lit ?_
         refine vr tbok 1 [] [(0, .int .u8 (List.getD g.2.2.1 (Int.toNat x323) 0)), (1, .pointer (some ⟨g8, 0, none⟩)), (2, .pointer (some ⟨g13, 0, none⟩)), (3, .pointer (some ⟨g18, 0, none⟩)), (4, .pointer (some ⟨g23, 0, none⟩))] [] E (by kernel_rfl) trivial ?_
         clear E; intro a E
         refine wpList_nil ?_
         refine th_n ?_
         refine wp_seq ?_
         obtain ⟨r390, h585, hP⟩ := bind_inv hP
         have HR596 := H
         refine dr_start (S := fun w_ => Chg (atL []) w554 w_) (by kernel_rfl) ?_
         intro w593 hc594
         have HS595 : Chg (atL []) w554 w593 := hc594.mono (fun _ _ h_ => h_.elim)
         replace HS424 := HS424.ext hc594
         replace H := H.ext hc594
         refine dr tbok (by kernel_rfl) [0, 1, 2, 3, 5] [.pointer (some ⟨b1, o2, none⟩), .slice A4 (List.length ranks) c5, .int .i64 q, .int .i64 x115] [(7, .pointer (some ⟨b1, o2, none⟩)), (8, .slice A4 (List.length ranks) c5), (9, .int .i64 q), (10, .int .u8 (List.getD g.2.2.1 (Int.toNat x323) 0)), (12, .int .i64 x115)] (fun w_ => [World.cell? w_ ⟨g8, 0, none⟩ = some (.pointer (some ⟨b1, o2, none⟩)), World.cell? w_ ⟨g13, 0, none⟩ = some (.slice A4 (List.length ranks) c5), World.cell? w_ ⟨g18, 0, none⟩ = some (.int .i64 q), World.cell? w_ ⟨g23, 0, none⟩ = some (.int .i64 x115)]) 3 E (fun _ _ => by kernel_rfl) (fun w_ hS_ => ⟨(HR596.boxk [] hS_ 1 rfl rfl).cell (j := 0) rfl, (HR596.boxk [] hS_ 3 rfl rfl).cell (j := 0) rfl, (HR596.boxk [] hS_ 4 rfl rfl).cell (j := 0) rfl, (HR596.boxk [] hS_ 5 rfl rfl).cell (j := 0) rfl⟩) (by kernel_rfl) HS595 ?_
         clear E; intro a E
         refine wpAnyH_all (rs := [4]) (by kernel_rfl) (by simp) ?_
         refine all1 ?_
         ·
          refine wpOp_of_list rfl ?_
          obtain ⟨Fa597, Hc598, hb599⟩ := H.call [] [(0, false), (2, false)] rfl rfl trivial
          refine e_call E rfl rfl Try.func60 rfl rfl rfl (moore_game_worst_calls b1 o2 A4 c5 g ranks q (List.getD g.2.2.1 (Int.toNat x323) 0) hk6 Hc598 h585) ?_
          rintro v600 w601 a ⟨rfl, HR602⟩ E_
          replace E := E_ _ rfl; clear E_
          obtain ⟨H_, hc603⟩ := hb599 _ _ HR602 rfl
          replace HS424 := HS424.ext (callS_ext hc603)
          replace HS595 := HS595.ext (callS_ext hc603)
          replace H := H_; clear H_; try dsimp only [setn, addE, goneL] at H
          refine wpList_nil ?_
          refine th_n ⟨HS595, ?_⟩
          refine dr tbok (by kernel_rfl) [6, 7] [] [(6, .bool ((r390 : Int) == x115))] (fun w_ => []) 0 E (fun _ _ => by kernel_rfl) (fun w_ hS_ => trivial) (by kernel_rfl) HS595 ?_
          clear E; intro a E
          refine dr_done (by kernel_rfl) ?_
          clear HS595 HR596
          refine th_n ?_
          refine wp_ret ?_
          have hx_ := Option.some.inj hP
          refine ret1 E rfl rfl ?_
          exact ⟨_, rfl, (r390 : Int) == x115, rfl, H.sel [0, 1, 2, 3, 4, 5, 7, 6] rfl, HS424, hx_.symm⟩
        ·
         clear H HS424
         rintro v605 w604 a ⟨x583, rfl, H, HS424, hx_⟩ E_
         subst hx_
         replace E := E_ _ rfl; clear E_
         refine wpList_nil ?_
         refine th_n ?_
         refine E.cases (t := 16) rfl (fun hb_ E_ => ?_) (fun hb_ E_ => ?_)
         ·
          replace E := E_; clear E_
          have h606 : x387 = true := hb_
          clear hb_; replace hP := ite_t h606 hP
          refine c_true E rfl ?_
          refine wp_seq ?_
          refine wp_region_lit ?_
          refine vr tbok 2 [] [(4, .int .i64 x323)] [] E (by kernel_rfl) trivial ?_
          clear E; intro a E
          refine wpList_nil ?_
          refine th_n ?_
          refine wp_ret ?_
          refine bl_ret ?_
          refine th_ret ?_
          refine th_ret ?_
          refine .inr ⟨rfl, ?_⟩
          refine bl_ret ?_
          refine th_ret ?_
          have hx_ := Option.some.inj hP; subst hx_
          have hP : some (x323) = some x290 := hK553
          have hx_ := Option.some.inj hP
          refine ret1 E rfl rfl ?_
          exact ⟨_, rfl, x323, rfl, H.sel [0, 1, 2, 3, 4, 5, 6, 7] rfl, HS424, hx_.symm⟩
         ·
          replace E := E_; clear E_
          have h607 : ¬ (x387 = true) := (ne_true_of_eq_false hb_)
          clear hb_; replace hP := ite_f h607 hP
          refine c_false E rfl ?_
          refine wp_skip ?_
          refine bl_n ?_
          refine th_n ?_
          refine wp_region_lit ?_
          obtain ⟨g608, hP⟩ := ask_inv hP
          refine vr tbok 2 [.int .i64 (x323 + 1)] [(1, .func (.func 64) #[] #[.pointer (some ⟨g8, 0, none⟩), .pointer (some ⟨g13, 0, none⟩), .pointer (some ⟨g18, 0, none⟩), .pointer (some ⟨g23, 0, none⟩)]), (7, .slice (some ⟨b559, o560, none⟩) (List.length g.2.2.1) c217), (8, .int .i64 (((List.length g.2.2.1) : Nat) : Int)), (9, .int .i64 (x323 + 1))] [IntKind.i64.wrap (x323 + 1) = x323 + 1] E (by kernel_rfl) (wrap_in g608) ?_
          clear E; intro a E
          refine wpList_nil ?_
          exact th_n ⟨m355, Nat.lt_succ_self _, x323 + 1, E.pick _ ⟨rfl, rfl, rfl, rfl, trivial⟩, H.sel [0, 1, 2, 3, 4, 5, 7, 6] rfl, HS424, hP⟩
       ·
        replace E := E_; clear E_
        have h609 : ¬ (x323 < (((List.length g.2.2.1) : Nat) : Int)) := of_decide_eq_false hb_
        clear hb_; replace hP := ite_f h609 hP
        refine c_false E rfl ?_
        refine wp_exit ?_
        refine th_exit ?_
        have hx_ := Option.some.inj hP
        refine th_exit (.inl ⟨0, rfl, ?_⟩)
        exact ⟨rfl, (), E.pick _ trivial, H.sel [0, 1, 2, 3, 4, 5, 7, 6] rfl, HS424, hx_.symm⟩
     ·
      clear E H hL552 HS424; intro i_ a w554 hM_
      obtain ⟨rfl, x361, E, H, HS424, hx_⟩ := hM_
      subst hx_; have hP := elim_l hK553
      clear hK553
      refine bl_hit ?_
      refine th_n ?_
      refine wp_seq ?_
      refine wp_region_lit ?_
      refine vr tbok 1 [] [(4, .int .i64 (-1))] [] E (by kernel_rfl) trivial ?_
      clear E; intro a E
      refine wpList_nil ?_
      refine th_n ?_
      refine wp_ret ?_
      have hx_ := Option.some.inj hP
      refine ret1 E rfl rfl ?_
      exact ⟨_, rfl, -1, rfl, H.sel [0, 1, 2, 3, 4, 5, 6, 7] rfl, HS424, hx_.symm⟩
    ·
     clear H HS424
     rintro v612 w611 a ⟨x489, rfl, H, HS424, hx_⟩ E_
     subst hx_
     replace E := E_ _ rfl; clear E_
     refine wpList_nil ?_
     refine th_n ⟨HS424, ?_⟩
     refine dr tbok (by kernel_rfl) [10, 11, 12] [.int .u8 (List.getD g.2.2.1 (Int.toNat x290) 0)] [(6, .int .u8 (List.getD g.2.2.1 (Int.toNat x290) 0))] (fun w_ => [0 ≤ x290 ∧ x290 < (((List.length g.2.2.1) : Nat) : Int), World.cell? w_ ⟨b420, o421 + (Int.toNat x290) * 1, none⟩ = some (.int .u8 (List.getD g.2.2.1 (Int.toNat x290) 0))]) 0 E (fun _ _ => by kernel_rfl) (fun w_ hS_ => ⟨g419, Rds.at1 (HR425.rdk [] hS_ 9 rds_ro rfl) 0 g419⟩) (by kernel_rfl) HS424 ?_
     clear E; intro a E
     refine dr_done (by kernel_rfl) ?_
     clear HS424 HR425
     refine th_n ?_
     refine wp_ret ?_
     obtain rfl := Option.some.inj hP
     refine ret1 E rfl rfl ?_
     exact ⟨_, rfl, rfl, H.sel [] rfl⟩

end Go.V
