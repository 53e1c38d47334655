/- Plain functions, and the calls that give them. -/
import Derived.Test.YtflangjkfaalkaaA4
set_option linter.all false
set_option linter.unusedVariables false
set_option linter.unnecessarySimpa false
set_option linter.unusedSimpArgs false
namespace Go.V
open Go Go.Proofs
/-! (*rejoinder/moore.game).reply -/
def moore_game_reply_f3 (N : Nat) (g : (Int × (List Bool) × (List Int) × (List Nd)) × (Int × Int) × (List Int) × (List Int)) (ranks : List Int) (q : Int) (x254 : Int) (x611 : Int) : Option Bool :=
    Option.bind (moore_game_to N g q (orV .u8 (List.getD g.2.2.1 (Int.toNat x254) 0) (List.getD g.2.2.2 (Int.toNat x611) 0))) fun r684 =>
    ask (idx r684 (List.length ranks)) <|
    some (decide ((List.getD ranks (Int.toNat r684) 0) < 0))
def moore_game_reply_l2 (N : Nat) (g : (Int × (List Bool) × (List Int) × (List Nd)) × (Int × Int) × (List Int) × (List Int)) (ranks : List Int) (q : Int) (x254 : Int) : Nat → Int → Option (Unit ⊕ Int)
  | 0, _ => none
  | m646 + 1, x611 =>
    if x611 < (((List.length g.2.2.2) : Nat) : Int) then
      ask (idx x611 (List.length g.2.2.2)) <|
      Option.bind (moore_game_reply_f3 N g ranks q x254 x611) fun x681 =>
      if x681 = true then
        some (Sum.inr x611)
      else
        ask (in64 (x611 + 1)) <|
        moore_game_reply_l2 N g ranks q x254 m646 (x611 + 1)
    else
      some (Sum.inl ())
def moore_game_reply_f1 (N : Nat) (g : (Int × (List Bool) × (List Int) × (List Nd)) × (Int × Int) × (List Int) × (List Int)) (ranks : List Int) (q : Int) (x254 : Int) : Option Int :=
    Option.bind (moore_game_reply_l2 N g ranks q x254 N 0) fun x647 =>
    Sum.elim (fun x652 =>
      some (-1))
     (fun x713 =>
      some x713) x647
def moore_game_reply_l0 (N : Nat) (g : (Int × (List Bool) × (List Int) × (List Nd)) × (Int × Int) × (List Int) × (List Int)) (ranks : List Int) (q : Int) : Nat → (List Int) → Int → Option (List Int)
  | 0, _, _ => none
  | m444 + 1, out251, x254 =>
    if x254 < (((List.length g.2.2.1) : Nat) : Int) then
      ask (idx x254 (List.length g.2.2.1)) <|
      Option.bind (moore_game_reply_f1 N g ranks q x254) fun x575 =>
      ask (idx x575 (List.length g.2.2.2)) <|
      ask (List.length out251 + List.length ([(List.getD g.2.2.2 (Int.toNat x575) 0)] : List Int) ≤ 1000000000) <|
      ask (in64 (x254 + 1)) <|
      moore_game_reply_l0 N g ranks q m444 (out251 ++ ([(List.getD g.2.2.2 (Int.toNat x575) 0)] : List Int)) (x254 + 1)
    else
      some out251
def moore_game_reply (N : Nat) (g : (Int × (List Bool) × (List Int) × (List Nd)) × (Int × Int) × (List Int) × (List Int)) (ranks : List Int) (q : Int) : Option (List Int) :=
  Option.bind (moore_game_reply_l0 N g ranks q N [] 0) fun x445 =>
  some x445
set_option maxRecDepth 100000 in
set_option maxHeartbeats 4000000 in
theorem moore_game_reply_calls {N : Nat} {S Fa : Nat → Prop} {w0 : World} {r : List Int} (b1 : Nat) (o2 : Nat) (A4 : Option Addr) (c5 : Nat) (g : (Int × (List Bool) × (List Int) × (List Nd)) × (Int × Int) × (List Int) × (List Int)) (ranks : List Int) (q : Int) (hk6 : List.length ranks ≤ c5) (H : Hp S Fa w0 w0 [.ro false cS87 (some ⟨b1, o2, none⟩) ([g]), .ro false (cInt .i64) A4 ranks]) (hP : moore_game_reply N g ranks q = some r) :
    Calls Try.prog 37 #[.pointer (some ⟨b1, o2, none⟩), .slice A4 (List.length ranks) c5, .int .i64 q] w0 fun e w' => ∃ v, e = .returned v ∧ ∃ (A775 : Option Addr) (c776 : Nat), v = .slice A775 (List.length r) c776 ∧ Hp S Fa w0 w' [.row true (cInt .u8) 27 A775 c776 r] := by
 refine enterV (n := 38) Try.func37 rfl rfl rfl ?_
 intro a E
 replace E := E.pick [(0, .pointer (some ⟨b1, o2, none⟩)), (1, .slice A4 (List.length ranks) c5), (2, .int .i64 q)] ⟨rfl, rfl, rfl, trivial⟩
 rw [moore_game_reply] at hP
 refine wp_seq ?_
 refine wp_region_lit ?_
 refine h_box H E rfl rfl rfl ?_
 intro w9 g8 a hc10 hg12 H_ E_
 replace E := E_ _ rfl; clear E_
 replace H := H_; clear H_; try dsimp only [setn, addE, goneL] at H
 refine h_box H E rfl rfl rfl ?_
 intro w14 g13 a hc15 hg17 H_ E_
 replace E := E_ _ rfl; clear E_
 replace H := H_; clear H_; try dsimp only [setn, addE, goneL] at H
 refine h_box H E rfl rfl rfl ?_
 intro w19 g18 a hc20 hg22 H_ E_
 replace E := E_ _ rfl; clear E_
 replace H := H_; clear H_; try dsimp only [setn, addE, goneL] at H
 refine vr tbok 1 [] [(3, .pointer (some ⟨g8, 0, none⟩)), (4, .pointer (some ⟨g13, 0, none⟩)), (5, .pointer (some ⟨g18, 0, none⟩))] [] E (by kernel_rfl) trivial ?_
 clear E; intro a E
 refine wpList_nil ?_
 refine th_n ?_
 refine wp_seq ?_
 refine wp_region_lit ?_
 refine vr tbok 1 [] [(3, .pointer (some ⟨g8, 0, none⟩)), (4, .pointer (some ⟨g13, 0, none⟩)), (5, .pointer (some ⟨g18, 0, none⟩)), (7, .slice none 0 0)] [] E (by kernel_rfl) trivial ?_
 clear E; intro a E
 refine wpList_nil ?_
 refine th_n ?_
 refine wp_seq ?_
 refine wp_seq ?_
 refine wp_region_lit ?_
 obtain ⟨Fz23, cs25, HF24, hK26, hc27⟩ := H.elem 0 false (el_ro rfl) g (idx_one _)
 obtain ⟨_, _, rfl, hK28, hK29⟩ := hK26
 obtain ⟨_, _, rfl, hK30, hK31⟩ := hK28
 obtain rfl := hK30
 obtain ⟨_, _, rfl, hK32, hK33⟩ := hK31
 obtain ⟨A34, c35, rfl, hk36, hC37⟩ := hK32
 obtain ⟨_, _, rfl, hK39, hK40⟩ := hK33
 obtain ⟨A41, c42, rfl, hk43, hC44⟩ := hK39
 obtain ⟨A46, c47, rfl, hk48, hC49⟩ := hK40
 obtain ⟨_, _, rfl, hK51, hK52⟩ := hK29
 obtain rfl := hK51
 obtain ⟨_, _, rfl, hK53, hK54⟩ := hK52
 obtain ⟨A55, c56, rfl, hk57, hC58⟩ := hK53
 obtain ⟨A60, c61, rfl, hk62, hC63⟩ := hK54
 replace HF24 := HF24.ins hC37
 replace HF24 := HF24.ins hC44
 replace HF24 := HF24.ins hC49
 replace HF24 := HF24.ins hC58
 replace HF24 := HF24.ins hC63
 replace H := HF24.hp; try dsimp only [addE] at H
 have hc65 : cellsAt w19 b1 (o2) [.int .i64 g.1.1, .slice A34 (List.length g.1.2.1) c35, .slice A41 (List.length g.1.2.2.1) c42, .slice A46 (List.length g.1.2.2.2) c47, .int .u8 g.2.1.1, .int .u8 g.2.1.2, .slice A55 (List.length g.2.2.1) c56, .slice A60 (List.length g.2.2.2) c61] := hc27
 refine vr tbok 6 [.pointer (some ⟨b1, o2, none⟩), .slice A55 (List.length g.2.2.1) c56] [(3, .pointer (some ⟨g8, 0, none⟩)), (4, .pointer (some ⟨g13, 0, none⟩)), (5, .pointer (some ⟨g18, 0, none⟩)), (7, .slice none 0 0), (14, .slice A55 (List.length g.2.2.1) c56), (15, .int .i64 (((List.length g.2.2.1) : Nat) : Int)), (16, .int .i64 0)] [World.cell? w19 ⟨g8, 0, none⟩ = some (.pointer (some ⟨b1, o2, none⟩)), World.cell? w19 ⟨b1, o2 + 6, none⟩ = some (.slice A55 (List.length g.2.2.1) c56)] E (by kernel_rfl) ⟨(H.box 2 rfl).cell (j := 0) rfl, hc65.get 6 _ rfl⟩ ?_
 clear E; intro a E
 refine wpList_nil ?_
 refine th_n ?_
 refine wp_block ?_
 obtain ⟨x445, hL446, hK447⟩ := bind_inv hP
 clear hP
 replace H := H.nilrow (cInt .u8) 27; try dsimp only [setn, addE, goneL] at H
 refine loop_cut (fun i_ a w_ => (i_ = 0 ∧ ∃ (x451 : List Int), ∃ (A442 : Option Addr) (c443 : Nat), Fr a 38 [(7, .slice A442 (List.length x451) c443)] ∧ Hp S Fa w0 w_ [.row true (cInt .u8) 27 A442 c443 x451] ∧ x445 = x451)) ?_ ?_
 ·
  refine loopV (fun m450 a w449 => ∃ (out251 : List Int) (x254 : Int), ∃ (A252 : Option Addr) (c253 : Nat), Fr a 38 [(3, .pointer (some ⟨g8, 0, none⟩)), (4, .pointer (some ⟨g13, 0, none⟩)), (5, .pointer (some ⟨g18, 0, none⟩)), (7, .slice A252 (List.length out251) c253), (14, .slice A55 (List.length g.2.2.1) c56), (15, .int .i64 (((List.length g.2.2.1) : Nat) : Int)), (16, .int .i64 x254)] ∧ Hp S Fa w0 w449 [.ro false cS87 (some ⟨b1, o2, none⟩) ([g]), .box g8 62 [.pointer (some ⟨b1, o2, none⟩)], .ro false (cInt .i64) A4 ranks, .box g13 23 [.slice A4 (List.length ranks) c5], .box g18 3 [.int .i64 q], .row true (cInt .u8) 27 A252 c253 out251, .ro false (cInt .u8) A55 g.2.2.1] ∧ moore_game_reply_l0 N g ranks q m450 out251 x254 = some x445) N ?_ ?_
  ·
   exact ⟨[], 0, none, 0, E.pick _ ⟨rfl, rfl, rfl, rfl, rfl, rfl, rfl, trivial⟩, H.sel [0, 2, 1, 3, 4, 10, 8] rfl, hL446⟩
  ·
   clear E H hL446; intro m450 a w449 hI_
   obtain ⟨out251, x254, A252, c253, E, H, hP⟩ := hI_
   obtain ⟨m444, rfl⟩ : ∃ q_, m450 = q_ + 1 := by cases m450 with | zero => rw [moore_game_reply_l0] at hP; cases hP | succ q_ => exact ⟨q_, rfl⟩
   rw [moore_game_reply_l0] at hP
   refine wp_seq ?_
   refine wp_region_lit ?_
   refine vr tbok 1 [] [(3, .pointer (some ⟨g8, 0, none⟩)), (4, .pointer (some ⟨g13, 0, none⟩)), (5, .pointer (some ⟨g18, 0, none⟩)), (7, .slice A252 (List.length out251) c253), (14, .slice A55 (List.length g.2.2.1) c56), (15, .int .i64 (((List.length g.2.2.1) : Nat) : Int)), (16, .int .i64 x254), (17, .bool (decide (x254 < (((List.length g.2.2.1) : Nat) : Int))))] [] E (by kernel_rfl) trivial ?_
   clear E; intro a E
   refine wpList_nil ?_
   refine th_n ?_
   refine wp_seq ?_
   refine E.cases (t := 17) rfl (fun hb_ E_ => ?_) (fun hb_ E_ => ?_)
   ·
    replace E := E_; clear E_
    have h452 : x254 < (((List.length g.2.2.1) : Nat) : Int) := of_decide_eq_true hb_
    clear hb_; replace hP := ite_t h452 hP
    refine c_true E rfl ?_
    refine wp_skip ?_
    refine th_n ?_
    refine wp_seq ?_
    refine wp_block ?_
    refine wp_seq ?_
    refine wp_region_lit ?_
    obtain ⟨g453, hP⟩ := ask_inv hP
    obtain ⟨b454, o455, e_b454⟩ := (H.rd 6 rds_ro).addr (idx_pos g453)
    subst e_b454
    refine vr tbok 2 [.int .u8 (List.getD g.2.2.1 (Int.toNat x254) 0)] [(3, .pointer (some ⟨g8, 0, none⟩)), (4, .pointer (some ⟨g13, 0, none⟩)), (5, .pointer (some ⟨g18, 0, none⟩)), (7, .slice A252 (List.length out251) c253), (14, .slice (some ⟨b454, o455, none⟩) (List.length g.2.2.1) c56), (15, .int .i64 (((List.length g.2.2.1) : Nat) : Int)), (16, .int .i64 x254), (19, .int .u8 (List.getD g.2.2.1 (Int.toNat x254) 0))] [0 ≤ x254 ∧ x254 < (((List.length g.2.2.1) : Nat) : Int), World.cell? w449 ⟨b454, o455 + (Int.toNat x254) * 1, none⟩ = some (.int .u8 (List.getD g.2.2.1 (Int.toNat x254) 0))] E (by kernel_rfl) ⟨g453, Rds.at1 (H.rd 6 rds_ro) 0 g453⟩ ?_
    clear E; intro a E
    refine h_alloc H E rfl rfl tbok rfl ?_
    intro w457 g456 a hc458 hg460 H_ E_
    replace E := E_ _ rfl; clear E_
    replace H := H_; clear H_; try dsimp only [setn, addE, goneL] at H
    refine h_store (g := g456) (off := 0) H 7 rfl E rfl rfl rfl rfl tbok rfl rfl rfl rfl rfl ?_
    clear E; intro w461 a hc462 H_ E
    replace H := H_; clear H_; try dsimp only [setn, addE, goneL] at H
    refine wpList_nil ?_
    refine th_n ?_
    refine wp_seq ?_
    refine wp_region_lit ?_
    obtain ⟨Fz463, cs465, HF464, hK466, hc467⟩ := H.elem 0 false (el_ro rfl) g (idx_one _)
    obtain ⟨_, _, rfl, hK468, hK469⟩ := hK466
    obtain ⟨_, _, rfl, hK470, hK471⟩ := hK468
    obtain rfl := hK470
    obtain ⟨_, _, rfl, hK472, hK473⟩ := hK471
    obtain ⟨A474, c475, rfl, hk476, hC477⟩ := hK472
    obtain ⟨_, _, rfl, hK479, hK480⟩ := hK473
    obtain ⟨A481, c482, rfl, hk483, hC484⟩ := hK479
    obtain ⟨A486, c487, rfl, hk488, hC489⟩ := hK480
    obtain ⟨_, _, rfl, hK491, hK492⟩ := hK469
    obtain rfl := hK491
    obtain ⟨_, _, rfl, hK493, hK494⟩ := hK492
    obtain ⟨A495, c496, rfl, hk497, hC498⟩ := hK493
    obtain ⟨A500, c501, rfl, hk502, hC503⟩ := hK494
    replace HF464 := HF464.ins hC477
    replace HF464 := HF464.ins hC484
    replace HF464 := HF464.ins hC489
    replace HF464 := HF464.ins hC498
    replace HF464 := HF464.ins hC503
    replace H := HF464.hp; try dsimp only [addE] at H
    have hc505 : cellsAt w461 b1 (o2) [.int .i64 g.1.1, .slice A474 (List.length g.1.2.1) c475, .slice A481 (List.length g.1.2.2.1) c482, .slice A486 (List.length g.1.2.2.2) c487, .int .u8 g.2.1.1, .int .u8 g.2.1.2, .slice A495 (List.length g.2.2.1) c496, .slice A500 (List.length g.2.2.2) c501] := hc467
    refine vr tbok 4 [.pointer (some ⟨b1, o2, none⟩), .slice A500 (List.length g.2.2.2) c501] [(3, .pointer (some ⟨g8, 0, none⟩)), (4, .pointer (some ⟨g13, 0, none⟩)), (5, .pointer (some ⟨g18, 0, none⟩)), (7, .slice A252 (List.length out251) c253), (9, .pointer (some ⟨g456, 0, none⟩)), (14, .slice (some ⟨b454, o455, none⟩) (List.length g.2.2.1) c56), (15, .int .i64 (((List.length g.2.2.1) : Nat) : Int)), (16, .int .i64 x254), (23, .slice A500 (List.length g.2.2.2) c501)] [World.cell? w461 ⟨g8, 0, none⟩ = some (.pointer (some ⟨b1, o2, none⟩)), World.cell? w461 ⟨b1, o2 + 7, none⟩ = some (.slice A500 (List.length g.2.2.2) c501)] E (by kernel_rfl) ⟨(H.box 1 rfl).cell (j := 0) rfl, hc505.get 7 _ rfl⟩ ?_
    clear E; intro a E
    refine e_makeFunc (vs := [.pointer (some ⟨g13, 0, none⟩), .pointer (some ⟨g8, 0, none⟩), .pointer (some ⟨g18, 0, none⟩), .pointer (some ⟨g456, 0, none⟩)]) E rfl rfl rfl rfl ?_
    clear E; intro a E
    obtain ⟨x575, h576, hP⟩ := bind_inv hP
    refine e_call (R := fun v_ w_ => ∃ (x577 : Int), v_ = .int .i64 x577 ∧ Hp S Fa w0 w_ [.ro false cS87 (some ⟨b1, o2, none⟩) ([g]), .box g8 62 [.pointer (some ⟨b1, o2, none⟩)], .ro false (cInt .i64) A4 ranks, .box g13 23 [.slice A4 (List.length ranks) c5], .box g18 3 [.int .i64 q], .row true (cInt .u8) 27 A252 c253 out251, .box g456 27 [.int .u8 (List.getD g.2.2.1 (Int.toNat x254) 0)], .ro false (cInt .u8) (some ⟨b454, o455, none⟩) g.2.2.1, .ro false (cInt .u8) A500 g.2.2.2] ∧ x575 = x577) E rfl rfl Try.func58 rfl rfl rfl ?_ ?_
    ·
     clear E hP; have hP := h576; clear h576; rw [moore_game_reply_f1] at hP
     refine enterV (n := 19) Try.func58 rfl rfl rfl ?_
     intro a E
     replace E := E.pick [(0, .slice A500 (List.length g.2.2.2) c501), (1, .func (.func 65) #[] #[.pointer (some ⟨g13, 0, none⟩), .pointer (some ⟨g8, 0, none⟩), .pointer (some ⟨g18, 0, none⟩), .pointer (some ⟨g456, 0, none⟩)])] ⟨rfl, rfl, trivial⟩
     refine wp_seq ?_
     refine wp_region_lit ?_
     refine vr tbok 1 [] [(0, .slice A500 (List.length g.2.2.2) c501), (1, .func (.func 65) #[] #[.pointer (some ⟨g13, 0, none⟩), .pointer (some ⟨g8, 0, none⟩), .pointer (some ⟨g18, 0, none⟩), .pointer (some ⟨g456, 0, none⟩)])] [] E (by kernel_rfl) trivial ?_
     clear E; intro a E
     refine wpList_nil ?_
     refine th_n ?_
     refine wp_seq ?_
     refine wp_seq ?_
     refine wp_region_lit ?_
     refine vr tbok 3 [] [(1, .func (.func 65) #[] #[.pointer (some ⟨g13, 0, none⟩), .pointer (some ⟨g8, 0, none⟩), .pointer (some ⟨g18, 0, none⟩), .pointer (some ⟨g456, 0, none⟩)]), (7, .slice A500 (List.length g.2.2.2) c501), (8, .int .i64 (((List.length g.2.2.2) : Nat) : Int)), (9, .int .i64 0)] [] E (by kernel_rfl) trivial ?_
     clear E; intro a E
     refine wpList_nil ?_
     refine th_n ?_
     refine wp_block ?_
     obtain ⟨x647, hL648, hK649⟩ := bind_inv hP
     clear hP
     refine loop_cut (fun i_ a w_ => (i_ = 0 ∧ ∃ (x652 : Unit), Fr a 19 [] ∧ Hp S Fa w0 w_ [.ro false cS87 (some ⟨b1, o2, none⟩) ([g]), .box g8 62 [.pointer (some ⟨b1, o2, none⟩)], .ro false (cInt .i64) A4 ranks, .box g13 23 [.slice A4 (List.length ranks) c5], .box g18 3 [.int .i64 q], .row true (cInt .u8) 27 A252 c253 out251, .box g456 27 [.int .u8 (List.getD g.2.2.1 (Int.toNat x254) 0)], .ro false (cInt .u8) (some ⟨b454, o455, none⟩) g.2.2.1, .ro false (cInt .u8) A500 g.2.2.2] ∧ x647 = Sum.inl x652)) ?_ ?_
     ·
      refine loopV (fun m651 a w650 => ∃ (x611 : Int), Fr a 19 [(1, .func (.func 65) #[] #[.pointer (some ⟨g13, 0, none⟩), .pointer (some ⟨g8, 0, none⟩), .pointer (some ⟨g18, 0, none⟩), .pointer (some ⟨g456, 0, none⟩)]), (7, .slice A500 (List.length g.2.2.2) c501), (8, .int .i64 (((List.length g.2.2.2) : Nat) : Int)), (9, .int .i64 x611)] ∧ Hp S Fa w0 w650 [.ro false (cInt .i64) A4 ranks, .box g13 23 [.slice A4 (List.length ranks) c5], .ro false cS87 (some ⟨b1, o2, none⟩) ([g]), .box g8 62 [.pointer (some ⟨b1, o2, none⟩)], .box g18 3 [.int .i64 q], .box g456 27 [.int .u8 (List.getD g.2.2.1 (Int.toNat x254) 0)], .ro false (cInt .u8) A500 g.2.2.2, .row true (cInt .u8) 27 A252 c253 out251, .ro false (cInt .u8) (some ⟨b454, o455, none⟩) g.2.2.1] ∧ moore_game_reply_l2 N g ranks q x254 m651 x611 = some x647) N ?_ ?_
      ·
       exact ⟨0, E.pick _ ⟨rfl, rfl, rfl, rfl, trivial⟩, H.sel [2, 3, 0, 1, 4, 7, 12, 5, 6] rfl, hL648⟩
      ·
       clear E H hL648; intro m651 a w650 hI_
       obtain ⟨x611, E, H, hP⟩ := hI_
       obtain ⟨m646, rfl⟩ : ∃ q_, m651 = q_ + 1 := by cases m651 with | zero => rw [moore_game_reply_l2] at hP; cases hP | succ q_ => exact ⟨q_, rfl⟩
       rw [moore_game_reply_l2] at hP
       refine wp_seq ?_
       refine wp_region_lit ?_
       refine vr tbok 1 [] [(1, .func (.func 65) #[] #[.pointer (some ⟨g13, 0, none⟩), .pointer (some ⟨g8, 0, none⟩), .pointer (some ⟨g18, 0, none⟩), .pointer (some ⟨g456, 0, none⟩)]), (7, .slice A500 (List.length g.2.2.2) c501), (8, .int .i64 (((List.length g.2.2.2) : Nat) : Int)), (9, .int .i64 x611), (10, .bool (decide (x611 < (((List.length g.2.2.2) : Nat) : Int))))] [] E (by kernel_rfl) trivial ?_
       clear E; intro a E
       refine wpList_nil ?_
       refine th_n ?_
       refine wp_seq ?_
       refine E.cases (t := 10) rfl (fun hb_ E_ => ?_) (fun hb_ E_ => ?_)
       ·
        replace E := E_; clear E_
        have h653 : x611 < (((List.length g.2.2.2) : Nat) : Int) := of_decide_eq_true hb_
        clear hb_; replace hP := ite_t h653 hP
        refine c_true E rfl ?_
        refine wp_skip ?_
        refine th_n ?_
        refine wp_seq ?_
        refine wp_block ?_
        refine wp_seq ?_
        refine wp_region_lit ?_
        obtain ⟨g654, hP⟩ := ask_inv hP
        obtain ⟨b655, o656, e_b655⟩ := (H.rd 6 rds_ro).addr (idx_pos g654)
        subst e_b655
        refine vr tbok 5 [.int .u8 (List.getD g.2.2.2 (Int.toNat x611) 0)] [(1, .func (.func 65) #[] #[.pointer (some ⟨g13, 0, none⟩), .pointer (some ⟨g8, 0, none⟩), .pointer (some ⟨g18, 0, none⟩), .pointer (some ⟨g456, 0, none⟩)]), (5, .int .i64 x611), (6, .int .u8 (List.getD g.2.2.2 (Int.toNat x611) 0)), (7, .slice (some ⟨b655, o656, none⟩) (List.length g.2.2.2) c501), (8, .int .i64 (((List.length g.2.2.2) : Nat) : Int)), (9, .int .i64 x611)] [0 ≤ x611 ∧ x611 < (((List.length g.2.2.2) : Nat) : Int), World.cell? w650 ⟨b655, o656 + (Int.toNat x611) * 1, none⟩ = some (.int .u8 (List.getD g.2.2.2 (Int.toNat x611) 0))] E (by kernel_rfl) ⟨g654, Rds.at1 (H.rd 6 rds_ro) 0 g654⟩ ?_
        clear E; intro a E
        refine wpList_nil ?_
        refine th_n ?_
        refine wp_seq ?_
        refine wp_region_lit ?_
        refine vr tbok 2 [] [(1, .func (.func 65) #[] #[.pointer (some ⟨g13, 0, none⟩), .pointer (some ⟨g8, 0, none⟩), .pointer (some ⟨g18, 0, none⟩), .pointer (some ⟨g456, 0, none⟩)]), (5, .int .i64 x611), (7, .slice (some ⟨b655, o656, none⟩) (List.length g.2.2.2) c501), (8, .int .i64 (((List.length g.2.2.2) : Nat) : Int)), (9, .int .i64 x611), (14, .func (.func 65) #[] #[.pointer (some ⟨g13, 0, none⟩), .pointer (some ⟨g8, 0, none⟩), .pointer (some ⟨g18, 0, none⟩), .pointer (some ⟨g456, 0, none⟩)]), (15, .int .u8 (List.getD g.2.2.2 (Int.toNat x611) 0))] [] E (by kernel_rfl) trivial ?_
        clear E; intro a E
        obtain ⟨x681, h682, hP⟩ := bind_inv hP
        refine e_callv (R := fun v_ w_ => ∃ (x683 : Bool), v_ = .bool x683 ∧ Hp S Fa w0 w_ [.ro false cS87 (some ⟨b1, o2, none⟩) ([g]), .box g8 62 [.pointer (some ⟨b1, o2, none⟩)], .ro false (cInt .i64) A4 ranks, .box g13 23 [.slice A4 (List.length ranks) c5], .box g18 3 [.int .i64 q], .row true (cInt .u8) 27 A252 c253 out251, .box g456 27 [.int .u8 (List.getD g.2.2.1 (Int.toNat x254) 0)], .ro false (cInt .u8) (some ⟨b454, o455, none⟩) g.2.2.1, .ro false (cInt .u8) (some ⟨b655, o656, none⟩) g.2.2.2] ∧ x681 = x683) E rfl rfl rfl Try.func65 rfl rfl rfl ?_ ?_
        ·
         clear E hP; have hP := h682; clear h682; rw [moore_game_reply_f3] at hP
         refine enterV (n := 17) Try.func65 rfl rfl rfl ?_
         intro a E
         replace E := E.pick [(0, .int .u8 (List.getD g.2.2.2 (Int.toNat x611) 0)), (1, .pointer (some ⟨g13, 0, none⟩)), (2, .pointer (some ⟨g8, 0, none⟩)), (3, .pointer (some ⟨g18, 0, none⟩)), (4, .pointer (some ⟨g456, 0, none⟩))] ⟨rfl, rfl, rfl, rfl, rfl, trivial⟩
         refine wp_seq ?_
         refine wp_region_lit ?_
         refine vr tbok 1 [] [(0, .int .u8 (List.getD g.2.2.2 (Int.toNat x611) 0)), (1, .pointer (some ⟨g13, 0, none⟩)), (2, .pointer (some ⟨g8, 0, none⟩)), (3, .pointer (some ⟨g18, 0, none⟩)), (4, .pointer (some ⟨g456, 0, none⟩))] [] E (by kernel_rfl) trivial ?_
         clear E; intro a E
         refine wpList_nil ?_
         refine th_n ?_
         refine wp_seq ?_
         obtain ⟨r684, h685, hP⟩ := bind_inv hP
         obtain ⟨g693, hP⟩ := ask_inv hP
         obtain ⟨b694, o695, e_b694⟩ := (H.rd 0 rds_ro).addr (idx_pos g693)
         subst e_b694
         have HR699 := H
         refine dr_start (S := fun w_ => Chg (atL []) w650 w_) (by kernel_rfl) ?_
         intro w696 hc697
         have HS698 : Chg (atL []) w650 w696 := hc697.mono (fun _ _ h_ => h_.elim)
         replace H := H.ext hc697
         refine dr tbok (by kernel_rfl) [0, 1, 2, 3, 4, 5] [.slice (some ⟨b694, o695, none⟩) (List.length ranks) c5, .pointer (some ⟨b1, o2, none⟩), .int .i64 q, .int .u8 (List.getD g.2.2.1 (Int.toNat x254) 0), .int .u8 (orV .u8 (List.getD g.2.2.1 (Int.toNat x254) 0) (List.getD g.2.2.2 (Int.toNat x611) 0))] [(7, .slice (some ⟨b694, o695, none⟩) (List.length ranks) c5), (8, .pointer (some ⟨b1, o2, none⟩)), (9, .int .i64 q), (12, .int .u8 (orV .u8 (List.getD g.2.2.1 (Int.toNat x254) 0) (List.getD g.2.2.2 (Int.toNat x611) 0)))] (fun w_ => [World.cell? w_ ⟨g13, 0, none⟩ = some (.slice (some ⟨b694, o695, none⟩) (List.length ranks) c5), World.cell? w_ ⟨g8, 0, none⟩ = some (.pointer (some ⟨b1, o2, none⟩)), World.cell? w_ ⟨g18, 0, none⟩ = some (.int .i64 q), World.cell? w_ ⟨g456, 0, none⟩ = some (.int .u8 (List.getD g.2.2.1 (Int.toNat x254) 0)), IntKind.u8.wrap (BitVec.ofInt (IntKind.bits .u8) (List.getD g.2.2.1 (Int.toNat x254) 0) ||| BitVec.ofInt (IntKind.bits .u8) (List.getD g.2.2.2 (Int.toNat x611) 0)).toNat = orV .u8 (List.getD g.2.2.1 (Int.toNat x254) 0) (List.getD g.2.2.2 (Int.toNat x611) 0)]) 5 E (fun _ _ => by kernel_rfl) (fun w_ hS_ => ⟨(HR699.boxk [] hS_ 1 rfl rfl).cell (j := 0) rfl, (HR699.boxk [] hS_ 3 rfl rfl).cell (j := 0) rfl, (HR699.boxk [] hS_ 4 rfl rfl).cell (j := 0) rfl, (HR699.boxk [] hS_ 5 rfl rfl).cell (j := 0) rfl, rfl⟩) (by kernel_rfl) HS698 ?_
         clear E; intro a E
         refine wpAnyH_all (rs := [6]) (by kernel_rfl) (by simp) ?_
         refine all1 ?_
         ·
          refine wpOp_of_list rfl ?_
          obtain ⟨Fa700, Hc701, hb702⟩ := H.call [] [(2, false)] rfl rfl trivial
          refine e_call E rfl rfl Try.func50 rfl rfl rfl (moore_game_to_calls b1 o2 g q (orV .u8 (List.getD g.2.2.1 (Int.toNat x254) 0) (List.getD g.2.2.2 (Int.toNat x611) 0))  Hc701 h685) ?_
          rintro v703 w704 a ⟨rfl, HR705⟩ E_
          replace E := E_ _ rfl; clear E_
          obtain ⟨H_, hc706⟩ := hb702 _ _ HR705 rfl
          replace HS698 := HS698.ext (callS_ext hc706)
          replace H := H_; clear H_; try dsimp only [setn, addE, goneL] at H
          refine wpList_nil ?_
          refine th_n ⟨HS698, ?_⟩
          refine dr tbok (by kernel_rfl) [7, 8, 9, 10] [.int .i64 (List.getD ranks (Int.toNat r684) 0)] [(6, .bool (decide ((List.getD ranks (Int.toNat r684) 0) < 0)))] (fun w_ => [0 ≤ r684 ∧ r684 < (((List.length ranks) : Nat) : Int), World.cell? w_ ⟨b694, o695 + (Int.toNat r684) * 1, none⟩ = some (.int .i64 (List.getD ranks (Int.toNat r684) 0))]) 0 E (fun _ _ => by kernel_rfl) (fun w_ hS_ => ⟨g693, Rds.at1 (HR699.rdk [] hS_ 0 rds_ro rfl) 0 g693⟩) (by kernel_rfl) HS698 ?_
          clear E; intro a E
          refine dr_done (by kernel_rfl) ?_
          clear HS698 HR699
          refine th_n ?_
          refine wp_ret ?_
          have hx_ := Option.some.inj hP
          refine ret1 E rfl rfl ?_
          exact ⟨_, rfl, decide ((List.getD ranks (Int.toNat r684) 0) < 0), rfl, H.sel [2, 3, 0, 1, 4, 7, 5, 8, 6] rfl, hx_.symm⟩
        ·
         clear H
         rintro v708 w707 a ⟨x683, rfl, H, hx_⟩ E_
         subst hx_
         replace E := E_ _ rfl; clear E_
         refine wpList_nil ?_
         refine th_n ?_
         refine E.cases (t := 16) rfl (fun hb_ E_ => ?_) (fun hb_ E_ => ?_)
         ·
          replace E := E_; clear E_
          have h709 : x681 = true := hb_
          clear hb_; replace hP := ite_t h709 hP
          refine c_true E rfl ?_
          refine wp_seq ?_
          refine wp_region_lit ?_
          refine vr tbok 2 [] [(4, .int .i64 x611)] [] E (by kernel_rfl) trivial ?_
          clear E; intro a E
          refine wpList_nil ?_
          refine th_n ?_
          refine wp_ret ?_
          refine bl_ret ?_
          refine th_ret ?_
          refine th_ret ?_
          refine .inr ⟨rfl, ?_⟩
          refine bl_ret ?_
          refine th_ret ?_
          have hx_ := Option.some.inj hP; subst hx_
          have hP : some (x611) = some x575 := hK649
          have hx_ := Option.some.inj hP
          refine ret1 E rfl rfl ?_
          exact ⟨_, rfl, x611, rfl, H.sel [0, 1, 2, 3, 4, 5, 6, 7, 8] rfl, hx_.symm⟩
         ·
          replace E := E_; clear E_
          have h710 : ¬ (x681 = true) := (ne_true_of_eq_false hb_)
          clear hb_; replace hP := ite_f h710 hP
          refine c_false E rfl ?_
          refine wp_skip ?_
          refine bl_n ?_
          refine th_n ?_
          refine wp_region_lit ?_
          obtain ⟨g711, hP⟩ := ask_inv hP
          refine vr tbok 2 [.int .i64 (x611 + 1)] [(1, .func (.func 65) #[] #[.pointer (some ⟨g13, 0, none⟩), .pointer (some ⟨g8, 0, none⟩), .pointer (some ⟨g18, 0, none⟩), .pointer (some ⟨g456, 0, none⟩)]), (7, .slice (some ⟨b655, o656, none⟩) (List.length g.2.2.2) c501), (8, .int .i64 (((List.length g.2.2.2) : Nat) : Int)), (9, .int .i64 (x611 + 1))] [IntKind.i64.wrap (x611 + 1) = x611 + 1] E (by kernel_rfl) (wrap_in g711) ?_
          clear E; intro a E
          refine wpList_nil ?_
          exact th_n ⟨m646, Nat.lt_succ_self _, x611 + 1, E.pick _ ⟨rfl, rfl, rfl, rfl, trivial⟩, H.sel [2, 3, 0, 1, 4, 6, 8, 5, 7] rfl, hP⟩
       ·
        replace E := E_; clear E_
        have h712 : ¬ (x611 < (((List.length g.2.2.2) : Nat) : Int)) := of_decide_eq_false hb_
        clear hb_; replace hP := ite_f h712 hP
        refine c_false E rfl ?_
        refine wp_exit ?_
        refine th_exit ?_
        have hx_ := Option.some.inj hP
        refine th_exit (.inl ⟨0, rfl, ?_⟩)
        exact ⟨rfl, (), E.pick _ trivial, H.sel [2, 3, 0, 1, 4, 7, 5, 8, 6] rfl, hx_.symm⟩
     ·
      clear E H hL648; intro i_ a w650 hM_
      obtain ⟨rfl, x652, E, H, hx_⟩ := hM_
      subst hx_; have hP := elim_l hK649
      clear hK649
      refine bl_hit ?_
      refine th_n ?_
      refine wp_seq ?_
      refine wp_region_lit ?_
      refine vr tbok 1 [] [(4, .int .i64 (-1))] [] E (by kernel_rfl) trivial ?_
      clear E; intro a E
      refine wpList_nil ?_
      refine th_n ?_
      refine wp_ret ?_
      have hx_ := Option.some.inj hP
      refine ret1 E rfl rfl ?_
      exact ⟨_, rfl, -1, rfl, H.sel [0, 1, 2, 3, 4, 5, 6, 7, 8] rfl, hx_.symm⟩
    ·
     clear H
     rintro v715 w714 a ⟨x577, rfl, H, hx_⟩ E_
     subst hx_
     replace E := E_ _ rfl; clear E_
     refine vr tbok 1 [] [(3, .pointer (some ⟨g8, 0, none⟩)), (4, .pointer (some ⟨g13, 0, none⟩)), (5, .pointer (some ⟨g18, 0, none⟩)), (7, .slice A252 (List.length out251) c253), (10, .int .i64 x575), (14, .slice (some ⟨b454, o455, none⟩) (List.length g.2.2.1) c56), (15, .int .i64 (((List.length g.2.2.1) : Nat) : Int)), (16, .int .i64 x254)] [] E (by kernel_rfl) trivial ?_
     clear E; intro a E
     refine wpList_nil ?_
     refine th_n ?_
     refine wp_region_lit ?_
     obtain ⟨Fz716, cs718, HF717, hK719, hc720⟩ := H.elem 0 false (el_ro rfl) g (idx_one _)
     obtain ⟨_, _, rfl, hK721, hK722⟩ := hK719
     obtain ⟨_, _, rfl, hK723, hK724⟩ := hK721
     obtain rfl := hK723
     obtain ⟨_, _, rfl, hK725, hK726⟩ := hK724
     obtain ⟨A727, c728, rfl, hk729, hC730⟩ := hK725
     obtain ⟨_, _, rfl, hK732, hK733⟩ := hK726
     obtain ⟨A734, c735, rfl, hk736, hC737⟩ := hK732
     obtain ⟨A739, c740, rfl, hk741, hC742⟩ := hK733
     obtain ⟨_, _, rfl, hK744, hK745⟩ := hK722
     obtain rfl := hK744
     obtain ⟨_, _, rfl, hK746, hK747⟩ := hK745
     obtain ⟨A748, c749, rfl, hk750, hC751⟩ := hK746
     obtain ⟨A753, c754, rfl, hk755, hC756⟩ := hK747
     replace HF717 := HF717.ins hC730
     replace HF717 := HF717.ins hC737
     replace HF717 := HF717.ins hC742
     replace HF717 := HF717.ins hC751
     replace HF717 := HF717.ins hC756
     replace H := HF717.hp; try dsimp only [addE] at H
     have hc758 : cellsAt w714 b1 (o2) [.int .i64 g.1.1, .slice A727 (List.length g.1.2.1) c728, .slice A734 (List.length g.1.2.2.1) c735, .slice A739 (List.length g.1.2.2.2) c740, .int .u8 g.2.1.1, .int .u8 g.2.1.2, .slice A748 (List.length g.2.2.1) c749, .slice A753 (List.length g.2.2.2) c754] := hc720
     obtain ⟨g759, hP⟩ := ask_inv hP
     obtain ⟨b760, o761, e_b760⟩ := (H.rd 13 rds_ro).addr (idx_pos g759)
     subst e_b760
     refine vr tbok 8 [.pointer (some ⟨b1, o2, none⟩), .slice (some ⟨b760, o761, none⟩) (List.length g.2.2.2) c754, .int .u8 (List.getD g.2.2.2 (Int.toNat x575) 0)] [(3, .pointer (some ⟨g8, 0, none⟩)), (4, .pointer (some ⟨g13, 0, none⟩)), (5, .pointer (some ⟨g18, 0, none⟩)), (14, .slice (some ⟨b454, o455, none⟩) (List.length g.2.2.1) c56), (15, .int .i64 (((List.length g.2.2.1) : Nat) : Int)), (16, .int .i64 x254), (26, .slice A252 (List.length out251) c253), (33, .int .u8 (List.getD g.2.2.2 (Int.toNat x575) 0))] [World.cell? w714 ⟨g8, 0, none⟩ = some (.pointer (some ⟨b1, o2, none⟩)), World.cell? w714 ⟨b1, o2 + 7, none⟩ = some (.slice (some ⟨b760, o761, none⟩) (List.length g.2.2.2) c754), 0 ≤ x575 ∧ x575 < (((List.length g.2.2.2) : Nat) : Int), World.cell? w714 ⟨b760, o761 + (Int.toNat x575) * 1, none⟩ = some (.int .u8 (List.getD g.2.2.2 (Int.toNat x575) 0))] E (by kernel_rfl) ⟨(H.box 1 rfl).cell (j := 0) rfl, hc758.get 7 _ rfl, g759, Rds.at1 (H.rd 13 rds_ro) 0 g759⟩ ?_
     clear E; intro a E
     refine h_buildSlice (ps := [(0, .int .u8 (List.getD g.2.2.2 (Int.toNat x575) 0))]) (cs := [.int .u8 (List.getD g.2.2.2 (Int.toNat x575) 0)]) H E rfl rfl tbok rfl rfl (by kernel_rfl) ?_
     intro w763 g762 a hc764 hg766 H_ E_
     replace E := E_ _ rfl; clear E_
     replace H := H_; clear H_; try dsimp only [setn, addE, goneL] at H
     obtain ⟨g767, hP⟩ := ask_inv hP
     refine h_append (cInt .u8) (xs := out251) (ys := ([(List.getD g.2.2.2 (Int.toNat x575) 0)] : List Int)) (0 : Int) H 5 rfl E rfl rfl tbok rfl rfl rfl rfl rfl (fun _ _ => rfl) rfl rfl (fun _ HF_ => HF_.srcB 14 rfl (⟨_, _, rfl, rfl, rfl⟩)) g767 ?_
     intro w768 A769 c770 a hc771 hA772 H_ E_
     replace E := E_ _ rfl; clear E_
     replace H := H_; clear H_; try dsimp only [setn, addE, goneL] at H
     refine vr tbok 1 [] [(3, .pointer (some ⟨g8, 0, none⟩)), (4, .pointer (some ⟨g13, 0, none⟩)), (5, .pointer (some ⟨g18, 0, none⟩)), (7, .slice A769 (List.length (out251 ++ ([(List.getD g.2.2.2 (Int.toNat x575) 0)] : List Int))) c770), (14, .slice (some ⟨b454, o455, none⟩) (List.length g.2.2.1) c56), (15, .int .i64 (((List.length g.2.2.1) : Nat) : Int)), (16, .int .i64 x254)] [] E (by kernel_rfl) trivial ?_
     clear E; intro a E
     refine wpList_nil ?_
     refine bl_n ?_
     refine th_n ?_
     refine wp_region_lit ?_
     obtain ⟨g773, hP⟩ := ask_inv hP
     refine vr tbok 2 [.int .i64 (x254 + 1)] [(3, .pointer (some ⟨g8, 0, none⟩)), (4, .pointer (some ⟨g13, 0, none⟩)), (5, .pointer (some ⟨g18, 0, none⟩)), (7, .slice A769 (List.length (out251 ++ ([(List.getD g.2.2.2 (Int.toNat x575) 0)] : List Int))) c770), (14, .slice (some ⟨b454, o455, none⟩) (List.length g.2.2.1) c56), (15, .int .i64 (((List.length g.2.2.1) : Nat) : Int)), (16, .int .i64 (x254 + 1))] [IntKind.i64.wrap (x254 + 1) = x254 + 1] E (by kernel_rfl) (wrap_in g773) ?_
     clear E; intro a E
     refine wpList_nil ?_
     exact th_n ⟨m444, Nat.lt_succ_self _, out251 ++ ([(List.getD g.2.2.2 (Int.toNat x575) 0)] : List Int), x254 + 1, A769, c770, E.pick _ ⟨rfl, rfl, rfl, rfl, rfl, rfl, rfl, trivial⟩, H.sel [0, 1, 2, 3, 4, 5, 7] rfl, hP⟩
   ·
    replace E := E_; clear E_
    have h774 : ¬ (x254 < (((List.length g.2.2.1) : Nat) : Int)) := of_decide_eq_false hb_
    clear hb_; replace hP := ite_f h774 hP
    refine c_false E rfl ?_
    refine wp_exit ?_
    refine th_exit ?_
    have hx_ := Option.some.inj hP
    refine th_exit (.inl ⟨0, rfl, ?_⟩)
    exact ⟨rfl, out251, A252, c253, E.pick _ ⟨rfl, trivial⟩, H.sel [5] rfl, hx_.symm⟩
 ·
  clear E H hL446; intro i_ a w449 hM_
  obtain ⟨rfl, x451, A442, c443, E, H, hx_⟩ := hM_
  subst hx_; have hP := hK447; clear hK447
  refine bl_hit ?_
  refine th_n ?_
  refine wp_seq ?_
  refine wp_region_lit ?_
  refine vr tbok 2 [] [(6, .slice A442 (List.length x445) c443)] [] E (by kernel_rfl) trivial ?_
  clear E; intro a E
  refine wpList_nil ?_
  refine th_n ?_
  refine wp_ret ?_
  obtain rfl := Option.some.inj hP
  refine ret1 E rfl rfl ?_
  exact ⟨_, rfl, A442, c443, rfl, H.sel [0] rfl⟩

/-! rejoinder/moore.Of -/
def moore_Of_l0 (N : Nat) (x45 : ((Int × (List Bool) × (List Int) × (List Nd)) × (Int × Int) × (List Int) × (List Int)) × Int) (r61 : List Int) : Nat → (List Int) → (List (List Int)) → Int → Option ((List Int) × (List (List Int)))
  | 0, _, _, _ => none
  | m807 + 1, x726, x727, x728 =>
    if x728 < (((List.length r61) : Nat) : Int) then
      ask (idx x728 (List.length r61)) <|
      if 0 < (List.getD r61 (Int.toNat x728) 0) then
        Option.bind (moore_game_choice N x45.1 r61 x728) fun r817 =>
        ask (idx x728 (List.length x726)) <|
        ask (in64 (x728 + 1)) <|
        moore_Of_l0 N x45 r61 m807 (List.set x726 (Int.toNat x728) r817) x727 (x728 + 1)
      else
        if (List.getD r61 (Int.toNat x728) 0) < 0 then
          Option.bind (moore_game_reply N x45.1 r61 x728) fun r849 =>
          ask (idx x728 (List.length x727)) <|
          ask (in64 (x728 + 1)) <|
          moore_Of_l0 N x45 r61 m807 x726 (List.set x727 (Int.toNat x728) r849) (x728 + 1)
        else
          ask (in64 (x728 + 1)) <|
          moore_Of_l0 N x45 r61 m807 x726 x727 (x728 + 1)
    else
      some (x726, x727)
def moore_Of (N : Nat) (aProps : Int) (aAccept : List Bool) (aGuard : List Int) (aNodes : List Nd) (s : Int × Int) : Option ((Bool × (List Int) × (List Int) × (List (List Int))) × Int) :=
  Option.bind (moore_begun N aProps aAccept aGuard aNodes (s.1, s.2)) fun r28 =>
  Sum.elim (fun x44 =>
    if (x44 : Int) = 0 then
      none
    else
      some ((false, [], [], []), x44))
   (fun x45 =>
    if (x45.2 : Int) = 0 then
      Option.bind (moore_game_ranks N x45.1) fun r61 =>
      ask (0 ≤ (((List.length aAccept) : Nat) : Int) ∧ (((List.length aAccept) : Nat) : Int) ≤ 1000000000) <|
      ask (idx (0 : Int) (List.length r61)) <|
      Option.bind (moore_Of_l0 N x45 r61 N (List.replicate (Int.toNat (((List.length aAccept) : Nat) : Int)) (0 : Int)) (List.replicate (Int.toNat (((List.length aAccept) : Nat) : Int)) ([] : List Int)) 0) fun x808 =>
      some ((decide (0 ≤ (List.getD r61 (Int.toNat (0 : Int)) 0)), r61, x808.1, x808.2), 0)
    else
      some ((false, [], [], []), x45.2)) r28
set_option maxRecDepth 100000 in
set_option maxHeartbeats 4000000 in
theorem moore_Of_calls {N : Nat} {S Fa : Nat → Prop} {w0 : World} {r : (Bool × (List Int) × (List Int) × (List (List Int))) × Int} (A1 : Option Addr) (c2 : Nat) (A5 : Option Addr) (c6 : Nat) (A9 : Option Addr) (c10 : Nat) (aProps : Int) (aAccept : List Bool) (aGuard : List Int) (aNodes : List Nd) (s : Int × Int) (hk3 : List.length aAccept ≤ c2) (hk7 : List.length aGuard ≤ c6) (hk11 : List.length aNodes ≤ c10) (H : Hp S Fa w0 w0 [.ro false cBool A1 aAccept, .ro false (cInt .i64) A5 aGuard, .ro false cNode A9 aNodes]) (hP : moore_Of N aProps aAccept aGuard aNodes s = some r) :
    Calls Try.prog 12 #[.agg #[.int .i64 aProps, .slice A1 (List.length aAccept) c2, .slice A5 (List.length aGuard) c6, .slice A9 (List.length aNodes) c10], .agg #[.int .u8 s.1, .int .u8 s.2]] w0 fun e w' => ∃ v, e = .returned v ∧ ∃ (A892 : Option Addr) (c893 : Nat) (A894 : Option Addr) (c895 : Nat) (A896 : Option Addr) (c897 : Nat), v = .tuple #[.agg #[.bool r.1.1, .slice A892 (List.length r.1.2.1) c893, .slice A894 (List.length r.1.2.2.1) c895, .slice A896 (List.length r.1.2.2.2) c897], .int .i64 r.2] ∧ Hp S Fa w0 w' [.row true (cInt .i64) 3 A892 c893 r.1.2.1, .row true (cInt .u8) 27 A894 c895 r.1.2.2.1, .row true (cSl (cInt .u8)) 35 A896 c897 r.1.2.2.2] := by
 refine enterV (n := 72) Try.func12 rfl rfl rfl ?_
 intro a E
 replace E := E.pick [(0, .agg #[.int .i64 aProps, .slice A1 (List.length aAccept) c2, .slice A5 (List.length aGuard) c6, .slice A9 (List.length aNodes) c10]), (1, .agg #[.int .u8 s.1, .int .u8 s.2])] ⟨rfl, rfl, trivial⟩
 rw [moore_Of] at hP
 refine wp_seq ?_
 refine wp_region_lit ?_
 refine h_box H E rfl rfl rfl ?_
 intro w14 g13 a hc15 hg17 H_ E_
 replace E := E_ _ rfl; clear E_
 replace H := H_; clear H_; try dsimp only [setn, addE, goneL] at H
 refine h_box H E rfl rfl rfl ?_
 intro w19 g18 a hc20 hg22 H_ E_
 replace E := E_ _ rfl; clear E_
 replace H := H_; clear H_; try dsimp only [setn, addE, goneL] at H
 refine h_alloc H E rfl rfl tbok rfl ?_
 intro w24 g23 a hc25 hg27 H_ E_
 replace E := E_ _ rfl; clear E_
 replace H := H_; clear H_; try dsimp only [setn, addE, goneL] at H
 refine vr tbok 1 [] [(2, .pointer (some ⟨g13, 0, none⟩)), (3, .pointer (some ⟨g18, 0, none⟩)), (4, .pointer (some ⟨g23, 0, none⟩))] [] E (by kernel_rfl) trivial ?_
 clear E; intro a E
 refine wpList_nil ?_
 refine th_n ?_
 refine wp_seq ?_
 refine wp_region_lit ?_
 refine vr tbok 2 [.agg #[.int .i64 aProps, .slice A1 (List.length aAccept) c2, .slice A5 (List.length aGuard) c6, .slice A9 (List.length aNodes) c10], .agg #[.int .u8 s.1, .int .u8 s.2]] [(2, .pointer (some ⟨g13, 0, none⟩)), (4, .pointer (some ⟨g23, 0, none⟩)), (12, .agg #[.int .i64 aProps, .slice A1 (List.length aAccept) c2, .slice A5 (List.length aGuard) c6, .slice A9 (List.length aNodes) c10]), (13, .agg #[.int .u8 s.1, .int .u8 s.2])] [cellsAt w24 g13 (0) [.int .i64 aProps, .slice A1 (List.length aAccept) c2, .slice A5 (List.length aGuard) c6, .slice A9 (List.length aNodes) c10], cellsAt w24 g18 (0) [.int .u8 s.1, .int .u8 s.2]] E (by kernel_rfl) ⟨(H.box 3 rfl).sub 0 _ rfl, (H.box 4 rfl).sub 0 _ rfl⟩ ?_
 clear E; intro a E
 obtain ⟨r28, h29, hP⟩ := bind_inv hP
 obtain ⟨Fa30, Hc31, hb32⟩ := H.callA [] [(0, false), (1, false), (2, false)] rfl rfl trivial
 refine e_call E rfl rfl Try.func31 rfl rfl rfl (moore_begun_calls A1 c2 A5 c6 A9 c10 aProps aAccept aGuard aNodes (s.1, s.2) hk3 hk7 hk11 Hc31 h29) ?_
 intro v38 w37 a hR39 E_
 rcases hR39 with ⟨x_, hr_, rfl, HR41⟩ | ⟨x_, b42, hr_, rfl, HR43⟩
 ·
  subst hr_; have hP := elim_l hP
  obtain ⟨x44, hxx_⟩ : ∃ y_, y_ = x_ := ⟨_, rfl⟩; subst hxx_
  replace E := E_ _ rfl; clear E_
  obtain ⟨H_, hc40⟩ := hb32 _ _ HR41
  replace H := H_; clear H_; try dsimp only [setn, addE, goneL] at H
  refine vr tbok 5 [] [(2, .pointer (some ⟨g13, 0, none⟩)), (4, .pointer (some ⟨g23, 0, none⟩)), (6, .pointer none), (7, .int .i64 x44)] [] E (by kernel_rfl) trivial ?_
  clear E; intro a E
  refine wpList_nil ?_
  refine th_n ?_
  refine wp_seq ?_
  refine wp_seq ?_
  refine wp_region_lit ?_
  refine vr tbok 2 [] [(2, .pointer (some ⟨g13, 0, none⟩)), (4, .pointer (some ⟨g23, 0, none⟩)), (6, .pointer none), (7, .int .i64 x44), (18, .bool ((x44 : Int) != 0))] [] E (by kernel_rfl) trivial ?_
  clear E; intro a E
  refine wpList_nil ?_
  refine th_n ?_
  refine E.cases (t := 18) rfl (fun hb_ E_ => ?_) (fun hb_ E_ => ?_)
  ·
   replace E := E_; clear E_
   have h46 : ¬ ((x44 : Int) = 0) := bne_iff_ne.1 hb_
   clear hb_; replace hP := ite_f h46 hP
   refine c_true E rfl ?_
   refine wp_seq ?_
   refine wp_region_lit ?_
   refine e_build (ps := []) (v := .agg #[.bool false, .slice none 0 0, .slice none 0 0, .slice none 0 0]) E rfl rfl tbok rfl (by kernel_rfl) rfl ?_
   clear E; intro a E
   refine vr tbok 1 [] [(4, .pointer (some ⟨g23, 0, none⟩)), (19, .agg #[.bool false, .slice none 0 0, .slice none 0 0, .slice none 0 0]), (20, .int .i64 x44)] [] E (by kernel_rfl) trivial ?_
   clear E; intro a E
   refine h_store (g := g23) (off := 0) H 5 rfl E rfl rfl rfl rfl tbok rfl rfl rfl rfl rfl ?_
   clear E; intro w47 a hc48 H_ E
   replace H := H_; clear H_; try dsimp only [setn, addE, goneL] at H
   refine vr tbok 1 [] [(4, .pointer (some ⟨g23, 0, none⟩)), (5, .int .i64 x44)] [] E (by kernel_rfl) trivial ?_
   clear E; intro a E
   refine wpList_nil ?_
   refine th_n ?_
   refine wp_ret ?_
   refine th_ret ?_
   replace H := H.nilrow (cInt .i64) 3; try dsimp only [setn, addE, goneL] at H
   replace H := H.nilrow (cInt .u8) 27; try dsimp only [setn, addE, goneL] at H
   replace H := H.nilrow (cSl (cInt .u8)) 35; try dsimp only [setn, addE, goneL] at H
   obtain rfl := Option.some.inj hP
   refine retV E [.cell 4 38, .tmp 5] [.agg #[.bool false, .slice none 0 0, .slice none 0 0, .slice none 0 0], .int .i64 x44] rfl ⟨⟨_, rfl, run_loadBx tbok (H.box 5 rfl) rfl rfl rfl 0 rfl rfl⟩, rfl, trivial⟩ (.inl rfl) ?_
   exact ⟨_, rfl, none, 0, none, 0, none, 0, rfl, H.sel [6, 7, 8] rfl⟩
  ·
   replace E := E_; clear E_
   have h52 : (x44 : Int) = 0 := bne_eq_false_iff_eq.1 hb_
   clear hb_; replace hP := ite_t h52 hP
   exact none_inv hP
   -- STOPPED: a nil pointer is handed on
 ·
  subst hr_; have hP := (elim_r hP)
  obtain ⟨x45, hxx_⟩ : ∃ y_, y_ = x_ := ⟨_, rfl⟩; subst hxx_
  replace E := E_ _ rfl; clear E_
  obtain ⟨H_, hc40⟩ := hb32 _ _ HR43
  replace H := H_; clear H_; try dsimp only [setn, addE, goneL] at H
  refine vr tbok 5 [] [(2, .pointer (some ⟨g13, 0, none⟩)), (4, .pointer (some ⟨g23, 0, none⟩)), (6, .pointer (some ⟨b42, 0, none⟩)), (7, .int .i64 x45.2)] [] E (by kernel_rfl) trivial ?_
  clear E; intro a E
  refine wpList_nil ?_
  refine th_n ?_
  refine wp_seq ?_
  refine wp_seq ?_
  refine wp_region_lit ?_
  refine vr tbok 2 [] [(2, .pointer (some ⟨g13, 0, none⟩)), (4, .pointer (some ⟨g23, 0, none⟩)), (6, .pointer (some ⟨b42, 0, none⟩)), (7, .int .i64 x45.2), (18, .bool ((x45.2 : Int) != 0))] [] E (by kernel_rfl) trivial ?_
  clear E; intro a E
  refine wpList_nil ?_
  refine th_n ?_
  refine E.cases (t := 18) rfl (fun hb_ E_ => ?_) (fun hb_ E_ => ?_)
  ·
   replace E := E_; clear E_
   have h54 : ¬ ((x45.2 : Int) = 0) := bne_iff_ne.1 hb_
   clear hb_; replace hP := ite_f h54 hP
   refine c_true E rfl ?_
   refine wp_seq ?_
   refine wp_region_lit ?_
   refine e_build (ps := []) (v := .agg #[.bool false, .slice none 0 0, .slice none 0 0, .slice none 0 0]) E rfl rfl tbok rfl (by kernel_rfl) rfl ?_
   clear E; intro a E
   refine vr tbok 1 [] [(4, .pointer (some ⟨g23, 0, none⟩)), (19, .agg #[.bool false, .slice none 0 0, .slice none 0 0, .slice none 0 0]), (20, .int .i64 x45.2)] [] E (by kernel_rfl) trivial ?_
   clear E; intro a E
   refine h_store (g := g23) (off := 0) H 5 rfl E rfl rfl rfl rfl tbok rfl rfl rfl rfl rfl ?_
   clear E; intro w55 a hc56 H_ E
   replace H := H_; clear H_; try dsimp only [setn, addE, goneL] at H
   refine vr tbok 1 [] [(4, .pointer (some ⟨g23, 0, none⟩)), (5, .int .i64 x45.2)] [] E (by kernel_rfl) trivial ?_
   clear E; intro a E
   refine wpList_nil ?_
   refine th_n ?_
   refine wp_ret ?_
   refine th_ret ?_
   replace H := H.nilrow (cInt .i64) 3; try dsimp only [setn, addE, goneL] at H
   replace H := H.nilrow (cInt .u8) 27; try dsimp only [setn, addE, goneL] at H
   replace H := H.nilrow (cSl (cInt .u8)) 35; try dsimp only [setn, addE, goneL] at H
   obtain rfl := Option.some.inj hP
   refine retV E [.cell 4 38, .tmp 5] [.agg #[.bool false, .slice none 0 0, .slice none 0 0, .slice none 0 0], .int .i64 x45.2] rfl ⟨⟨_, rfl, run_loadBx tbok (H.box 5 rfl) rfl rfl rfl 0 rfl rfl⟩, rfl, trivial⟩ (.inl rfl) ?_
   exact ⟨_, rfl, none, 0, none, 0, none, 0, rfl, H.sel [7, 8, 9] rfl⟩
  ·
   replace E := E_; clear E_
   have h60 : (x45.2 : Int) = 0 := bne_eq_false_iff_eq.1 hb_
   clear hb_; replace hP := ite_t h60 hP
   refine c_false E rfl ?_
   refine wp_skip ?_
   refine th_n ?_
   refine wp_seq ?_
   obtain ⟨r61, h62, hP⟩ := bind_inv hP
   obtain ⟨g73, hP⟩ := ask_inv hP
   refine meet_cut (fun a w100 => ∃ (g92 : Nat) (A94 : Option Addr) (c95 : Nat) (A97 : Option Addr) (A99 : Option Addr), Fr a 72 [(4, .pointer (some ⟨g23, 0, none⟩)), (6, .pointer (some ⟨b42, 0, none⟩)), (8, .pointer (some ⟨g92, 0, none⟩))] ∧ Hp S Fa w0 w100 [.box g23 38 [.bool false, .slice none 0 0, .slice none 0 0, .slice none 0 0], .ro false cS87 (some ⟨b42, 0, none⟩) ([x45.1]), .box g92 38 [.bool false, .slice A94 (List.length r61) c95, .slice A97 (List.length (List.replicate (Int.toNat (((List.length aAccept) : Nat) : Int)) (0 : Int))) (Int.toNat (((List.length aAccept) : Nat) : Int)), .slice A99 (List.length (List.replicate (Int.toNat (((List.length aAccept) : Nat) : Int)) ([] : List Int))) (Int.toNat (((List.length aAccept) : Nat) : Int))], .row true (cInt .i64) 3 A94 c95 r61, .rowx true (cInt .u8) 27 A97 (Int.toNat (((List.length aAccept) : Nat) : Int)) (List.replicate (Int.toNat (((List.length aAccept) : Nat) : Int)) (0 : Int)) (List.replicate (Int.toNat (((List.length aAccept) : Nat) : Int) - Int.toNat (((List.length aAccept) : Nat) : Int)) (0 : Int)), .rowx true (cSl (cInt .u8)) 35 A99 (Int.toNat (((List.length aAccept) : Nat) : Int)) (List.replicate (Int.toNat (((List.length aAccept) : Nat) : Int)) ([] : List Int)) (List.replicate (Int.toNat (((List.length aAccept) : Nat) : Int) - Int.toNat (((List.length aAccept) : Nat) : Int)) ([] : List Int))]) ?_ ?_
   ·
    have HR104 := H
    refine dr_start (S := fun w_ => Chg (atL []) w37 w_) (by kernel_rfl) ?_
    intro w101 hc102
    have HS103 : Chg (atL []) w37 w101 := hc102.mono (fun _ _ h_ => h_.elim)
    replace H := H.ext hc102
    refine dr tbok (by kernel_rfl) [0, 2, 3, 4, 6, 7, 8] [.slice A1 (List.length aAccept) c2, .slice A1 (List.length aAccept) c2] [(4, .pointer (some ⟨g23, 0, none⟩)), (6, .pointer (some ⟨b42, 0, none⟩)), (21, .pointer (some ⟨b42, 0, none⟩)), (25, .int .i64 (((List.length aAccept) : Nat) : Int)), (29, .int .i64 (((List.length aAccept) : Nat) : Int))] (fun w_ => [World.cell? w_ ⟨g13, 1, none⟩ = some (.slice A1 (List.length aAccept) c2), World.cell? w_ ⟨g13, 1, none⟩ = some (.slice A1 (List.length aAccept) c2)]) 6 E (fun _ _ => by kernel_rfl) (fun w_ hS_ => ⟨(HR104.boxk [] hS_ 3 rfl rfl).cell (j := 1) rfl, (HR104.boxk [] hS_ 3 rfl rfl).cell (j := 1) rfl⟩) (by kernel_rfl) HS103 ?_
    clear E; intro a E
    refine wpAnyH_all (rs := [1, 5, 9, 11]) (by kernel_rfl) (by simp) ?_
    refine all4 ?_ ?_ ?_ ?_
    ·
     refine wpOp_of_list rfl ?_
     obtain ⟨Fa105, Hc106, hb107⟩ := H.call [] [(6, false)] rfl rfl trivial
     refine e_call E rfl rfl Try.func32 rfl rfl rfl (moore_game_ranks_calls b42 0 x45.1  Hc106 h62) ?_
     rintro v108 w109 a ⟨A112, c113, rfl, HR110⟩ E_
     replace E := E_ _ rfl; clear E_
     obtain ⟨H_, hc111⟩ := hb107 _ _ HR110 rfl
     replace HS103 := HS103.ext (callS_ext hc111)
     replace H := H_; clear H_; try dsimp only [setn, addE, goneL] at H
     refine wpList_nil ?_
     refine th_n ⟨HS103, ?_⟩
     refine wpAnyH_all (rs := [5, 9, 11]) (by kernel_rfl) (by simp) ?_
     refine all3 ?_ ?_ ?_
     ·
      refine wpOp_of_list rfl ?_
      refine h_make (cInt .u8) (0 : Int) H E rfl rfl tbok rfl rfl rfl rfl ⟨g73.1, Int.le_refl _, g73.2⟩ rfl rfl rfl (fun _ _ => rfl) ?_
      intro w116 g115 a hc117 hg119 H_ E_
      replace E := E_ _ rfl; clear E_
      have hin120 : ∀ q_, q_ < w37.heap.size → At (some ⟨g115, 0, none⟩) q_ → (atL []) q_ := fun q_ h1_ h2_ => by have hs_ := HS103.size; have h4_ : q_ = g115 := At.of_g h2_; exfalso; omega
      replace HS103 := HS103.ext hc117
      replace H := H_; clear H_; try dsimp only [setn, addE, goneL] at H
      refine wpList_nil ?_
      refine th_n ⟨HS103, ?_⟩
      refine wpAnyH_all (rs := [9, 11]) (by kernel_rfl) (by simp) ?_
      refine all2 ?_ ?_
      ·
       refine wpOp_of_list rfl ?_
       refine h_make (cSl (cInt .u8)) ([] : List Int) H E rfl rfl tbok rfl rfl rfl rfl ⟨g73.1, Int.le_refl _, g73.2⟩ rfl rfl rfl (fun _ _ => kSl_nil) ?_
       intro w122 g121 a hc123 hg125 H_ E_
       replace E := E_ _ rfl; clear E_
       have hin126 : ∀ q_, q_ < w37.heap.size → At (some ⟨g121, 0, none⟩) q_ → (atL []) q_ := fun q_ h1_ h2_ => by have hs_ := HS103.size; have h4_ : q_ = g121 := At.of_g h2_; exfalso; omega
       replace HS103 := HS103.ext hc123
       replace H := H_; clear H_; try dsimp only [setn, addE, goneL] at H
       refine wpList_nil ?_
       refine th_n ⟨HS103, ?_⟩
       refine wpAnyH_all (rs := [10, 11]) (by kernel_rfl) (by simp) ?_
       refine all2 ?_ ?_
       ·
        refine wpOp_of_list rfl ?_
        refine e_build (ps := [(1, .slice A112 (List.length r61) c113), (2, .slice (some ⟨g115, 0, none⟩) (List.length (List.replicate (Int.toNat (((List.length aAccept) : Nat) : Int)) (0 : Int))) (Int.toNat (((List.length aAccept) : Nat) : Int))), (3, .slice (some ⟨g121, 0, none⟩) (List.length (List.replicate (Int.toNat (((List.length aAccept) : Nat) : Int)) ([] : List Int))) (Int.toNat (((List.length aAccept) : Nat) : Int)))]) (v := .agg #[.bool false, .slice A112 (List.length r61) c113, .slice (some ⟨g115, 0, none⟩) (List.length (List.replicate (Int.toNat (((List.length aAccept) : Nat) : Int)) (0 : Int))) (Int.toNat (((List.length aAccept) : Nat) : Int)), .slice (some ⟨g121, 0, none⟩) (List.length (List.replicate (Int.toNat (((List.length aAccept) : Nat) : Int)) ([] : List Int))) (Int.toNat (((List.length aAccept) : Nat) : Int))]) E rfl rfl tbok rfl (by kernel_rfl) rfl ?_
        clear E; intro a E
        refine wpList_nil ?_
        refine th_n ⟨HS103, ?_⟩
        refine wpAnyH_all (rs := [11]) (by kernel_rfl) (by simp) ?_
        refine all1 ?_
        ·
         refine wpOp_of_list rfl ?_
         refine h_alloc H E rfl rfl tbok rfl ?_
         intro w128 g127 a hc129 hg131 H_ E_
         replace E := E_ _ rfl; clear E_
         have hin132 : ∀ q_, q_ < w37.heap.size → q_ = g127 → (atL []) q_ := fun q_ h1_ h2_ => by have hs_ := HS103.size; have h4_ : q_ = g127 := h2_; exfalso; omega
         replace HS103 := HS103.ext hc129
         replace H := H_; clear H_; try dsimp only [setn, addE, goneL] at H
         refine wpList_nil ?_
         refine th_n ⟨HS103, ?_⟩
         refine wpAnyH_all (rs := [12]) (by kernel_rfl) (by simp) ?_
         refine all1 ?_
         ·
          refine wpOp_of_list rfl ?_
          refine h_store (g := g127) (off := 0) H 10 rfl E rfl rfl rfl rfl tbok rfl rfl rfl rfl rfl ?_
          clear E; intro w133 a hc134 H_ E
          replace HS103 := HS103.trans hc134 (fun k_ hk_ h_ => hin132 k_ hk_ h_)
          replace H := H_; clear H_; try dsimp only [setn, addE, goneL] at H
          refine wpList_nil ?_
          refine th_n ⟨HS103, ?_⟩
          refine dr_done (by kernel_rfl) ?_
          exact .inl ⟨rfl, g127, A112, c113, (some ⟨g115, 0, none⟩), (some ⟨g121, 0, none⟩), E.pick _ ⟨rfl, rfl, rfl, trivial⟩, H.sel [5, 6, 10, 7, 8, 9] rfl⟩
       ·
        refine wpOp_of_list rfl ?_
        refine h_alloc H E rfl rfl tbok rfl ?_
        intro w136 g135 a hc137 hg139 H_ E_
        replace E := E_ _ rfl; clear E_
        have hin140 : ∀ q_, q_ < w37.heap.size → q_ = g135 → (atL []) q_ := fun q_ h1_ h2_ => by have hs_ := HS103.size; have h4_ : q_ = g135 := h2_; exfalso; omega
        replace HS103 := HS103.ext hc137
        replace H := H_; clear H_; try dsimp only [setn, addE, goneL] at H
        refine wpList_nil ?_
        refine th_n ⟨HS103, ?_⟩
        refine wpAnyH_all (rs := [10]) (by kernel_rfl) (by simp) ?_
        refine all1 ?_
        ·
         refine wpOp_of_list rfl ?_
         refine e_build (ps := [(1, .slice A112 (List.length r61) c113), (2, .slice (some ⟨g115, 0, none⟩) (List.length (List.replicate (Int.toNat (((List.length aAccept) : Nat) : Int)) (0 : Int))) (Int.toNat (((List.length aAccept) : Nat) : Int))), (3, .slice (some ⟨g121, 0, none⟩) (List.length (List.replicate (Int.toNat (((List.length aAccept) : Nat) : Int)) ([] : List Int))) (Int.toNat (((List.length aAccept) : Nat) : Int)))]) (v := .agg #[.bool false, .slice A112 (List.length r61) c113, .slice (some ⟨g115, 0, none⟩) (List.length (List.replicate (Int.toNat (((List.length aAccept) : Nat) : Int)) (0 : Int))) (Int.toNat (((List.length aAccept) : Nat) : Int)), .slice (some ⟨g121, 0, none⟩) (List.length (List.replicate (Int.toNat (((List.length aAccept) : Nat) : Int)) ([] : List Int))) (Int.toNat (((List.length aAccept) : Nat) : Int))]) E rfl rfl tbok rfl (by kernel_rfl) rfl ?_
         clear E; intro a E
         refine wpList_nil ?_
         refine th_n ⟨HS103, ?_⟩
         refine wpAnyH_all (rs := [12]) (by kernel_rfl) (by simp) ?_
         refine all1 ?_
         ·
          refine wpOp_of_list rfl ?_
          refine h_store (g := g135) (off := 0) H 10 rfl E rfl rfl rfl rfl tbok rfl rfl rfl rfl rfl ?_
          clear E; intro w141 a hc142 H_ E
          replace HS103 := HS103.trans hc142 (fun k_ hk_ h_ => hin140 k_ hk_ h_)
          replace H := H_; clear H_; try dsimp only [setn, addE, goneL] at H
          refine wpList_nil ?_
          refine th_n ⟨HS103, ?_⟩
          refine dr_done (by kernel_rfl) ?_
          exact .inl ⟨rfl, g135, A112, c113, (some ⟨g115, 0, none⟩), (some ⟨g121, 0, none⟩), E.pick _ ⟨rfl, rfl, rfl, trivial⟩, H.sel [5, 6, 10, 7, 8, 9] rfl⟩
      ·
       refine wpOp_of_list rfl ?_
       refine h_alloc H E rfl rfl tbok rfl ?_
       intro w144 g143 a hc145 hg147 H_ E_
       replace E := E_ _ rfl; clear E_
       have hin148 : ∀ q_, q_ < w37.heap.size → q_ = g143 → (atL []) q_ := fun q_ h1_ h2_ => by have hs_ := HS103.size; have h4_ : q_ = g143 := h2_; exfalso; omega
       replace HS103 := HS103.ext hc145
       replace H := H_; clear H_; try dsimp only [setn, addE, goneL] at H
       refine wpList_nil ?_
       refine th_n ⟨HS103, ?_⟩
       refine wpAnyH_all (rs := [9]) (by kernel_rfl) (by simp) ?_
       refine all1 ?_
       ·
        refine wpOp_of_list rfl ?_
        refine h_make (cSl (cInt .u8)) ([] : List Int) H E rfl rfl tbok rfl rfl rfl rfl ⟨g73.1, Int.le_refl _, g73.2⟩ rfl rfl rfl (fun _ _ => kSl_nil) ?_
        intro w150 g149 a hc151 hg153 H_ E_
        replace E := E_ _ rfl; clear E_
        have hin154 : ∀ q_, q_ < w37.heap.size → At (some ⟨g149, 0, none⟩) q_ → (atL []) q_ := fun q_ h1_ h2_ => by have hs_ := HS103.size; have h4_ : q_ = g149 := At.of_g h2_; exfalso; omega
        replace HS103 := HS103.ext hc151
        replace H := H_; clear H_; try dsimp only [setn, addE, goneL] at H
        refine wpList_nil ?_
        refine th_n ⟨HS103, ?_⟩
        refine wpAnyH_all (rs := [10]) (by kernel_rfl) (by simp) ?_
        refine all1 ?_
        ·
         refine wpOp_of_list rfl ?_
         refine e_build (ps := [(1, .slice A112 (List.length r61) c113), (2, .slice (some ⟨g115, 0, none⟩) (List.length (List.replicate (Int.toNat (((List.length aAccept) : Nat) : Int)) (0 : Int))) (Int.toNat (((List.length aAccept) : Nat) : Int))), (3, .slice (some ⟨g149, 0, none⟩) (List.length (List.replicate (Int.toNat (((List.length aAccept) : Nat) : Int)) ([] : List Int))) (Int.toNat (((List.length aAccept) : Nat) : Int)))]) (v := .agg #[.bool false, .slice A112 (List.length r61) c113, .slice (some ⟨g115, 0, none⟩) (List.length (List.replicate (Int.toNat (((List.length aAccept) : Nat) : Int)) (0 : Int))) (Int.toNat (((List.length aAccept) : Nat) : Int)), .slice (some ⟨g149, 0, none⟩) (List.length (List.replicate (Int.toNat (((List.length aAccept) : Nat) : Int)) ([] : List Int))) (Int.toNat (((List.length aAccept) : Nat) : Int))]) E rfl rfl tbok rfl (by kernel_rfl) rfl ?_
         clear E; intro a E
         refine wpList_nil ?_
         refine th_n ⟨HS103, ?_⟩
         refine wpAnyH_all (rs := [12]) (by kernel_rfl) (by simp) ?_
         refine all1 ?_
         ·
          refine wpOp_of_list rfl ?_
          refine h_store (g := g143) (off := 0) H 9 rfl E rfl rfl rfl rfl tbok rfl rfl rfl rfl rfl ?_
          clear E; intro w155 a hc156 H_ E
          replace HS103 := HS103.trans hc156 (fun k_ hk_ h_ => hin148 k_ hk_ h_)
          replace H := H_; clear H_; try dsimp only [setn, addE, goneL] at H
          refine wpList_nil ?_
          refine th_n ⟨HS103, ?_⟩
          refine dr_done (by kernel_rfl) ?_
          exact .inl ⟨rfl, g143, A112, c113, (some ⟨g115, 0, none⟩), (some ⟨g149, 0, none⟩), E.pick _ ⟨rfl, rfl, rfl, trivial⟩, H.sel [5, 6, 9, 7, 8, 10] rfl⟩
     ·
      refine wpOp_of_list rfl ?_
      refine h_make (cSl (cInt .u8)) ([] : List Int) H E rfl rfl tbok rfl rfl rfl rfl ⟨g73.1, Int.le_refl _, g73.2⟩ rfl rfl rfl (fun _ _ => kSl_nil) ?_
      intro w158 g157 a hc159 hg161 H_ E_
      replace E := E_ _ rfl; clear E_
      have hin162 : ∀ q_, q_ < w37.heap.size → At (some ⟨g157, 0, none⟩) q_ → (atL []) q_ := fun q_ h1_ h2_ => by have hs_ := HS103.size; have h4_ : q_ = g157 := At.of_g h2_; exfalso; omega
      replace HS103 := HS103.ext hc159
      replace H := H_; clear H_; try dsimp only [setn, addE, goneL] at H
      refine wpList_nil ?_
      refine th_n ⟨HS103, ?_⟩
      refine wpAnyH_all (rs := [5, 11]) (by kernel_rfl) (by simp) ?_
      refine all2 ?_ ?_
      ·
       refine wpOp_of_list rfl ?_
       refine h_make (cInt .u8) (0 : Int) H E rfl rfl tbok rfl rfl rfl rfl ⟨g73.1, Int.le_refl _, g73.2⟩ rfl rfl rfl (fun _ _ => rfl) ?_
       intro w164 g163 a hc165 hg167 H_ E_
       replace E := E_ _ rfl; clear E_
       have hin168 : ∀ q_, q_ < w37.heap.size → At (some ⟨g163, 0, none⟩) q_ → (atL []) q_ := fun q_ h1_ h2_ => by have hs_ := HS103.size; have h4_ : q_ = g163 := At.of_g h2_; exfalso; omega
       replace HS103 := HS103.ext hc165
       replace H := H_; clear H_; try dsimp only [setn, addE, goneL] at H
       refine wpList_nil ?_
       refine th_n ⟨HS103, ?_⟩
       refine wpAnyH_all (rs := [10, 11]) (by kernel_rfl) (by simp) ?_
       refine all2 ?_ ?_
       ·
        refine wpOp_of_list rfl ?_
        refine e_build (ps := [(1, .slice A112 (List.length r61) c113), (2, .slice (some ⟨g163, 0, none⟩) (List.length (List.replicate (Int.toNat (((List.length aAccept) : Nat) : Int)) (0 : Int))) (Int.toNat (((List.length aAccept) : Nat) : Int))), (3, .slice (some ⟨g157, 0, none⟩) (List.length (List.replicate (Int.toNat (((List.length aAccept) : Nat) : Int)) ([] : List Int))) (Int.toNat (((List.length aAccept) : Nat) : Int)))]) (v := .agg #[.bool false, .slice A112 (List.length r61) c113, .slice (some ⟨g163, 0, none⟩) (List.length (List.replicate (Int.toNat (((List.length aAccept) : Nat) : Int)) (0 : Int))) (Int.toNat (((List.length aAccept) : Nat) : Int)), .slice (some ⟨g157, 0, none⟩) (List.length (List.replicate (Int.toNat (((List.length aAccept) : Nat) : Int)) ([] : List Int))) (Int.toNat (((List.length aAccept) : Nat) : Int))]) E rfl rfl tbok rfl (by kernel_rfl) rfl ?_
        clear E; intro a E
        refine wpList_nil ?_
        refine th_n ⟨HS103, ?_⟩
        refine wpAnyH_all (rs := [11]) (by kernel_rfl) (by simp) ?_
        refine all1 ?_
        ·
         refine wpOp_of_list rfl ?_
         refine h_alloc H E rfl rfl tbok rfl ?_
         intro w170 g169 a hc171 hg173 H_ E_
         replace E := E_ _ rfl; clear E_
         have hin174 : ∀ q_, q_ < w37.heap.size → q_ = g169 → (atL []) q_ := fun q_ h1_ h2_ => by have hs_ := HS103.size; have h4_ : q_ = g169 := h2_; exfalso; omega
         replace HS103 := HS103.ext hc171
         replace H := H_; clear H_; try dsimp only [setn, addE, goneL] at H
         refine wpList_nil ?_
         refine th_n ⟨HS103, ?_⟩
         refine wpAnyH_all (rs := [12]) (by kernel_rfl) (by simp) ?_
         refine all1 ?_
         ·
          refine wpOp_of_list rfl ?_
          refine h_store (g := g169) (off := 0) H 10 rfl E rfl rfl rfl rfl tbok rfl rfl rfl rfl rfl ?_
          clear E; intro w175 a hc176 H_ E
          replace HS103 := HS103.trans hc176 (fun k_ hk_ h_ => hin174 k_ hk_ h_)
          replace H := H_; clear H_; try dsimp only [setn, addE, goneL] at H
          refine wpList_nil ?_
          refine th_n ⟨HS103, ?_⟩
          refine dr_done (by kernel_rfl) ?_
          exact .inl ⟨rfl, g169, A112, c113, (some ⟨g163, 0, none⟩), (some ⟨g157, 0, none⟩), E.pick _ ⟨rfl, rfl, rfl, trivial⟩, H.sel [5, 6, 10, 7, 9, 8] rfl⟩
       ·
        refine wpOp_of_list rfl ?_
        refine h_alloc H E rfl rfl tbok rfl ?_
        intro w178 g177 a hc179 hg181 H_ E_
        replace E := E_ _ rfl; clear E_
        have hin182 : ∀ q_, q_ < w37.heap.size → q_ = g177 → (atL []) q_ := fun q_ h1_ h2_ => by have hs_ := HS103.size; have h4_ : q_ = g177 := h2_; exfalso; omega
        replace HS103 := HS103.ext hc179
        replace H := H_; clear H_; try dsimp only [setn, addE, goneL] at H
        refine wpList_nil ?_
        refine th_n ⟨HS103, ?_⟩
        refine wpAnyH_all (rs := [10]) (by kernel_rfl) (by simp) ?_
        refine all1 ?_
        ·
         refine wpOp_of_list rfl ?_
         refine e_build (ps := [(1, .slice A112 (List.length r61) c113), (2, .slice (some ⟨g163, 0, none⟩) (List.length (List.replicate (Int.toNat (((List.length aAccept) : Nat) : Int)) (0 : Int))) (Int.toNat (((List.length aAccept) : Nat) : Int))), (3, .slice (some ⟨g157, 0, none⟩) (List.length (List.replicate (Int.toNat (((List.length aAccept) : Nat) : Int)) ([] : List Int))) (Int.toNat (((List.length aAccept) : Nat) : Int)))]) (v := .agg #[.bool false, .slice A112 (List.length r61) c113, .slice (some ⟨g163, 0, none⟩) (List.length (List.replicate (Int.toNat (((List.length aAccept) : Nat) : Int)) (0 : Int))) (Int.toNat (((List.length aAccept) : Nat) : Int)), .slice (some ⟨g157, 0, none⟩) (List.length (List.replicate (Int.toNat (((List.length aAccept) : Nat) : Int)) ([] : List Int))) (Int.toNat (((List.length aAccept) : Nat) : Int))]) E rfl rfl tbok rfl (by kernel_rfl) rfl ?_
         clear E; intro a E
         refine wpList_nil ?_
         refine th_n ⟨HS103, ?_⟩
         refine wpAnyH_all (rs := [12]) (by kernel_rfl) (by simp) ?_
         refine all1 ?_
         ·
          refine wpOp_of_list rfl ?_
          refine h_store (g := g177) (off := 0) H 10 rfl E rfl rfl rfl rfl tbok rfl rfl rfl rfl rfl ?_
          clear E; intro w183 a hc184 H_ E
          replace HS103 := HS103.trans hc184 (fun k_ hk_ h_ => hin182 k_ hk_ h_)
          replace H := H_; clear H_; try dsimp only [setn, addE, goneL] at H
          refine wpList_nil ?_
          refine th_n ⟨HS103, ?_⟩
          refine dr_done (by kernel_rfl) ?_
          exact .inl ⟨rfl, g177, A112, c113, (some ⟨g163, 0, none⟩), (some ⟨g157, 0, none⟩), E.pick _ ⟨rfl, rfl, rfl, trivial⟩, H.sel [5, 6, 10, 7, 9, 8] rfl⟩
      ·
       refine wpOp_of_list rfl ?_
       refine h_alloc H E rfl rfl tbok rfl ?_
       intro w186 g185 a hc187 hg189 H_ E_
       replace E := E_ _ rfl; clear E_
       have hin190 : ∀ q_, q_ < w37.heap.size → q_ = g185 → (atL []) q_ := fun q_ h1_ h2_ => by have hs_ := HS103.size; have h4_ : q_ = g185 := h2_; exfalso; omega
       replace HS103 := HS103.ext hc187
       replace H := H_; clear H_; try dsimp only [setn, addE, goneL] at H
       refine wpList_nil ?_
       refine th_n ⟨HS103, ?_⟩
       refine wpAnyH_all (rs := [5]) (by kernel_rfl) (by simp) ?_
       refine all1 ?_
       ·
        refine wpOp_of_list rfl ?_
        refine h_make (cInt .u8) (0 : Int) H E rfl rfl tbok rfl rfl rfl rfl ⟨g73.1, Int.le_refl _, g73.2⟩ rfl rfl rfl (fun _ _ => rfl) ?_
        intro w192 g191 a hc193 hg195 H_ E_
        replace E := E_ _ rfl; clear E_
        have hin196 : ∀ q_, q_ < w37.heap.size → At (some ⟨g191, 0, none⟩) q_ → (atL []) q_ := fun q_ h1_ h2_ => by have hs_ := HS103.size; have h4_ : q_ = g191 := At.of_g h2_; exfalso; omega
        replace HS103 := HS103.ext hc193
        replace H := H_; clear H_; try dsimp only [setn, addE, goneL] at H
        refine wpList_nil ?_
        refine th_n ⟨HS103, ?_⟩
        refine wpAnyH_all (rs := [10]) (by kernel_rfl) (by simp) ?_
        refine all1 ?_
        ·
         refine wpOp_of_list rfl ?_
         refine e_build (ps := [(1, .slice A112 (List.length r61) c113), (2, .slice (some ⟨g191, 0, none⟩) (List.length (List.replicate (Int.toNat (((List.length aAccept) : Nat) : Int)) (0 : Int))) (Int.toNat (((List.length aAccept) : Nat) : Int))), (3, .slice (some ⟨g157, 0, none⟩) (List.length (List.replicate (Int.toNat (((List.length aAccept) : Nat) : Int)) ([] : List Int))) (Int.toNat (((List.length aAccept) : Nat) : Int)))]) (v := .agg #[.bool false, .slice A112 (List.length r61) c113, .slice (some ⟨g191, 0, none⟩) (List.length (List.replicate (Int.toNat (((List.length aAccept) : Nat) : Int)) (0 : Int))) (Int.toNat (((List.length aAccept) : Nat) : Int)), .slice (some ⟨g157, 0, none⟩) (List.length (List.replicate (Int.toNat (((List.length aAccept) : Nat) : Int)) ([] : List Int))) (Int.toNat (((List.length aAccept) : Nat) : Int))]) E rfl rfl tbok rfl (by kernel_rfl) rfl ?_
         clear E; intro a E
         refine wpList_nil ?_
         refine th_n ⟨HS103, ?_⟩
         refine wpAnyH_all (rs := [12]) (by kernel_rfl) (by simp) ?_
         refine all1 ?_
         ·
          refine wpOp_of_list rfl ?_
          refine h_store (g := g185) (off := 0) H 9 rfl E rfl rfl rfl rfl tbok rfl rfl rfl rfl rfl ?_
          clear E; intro w197 a hc198 H_ E
          replace HS103 := HS103.trans hc198 (fun k_ hk_ h_ => hin190 k_ hk_ h_)
          replace H := H_; clear H_; try dsimp only [setn, addE, goneL] at H
          refine wpList_nil ?_
          refine th_n ⟨HS103, ?_⟩
          refine dr_done (by kernel_rfl) ?_
          exact .inl ⟨rfl, g185, A112, c113, (some ⟨g191, 0, none⟩), (some ⟨g157, 0, none⟩), E.pick _ ⟨rfl, rfl, rfl, trivial⟩, H.sel [5, 6, 9, 7, 10, 8] rfl⟩
     ·
      refine wpOp_of_list rfl ?_
      refine h_alloc H E rfl rfl tbok rfl ?_
      intro w200 g199 a hc201 hg203 H_ E_
      replace E := E_ _ rfl; clear E_
      have hin204 : ∀ q_, q_ < w37.heap.size → q_ = g199 → (atL []) q_ := fun q_ h1_ h2_ => by have hs_ := HS103.size; have h4_ : q_ = g199 := h2_; exfalso; omega
      replace HS103 := HS103.ext hc201
      replace H := H_; clear H_; try dsimp only [setn, addE, goneL] at H
      refine wpList_nil ?_
      refine th_n ⟨HS103, ?_⟩
      refine wpAnyH_all (rs := [5, 9]) (by kernel_rfl) (by simp) ?_
      refine all2 ?_ ?_
      ·
       refine wpOp_of_list rfl ?_
       refine h_make (cInt .u8) (0 : Int) H E rfl rfl tbok rfl rfl rfl rfl ⟨g73.1, Int.le_refl _, g73.2⟩ rfl rfl rfl (fun _ _ => rfl) ?_
       intro w206 g205 a hc207 hg209 H_ E_
       replace E := E_ _ rfl; clear E_
       have hin210 : ∀ q_, q_ < w37.heap.size → At (some ⟨g205, 0, none⟩) q_ → (atL []) q_ := fun q_ h1_ h2_ => by have hs_ := HS103.size; have h4_ : q_ = g205 := At.of_g h2_; exfalso; omega
       replace HS103 := HS103.ext hc207
       replace H := H_; clear H_; try dsimp only [setn, addE, goneL] at H
       refine wpList_nil ?_
       refine th_n ⟨HS103, ?_⟩
       refine wpAnyH_all (rs := [9]) (by kernel_rfl) (by simp) ?_
       refine all1 ?_
       ·
        refine wpOp_of_list rfl ?_
        refine h_make (cSl (cInt .u8)) ([] : List Int) H E rfl rfl tbok rfl rfl rfl rfl ⟨g73.1, Int.le_refl _, g73.2⟩ rfl rfl rfl (fun _ _ => kSl_nil) ?_
        intro w212 g211 a hc213 hg215 H_ E_
        replace E := E_ _ rfl; clear E_
        have hin216 : ∀ q_, q_ < w37.heap.size → At (some ⟨g211, 0, none⟩) q_ → (atL []) q_ := fun q_ h1_ h2_ => by have hs_ := HS103.size; have h4_ : q_ = g211 := At.of_g h2_; exfalso; omega
        replace HS103 := HS103.ext hc213
        replace H := H_; clear H_; try dsimp only [setn, addE, goneL] at H
        refine wpList_nil ?_
        refine th_n ⟨HS103, ?_⟩
        refine wpAnyH_all (rs := [10]) (by kernel_rfl) (by simp) ?_
        refine all1 ?_
        ·
         refine wpOp_of_list rfl ?_
         refine e_build (ps := [(1, .slice A112 (List.length r61) c113), (2, .slice (some ⟨g205, 0, none⟩) (List.length (List.replicate (Int.toNat (((List.length aAccept) : Nat) : Int)) (0 : Int))) (Int.toNat (((List.length aAccept) : Nat) : Int))), (3, .slice (some ⟨g211, 0, none⟩) (List.length (List.replicate (Int.toNat (((List.length aAccept) : Nat) : Int)) ([] : List Int))) (Int.toNat (((List.length aAccept) : Nat) : Int)))]) (v := .agg #[.bool false, .slice A112 (List.length r61) c113, .slice (some ⟨g205, 0, none⟩) (List.length (List.replicate (Int.toNat (((List.length aAccept) : Nat) : Int)) (0 : Int))) (Int.toNat (((List.length aAccept) : Nat) : Int)), .slice (some ⟨g211, 0, none⟩) (List.length (List.replicate (Int.toNat (((List.length aAccept) : Nat) : Int)) ([] : List Int))) (Int.toNat (((List.length aAccept) : Nat) : Int))]) E rfl rfl tbok rfl (by kernel_rfl) rfl ?_
         clear E; intro a E
         refine wpList_nil ?_
         refine th_n ⟨HS103, ?_⟩
         refine wpAnyH_all (rs := [12]) (by kernel_rfl) (by simp) ?_
         refine all1 ?_
         ·
          refine wpOp_of_list rfl ?_
          refine h_store (g := g199) (off := 0) H 8 rfl E rfl rfl rfl rfl tbok rfl rfl rfl rfl rfl ?_
          clear E; intro w217 a hc218 H_ E
          replace HS103 := HS103.trans hc218 (fun k_ hk_ h_ => hin204 k_ hk_ h_)
          replace H := H_; clear H_; try dsimp only [setn, addE, goneL] at H
          refine wpList_nil ?_
          refine th_n ⟨HS103, ?_⟩
          refine dr_done (by kernel_rfl) ?_
          exact .inl ⟨rfl, g199, A112, c113, (some ⟨g205, 0, none⟩), (some ⟨g211, 0, none⟩), E.pick _ ⟨rfl, rfl, rfl, trivial⟩, H.sel [5, 6, 8, 7, 9, 10] rfl⟩
      ·
       refine wpOp_of_list rfl ?_
       refine h_make (cSl (cInt .u8)) ([] : List Int) H E rfl rfl tbok rfl rfl rfl rfl ⟨g73.1, Int.le_refl _, g73.2⟩ rfl rfl rfl (fun _ _ => kSl_nil) ?_
       intro w220 g219 a hc221 hg223 H_ E_
       replace E := E_ _ rfl; clear E_
       have hin224 : ∀ q_, q_ < w37.heap.size → At (some ⟨g219, 0, none⟩) q_ → (atL []) q_ := fun q_ h1_ h2_ => by have hs_ := HS103.size; have h4_ : q_ = g219 := At.of_g h2_; exfalso; omega
       replace HS103 := HS103.ext hc221
       replace H := H_; clear H_; try dsimp only [setn, addE, goneL] at H
       refine wpList_nil ?_
       refine th_n ⟨HS103, ?_⟩
       refine wpAnyH_all (rs := [5]) (by kernel_rfl) (by simp) ?_
       refine all1 ?_
       ·
        refine wpOp_of_list rfl ?_
        refine h_make (cInt .u8) (0 : Int) H E rfl rfl tbok rfl rfl rfl rfl ⟨g73.1, Int.le_refl _, g73.2⟩ rfl rfl rfl (fun _ _ => rfl) ?_
        intro w226 g225 a hc227 hg229 H_ E_
        replace E := E_ _ rfl; clear E_
        have hin230 : ∀ q_, q_ < w37.heap.size → At (some ⟨g225, 0, none⟩) q_ → (atL []) q_ := fun q_ h1_ h2_ => by have hs_ := HS103.size; have h4_ : q_ = g225 := At.of_g h2_; exfalso; omega
        replace HS103 := HS103.ext hc227
        replace H := H_; clear H_; try dsimp only [setn, addE, goneL] at H
        refine wpList_nil ?_
        refine th_n ⟨HS103, ?_⟩
        refine wpAnyH_all (rs := [10]) (by kernel_rfl) (by simp) ?_
        refine all1 ?_
        ·
         refine wpOp_of_list rfl ?_
         refine e_build (ps := [(1, .slice A112 (List.length r61) c113), (2, .slice (some ⟨g225, 0, none⟩) (List.length (List.replicate (Int.toNat (((List.length aAccept) : Nat) : Int)) (0 : Int))) (Int.toNat (((List.length aAccept) : Nat) : Int))), (3, .slice (some ⟨g219, 0, none⟩) (List.length (List.replicate (Int.toNat (((List.length aAccept) : Nat) : Int)) ([] : List Int))) (Int.toNat (((List.length aAccept) : Nat) : Int)))]) (v := .agg #[.bool false, .slice A112 (List.length r61) c113, .slice (some ⟨g225, 0, none⟩) (List.length (List.replicate (Int.toNat (((List.length aAccept) : Nat) : Int)) (0 : Int))) (Int.toNat (((List.length aAccept) : Nat) : Int)), .slice (some ⟨g219, 0, none⟩) (List.length (List.replicate (Int.toNat (((List.length aAccept) : Nat) : Int)) ([] : List Int))) (Int.toNat (((List.length aAccept) : Nat) : Int))]) E rfl rfl tbok rfl (by kernel_rfl) rfl ?_
         clear E; intro a E
         refine wpList_nil ?_
         refine th_n ⟨HS103, ?_⟩
         refine wpAnyH_all (rs := [12]) (by kernel_rfl) (by simp) ?_
         refine all1 ?_
         ·
          refine wpOp_of_list rfl ?_
          refine h_store (g := g199) (off := 0) H 8 rfl E rfl rfl rfl rfl tbok rfl rfl rfl rfl rfl ?_
          clear E; intro w231 a hc232 H_ E
          replace HS103 := HS103.trans hc232 (fun k_ hk_ h_ => hin204 k_ hk_ h_)
          replace H := H_; clear H_; try dsimp only [setn, addE, goneL] at H
          refine wpList_nil ?_
          refine th_n ⟨HS103, ?_⟩
          refine dr_done (by kernel_rfl) ?_
          exact .inl ⟨rfl, g199, A112, c113, (some ⟨g225, 0, none⟩), (some ⟨g219, 0, none⟩), E.pick _ ⟨rfl, rfl, rfl, trivial⟩, H.sel [5, 6, 8, 7, 10, 9] rfl⟩
    ·
     refine wpOp_of_list rfl ?_
     refine h_make (cInt .u8) (0 : Int) H E rfl rfl tbok rfl rfl rfl rfl ⟨g73.1, Int.le_refl _, g73.2⟩ rfl rfl rfl (fun _ _ => rfl) ?_
     intro w234 g233 a hc235 hg237 H_ E_
     replace E := E_ _ rfl; clear E_
     have hin238 : ∀ q_, q_ < w37.heap.size → At (some ⟨g233, 0, none⟩) q_ → (atL []) q_ := fun q_ h1_ h2_ => by have hs_ := HS103.size; have h4_ : q_ = g233 := At.of_g h2_; exfalso; omega
     replace HS103 := HS103.ext hc235
     replace H := H_; clear H_; try dsimp only [setn, addE, goneL] at H
     refine wpList_nil ?_
     refine th_n ⟨HS103, ?_⟩
     refine wpAnyH_all (rs := [1, 9, 11]) (by kernel_rfl) (by simp) ?_
     refine all3 ?_ ?_ ?_
     ·
      refine wpOp_of_list rfl ?_
      obtain ⟨Fa239, Hc240, hb241⟩ := H.call [] [(6, false)] rfl rfl trivial
      refine e_call E rfl rfl Try.func32 rfl rfl rfl (moore_game_ranks_calls b42 0 x45.1  Hc240 h62) ?_
      rintro v242 w243 a ⟨A246, c247, rfl, HR244⟩ E_
      replace E := E_ _ rfl; clear E_
      obtain ⟨H_, hc245⟩ := hb241 _ _ HR244 rfl
      replace HS103 := HS103.ext (callS_ext hc245)
      replace H := H_; clear H_; try dsimp only [setn, addE, goneL] at H
      refine wpList_nil ?_
      refine th_n ⟨HS103, ?_⟩
      refine wpAnyH_all (rs := [9, 11]) (by kernel_rfl) (by simp) ?_
      refine all2 ?_ ?_
      ·
       refine wpOp_of_list rfl ?_
       refine h_make (cSl (cInt .u8)) ([] : List Int) H E rfl rfl tbok rfl rfl rfl rfl ⟨g73.1, Int.le_refl _, g73.2⟩ rfl rfl rfl (fun _ _ => kSl_nil) ?_
       intro w250 g249 a hc251 hg253 H_ E_
       replace E := E_ _ rfl; clear E_
       have hin254 : ∀ q_, q_ < w37.heap.size → At (some ⟨g249, 0, none⟩) q_ → (atL []) q_ := fun q_ h1_ h2_ => by have hs_ := HS103.size; have h4_ : q_ = g249 := At.of_g h2_; exfalso; omega
       replace HS103 := HS103.ext hc251
       replace H := H_; clear H_; try dsimp only [setn, addE, goneL] at H
       refine wpList_nil ?_
       refine th_n ⟨HS103, ?_⟩
       refine wpAnyH_all (rs := [10, 11]) (by kernel_rfl) (by simp) ?_
       refine all2 ?_ ?_
       ·
        refine wpOp_of_list rfl ?_
        refine e_build (ps := [(1, .slice A246 (List.length r61) c247), (2, .slice (some ⟨g233, 0, none⟩) (List.length (List.replicate (Int.toNat (((List.length aAccept) : Nat) : Int)) (0 : Int))) (Int.toNat (((List.length aAccept) : Nat) : Int))), (3, .slice (some ⟨g249, 0, none⟩) (List.length (List.replicate (Int.toNat (((List.length aAccept) : Nat) : Int)) ([] : List Int))) (Int.toNat (((List.length aAccept) : Nat) : Int)))]) (v := .agg #[.bool false, .slice A246 (List.length r61) c247, .slice (some ⟨g233, 0, none⟩) (List.length (List.replicate (Int.toNat (((List.length aAccept) : Nat) : Int)) (0 : Int))) (Int.toNat (((List.length aAccept) : Nat) : Int)), .slice (some ⟨g249, 0, none⟩) (List.length (List.replicate (Int.toNat (((List.length aAccept) : Nat) : Int)) ([] : List Int))) (Int.toNat (((List.length aAccept) : Nat) : Int))]) E rfl rfl tbok rfl (by kernel_rfl) rfl ?_
        clear E; intro a E
        refine wpList_nil ?_
        refine th_n ⟨HS103, ?_⟩
        refine wpAnyH_all (rs := [11]) (by kernel_rfl) (by simp) ?_
        refine all1 ?_
        ·
         refine wpOp_of_list rfl ?_
         refine h_alloc H E rfl rfl tbok rfl ?_
         intro w256 g255 a hc257 hg259 H_ E_
         replace E := E_ _ rfl; clear E_
         have hin260 : ∀ q_, q_ < w37.heap.size → q_ = g255 → (atL []) q_ := fun q_ h1_ h2_ => by have hs_ := HS103.size; have h4_ : q_ = g255 := h2_; exfalso; omega
         replace HS103 := HS103.ext hc257
         replace H := H_; clear H_; try dsimp only [setn, addE, goneL] at H
         refine wpList_nil ?_
         refine th_n ⟨HS103, ?_⟩
         refine wpAnyH_all (rs := [12]) (by kernel_rfl) (by simp) ?_
         refine all1 ?_
         ·
          refine wpOp_of_list rfl ?_
          refine h_store (g := g255) (off := 0) H 10 rfl E rfl rfl rfl rfl tbok rfl rfl rfl rfl rfl ?_
          clear E; intro w261 a hc262 H_ E
          replace HS103 := HS103.trans hc262 (fun k_ hk_ h_ => hin260 k_ hk_ h_)
          replace H := H_; clear H_; try dsimp only [setn, addE, goneL] at H
          refine wpList_nil ?_
          refine th_n ⟨HS103, ?_⟩
          refine dr_done (by kernel_rfl) ?_
          exact .inl ⟨rfl, g255, A246, c247, (some ⟨g233, 0, none⟩), (some ⟨g249, 0, none⟩), E.pick _ ⟨rfl, rfl, rfl, trivial⟩, H.sel [5, 6, 10, 8, 7, 9] rfl⟩
       ·
        refine wpOp_of_list rfl ?_
        refine h_alloc H E rfl rfl tbok rfl ?_
        intro w264 g263 a hc265 hg267 H_ E_
        replace E := E_ _ rfl; clear E_
        have hin268 : ∀ q_, q_ < w37.heap.size → q_ = g263 → (atL []) q_ := fun q_ h1_ h2_ => by have hs_ := HS103.size; have h4_ : q_ = g263 := h2_; exfalso; omega
        replace HS103 := HS103.ext hc265
        replace H := H_; clear H_; try dsimp only [setn, addE, goneL] at H
        refine wpList_nil ?_
        refine th_n ⟨HS103, ?_⟩
        refine wpAnyH_all (rs := [10]) (by kernel_rfl) (by simp) ?_
        refine all1 ?_
        ·
         refine wpOp_of_list rfl ?_
         refine e_build (ps := [(1, .slice A246 (List.length r61) c247), (2, .slice (some ⟨g233, 0, none⟩) (List.length (List.replicate (Int.toNat (((List.length aAccept) : Nat) : Int)) (0 : Int))) (Int.toNat (((List.length aAccept) : Nat) : Int))), (3, .slice (some ⟨g249, 0, none⟩) (List.length (List.replicate (Int.toNat (((List.length aAccept) : Nat) : Int)) ([] : List Int))) (Int.toNat (((List.length aAccept) : Nat) : Int)))]) (v := .agg #[.bool false, .slice A246 (List.length r61) c247, .slice (some ⟨g233, 0, none⟩) (List.length (List.replicate (Int.toNat (((List.length aAccept) : Nat) : Int)) (0 : Int))) (Int.toNat (((List.length aAccept) : Nat) : Int)), .slice (some ⟨g249, 0, none⟩) (List.length (List.replicate (Int.toNat (((List.length aAccept) : Nat) : Int)) ([] : List Int))) (Int.toNat (((List.length aAccept) : Nat) : Int))]) E rfl rfl tbok rfl (by kernel_rfl) rfl ?_
         clear E; intro a E
         refine wpList_nil ?_
         refine th_n ⟨HS103, ?_⟩
         refine wpAnyH_all (rs := [12]) (by kernel_rfl) (by simp) ?_
         refine all1 ?_
         ·
          refine wpOp_of_list rfl ?_
          refine h_store (g := g263) (off := 0) H 10 rfl E rfl rfl rfl rfl tbok rfl rfl rfl rfl rfl ?_
          clear E; intro w269 a hc270 H_ E
          replace HS103 := HS103.trans hc270 (fun k_ hk_ h_ => hin268 k_ hk_ h_)
          replace H := H_; clear H_; try dsimp only [setn, addE, goneL] at H
          refine wpList_nil ?_
          refine th_n ⟨HS103, ?_⟩
          refine dr_done (by kernel_rfl) ?_
          exact .inl ⟨rfl, g263, A246, c247, (some ⟨g233, 0, none⟩), (some ⟨g249, 0, none⟩), E.pick _ ⟨rfl, rfl, rfl, trivial⟩, H.sel [5, 6, 10, 8, 7, 9] rfl⟩
      ·
       refine wpOp_of_list rfl ?_
       refine h_alloc H E rfl rfl tbok rfl ?_
       intro w272 g271 a hc273 hg275 H_ E_
       replace E := E_ _ rfl; clear E_
       have hin276 : ∀ q_, q_ < w37.heap.size → q_ = g271 → (atL []) q_ := fun q_ h1_ h2_ => by have hs_ := HS103.size; have h4_ : q_ = g271 := h2_; exfalso; omega
       replace HS103 := HS103.ext hc273
       replace H := H_; clear H_; try dsimp only [setn, addE, goneL] at H
       refine wpList_nil ?_
       refine th_n ⟨HS103, ?_⟩
       refine wpAnyH_all (rs := [9]) (by kernel_rfl) (by simp) ?_
       refine all1 ?_
       ·
        refine wpOp_of_list rfl ?_
        refine h_make (cSl (cInt .u8)) ([] : List Int) H E rfl rfl tbok rfl rfl rfl rfl ⟨g73.1, Int.le_refl _, g73.2⟩ rfl rfl rfl (fun _ _ => kSl_nil) ?_
        intro w278 g277 a hc279 hg281 H_ E_
        replace E := E_ _ rfl; clear E_
        have hin282 : ∀ q_, q_ < w37.heap.size → At (some ⟨g277, 0, none⟩) q_ → (atL []) q_ := fun q_ h1_ h2_ => by have hs_ := HS103.size; have h4_ : q_ = g277 := At.of_g h2_; exfalso; omega
        replace HS103 := HS103.ext hc279
        replace H := H_; clear H_; try dsimp only [setn, addE, goneL] at H
        refine wpList_nil ?_
        refine th_n ⟨HS103, ?_⟩
        refine wpAnyH_all (rs := [10]) (by kernel_rfl) (by simp) ?_
        refine all1 ?_
        ·
         refine wpOp_of_list rfl ?_
         refine e_build (ps := [(1, .slice A246 (List.length r61) c247), (2, .slice (some ⟨g233, 0, none⟩) (List.length (List.replicate (Int.toNat (((List.length aAccept) : Nat) : Int)) (0 : Int))) (Int.toNat (((List.length aAccept) : Nat) : Int))), (3, .slice (some ⟨g277, 0, none⟩) (List.length (List.replicate (Int.toNat (((List.length aAccept) : Nat) : Int)) ([] : List Int))) (Int.toNat (((List.length aAccept) : Nat) : Int)))]) (v := .agg #[.bool false, .slice A246 (List.length r61) c247, .slice (some ⟨g233, 0, none⟩) (List.length (List.replicate (Int.toNat (((List.length aAccept) : Nat) : Int)) (0 : Int))) (Int.toNat (((List.length aAccept) : Nat) : Int)), .slice (some ⟨g277, 0, none⟩) (List.length (List.replicate (Int.toNat (((List.length aAccept) : Nat) : Int)) ([] : List Int))) (Int.toNat (((List.length aAccept) : Nat) : Int))]) E rfl rfl tbok rfl (by kernel_rfl) rfl ?_
         clear E; intro a E
         refine wpList_nil ?_
         refine th_n ⟨HS103, ?_⟩
         refine wpAnyH_all (rs := [12]) (by kernel_rfl) (by simp) ?_
         refine all1 ?_
         ·
          refine wpOp_of_list rfl ?_
          refine h_store (g := g271) (off := 0) H 9 rfl E rfl rfl rfl rfl tbok rfl rfl rfl rfl rfl ?_
          clear E; intro w283 a hc284 H_ E
          replace HS103 := HS103.trans hc284 (fun k_ hk_ h_ => hin276 k_ hk_ h_)
          replace H := H_; clear H_; try dsimp only [setn, addE, goneL] at H
          refine wpList_nil ?_
          refine th_n ⟨HS103, ?_⟩
          refine dr_done (by kernel_rfl) ?_
          exact .inl ⟨rfl, g271, A246, c247, (some ⟨g233, 0, none⟩), (some ⟨g277, 0, none⟩), E.pick _ ⟨rfl, rfl, rfl, trivial⟩, H.sel [5, 6, 9, 8, 7, 10] rfl⟩
     ·
      refine wpOp_of_list rfl ?_
      refine h_make (cSl (cInt .u8)) ([] : List Int) H E rfl rfl tbok rfl rfl rfl rfl ⟨g73.1, Int.le_refl _, g73.2⟩ rfl rfl rfl (fun _ _ => kSl_nil) ?_
      intro w286 g285 a hc287 hg289 H_ E_
      replace E := E_ _ rfl; clear E_
      have hin290 : ∀ q_, q_ < w37.heap.size → At (some ⟨g285, 0, none⟩) q_ → (atL []) q_ := fun q_ h1_ h2_ => by have hs_ := HS103.size; have h4_ : q_ = g285 := At.of_g h2_; exfalso; omega
      replace HS103 := HS103.ext hc287
      replace H := H_; clear H_; try dsimp only [setn, addE, goneL] at H
      refine wpList_nil ?_
      refine th_n ⟨HS103, ?_⟩
      refine wpAnyH_all (rs := [1, 11]) (by kernel_rfl) (by simp) ?_
      refine all2 ?_ ?_
      ·
       refine wpOp_of_list rfl ?_
       obtain ⟨Fa291, Hc292, hb293⟩ := H.call [] [(6, false)] rfl rfl trivial
       refine e_call E rfl rfl Try.func32 rfl rfl rfl (moore_game_ranks_calls b42 0 x45.1  Hc292 h62) ?_
       rintro v294 w295 a ⟨A298, c299, rfl, HR296⟩ E_
       replace E := E_ _ rfl; clear E_
       obtain ⟨H_, hc297⟩ := hb293 _ _ HR296 rfl
       replace HS103 := HS103.ext (callS_ext hc297)
       replace H := H_; clear H_; try dsimp only [setn, addE, goneL] at H
       refine wpList_nil ?_
       refine th_n ⟨HS103, ?_⟩
       refine wpAnyH_all (rs := [10, 11]) (by kernel_rfl) (by simp) ?_
       refine all2 ?_ ?_
       ·
        refine wpOp_of_list rfl ?_
        refine e_build (ps := [(1, .slice A298 (List.length r61) c299), (2, .slice (some ⟨g233, 0, none⟩) (List.length (List.replicate (Int.toNat (((List.length aAccept) : Nat) : Int)) (0 : Int))) (Int.toNat (((List.length aAccept) : Nat) : Int))), (3, .slice (some ⟨g285, 0, none⟩) (List.length (List.replicate (Int.toNat (((List.length aAccept) : Nat) : Int)) ([] : List Int))) (Int.toNat (((List.length aAccept) : Nat) : Int)))]) (v := .agg #[.bool false, .slice A298 (List.length r61) c299, .slice (some ⟨g233, 0, none⟩) (List.length (List.replicate (Int.toNat (((List.length aAccept) : Nat) : Int)) (0 : Int))) (Int.toNat (((List.length aAccept) : Nat) : Int)), .slice (some ⟨g285, 0, none⟩) (List.length (List.replicate (Int.toNat (((List.length aAccept) : Nat) : Int)) ([] : List Int))) (Int.toNat (((List.length aAccept) : Nat) : Int))]) E rfl rfl tbok rfl (by kernel_rfl) rfl ?_
        clear E; intro a E
        refine wpList_nil ?_
        refine th_n ⟨HS103, ?_⟩
        refine wpAnyH_all (rs := [11]) (by kernel_rfl) (by simp) ?_
        refine all1 ?_
        ·
         refine wpOp_of_list rfl ?_
         refine h_alloc H E rfl rfl tbok rfl ?_
         intro w302 g301 a hc303 hg305 H_ E_
         replace E := E_ _ rfl; clear E_
         have hin306 : ∀ q_, q_ < w37.heap.size → q_ = g301 → (atL []) q_ := fun q_ h1_ h2_ => by have hs_ := HS103.size; have h4_ : q_ = g301 := h2_; exfalso; omega
         replace HS103 := HS103.ext hc303
         replace H := H_; clear H_; try dsimp only [setn, addE, goneL] at H
         refine wpList_nil ?_
         refine th_n ⟨HS103, ?_⟩
         refine wpAnyH_all (rs := [12]) (by kernel_rfl) (by simp) ?_
         refine all1 ?_
         ·
          refine wpOp_of_list rfl ?_
          refine h_store (g := g301) (off := 0) H 10 rfl E rfl rfl rfl rfl tbok rfl rfl rfl rfl rfl ?_
          clear E; intro w307 a hc308 H_ E
          replace HS103 := HS103.trans hc308 (fun k_ hk_ h_ => hin306 k_ hk_ h_)
          replace H := H_; clear H_; try dsimp only [setn, addE, goneL] at H
          refine wpList_nil ?_
          refine th_n ⟨HS103, ?_⟩
          refine dr_done (by kernel_rfl) ?_
          exact .inl ⟨rfl, g301, A298, c299, (some ⟨g233, 0, none⟩), (some ⟨g285, 0, none⟩), E.pick _ ⟨rfl, rfl, rfl, trivial⟩, H.sel [5, 6, 10, 9, 7, 8] rfl⟩
       ·
        refine wpOp_of_list rfl ?_
        refine h_alloc H E rfl rfl tbok rfl ?_
        intro w310 g309 a hc311 hg313 H_ E_
        replace E := E_ _ rfl; clear E_
        have hin314 : ∀ q_, q_ < w37.heap.size → q_ = g309 → (atL []) q_ := fun q_ h1_ h2_ => by have hs_ := HS103.size; have h4_ : q_ = g309 := h2_; exfalso; omega
        replace HS103 := HS103.ext hc311
        replace H := H_; clear H_; try dsimp only [setn, addE, goneL] at H
        refine wpList_nil ?_
        refine th_n ⟨HS103, ?_⟩
        refine wpAnyH_all (rs := [10]) (by kernel_rfl) (by simp) ?_
        refine all1 ?_
        ·
         refine wpOp_of_list rfl ?_
         refine e_build (ps := [(1, .slice A298 (List.length r61) c299), (2, .slice (some ⟨g233, 0, none⟩) (List.length (List.replicate (Int.toNat (((List.length aAccept) : Nat) : Int)) (0 : Int))) (Int.toNat (((List.length aAccept) : Nat) : Int))), (3, .slice (some ⟨g285, 0, none⟩) (List.length (List.replicate (Int.toNat (((List.length aAccept) : Nat) : Int)) ([] : List Int))) (Int.toNat (((List.length aAccept) : Nat) : Int)))]) (v := .agg #[.bool false, .slice A298 (List.length r61) c299, .slice (some ⟨g233, 0, none⟩) (List.length (List.replicate (Int.toNat (((List.length aAccept) : Nat) : Int)) (0 : Int))) (Int.toNat (((List.length aAccept) : Nat) : Int)), .slice (some ⟨g285, 0, none⟩) (List.length (List.replicate (Int.toNat (((List.length aAccept) : Nat) : Int)) ([] : List Int))) (Int.toNat (((List.length aAccept) : Nat) : Int))]) E rfl rfl tbok rfl (by kernel_rfl) rfl ?_
         clear E; intro a E
         refine wpList_nil ?_
         refine th_n ⟨HS103, ?_⟩
         refine wpAnyH_all (rs := [12]) (by kernel_rfl) (by simp) ?_
         refine all1 ?_
         ·
          refine wpOp_of_list rfl ?_
          refine h_store (g := g309) (off := 0) H 10 rfl E rfl rfl rfl rfl tbok rfl rfl rfl rfl rfl ?_
          clear E; intro w315 a hc316 H_ E
          replace HS103 := HS103.trans hc316 (fun k_ hk_ h_ => hin314 k_ hk_ h_)
          replace H := H_; clear H_; try dsimp only [setn, addE, goneL] at H
          refine wpList_nil ?_
          refine th_n ⟨HS103, ?_⟩
          refine dr_done (by kernel_rfl) ?_
          exact .inl ⟨rfl, g309, A298, c299, (some ⟨g233, 0, none⟩), (some ⟨g285, 0, none⟩), E.pick _ ⟨rfl, rfl, rfl, trivial⟩, H.sel [5, 6, 10, 9, 7, 8] rfl⟩
      ·
       refine wpOp_of_list rfl ?_
       refine h_alloc H E rfl rfl tbok rfl ?_
       intro w318 g317 a hc319 hg321 H_ E_
       replace E := E_ _ rfl; clear E_
       have hin322 : ∀ q_, q_ < w37.heap.size → q_ = g317 → (atL []) q_ := fun q_ h1_ h2_ => by have hs_ := HS103.size; have h4_ : q_ = g317 := h2_; exfalso; omega
       replace HS103 := HS103.ext hc319
       replace H := H_; clear H_; try dsimp only [setn, addE, goneL] at H
       refine wpList_nil ?_
       refine th_n ⟨HS103, ?_⟩
       refine wpAnyH_all (rs := [1]) (by kernel_rfl) (by simp) ?_
       refine all1 ?_
       ·
        refine wpOp_of_list rfl ?_
        obtain ⟨Fa323, Hc324, hb325⟩ := H.call [] [(6, false)] rfl rfl trivial
        refine e_call E rfl rfl Try.func32 rfl rfl rfl (moore_game_ranks_calls b42 0 x45.1  Hc324 h62) ?_
        rintro v326 w327 a ⟨A330, c331, rfl, HR328⟩ E_
        replace E := E_ _ rfl; clear E_
        obtain ⟨H_, hc329⟩ := hb325 _ _ HR328 rfl
        replace HS103 := HS103.ext (callS_ext hc329)
        replace H := H_; clear H_; try dsimp only [setn, addE, goneL] at H
        refine wpList_nil ?_
        refine th_n ⟨HS103, ?_⟩
        refine wpAnyH_all (rs := [10]) (by kernel_rfl) (by simp) ?_
        refine all1 ?_
        ·
         refine wpOp_of_list rfl ?_
         refine e_build (ps := [(1, .slice A330 (List.length r61) c331), (2, .slice (some ⟨g233, 0, none⟩) (List.length (List.replicate (Int.toNat (((List.length aAccept) : Nat) : Int)) (0 : Int))) (Int.toNat (((List.length aAccept) : Nat) : Int))), (3, .slice (some ⟨g285, 0, none⟩) (List.length (List.replicate (Int.toNat (((List.length aAccept) : Nat) : Int)) ([] : List Int))) (Int.toNat (((List.length aAccept) : Nat) : Int)))]) (v := .agg #[.bool false, .slice A330 (List.length r61) c331, .slice (some ⟨g233, 0, none⟩) (List.length (List.replicate (Int.toNat (((List.length aAccept) : Nat) : Int)) (0 : Int))) (Int.toNat (((List.length aAccept) : Nat) : Int)), .slice (some ⟨g285, 0, none⟩) (List.length (List.replicate (Int.toNat (((List.length aAccept) : Nat) : Int)) ([] : List Int))) (Int.toNat (((List.length aAccept) : Nat) : Int))]) E rfl rfl tbok rfl (by kernel_rfl) rfl ?_
         clear E; intro a E
         refine wpList_nil ?_
         refine th_n ⟨HS103, ?_⟩
         refine wpAnyH_all (rs := [12]) (by kernel_rfl) (by simp) ?_
         refine all1 ?_
         ·
          refine wpOp_of_list rfl ?_
          refine h_store (g := g317) (off := 0) H 9 rfl E rfl rfl rfl rfl tbok rfl rfl rfl rfl rfl ?_
          clear E; intro w333 a hc334 H_ E
          replace HS103 := HS103.trans hc334 (fun k_ hk_ h_ => hin322 k_ hk_ h_)
          replace H := H_; clear H_; try dsimp only [setn, addE, goneL] at H
          refine wpList_nil ?_
          refine th_n ⟨HS103, ?_⟩
          refine dr_done (by kernel_rfl) ?_
          exact .inl ⟨rfl, g317, A330, c331, (some ⟨g233, 0, none⟩), (some ⟨g285, 0, none⟩), E.pick _ ⟨rfl, rfl, rfl, trivial⟩, H.sel [5, 6, 9, 10, 7, 8] rfl⟩
     ·
      refine wpOp_of_list rfl ?_
      refine h_alloc H E rfl rfl tbok rfl ?_
      intro w336 g335 a hc337 hg339 H_ E_
      replace E := E_ _ rfl; clear E_
      have hin340 : ∀ q_, q_ < w37.heap.size → q_ = g335 → (atL []) q_ := fun q_ h1_ h2_ => by have hs_ := HS103.size; have h4_ : q_ = g335 := h2_; exfalso; omega
      replace HS103 := HS103.ext hc337
      replace H := H_; clear H_; try dsimp only [setn, addE, goneL] at H
      refine wpList_nil ?_
      refine th_n ⟨HS103, ?_⟩
      refine wpAnyH_all (rs := [1, 9]) (by kernel_rfl) (by simp) ?_
      refine all2 ?_ ?_
      ·
       refine wpOp_of_list rfl ?_
       obtain ⟨Fa341, Hc342, hb343⟩ := H.call [] [(6, false)] rfl rfl trivial
       refine e_call E rfl rfl Try.func32 rfl rfl rfl (moore_game_ranks_calls b42 0 x45.1  Hc342 h62) ?_
       rintro v344 w345 a ⟨A348, c349, rfl, HR346⟩ E_
       replace E := E_ _ rfl; clear E_
       obtain ⟨H_, hc347⟩ := hb343 _ _ HR346 rfl
       replace HS103 := HS103.ext (callS_ext hc347)
       replace H := H_; clear H_; try dsimp only [setn, addE, goneL] at H
       refine wpList_nil ?_
       refine th_n ⟨HS103, ?_⟩
       refine wpAnyH_all (rs := [9]) (by kernel_rfl) (by simp) ?_
       refine all1 ?_
       ·
        refine wpOp_of_list rfl ?_
        refine h_make (cSl (cInt .u8)) ([] : List Int) H E rfl rfl tbok rfl rfl rfl rfl ⟨g73.1, Int.le_refl _, g73.2⟩ rfl rfl rfl (fun _ _ => kSl_nil) ?_
        intro w352 g351 a hc353 hg355 H_ E_
        replace E := E_ _ rfl; clear E_
        have hin356 : ∀ q_, q_ < w37.heap.size → At (some ⟨g351, 0, none⟩) q_ → (atL []) q_ := fun q_ h1_ h2_ => by have hs_ := HS103.size; have h4_ : q_ = g351 := At.of_g h2_; exfalso; omega
        replace HS103 := HS103.ext hc353
        replace H := H_; clear H_; try dsimp only [setn, addE, goneL] at H
        refine wpList_nil ?_
        refine th_n ⟨HS103, ?_⟩
        refine wpAnyH_all (rs := [10]) (by kernel_rfl) (by simp) ?_
        refine all1 ?_
        ·
         refine wpOp_of_list rfl ?_
         refine e_build (ps := [(1, .slice A348 (List.length r61) c349), (2, .slice (some ⟨g233, 0, none⟩) (List.length (List.replicate (Int.toNat (((List.length aAccept) : Nat) : Int)) (0 : Int))) (Int.toNat (((List.length aAccept) : Nat) : Int))), (3, .slice (some ⟨g351, 0, none⟩) (List.length (List.replicate (Int.toNat (((List.length aAccept) : Nat) : Int)) ([] : List Int))) (Int.toNat (((List.length aAccept) : Nat) : Int)))]) (v := .agg #[.bool false, .slice A348 (List.length r61) c349, .slice (some ⟨g233, 0, none⟩) (List.length (List.replicate (Int.toNat (((List.length aAccept) : Nat) : Int)) (0 : Int))) (Int.toNat (((List.length aAccept) : Nat) : Int)), .slice (some ⟨g351, 0, none⟩) (List.length (List.replicate (Int.toNat (((List.length aAccept) : Nat) : Int)) ([] : List Int))) (Int.toNat (((List.length aAccept) : Nat) : Int))]) E rfl rfl tbok rfl (by kernel_rfl) rfl ?_
         clear E; intro a E
         refine wpList_nil ?_
         refine th_n ⟨HS103, ?_⟩
         refine wpAnyH_all (rs := [12]) (by kernel_rfl) (by simp) ?_
         refine all1 ?_
         ·
          refine wpOp_of_list rfl ?_
          refine h_store (g := g335) (off := 0) H 8 rfl E rfl rfl rfl rfl tbok rfl rfl rfl rfl rfl ?_
          clear E; intro w357 a hc358 H_ E
          replace HS103 := HS103.trans hc358 (fun k_ hk_ h_ => hin340 k_ hk_ h_)
          replace H := H_; clear H_; try dsimp only [setn, addE, goneL] at H
          refine wpList_nil ?_
          refine th_n ⟨HS103, ?_⟩
          refine dr_done (by kernel_rfl) ?_
          exact .inl ⟨rfl, g335, A348, c349, (some ⟨g233, 0, none⟩), (some ⟨g351, 0, none⟩), E.pick _ ⟨rfl, rfl, rfl, trivial⟩, H.sel [5, 6, 8, 9, 7, 10] rfl⟩
      ·
       refine wpOp_of_list rfl ?_
       refine h_make (cSl (cInt .u8)) ([] : List Int) H E rfl rfl tbok rfl rfl rfl rfl ⟨g73.1, Int.le_refl _, g73.2⟩ rfl rfl rfl (fun _ _ => kSl_nil) ?_
       intro w360 g359 a hc361 hg363 H_ E_
       replace E := E_ _ rfl; clear E_
       have hin364 : ∀ q_, q_ < w37.heap.size → At (some ⟨g359, 0, none⟩) q_ → (atL []) q_ := fun q_ h1_ h2_ => by have hs_ := HS103.size; have h4_ : q_ = g359 := At.of_g h2_; exfalso; omega
       replace HS103 := HS103.ext hc361
       replace H := H_; clear H_; try dsimp only [setn, addE, goneL] at H
       refine wpList_nil ?_
       refine th_n ⟨HS103, ?_⟩
       refine wpAnyH_all (rs := [1]) (by kernel_rfl) (by simp) ?_
       refine all1 ?_
       ·
        refine wpOp_of_list rfl ?_
        obtain ⟨Fa365, Hc366, hb367⟩ := H.call [] [(6, false)] rfl rfl trivial
        refine e_call E rfl rfl Try.func32 rfl rfl rfl (moore_game_ranks_calls b42 0 x45.1  Hc366 h62) ?_
        rintro v368 w369 a ⟨A372, c373, rfl, HR370⟩ E_
        replace E := E_ _ rfl; clear E_
        obtain ⟨H_, hc371⟩ := hb367 _ _ HR370 rfl
        replace HS103 := HS103.ext (callS_ext hc371)
        replace H := H_; clear H_; try dsimp only [setn, addE, goneL] at H
        refine wpList_nil ?_
        refine th_n ⟨HS103, ?_⟩
        refine wpAnyH_all (rs := [10]) (by kernel_rfl) (by simp) ?_
        refine all1 ?_
        ·
         refine wpOp_of_list rfl ?_
         refine e_build (ps := [(1, .slice A372 (List.length r61) c373), (2, .slice (some ⟨g233, 0, none⟩) (List.length (List.replicate (Int.toNat (((List.length aAccept) : Nat) : Int)) (0 : Int))) (Int.toNat (((List.length aAccept) : Nat) : Int))), (3, .slice (some ⟨g359, 0, none⟩) (List.length (List.replicate (Int.toNat (((List.length aAccept) : Nat) : Int)) ([] : List Int))) (Int.toNat (((List.length aAccept) : Nat) : Int)))]) (v := .agg #[.bool false, .slice A372 (List.length r61) c373, .slice (some ⟨g233, 0, none⟩) (List.length (List.replicate (Int.toNat (((List.length aAccept) : Nat) : Int)) (0 : Int))) (Int.toNat (((List.length aAccept) : Nat) : Int)), .slice (some ⟨g359, 0, none⟩) (List.length (List.replicate (Int.toNat (((List.length aAccept) : Nat) : Int)) ([] : List Int))) (Int.toNat (((List.length aAccept) : Nat) : Int))]) E rfl rfl tbok rfl (by kernel_rfl) rfl ?_
         clear E; intro a E
         refine wpList_nil ?_
         refine th_n ⟨HS103, ?_⟩
         refine wpAnyH_all (rs := [12]) (by kernel_rfl) (by simp) ?_
         refine all1 ?_
         ·
          refine wpOp_of_list rfl ?_
          refine h_store (g := g335) (off := 0) H 8 rfl E rfl rfl rfl rfl tbok rfl rfl rfl rfl rfl ?_
          clear E; intro w375 a hc376 H_ E
          replace HS103 := HS103.trans hc376 (fun k_ hk_ h_ => hin340 k_ hk_ h_)
          replace H := H_; clear H_; try dsimp only [setn, addE, goneL] at H
          refine wpList_nil ?_
          refine th_n ⟨HS103, ?_⟩
          refine dr_done (by kernel_rfl) ?_
          exact .inl ⟨rfl, g335, A372, c373, (some ⟨g233, 0, none⟩), (some ⟨g359, 0, none⟩), E.pick _ ⟨rfl, rfl, rfl, trivial⟩, H.sel [5, 6, 8, 10, 7, 9] rfl⟩
    ·
     refine wpOp_of_list rfl ?_
     refine h_make (cSl (cInt .u8)) ([] : List Int) H E rfl rfl tbok rfl rfl rfl rfl ⟨g73.1, Int.le_refl _, g73.2⟩ rfl rfl rfl (fun _ _ => kSl_nil) ?_
     intro w378 g377 a hc379 hg381 H_ E_
     replace E := E_ _ rfl; clear E_
     have hin382 : ∀ q_, q_ < w37.heap.size → At (some ⟨g377, 0, none⟩) q_ → (atL []) q_ := fun q_ h1_ h2_ => by have hs_ := HS103.size; have h4_ : q_ = g377 := At.of_g h2_; exfalso; omega
     replace HS103 := HS103.ext hc379
     replace H := H_; clear H_; try dsimp only [setn, addE, goneL] at H
     refine wpList_nil ?_
     refine th_n ⟨HS103, ?_⟩
     refine wpAnyH_all (rs := [1, 5, 11]) (by kernel_rfl) (by simp) ?_
     refine all3 ?_ ?_ ?_
     ·
      refine wpOp_of_list rfl ?_
      obtain ⟨Fa383, Hc384, hb385⟩ := H.call [] [(6, false)] rfl rfl trivial
      refine e_call E rfl rfl Try.func32 rfl rfl rfl (moore_game_ranks_calls b42 0 x45.1  Hc384 h62) ?_
      rintro v386 w387 a ⟨A390, c391, rfl, HR388⟩ E_
      replace E := E_ _ rfl; clear E_
      obtain ⟨H_, hc389⟩ := hb385 _ _ HR388 rfl
      replace HS103 := HS103.ext (callS_ext hc389)
      replace H := H_; clear H_; try dsimp only [setn, addE, goneL] at H
      refine wpList_nil ?_
      refine th_n ⟨HS103, ?_⟩
      refine wpAnyH_all (rs := [5, 11]) (by kernel_rfl) (by simp) ?_
      refine all2 ?_ ?_
      ·
       refine wpOp_of_list rfl ?_
       refine h_make (cInt .u8) (0 : Int) H E rfl rfl tbok rfl rfl rfl rfl ⟨g73.1, Int.le_refl _, g73.2⟩ rfl rfl rfl (fun _ _ => rfl) ?_
       intro w394 g393 a hc395 hg397 H_ E_
       replace E := E_ _ rfl; clear E_
       have hin398 : ∀ q_, q_ < w37.heap.size → At (some ⟨g393, 0, none⟩) q_ → (atL []) q_ := fun q_ h1_ h2_ => by have hs_ := HS103.size; have h4_ : q_ = g393 := At.of_g h2_; exfalso; omega
       replace HS103 := HS103.ext hc395
       replace H := H_; clear H_; try dsimp only [setn, addE, goneL] at H
       refine wpList_nil ?_
       refine th_n ⟨HS103, ?_⟩
       refine wpAnyH_all (rs := [10, 11]) (by kernel_rfl) (by simp) ?_
       refine all2 ?_ ?_
       ·
        refine wpOp_of_list rfl ?_
        refine e_build (ps := [(1, .slice A390 (List.length r61) c391), (2, .slice (some ⟨g393, 0, none⟩) (List.length (List.replicate (Int.toNat (((List.length aAccept) : Nat) : Int)) (0 : Int))) (Int.toNat (((List.length aAccept) : Nat) : Int))), (3, .slice (some ⟨g377, 0, none⟩) (List.length (List.replicate (Int.toNat (((List.length aAccept) : Nat) : Int)) ([] : List Int))) (Int.toNat (((List.length aAccept) : Nat) : Int)))]) (v := .agg #[.bool false, .slice A390 (List.length r61) c391, .slice (some ⟨g393, 0, none⟩) (List.length (List.replicate (Int.toNat (((List.length aAccept) : Nat) : Int)) (0 : Int))) (Int.toNat (((List.length aAccept) : Nat) : Int)), .slice (some ⟨g377, 0, none⟩) (List.length (List.replicate (Int.toNat (((List.length aAccept) : Nat) : Int)) ([] : List Int))) (Int.toNat (((List.length aAccept) : Nat) : Int))]) E rfl rfl tbok rfl (by kernel_rfl) rfl ?_
        clear E; intro a E
        refine wpList_nil ?_
        refine th_n ⟨HS103, ?_⟩
        refine wpAnyH_all (rs := [11]) (by kernel_rfl) (by simp) ?_
        refine all1 ?_
        ·
         refine wpOp_of_list rfl ?_
         refine h_alloc H E rfl rfl tbok rfl ?_
         intro w400 g399 a hc401 hg403 H_ E_
         replace E := E_ _ rfl; clear E_
         have hin404 : ∀ q_, q_ < w37.heap.size → q_ = g399 → (atL []) q_ := fun q_ h1_ h2_ => by have hs_ := HS103.size; have h4_ : q_ = g399 := h2_; exfalso; omega
         replace HS103 := HS103.ext hc401
         replace H := H_; clear H_; try dsimp only [setn, addE, goneL] at H
         refine wpList_nil ?_
         refine th_n ⟨HS103, ?_⟩
         refine wpAnyH_all (rs := [12]) (by kernel_rfl) (by simp) ?_
         refine all1 ?_
         ·
          refine wpOp_of_list rfl ?_
          refine h_store (g := g399) (off := 0) H 10 rfl E rfl rfl rfl rfl tbok rfl rfl rfl rfl rfl ?_
          clear E; intro w405 a hc406 H_ E
          replace HS103 := HS103.trans hc406 (fun k_ hk_ h_ => hin404 k_ hk_ h_)
          replace H := H_; clear H_; try dsimp only [setn, addE, goneL] at H
          refine wpList_nil ?_
          refine th_n ⟨HS103, ?_⟩
          refine dr_done (by kernel_rfl) ?_
          exact .inl ⟨rfl, g399, A390, c391, (some ⟨g393, 0, none⟩), (some ⟨g377, 0, none⟩), E.pick _ ⟨rfl, rfl, rfl, trivial⟩, H.sel [5, 6, 10, 8, 9, 7] rfl⟩
       ·
        refine wpOp_of_list rfl ?_
        refine h_alloc H E rfl rfl tbok rfl ?_
        intro w408 g407 a hc409 hg411 H_ E_
        replace E := E_ _ rfl; clear E_
        have hin412 : ∀ q_, q_ < w37.heap.size → q_ = g407 → (atL []) q_ := fun q_ h1_ h2_ => by have hs_ := HS103.size; have h4_ : q_ = g407 := h2_; exfalso; omega
        replace HS103 := HS103.ext hc409
        replace H := H_; clear H_; try dsimp only [setn, addE, goneL] at H
        refine wpList_nil ?_
        refine th_n ⟨HS103, ?_⟩
        refine wpAnyH_all (rs := [10]) (by kernel_rfl) (by simp) ?_
        refine all1 ?_
        ·
         refine wpOp_of_list rfl ?_
         refine e_build (ps := [(1, .slice A390 (List.length r61) c391), (2, .slice (some ⟨g393, 0, none⟩) (List.length (List.replicate (Int.toNat (((List.length aAccept) : Nat) : Int)) (0 : Int))) (Int.toNat (((List.length aAccept) : Nat) : Int))), (3, .slice (some ⟨g377, 0, none⟩) (List.length (List.replicate (Int.toNat (((List.length aAccept) : Nat) : Int)) ([] : List Int))) (Int.toNat (((List.length aAccept) : Nat) : Int)))]) (v := .agg #[.bool false, .slice A390 (List.length r61) c391, .slice (some ⟨g393, 0, none⟩) (List.length (List.replicate (Int.toNat (((List.length aAccept) : Nat) : Int)) (0 : Int))) (Int.toNat (((List.length aAccept) : Nat) : Int)), .slice (some ⟨g377, 0, none⟩) (List.length (List.replicate (Int.toNat (((List.length aAccept) : Nat) : Int)) ([] : List Int))) (Int.toNat (((List.length aAccept) : Nat) : Int))]) E rfl rfl tbok rfl (by kernel_rfl) rfl ?_
         clear E; intro a E
         refine wpList_nil ?_
         refine th_n ⟨HS103, ?_⟩
         refine wpAnyH_all (rs := [12]) (by kernel_rfl) (by simp) ?_
         refine all1 ?_
         ·
          refine wpOp_of_list rfl ?_
          refine h_store (g := g407) (off := 0) H 10 rfl E rfl rfl rfl rfl tbok rfl rfl rfl rfl rfl ?_
          clear E; intro w413 a hc414 H_ E
          replace HS103 := HS103.trans hc414 (fun k_ hk_ h_ => hin412 k_ hk_ h_)
          replace H := H_; clear H_; try dsimp only [setn, addE, goneL] at H
          refine wpList_nil ?_
          refine th_n ⟨HS103, ?_⟩
          refine dr_done (by kernel_rfl) ?_
          exact .inl ⟨rfl, g407, A390, c391, (some ⟨g393, 0, none⟩), (some ⟨g377, 0, none⟩), E.pick _ ⟨rfl, rfl, rfl, trivial⟩, H.sel [5, 6, 10, 8, 9, 7] rfl⟩
      ·
       refine wpOp_of_list rfl ?_
       refine h_alloc H E rfl rfl tbok rfl ?_
       intro w416 g415 a hc417 hg419 H_ E_
       replace E := E_ _ rfl; clear E_
       have hin420 : ∀ q_, q_ < w37.heap.size → q_ = g415 → (atL []) q_ := fun q_ h1_ h2_ => by have hs_ := HS103.size; have h4_ : q_ = g415 := h2_; exfalso; omega
       replace HS103 := HS103.ext hc417
       replace H := H_; clear H_; try dsimp only [setn, addE, goneL] at H
       refine wpList_nil ?_
       refine th_n ⟨HS103, ?_⟩
       refine wpAnyH_all (rs := [5]) (by kernel_rfl) (by simp) ?_
       refine all1 ?_
       ·
        refine wpOp_of_list rfl ?_
        refine h_make (cInt .u8) (0 : Int) H E rfl rfl tbok rfl rfl rfl rfl ⟨g73.1, Int.le_refl _, g73.2⟩ rfl rfl rfl (fun _ _ => rfl) ?_
        intro w422 g421 a hc423 hg425 H_ E_
        replace E := E_ _ rfl; clear E_
        have hin426 : ∀ q_, q_ < w37.heap.size → At (some ⟨g421, 0, none⟩) q_ → (atL []) q_ := fun q_ h1_ h2_ => by have hs_ := HS103.size; have h4_ : q_ = g421 := At.of_g h2_; exfalso; omega
        replace HS103 := HS103.ext hc423
        replace H := H_; clear H_; try dsimp only [setn, addE, goneL] at H
        refine wpList_nil ?_
        refine th_n ⟨HS103, ?_⟩
        refine wpAnyH_all (rs := [10]) (by kernel_rfl) (by simp) ?_
        refine all1 ?_
        ·
         refine wpOp_of_list rfl ?_
         refine e_build (ps := [(1, .slice A390 (List.length r61) c391), (2, .slice (some ⟨g421, 0, none⟩) (List.length (List.replicate (Int.toNat (((List.length aAccept) : Nat) : Int)) (0 : Int))) (Int.toNat (((List.length aAccept) : Nat) : Int))), (3, .slice (some ⟨g377, 0, none⟩) (List.length (List.replicate (Int.toNat (((List.length aAccept) : Nat) : Int)) ([] : List Int))) (Int.toNat (((List.length aAccept) : Nat) : Int)))]) (v := .agg #[.bool false, .slice A390 (List.length r61) c391, .slice (some ⟨g421, 0, none⟩) (List.length (List.replicate (Int.toNat (((List.length aAccept) : Nat) : Int)) (0 : Int))) (Int.toNat (((List.length aAccept) : Nat) : Int)), .slice (some ⟨g377, 0, none⟩) (List.length (List.replicate (Int.toNat (((List.length aAccept) : Nat) : Int)) ([] : List Int))) (Int.toNat (((List.length aAccept) : Nat) : Int))]) E rfl rfl tbok rfl (by kernel_rfl) rfl ?_
         clear E; intro a E
         refine wpList_nil ?_
         refine th_n ⟨HS103, ?_⟩
         refine wpAnyH_all (rs := [12]) (by kernel_rfl) (by simp) ?_
         refine all1 ?_
         ·
          refine wpOp_of_list rfl ?_
          refine h_store (g := g415) (off := 0) H 9 rfl E rfl rfl rfl rfl tbok rfl rfl rfl rfl rfl ?_
          clear E; intro w427 a hc428 H_ E
          replace HS103 := HS103.trans hc428 (fun k_ hk_ h_ => hin420 k_ hk_ h_)
          replace H := H_; clear H_; try dsimp only [setn, addE, goneL] at H
          refine wpList_nil ?_
          refine th_n ⟨HS103, ?_⟩
          refine dr_done (by kernel_rfl) ?_
          exact .inl ⟨rfl, g415, A390, c391, (some ⟨g421, 0, none⟩), (some ⟨g377, 0, none⟩), E.pick _ ⟨rfl, rfl, rfl, trivial⟩, H.sel [5, 6, 9, 8, 10, 7] rfl⟩
     ·
      refine wpOp_of_list rfl ?_
      refine h_make (cInt .u8) (0 : Int) H E rfl rfl tbok rfl rfl rfl rfl ⟨g73.1, Int.le_refl _, g73.2⟩ rfl rfl rfl (fun _ _ => rfl) ?_
      intro w430 g429 a hc431 hg433 H_ E_
      replace E := E_ _ rfl; clear E_
      have hin434 : ∀ q_, q_ < w37.heap.size → At (some ⟨g429, 0, none⟩) q_ → (atL []) q_ := fun q_ h1_ h2_ => by have hs_ := HS103.size; have h4_ : q_ = g429 := At.of_g h2_; exfalso; omega
      replace HS103 := HS103.ext hc431
      replace H := H_; clear H_; try dsimp only [setn, addE, goneL] at H
      refine wpList_nil ?_
      refine th_n ⟨HS103, ?_⟩
      refine wpAnyH_all (rs := [1, 11]) (by kernel_rfl) (by simp) ?_
      refine all2 ?_ ?_
      ·
       refine wpOp_of_list rfl ?_
       obtain ⟨Fa435, Hc436, hb437⟩ := H.call [] [(6, false)] rfl rfl trivial
       refine e_call E rfl rfl Try.func32 rfl rfl rfl (moore_game_ranks_calls b42 0 x45.1  Hc436 h62) ?_
       rintro v438 w439 a ⟨A442, c443, rfl, HR440⟩ E_
       replace E := E_ _ rfl; clear E_
       obtain ⟨H_, hc441⟩ := hb437 _ _ HR440 rfl
       replace HS103 := HS103.ext (callS_ext hc441)
       replace H := H_; clear H_; try dsimp only [setn, addE, goneL] at H
       refine wpList_nil ?_
       refine th_n ⟨HS103, ?_⟩
       refine wpAnyH_all (rs := [10, 11]) (by kernel_rfl) (by simp) ?_
       refine all2 ?_ ?_
       ·
        refine wpOp_of_list rfl ?_
        refine e_build (ps := [(1, .slice A442 (List.length r61) c443), (2, .slice (some ⟨g429, 0, none⟩) (List.length (List.replicate (Int.toNat (((List.length aAccept) : Nat) : Int)) (0 : Int))) (Int.toNat (((List.length aAccept) : Nat) : Int))), (3, .slice (some ⟨g377, 0, none⟩) (List.length (List.replicate (Int.toNat (((List.length aAccept) : Nat) : Int)) ([] : List Int))) (Int.toNat (((List.length aAccept) : Nat) : Int)))]) (v := .agg #[.bool false, .slice A442 (List.length r61) c443, .slice (some ⟨g429, 0, none⟩) (List.length (List.replicate (Int.toNat (((List.length aAccept) : Nat) : Int)) (0 : Int))) (Int.toNat (((List.length aAccept) : Nat) : Int)), .slice (some ⟨g377, 0, none⟩) (List.length (List.replicate (Int.toNat (((List.length aAccept) : Nat) : Int)) ([] : List Int))) (Int.toNat (((List.length aAccept) : Nat) : Int))]) E rfl rfl tbok rfl (by kernel_rfl) rfl ?_
        clear E; intro a E
        refine wpList_nil ?_
        refine th_n ⟨HS103, ?_⟩
        refine wpAnyH_all (rs := [11]) (by kernel_rfl) (by simp) ?_
        refine all1 ?_
        ·
         refine wpOp_of_list rfl ?_
         refine h_alloc H E rfl rfl tbok rfl ?_
         intro w446 g445 a hc447 hg449 H_ E_
         replace E := E_ _ rfl; clear E_
         have hin450 : ∀ q_, q_ < w37.heap.size → q_ = g445 → (atL []) q_ := fun q_ h1_ h2_ => by have hs_ := HS103.size; have h4_ : q_ = g445 := h2_; exfalso; omega
         replace HS103 := HS103.ext hc447
         replace H := H_; clear H_; try dsimp only [setn, addE, goneL] at H
         refine wpList_nil ?_
         refine th_n ⟨HS103, ?_⟩
         refine wpAnyH_all (rs := [12]) (by kernel_rfl) (by simp) ?_
         refine all1 ?_
         ·
          refine wpOp_of_list rfl ?_
          refine h_store (g := g445) (off := 0) H 10 rfl E rfl rfl rfl rfl tbok rfl rfl rfl rfl rfl ?_
          clear E; intro w451 a hc452 H_ E
          replace HS103 := HS103.trans hc452 (fun k_ hk_ h_ => hin450 k_ hk_ h_)
          replace H := H_; clear H_; try dsimp only [setn, addE, goneL] at H
          refine wpList_nil ?_
          refine th_n ⟨HS103, ?_⟩
          refine dr_done (by kernel_rfl) ?_
          exact .inl ⟨rfl, g445, A442, c443, (some ⟨g429, 0, none⟩), (some ⟨g377, 0, none⟩), E.pick _ ⟨rfl, rfl, rfl, trivial⟩, H.sel [5, 6, 10, 9, 8, 7] rfl⟩
       ·
        refine wpOp_of_list rfl ?_
        refine h_alloc H E rfl rfl tbok rfl ?_
        intro w454 g453 a hc455 hg457 H_ E_
        replace E := E_ _ rfl; clear E_
        have hin458 : ∀ q_, q_ < w37.heap.size → q_ = g453 → (atL []) q_ := fun q_ h1_ h2_ => by have hs_ := HS103.size; have h4_ : q_ = g453 := h2_; exfalso; omega
        replace HS103 := HS103.ext hc455
        replace H := H_; clear H_; try dsimp only [setn, addE, goneL] at H
        refine wpList_nil ?_
        refine th_n ⟨HS103, ?_⟩
        refine wpAnyH_all (rs := [10]) (by kernel_rfl) (by simp) ?_
        refine all1 ?_
        ·
         refine wpOp_of_list rfl ?_
         refine e_build (ps := [(1, .slice A442 (List.length r61) c443), (2, .slice (some ⟨g429, 0, none⟩) (List.length (List.replicate (Int.toNat (((List.length aAccept) : Nat) : Int)) (0 : Int))) (Int.toNat (((List.length aAccept) : Nat) : Int))), (3, .slice (some ⟨g377, 0, none⟩) (List.length (List.replicate (Int.toNat (((List.length aAccept) : Nat) : Int)) ([] : List Int))) (Int.toNat (((List.length aAccept) : Nat) : Int)))]) (v := .agg #[.bool false, .slice A442 (List.length r61) c443, .slice (some ⟨g429, 0, none⟩) (List.length (List.replicate (Int.toNat (((List.length aAccept) : Nat) : Int)) (0 : Int))) (Int.toNat (((List.length aAccept) : Nat) : Int)), .slice (some ⟨g377, 0, none⟩) (List.length (List.replicate (Int.toNat (((List.length aAccept) : Nat) : Int)) ([] : List Int))) (Int.toNat (((List.length aAccept) : Nat) : Int))]) E rfl rfl tbok rfl (by kernel_rfl) rfl ?_
         clear E; intro a E
         refine wpList_nil ?_
         refine th_n ⟨HS103, ?_⟩
         refine wpAnyH_all (rs := [12]) (by kernel_rfl) (by simp) ?_
         refine all1 ?_
         ·
          refine wpOp_of_list rfl ?_
          refine h_store (g := g453) (off := 0) H 10 rfl E rfl rfl rfl rfl tbok rfl rfl rfl rfl rfl ?_
          clear E; intro w459 a hc460 H_ E
          replace HS103 := HS103.trans hc460 (fun k_ hk_ h_ => hin458 k_ hk_ h_)
          replace H := H_; clear H_; try dsimp only [setn, addE, goneL] at H
          refine wpList_nil ?_
          refine th_n ⟨HS103, ?_⟩
          refine dr_done (by kernel_rfl) ?_
          exact .inl ⟨rfl, g453, A442, c443, (some ⟨g429, 0, none⟩), (some ⟨g377, 0, none⟩), E.pick _ ⟨rfl, rfl, rfl, trivial⟩, H.sel [5, 6, 10, 9, 8, 7] rfl⟩
      ·
       refine wpOp_of_list rfl ?_
       refine h_alloc H E rfl rfl tbok rfl ?_
       intro w462 g461 a hc463 hg465 H_ E_
       replace E := E_ _ rfl; clear E_
       have hin466 : ∀ q_, q_ < w37.heap.size → q_ = g461 → (atL []) q_ := fun q_ h1_ h2_ => by have hs_ := HS103.size; have h4_ : q_ = g461 := h2_; exfalso; omega
       replace HS103 := HS103.ext hc463
       replace H := H_; clear H_; try dsimp only [setn, addE, goneL] at H
       refine wpList_nil ?_
       refine th_n ⟨HS103, ?_⟩
       refine wpAnyH_all (rs := [1]) (by kernel_rfl) (by simp) ?_
       refine all1 ?_
       ·
        refine wpOp_of_list rfl ?_
        obtain ⟨Fa467, Hc468, hb469⟩ := H.call [] [(6, false)] rfl rfl trivial
        refine e_call E rfl rfl Try.func32 rfl rfl rfl (moore_game_ranks_calls b42 0 x45.1  Hc468 h62) ?_
        rintro v470 w471 a ⟨A474, c475, rfl, HR472⟩ E_
        replace E := E_ _ rfl; clear E_
        obtain ⟨H_, hc473⟩ := hb469 _ _ HR472 rfl
        replace HS103 := HS103.ext (callS_ext hc473)
        replace H := H_; clear H_; try dsimp only [setn, addE, goneL] at H
        refine wpList_nil ?_
        refine th_n ⟨HS103, ?_⟩
        refine wpAnyH_all (rs := [10]) (by kernel_rfl) (by simp) ?_
        refine all1 ?_
        ·
         refine wpOp_of_list rfl ?_
         refine e_build (ps := [(1, .slice A474 (List.length r61) c475), (2, .slice (some ⟨g429, 0, none⟩) (List.length (List.replicate (Int.toNat (((List.length aAccept) : Nat) : Int)) (0 : Int))) (Int.toNat (((List.length aAccept) : Nat) : Int))), (3, .slice (some ⟨g377, 0, none⟩) (List.length (List.replicate (Int.toNat (((List.length aAccept) : Nat) : Int)) ([] : List Int))) (Int.toNat (((List.length aAccept) : Nat) : Int)))]) (v := .agg #[.bool false, .slice A474 (List.length r61) c475, .slice (some ⟨g429, 0, none⟩) (List.length (List.replicate (Int.toNat (((List.length aAccept) : Nat) : Int)) (0 : Int))) (Int.toNat (((List.length aAccept) : Nat) : Int)), .slice (some ⟨g377, 0, none⟩) (List.length (List.replicate (Int.toNat (((List.length aAccept) : Nat) : Int)) ([] : List Int))) (Int.toNat (((List.length aAccept) : Nat) : Int))]) E rfl rfl tbok rfl (by kernel_rfl) rfl ?_
         clear E; intro a E
         refine wpList_nil ?_
         refine th_n ⟨HS103, ?_⟩
         refine wpAnyH_all (rs := [12]) (by kernel_rfl) (by simp) ?_
         refine all1 ?_
         ·
          refine wpOp_of_list rfl ?_
          refine h_store (g := g461) (off := 0) H 9 rfl E rfl rfl rfl rfl tbok rfl rfl rfl rfl rfl ?_
          clear E; intro w477 a hc478 H_ E
          replace HS103 := HS103.trans hc478 (fun k_ hk_ h_ => hin466 k_ hk_ h_)
          replace H := H_; clear H_; try dsimp only [setn, addE, goneL] at H
          refine wpList_nil ?_
          refine th_n ⟨HS103, ?_⟩
          refine dr_done (by kernel_rfl) ?_
          exact .inl ⟨rfl, g461, A474, c475, (some ⟨g429, 0, none⟩), (some ⟨g377, 0, none⟩), E.pick _ ⟨rfl, rfl, rfl, trivial⟩, H.sel [5, 6, 9, 10, 8, 7] rfl⟩
     ·
      refine wpOp_of_list rfl ?_
      refine h_alloc H E rfl rfl tbok rfl ?_
      intro w480 g479 a hc481 hg483 H_ E_
      replace E := E_ _ rfl; clear E_
      have hin484 : ∀ q_, q_ < w37.heap.size → q_ = g479 → (atL []) q_ := fun q_ h1_ h2_ => by have hs_ := HS103.size; have h4_ : q_ = g479 := h2_; exfalso; omega
      replace HS103 := HS103.ext hc481
      replace H := H_; clear H_; try dsimp only [setn, addE, goneL] at H
      refine wpList_nil ?_
      refine th_n ⟨HS103, ?_⟩
      refine wpAnyH_all (rs := [1, 5]) (by kernel_rfl) (by simp) ?_
      refine all2 ?_ ?_
      ·
       refine wpOp_of_list rfl ?_
       obtain ⟨Fa485, Hc486, hb487⟩ := H.call [] [(6, false)] rfl rfl trivial
       refine e_call E rfl rfl Try.func32 rfl rfl rfl (moore_game_ranks_calls b42 0 x45.1  Hc486 h62) ?_
       rintro v488 w489 a ⟨A492, c493, rfl, HR490⟩ E_
       replace E := E_ _ rfl; clear E_
       obtain ⟨H_, hc491⟩ := hb487 _ _ HR490 rfl
       replace HS103 := HS103.ext (callS_ext hc491)
       replace H := H_; clear H_; try dsimp only [setn, addE, goneL] at H
       refine wpList_nil ?_
       refine th_n ⟨HS103, ?_⟩
       refine wpAnyH_all (rs := [5]) (by kernel_rfl) (by simp) ?_
       refine all1 ?_
       ·
        refine wpOp_of_list rfl ?_
        refine h_make (cInt .u8) (0 : Int) H E rfl rfl tbok rfl rfl rfl rfl ⟨g73.1, Int.le_refl _, g73.2⟩ rfl rfl rfl (fun _ _ => rfl) ?_
        intro w496 g495 a hc497 hg499 H_ E_
        replace E := E_ _ rfl; clear E_
        have hin500 : ∀ q_, q_ < w37.heap.size → At (some ⟨g495, 0, none⟩) q_ → (atL []) q_ := fun q_ h1_ h2_ => by have hs_ := HS103.size; have h4_ : q_ = g495 := At.of_g h2_; exfalso; omega
        replace HS103 := HS103.ext hc497
        replace H := H_; clear H_; try dsimp only [setn, addE, goneL] at H
        refine wpList_nil ?_
        refine th_n ⟨HS103, ?_⟩
        refine wpAnyH_all (rs := [10]) (by kernel_rfl) (by simp) ?_
        refine all1 ?_
        ·
         refine wpOp_of_list rfl ?_
         refine e_build (ps := [(1, .slice A492 (List.length r61) c493), (2, .slice (some ⟨g495, 0, none⟩) (List.length (List.replicate (Int.toNat (((List.length aAccept) : Nat) : Int)) (0 : Int))) (Int.toNat (((List.length aAccept) : Nat) : Int))), (3, .slice (some ⟨g377, 0, none⟩) (List.length (List.replicate (Int.toNat (((List.length aAccept) : Nat) : Int)) ([] : List Int))) (Int.toNat (((List.length aAccept) : Nat) : Int)))]) (v := .agg #[.bool false, .slice A492 (List.length r61) c493, .slice (some ⟨g495, 0, none⟩) (List.length (List.replicate (Int.toNat (((List.length aAccept) : Nat) : Int)) (0 : Int))) (Int.toNat (((List.length aAccept) : Nat) : Int)), .slice (some ⟨g377, 0, none⟩) (List.length (List.replicate (Int.toNat (((List.length aAccept) : Nat) : Int)) ([] : List Int))) (Int.toNat (((List.length aAccept) : Nat) : Int))]) E rfl rfl tbok rfl (by kernel_rfl) rfl ?_
         clear E; intro a E
         refine wpList_nil ?_
         refine th_n ⟨HS103, ?_⟩
         refine wpAnyH_all (rs := [12]) (by kernel_rfl) (by simp) ?_
         refine all1 ?_
         ·
          refine wpOp_of_list rfl ?_
          refine h_store (g := g479) (off := 0) H 8 rfl E rfl rfl rfl rfl tbok rfl rfl rfl rfl rfl ?_
          clear E; intro w501 a hc502 H_ E
          replace HS103 := HS103.trans hc502 (fun k_ hk_ h_ => hin484 k_ hk_ h_)
          replace H := H_; clear H_; try dsimp only [setn, addE, goneL] at H
          refine wpList_nil ?_
          refine th_n ⟨HS103, ?_⟩
          refine dr_done (by kernel_rfl) ?_
          exact .inl ⟨rfl, g479, A492, c493, (some ⟨g495, 0, none⟩), (some ⟨g377, 0, none⟩), E.pick _ ⟨rfl, rfl, rfl, trivial⟩, H.sel [5, 6, 8, 9, 10, 7] rfl⟩
      ·
       refine wpOp_of_list rfl ?_
       refine h_make (cInt .u8) (0 : Int) H E rfl rfl tbok rfl rfl rfl rfl ⟨g73.1, Int.le_refl _, g73.2⟩ rfl rfl rfl (fun _ _ => rfl) ?_
       intro w504 g503 a hc505 hg507 H_ E_
       replace E := E_ _ rfl; clear E_
       have hin508 : ∀ q_, q_ < w37.heap.size → At (some ⟨g503, 0, none⟩) q_ → (atL []) q_ := fun q_ h1_ h2_ => by have hs_ := HS103.size; have h4_ : q_ = g503 := At.of_g h2_; exfalso; omega
       replace HS103 := HS103.ext hc505
       replace H := H_; clear H_; try dsimp only [setn, addE, goneL] at H
       refine wpList_nil ?_
       refine th_n ⟨HS103, ?_⟩
       refine wpAnyH_all (rs := [1]) (by kernel_rfl) (by simp) ?_
       refine all1 ?_
       ·
        refine wpOp_of_list rfl ?_
        obtain ⟨Fa509, Hc510, hb511⟩ := H.call [] [(6, false)] rfl rfl trivial
        refine e_call E rfl rfl Try.func32 rfl rfl rfl (moore_game_ranks_calls b42 0 x45.1  Hc510 h62) ?_
        rintro v512 w513 a ⟨A516, c517, rfl, HR514⟩ E_
        replace E := E_ _ rfl; clear E_
        obtain ⟨H_, hc515⟩ := hb511 _ _ HR514 rfl
        replace HS103 := HS103.ext (callS_ext hc515)
        replace H := H_; clear H_; try dsimp only [setn, addE, goneL] at H
        refine wpList_nil ?_
        refine th_n ⟨HS103, ?_⟩
        refine wpAnyH_all (rs := [10]) (by kernel_rfl) (by simp) ?_
        refine all1 ?_
        ·
         refine wpOp_of_list rfl ?_
         refine e_build (ps := [(1, .slice A516 (List.length r61) c517), (2, .slice (some ⟨g503, 0, none⟩) (List.length (List.replicate (Int.toNat (((List.length aAccept) : Nat) : Int)) (0 : Int))) (Int.toNat (((List.length aAccept) : Nat) : Int))), (3, .slice (some ⟨g377, 0, none⟩) (List.length (List.replicate (Int.toNat (((List.length aAccept) : Nat) : Int)) ([] : List Int))) (Int.toNat (((List.length aAccept) : Nat) : Int)))]) (v := .agg #[.bool false, .slice A516 (List.length r61) c517, .slice (some ⟨g503, 0, none⟩) (List.length (List.replicate (Int.toNat (((List.length aAccept) : Nat) : Int)) (0 : Int))) (Int.toNat (((List.length aAccept) : Nat) : Int)), .slice (some ⟨g377, 0, none⟩) (List.length (List.replicate (Int.toNat (((List.length aAccept) : Nat) : Int)) ([] : List Int))) (Int.toNat (((List.length aAccept) : Nat) : Int))]) E rfl rfl tbok rfl (by kernel_rfl) rfl ?_
         clear E; intro a E
         refine wpList_nil ?_
         refine th_n ⟨HS103, ?_⟩
         refine wpAnyH_all (rs := [12]) (by kernel_rfl) (by simp) ?_
         refine all1 ?_
         ·
          refine wpOp_of_list rfl ?_
          refine h_store (g := g479) (off := 0) H 8 rfl E rfl rfl rfl rfl tbok rfl rfl rfl rfl rfl ?_
          clear E; intro w519 a hc520 H_ E
          replace HS103 := HS103.trans hc520 (fun k_ hk_ h_ => hin484 k_ hk_ h_)
          replace H := H_; clear H_; try dsimp only [setn, addE, goneL] at H
          refine wpList_nil ?_
          refine th_n ⟨HS103, ?_⟩
          refine dr_done (by kernel_rfl) ?_
          exact .inl ⟨rfl, g479, A516, c517, (some ⟨g503, 0, none⟩), (some ⟨g377, 0, none⟩), E.pick _ ⟨rfl, rfl, rfl, trivial⟩, H.sel [5, 6, 8, 10, 9, 7] rfl⟩
    ·
     refine wpOp_of_list rfl ?_
     refine h_alloc H E rfl rfl tbok rfl ?_
     intro w522 g521 a hc523 hg525 H_ E_
     replace E := E_ _ rfl; clear E_
     have hin526 : ∀ q_, q_ < w37.heap.size → q_ = g521 → (atL []) q_ := fun q_ h1_ h2_ => by have hs_ := HS103.size; have h4_ : q_ = g521 := h2_; exfalso; omega
     replace HS103 := HS103.ext hc523
     replace H := H_; clear H_; try dsimp only [setn, addE, goneL] at H
     refine wpList_nil ?_
     refine th_n ⟨HS103, ?_⟩
     refine wpAnyH_all (rs := [1, 5, 9]) (by kernel_rfl) (by simp) ?_
     refine all3 ?_ ?_ ?_
     ·
      refine wpOp_of_list rfl ?_
      obtain ⟨Fa527, Hc528, hb529⟩ := H.call [] [(6, false)] rfl rfl trivial
      refine e_call E rfl rfl Try.func32 rfl rfl rfl (moore_game_ranks_calls b42 0 x45.1  Hc528 h62) ?_
      rintro v530 w531 a ⟨A534, c535, rfl, HR532⟩ E_
      replace E := E_ _ rfl; clear E_
      obtain ⟨H_, hc533⟩ := hb529 _ _ HR532 rfl
      replace HS103 := HS103.ext (callS_ext hc533)
      replace H := H_; clear H_; try dsimp only [setn, addE, goneL] at H
      refine wpList_nil ?_
      refine th_n ⟨HS103, ?_⟩
      refine wpAnyH_all (rs := [5, 9]) (by kernel_rfl) (by simp) ?_
      refine all2 ?_ ?_
      ·
       refine wpOp_of_list rfl ?_
       refine h_make (cInt .u8) (0 : Int) H E rfl rfl tbok rfl rfl rfl rfl ⟨g73.1, Int.le_refl _, g73.2⟩ rfl rfl rfl (fun _ _ => rfl) ?_
       intro w538 g537 a hc539 hg541 H_ E_
       replace E := E_ _ rfl; clear E_
       have hin542 : ∀ q_, q_ < w37.heap.size → At (some ⟨g537, 0, none⟩) q_ → (atL []) q_ := fun q_ h1_ h2_ => by have hs_ := HS103.size; have h4_ : q_ = g537 := At.of_g h2_; exfalso; omega
       replace HS103 := HS103.ext hc539
       replace H := H_; clear H_; try dsimp only [setn, addE, goneL] at H
       refine wpList_nil ?_
       refine th_n ⟨HS103, ?_⟩
       refine wpAnyH_all (rs := [9]) (by kernel_rfl) (by simp) ?_
       refine all1 ?_
       ·
        refine wpOp_of_list rfl ?_
        refine h_make (cSl (cInt .u8)) ([] : List Int) H E rfl rfl tbok rfl rfl rfl rfl ⟨g73.1, Int.le_refl _, g73.2⟩ rfl rfl rfl (fun _ _ => kSl_nil) ?_
        intro w544 g543 a hc545 hg547 H_ E_
        replace E := E_ _ rfl; clear E_
        have hin548 : ∀ q_, q_ < w37.heap.size → At (some ⟨g543, 0, none⟩) q_ → (atL []) q_ := fun q_ h1_ h2_ => by have hs_ := HS103.size; have h4_ : q_ = g543 := At.of_g h2_; exfalso; omega
        replace HS103 := HS103.ext hc545
        replace H := H_; clear H_; try dsimp only [setn, addE, goneL] at H
        refine wpList_nil ?_
        refine th_n ⟨HS103, ?_⟩
        refine wpAnyH_all (rs := [10]) (by kernel_rfl) (by simp) ?_
        refine all1 ?_
        ·
         refine wpOp_of_list rfl ?_
         refine e_build (ps := [(1, .slice A534 (List.length r61) c535), (2, .slice (some ⟨g537, 0, none⟩) (List.length (List.replicate (Int.toNat (((List.length aAccept) : Nat) : Int)) (0 : Int))) (Int.toNat (((List.length aAccept) : Nat) : Int))), (3, .slice (some ⟨g543, 0, none⟩) (List.length (List.replicate (Int.toNat (((List.length aAccept) : Nat) : Int)) ([] : List Int))) (Int.toNat (((List.length aAccept) : Nat) : Int)))]) (v := .agg #[.bool false, .slice A534 (List.length r61) c535, .slice (some ⟨g537, 0, none⟩) (List.length (List.replicate (Int.toNat (((List.length aAccept) : Nat) : Int)) (0 : Int))) (Int.toNat (((List.length aAccept) : Nat) : Int)), .slice (some ⟨g543, 0, none⟩) (List.length (List.replicate (Int.toNat (((List.length aAccept) : Nat) : Int)) ([] : List Int))) (Int.toNat (((List.length aAccept) : Nat) : Int))]) E rfl rfl tbok rfl (by kernel_rfl) rfl ?_
         clear E; intro a E
         refine wpList_nil ?_
         refine th_n ⟨HS103, ?_⟩
         refine wpAnyH_all (rs := [12]) (by kernel_rfl) (by simp) ?_
         refine all1 ?_
         ·
          refine wpOp_of_list rfl ?_
          refine h_store (g := g521) (off := 0) H 7 rfl E rfl rfl rfl rfl tbok rfl rfl rfl rfl rfl ?_
          clear E; intro w549 a hc550 H_ E
          replace HS103 := HS103.trans hc550 (fun k_ hk_ h_ => hin526 k_ hk_ h_)
          replace H := H_; clear H_; try dsimp only [setn, addE, goneL] at H
          refine wpList_nil ?_
          refine th_n ⟨HS103, ?_⟩
          refine dr_done (by kernel_rfl) ?_
          exact .inl ⟨rfl, g521, A534, c535, (some ⟨g537, 0, none⟩), (some ⟨g543, 0, none⟩), E.pick _ ⟨rfl, rfl, rfl, trivial⟩, H.sel [5, 6, 7, 8, 9, 10] rfl⟩
      ·
       refine wpOp_of_list rfl ?_
       refine h_make (cSl (cInt .u8)) ([] : List Int) H E rfl rfl tbok rfl rfl rfl rfl ⟨g73.1, Int.le_refl _, g73.2⟩ rfl rfl rfl (fun _ _ => kSl_nil) ?_
       intro w552 g551 a hc553 hg555 H_ E_
       replace E := E_ _ rfl; clear E_
       have hin556 : ∀ q_, q_ < w37.heap.size → At (some ⟨g551, 0, none⟩) q_ → (atL []) q_ := fun q_ h1_ h2_ => by have hs_ := HS103.size; have h4_ : q_ = g551 := At.of_g h2_; exfalso; omega
       replace HS103 := HS103.ext hc553
       replace H := H_; clear H_; try dsimp only [setn, addE, goneL] at H
       refine wpList_nil ?_
       refine th_n ⟨HS103, ?_⟩
       refine wpAnyH_all (rs := [5]) (by kernel_rfl) (by simp) ?_
       refine all1 ?_
       ·
        refine wpOp_of_list rfl ?_
        refine h_make (cInt .u8) (0 : Int) H E rfl rfl tbok rfl rfl rfl rfl ⟨g73.1, Int.le_refl _, g73.2⟩ rfl rfl rfl (fun _ _ => rfl) ?_
        intro w558 g557 a hc559 hg561 H_ E_
        replace E := E_ _ rfl; clear E_
        have hin562 : ∀ q_, q_ < w37.heap.size → At (some ⟨g557, 0, none⟩) q_ → (atL []) q_ := fun q_ h1_ h2_ => by have hs_ := HS103.size; have h4_ : q_ = g557 := At.of_g h2_; exfalso; omega
        replace HS103 := HS103.ext hc559
        replace H := H_; clear H_; try dsimp only [setn, addE, goneL] at H
        refine wpList_nil ?_
        refine th_n ⟨HS103, ?_⟩
        refine wpAnyH_all (rs := [10]) (by kernel_rfl) (by simp) ?_
        refine all1 ?_
        ·
         refine wpOp_of_list rfl ?_
         refine e_build (ps := [(1, .slice A534 (List.length r61) c535), (2, .slice (some ⟨g557, 0, none⟩) (List.length (List.replicate (Int.toNat (((List.length aAccept) : Nat) : Int)) (0 : Int))) (Int.toNat (((List.length aAccept) : Nat) : Int))), (3, .slice (some ⟨g551, 0, none⟩) (List.length (List.replicate (Int.toNat (((List.length aAccept) : Nat) : Int)) ([] : List Int))) (Int.toNat (((List.length aAccept) : Nat) : Int)))]) (v := .agg #[.bool false, .slice A534 (List.length r61) c535, .slice (some ⟨g557, 0, none⟩) (List.length (List.replicate (Int.toNat (((List.length aAccept) : Nat) : Int)) (0 : Int))) (Int.toNat (((List.length aAccept) : Nat) : Int)), .slice (some ⟨g551, 0, none⟩) (List.length (List.replicate (Int.toNat (((List.length aAccept) : Nat) : Int)) ([] : List Int))) (Int.toNat (((List.length aAccept) : Nat) : Int))]) E rfl rfl tbok rfl (by kernel_rfl) rfl ?_
         clear E; intro a E
         refine wpList_nil ?_
         refine th_n ⟨HS103, ?_⟩
         refine wpAnyH_all (rs := [12]) (by kernel_rfl) (by simp) ?_
         refine all1 ?_
         ·
          refine wpOp_of_list rfl ?_
          refine h_store (g := g521) (off := 0) H 7 rfl E rfl rfl rfl rfl tbok rfl rfl rfl rfl rfl ?_
          clear E; intro w563 a hc564 H_ E
          replace HS103 := HS103.trans hc564 (fun k_ hk_ h_ => hin526 k_ hk_ h_)
          replace H := H_; clear H_; try dsimp only [setn, addE, goneL] at H
          refine wpList_nil ?_
          refine th_n ⟨HS103, ?_⟩
          refine dr_done (by kernel_rfl) ?_
          exact .inl ⟨rfl, g521, A534, c535, (some ⟨g557, 0, none⟩), (some ⟨g551, 0, none⟩), E.pick _ ⟨rfl, rfl, rfl, trivial⟩, H.sel [5, 6, 7, 8, 10, 9] rfl⟩
     ·
      refine wpOp_of_list rfl ?_
      refine h_make (cInt .u8) (0 : Int) H E rfl rfl tbok rfl rfl rfl rfl ⟨g73.1, Int.le_refl _, g73.2⟩ rfl rfl rfl (fun _ _ => rfl) ?_
      intro w566 g565 a hc567 hg569 H_ E_
      replace E := E_ _ rfl; clear E_
      have hin570 : ∀ q_, q_ < w37.heap.size → At (some ⟨g565, 0, none⟩) q_ → (atL []) q_ := fun q_ h1_ h2_ => by have hs_ := HS103.size; have h4_ : q_ = g565 := At.of_g h2_; exfalso; omega
      replace HS103 := HS103.ext hc567
      replace H := H_; clear H_; try dsimp only [setn, addE, goneL] at H
      refine wpList_nil ?_
      refine th_n ⟨HS103, ?_⟩
      refine wpAnyH_all (rs := [1, 9]) (by kernel_rfl) (by simp) ?_
      refine all2 ?_ ?_
      ·
       refine wpOp_of_list rfl ?_
       obtain ⟨Fa571, Hc572, hb573⟩ := H.call [] [(6, false)] rfl rfl trivial
       refine e_call E rfl rfl Try.func32 rfl rfl rfl (moore_game_ranks_calls b42 0 x45.1  Hc572 h62) ?_
       rintro v574 w575 a ⟨A578, c579, rfl, HR576⟩ E_
       replace E := E_ _ rfl; clear E_
       obtain ⟨H_, hc577⟩ := hb573 _ _ HR576 rfl
       replace HS103 := HS103.ext (callS_ext hc577)
       replace H := H_; clear H_; try dsimp only [setn, addE, goneL] at H
       refine wpList_nil ?_
       refine th_n ⟨HS103, ?_⟩
       refine wpAnyH_all (rs := [9]) (by kernel_rfl) (by simp) ?_
       refine all1 ?_
       ·
        refine wpOp_of_list rfl ?_
        refine h_make (cSl (cInt .u8)) ([] : List Int) H E rfl rfl tbok rfl rfl rfl rfl ⟨g73.1, Int.le_refl _, g73.2⟩ rfl rfl rfl (fun _ _ => kSl_nil) ?_
        intro w582 g581 a hc583 hg585 H_ E_
        replace E := E_ _ rfl; clear E_
        have hin586 : ∀ q_, q_ < w37.heap.size → At (some ⟨g581, 0, none⟩) q_ → (atL []) q_ := fun q_ h1_ h2_ => by have hs_ := HS103.size; have h4_ : q_ = g581 := At.of_g h2_; exfalso; omega
        replace HS103 := HS103.ext hc583
        replace H := H_; clear H_; try dsimp only [setn, addE, goneL] at H
        refine wpList_nil ?_
        refine th_n ⟨HS103, ?_⟩
        refine wpAnyH_all (rs := [10]) (by kernel_rfl) (by simp) ?_
        refine all1 ?_
        ·
         refine wpOp_of_list rfl ?_
         refine e_build (ps := [(1, .slice A578 (List.length r61) c579), (2, .slice (some ⟨g565, 0, none⟩) (List.length (List.replicate (Int.toNat (((List.length aAccept) : Nat) : Int)) (0 : Int))) (Int.toNat (((List.length aAccept) : Nat) : Int))), (3, .slice (some ⟨g581, 0, none⟩) (List.length (List.replicate (Int.toNat (((List.length aAccept) : Nat) : Int)) ([] : List Int))) (Int.toNat (((List.length aAccept) : Nat) : Int)))]) (v := .agg #[.bool false, .slice A578 (List.length r61) c579, .slice (some ⟨g565, 0, none⟩) (List.length (List.replicate (Int.toNat (((List.length aAccept) : Nat) : Int)) (0 : Int))) (Int.toNat (((List.length aAccept) : Nat) : Int)), .slice (some ⟨g581, 0, none⟩) (List.length (List.replicate (Int.toNat (((List.length aAccept) : Nat) : Int)) ([] : List Int))) (Int.toNat (((List.length aAccept) : Nat) : Int))]) E rfl rfl tbok rfl (by kernel_rfl) rfl ?_
         clear E; intro a E
         refine wpList_nil ?_
         refine th_n ⟨HS103, ?_⟩
         refine wpAnyH_all (rs := [12]) (by kernel_rfl) (by simp) ?_
         refine all1 ?_
         ·
          refine wpOp_of_list rfl ?_
          refine h_store (g := g521) (off := 0) H 7 rfl E rfl rfl rfl rfl tbok rfl rfl rfl rfl rfl ?_
          clear E; intro w587 a hc588 H_ E
          replace HS103 := HS103.trans hc588 (fun k_ hk_ h_ => hin526 k_ hk_ h_)
          replace H := H_; clear H_; try dsimp only [setn, addE, goneL] at H
          refine wpList_nil ?_
          refine th_n ⟨HS103, ?_⟩
          refine dr_done (by kernel_rfl) ?_
          exact .inl ⟨rfl, g521, A578, c579, (some ⟨g565, 0, none⟩), (some ⟨g581, 0, none⟩), E.pick _ ⟨rfl, rfl, rfl, trivial⟩, H.sel [5, 6, 7, 9, 8, 10] rfl⟩
      ·
       refine wpOp_of_list rfl ?_
       refine h_make (cSl (cInt .u8)) ([] : List Int) H E rfl rfl tbok rfl rfl rfl rfl ⟨g73.1, Int.le_refl _, g73.2⟩ rfl rfl rfl (fun _ _ => kSl_nil) ?_
       intro w590 g589 a hc591 hg593 H_ E_
       replace E := E_ _ rfl; clear E_
       have hin594 : ∀ q_, q_ < w37.heap.size → At (some ⟨g589, 0, none⟩) q_ → (atL []) q_ := fun q_ h1_ h2_ => by have hs_ := HS103.size; have h4_ : q_ = g589 := At.of_g h2_; exfalso; omega
       replace HS103 := HS103.ext hc591
       replace H := H_; clear H_; try dsimp only [setn, addE, goneL] at H
       refine wpList_nil ?_
       refine th_n ⟨HS103, ?_⟩
       refine wpAnyH_all (rs := [1]) (by kernel_rfl) (by simp) ?_
       refine all1 ?_
       ·
        refine wpOp_of_list rfl ?_
        obtain ⟨Fa595, Hc596, hb597⟩ := H.call [] [(6, false)] rfl rfl trivial
        refine e_call E rfl rfl Try.func32 rfl rfl rfl (moore_game_ranks_calls b42 0 x45.1  Hc596 h62) ?_
        rintro v598 w599 a ⟨A602, c603, rfl, HR600⟩ E_
        replace E := E_ _ rfl; clear E_
        obtain ⟨H_, hc601⟩ := hb597 _ _ HR600 rfl
        replace HS103 := HS103.ext (callS_ext hc601)
        replace H := H_; clear H_; try dsimp only [setn, addE, goneL] at H
        refine wpList_nil ?_
        refine th_n ⟨HS103, ?_⟩
        refine wpAnyH_all (rs := [10]) (by kernel_rfl) (by simp) ?_
        refine all1 ?_
        ·
         refine wpOp_of_list rfl ?_
         refine e_build (ps := [(1, .slice A602 (List.length r61) c603), (2, .slice (some ⟨g565, 0, none⟩) (List.length (List.replicate (Int.toNat (((List.length aAccept) : Nat) : Int)) (0 : Int))) (Int.toNat (((List.length aAccept) : Nat) : Int))), (3, .slice (some ⟨g589, 0, none⟩) (List.length (List.replicate (Int.toNat (((List.length aAccept) : Nat) : Int)) ([] : List Int))) (Int.toNat (((List.length aAccept) : Nat) : Int)))]) (v := .agg #[.bool false, .slice A602 (List.length r61) c603, .slice (some ⟨g565, 0, none⟩) (List.length (List.replicate (Int.toNat (((List.length aAccept) : Nat) : Int)) (0 : Int))) (Int.toNat (((List.length aAccept) : Nat) : Int)), .slice (some ⟨g589, 0, none⟩) (List.length (List.replicate (Int.toNat (((List.length aAccept) : Nat) : Int)) ([] : List Int))) (Int.toNat (((List.length aAccept) : Nat) : Int))]) E rfl rfl tbok rfl (by kernel_rfl) rfl ?_
         clear E; intro a E
         refine wpList_nil ?_
         refine th_n ⟨HS103, ?_⟩
         refine wpAnyH_all (rs := [12]) (by kernel_rfl) (by simp) ?_
         refine all1 ?_
         ·
          refine wpOp_of_list rfl ?_
          refine h_store (g := g521) (off := 0) H 7 rfl E rfl rfl rfl rfl tbok rfl rfl rfl rfl rfl ?_
          clear E; intro w605 a hc606 H_ E
          replace HS103 := HS103.trans hc606 (fun k_ hk_ h_ => hin526 k_ hk_ h_)
          replace H := H_; clear H_; try dsimp only [setn, addE, goneL] at H
          refine wpList_nil ?_
          refine th_n ⟨HS103, ?_⟩
          refine dr_done (by kernel_rfl) ?_
          exact .inl ⟨rfl, g521, A602, c603, (some ⟨g565, 0, none⟩), (some ⟨g589, 0, none⟩), E.pick _ ⟨rfl, rfl, rfl, trivial⟩, H.sel [5, 6, 7, 10, 8, 9] rfl⟩
     ·
      refine wpOp_of_list rfl ?_
      refine h_make (cSl (cInt .u8)) ([] : List Int) H E rfl rfl tbok rfl rfl rfl rfl ⟨g73.1, Int.le_refl _, g73.2⟩ rfl rfl rfl (fun _ _ => kSl_nil) ?_
      intro w608 g607 a hc609 hg611 H_ E_
      replace E := E_ _ rfl; clear E_
      have hin612 : ∀ q_, q_ < w37.heap.size → At (some ⟨g607, 0, none⟩) q_ → (atL []) q_ := fun q_ h1_ h2_ => by have hs_ := HS103.size; have h4_ : q_ = g607 := At.of_g h2_; exfalso; omega
      replace HS103 := HS103.ext hc609
      replace H := H_; clear H_; try dsimp only [setn, addE, goneL] at H
      refine wpList_nil ?_
      refine th_n ⟨HS103, ?_⟩
      refine wpAnyH_all (rs := [1, 5]) (by kernel_rfl) (by simp) ?_
      refine all2 ?_ ?_
      ·
       refine wpOp_of_list rfl ?_
       obtain ⟨Fa613, Hc614, hb615⟩ := H.call [] [(6, false)] rfl rfl trivial
       refine e_call E rfl rfl Try.func32 rfl rfl rfl (moore_game_ranks_calls b42 0 x45.1  Hc614 h62) ?_
       rintro v616 w617 a ⟨A620, c621, rfl, HR618⟩ E_
       replace E := E_ _ rfl; clear E_
       obtain ⟨H_, hc619⟩ := hb615 _ _ HR618 rfl
       replace HS103 := HS103.ext (callS_ext hc619)
       replace H := H_; clear H_; try dsimp only [setn, addE, goneL] at H
       refine wpList_nil ?_
       refine th_n ⟨HS103, ?_⟩
       refine wpAnyH_all (rs := [5]) (by kernel_rfl) (by simp) ?_
       refine all1 ?_
       ·
        refine wpOp_of_list rfl ?_
        refine h_make (cInt .u8) (0 : Int) H E rfl rfl tbok rfl rfl rfl rfl ⟨g73.1, Int.le_refl _, g73.2⟩ rfl rfl rfl (fun _ _ => rfl) ?_
        intro w624 g623 a hc625 hg627 H_ E_
        replace E := E_ _ rfl; clear E_
        have hin628 : ∀ q_, q_ < w37.heap.size → At (some ⟨g623, 0, none⟩) q_ → (atL []) q_ := fun q_ h1_ h2_ => by have hs_ := HS103.size; have h4_ : q_ = g623 := At.of_g h2_; exfalso; omega
        replace HS103 := HS103.ext hc625
        replace H := H_; clear H_; try dsimp only [setn, addE, goneL] at H
        refine wpList_nil ?_
        refine th_n ⟨HS103, ?_⟩
        refine wpAnyH_all (rs := [10]) (by kernel_rfl) (by simp) ?_
        refine all1 ?_
        ·
         refine wpOp_of_list rfl ?_
         refine e_build (ps := [(1, .slice A620 (List.length r61) c621), (2, .slice (some ⟨g623, 0, none⟩) (List.length (List.replicate (Int.toNat (((List.length aAccept) : Nat) : Int)) (0 : Int))) (Int.toNat (((List.length aAccept) : Nat) : Int))), (3, .slice (some ⟨g607, 0, none⟩) (List.length (List.replicate (Int.toNat (((List.length aAccept) : Nat) : Int)) ([] : List Int))) (Int.toNat (((List.length aAccept) : Nat) : Int)))]) (v := .agg #[.bool false, .slice A620 (List.length r61) c621, .slice (some ⟨g623, 0, none⟩) (List.length (List.replicate (Int.toNat (((List.length aAccept) : Nat) : Int)) (0 : Int))) (Int.toNat (((List.length aAccept) : Nat) : Int)), .slice (some ⟨g607, 0, none⟩) (List.length (List.replicate (Int.toNat (((List.length aAccept) : Nat) : Int)) ([] : List Int))) (Int.toNat (((List.length aAccept) : Nat) : Int))]) E rfl rfl tbok rfl (by kernel_rfl) rfl ?_
         clear E; intro a E
         refine wpList_nil ?_
         refine th_n ⟨HS103, ?_⟩
         refine wpAnyH_all (rs := [12]) (by kernel_rfl) (by simp) ?_
         refine all1 ?_
         ·
          refine wpOp_of_list rfl ?_
          refine h_store (g := g521) (off := 0) H 7 rfl E rfl rfl rfl rfl tbok rfl rfl rfl rfl rfl ?_
          clear E; intro w629 a hc630 H_ E
          replace HS103 := HS103.trans hc630 (fun k_ hk_ h_ => hin526 k_ hk_ h_)
          replace H := H_; clear H_; try dsimp only [setn, addE, goneL] at H
          refine wpList_nil ?_
          refine th_n ⟨HS103, ?_⟩
          refine dr_done (by kernel_rfl) ?_
          exact .inl ⟨rfl, g521, A620, c621, (some ⟨g623, 0, none⟩), (some ⟨g607, 0, none⟩), E.pick _ ⟨rfl, rfl, rfl, trivial⟩, H.sel [5, 6, 7, 9, 10, 8] rfl⟩
      ·
       refine wpOp_of_list rfl ?_
       refine h_make (cInt .u8) (0 : Int) H E rfl rfl tbok rfl rfl rfl rfl ⟨g73.1, Int.le_refl _, g73.2⟩ rfl rfl rfl (fun _ _ => rfl) ?_
       intro w632 g631 a hc633 hg635 H_ E_
       replace E := E_ _ rfl; clear E_
       have hin636 : ∀ q_, q_ < w37.heap.size → At (some ⟨g631, 0, none⟩) q_ → (atL []) q_ := fun q_ h1_ h2_ => by have hs_ := HS103.size; have h4_ : q_ = g631 := At.of_g h2_; exfalso; omega
       replace HS103 := HS103.ext hc633
       replace H := H_; clear H_; try dsimp only [setn, addE, goneL] at H
       refine wpList_nil ?_
       refine th_n ⟨HS103, ?_⟩
       refine wpAnyH_all (rs := [1]) (by kernel_rfl) (by simp) ?_
       refine all1 ?_
       ·
        refine wpOp_of_list rfl ?_
        obtain ⟨Fa637, Hc638, hb639⟩ := H.call [] [(6, false)] rfl rfl trivial
        refine e_call E rfl rfl Try.func32 rfl rfl rfl (moore_game_ranks_calls b42 0 x45.1  Hc638 h62) ?_
        rintro v640 w641 a ⟨A644, c645, rfl, HR642⟩ E_
        replace E := E_ _ rfl; clear E_
        obtain ⟨H_, hc643⟩ := hb639 _ _ HR642 rfl
        replace HS103 := HS103.ext (callS_ext hc643)
        replace H := H_; clear H_; try dsimp only [setn, addE, goneL] at H
        refine wpList_nil ?_
        refine th_n ⟨HS103, ?_⟩
        refine wpAnyH_all (rs := [10]) (by kernel_rfl) (by simp) ?_
        refine all1 ?_
        ·
         refine wpOp_of_list rfl ?_
         refine e_build (ps := [(1, .slice A644 (List.length r61) c645), (2, .slice (some ⟨g631, 0, none⟩) (List.length (List.replicate (Int.toNat (((List.length aAccept) : Nat) : Int)) (0 : Int))) (Int.toNat (((List.length aAccept) : Nat) : Int))), (3, .slice (some ⟨g607, 0, none⟩) (List.length (List.replicate (Int.toNat (((List.length aAccept) : Nat) : Int)) ([] : List Int))) (Int.toNat (((List.length aAccept) : Nat) : Int)))]) (v := .agg #[.bool false, .slice A644 (List.length r61) c645, .slice (some ⟨g631, 0, none⟩) (List.length (List.replicate (Int.toNat (((List.length aAccept) : Nat) : Int)) (0 : Int))) (Int.toNat (((List.length aAccept) : Nat) : Int)), .slice (some ⟨g607, 0, none⟩) (List.length (List.replicate (Int.toNat (((List.length aAccept) : Nat) : Int)) ([] : List Int))) (Int.toNat (((List.length aAccept) : Nat) : Int))]) E rfl rfl tbok rfl (by kernel_rfl) rfl ?_
         clear E; intro a E
         refine wpList_nil ?_
         refine th_n ⟨HS103, ?_⟩
         refine wpAnyH_all (rs := [12]) (by kernel_rfl) (by simp) ?_
         refine all1 ?_
         ·
          refine wpOp_of_list rfl ?_
          refine h_store (g := g521) (off := 0) H 7 rfl E rfl rfl rfl rfl tbok rfl rfl rfl rfl rfl ?_
          clear E; intro w647 a hc648 H_ E
          replace HS103 := HS103.trans hc648 (fun k_ hk_ h_ => hin526 k_ hk_ h_)
          replace H := H_; clear H_; try dsimp only [setn, addE, goneL] at H
          refine wpList_nil ?_
          refine th_n ⟨HS103, ?_⟩
          refine dr_done (by kernel_rfl) ?_
          exact .inl ⟨rfl, g521, A644, c645, (some ⟨g631, 0, none⟩), (some ⟨g607, 0, none⟩), E.pick _ ⟨rfl, rfl, rfl, trivial⟩, H.sel [5, 6, 7, 10, 9, 8] rfl⟩
   ·
    clear E H; rintro a w100 ⟨g92, A94, c95, A97, A99, E, H⟩
    refine th_n ?_
    refine wp_seq ?_
    refine wp_region_lit ?_
    obtain ⟨g649, hP⟩ := ask_inv hP
    obtain ⟨b650, e_b650⟩ := H.raddr 3 rfl (idx_pos g649)
    subst e_b650
    refine vr tbok 6 [.slice (some ⟨b650, 0, none⟩) (List.length r61) c95, .int .i64 (List.getD r61 (Int.toNat (0 : Int)) 0)] [(4, .pointer (some ⟨g23, 0, none⟩)), (6, .pointer (some ⟨b42, 0, none⟩)), (8, .pointer (some ⟨g92, 0, none⟩)), (36, .bool (decide (0 ≤ (List.getD r61 (Int.toNat (0 : Int)) 0)))), (37, .pointer (some ⟨g92, 0, none⟩))] [World.cell? w100 ⟨g92, 1, none⟩ = some (.slice (some ⟨b650, 0, none⟩) (List.length r61) c95), 0 ≤ (0 : Int) ∧ (0 : Int) < (((List.length r61) : Nat) : Int), World.cell? w100 ⟨b650, 0 + (Int.toNat (0 : Int)) * 1, none⟩ = some (.int .i64 (List.getD r61 (Int.toNat (0 : Int)) 0))] E (by kernel_rfl) ⟨(H.box 2 rfl).cell (j := 1) rfl, g649, Rds.at1 (H.rd 3 rds_row) 0 g649⟩ ?_
    clear E; intro a E
    refine h_store (g := g92) (off := 0) H 2 rfl E rfl rfl rfl rfl tbok rfl rfl rfl rfl rfl ?_
    clear E; intro w652 a hc653 H_ E
    replace H := H_; clear H_; try dsimp only [setn, addE, goneL] at H
    refine wpList_nil ?_
    refine th_n ?_
    refine wp_seq ?_
    refine wp_seq ?_
    refine wp_region_lit ?_
    refine vr tbok 4 [.slice (some ⟨b650, 0, none⟩) (List.length r61) c95] [(4, .pointer (some ⟨g23, 0, none⟩)), (6, .pointer (some ⟨b42, 0, none⟩)), (8, .pointer (some ⟨g92, 0, none⟩)), (39, .slice (some ⟨b650, 0, none⟩) (List.length r61) c95), (40, .int .i64 (((List.length r61) : Nat) : Int)), (41, .int .i64 0)] [World.cell? w652 ⟨g92, 1, none⟩ = some (.slice (some ⟨b650, 0, none⟩) (List.length r61) c95)] E (by kernel_rfl) ((H.box 2 rfl).cell (j := 1) rfl) ?_
    clear E; intro a E
    refine wpList_nil ?_
    refine th_n ?_
    refine wp_block ?_
    obtain ⟨x808, hL809, hK810⟩ := bind_inv hP
    clear hP
    refine loop_cut (fun i_ a w_ => (i_ = 0 ∧ ∃ (x813 : (List Int) × (List (List Int))), Fr a 72 [(4, .pointer (some ⟨g23, 0, none⟩)), (8, .pointer (some ⟨g92, 0, none⟩))] ∧ Hp S Fa w0 w_ [.box g23 38 [.bool false, .slice none 0 0, .slice none 0 0, .slice none 0 0], .box g92 38 [.bool (decide (0 ≤ (List.getD r61 (Int.toNat (0 : Int)) 0))), .slice (some ⟨b650, 0, none⟩) (List.length r61) c95, .slice A97 (List.length x813.1) (Int.toNat (((List.length aAccept) : Nat) : Int)), .slice A99 (List.length x813.2) (Int.toNat (((List.length aAccept) : Nat) : Int))], .row true (cInt .i64) 3 (some ⟨b650, 0, none⟩) c95 r61, .rowx true (cInt .u8) 27 A97 (Int.toNat (((List.length aAccept) : Nat) : Int)) x813.1 (List.replicate (Int.toNat (((List.length aAccept) : Nat) : Int) - Int.toNat (((List.length aAccept) : Nat) : Int)) (0 : Int)), .rowx true (cSl (cInt .u8)) 35 A99 (Int.toNat (((List.length aAccept) : Nat) : Int)) x813.2 (List.replicate (Int.toNat (((List.length aAccept) : Nat) : Int) - Int.toNat (((List.length aAccept) : Nat) : Int)) ([] : List Int))] ∧ x808 = x813)) ?_ ?_
    ·
     refine loopV (fun m812 a w811 => ∃ (x726 : List Int) (x727 : List (List Int)) (x728 : Int), Fr a 72 [(4, .pointer (some ⟨g23, 0, none⟩)), (6, .pointer (some ⟨b42, 0, none⟩)), (8, .pointer (some ⟨g92, 0, none⟩)), (39, .slice (some ⟨b650, 0, none⟩) (List.length r61) c95), (40, .int .i64 (((List.length r61) : Nat) : Int)), (41, .int .i64 x728)] ∧ Hp S Fa w0 w811 [.box g23 38 [.bool false, .slice none 0 0, .slice none 0 0, .slice none 0 0], .ro false cS87 (some ⟨b42, 0, none⟩) ([x45.1]), .box g92 38 [.bool (decide (0 ≤ (List.getD r61 (Int.toNat (0 : Int)) 0))), .slice (some ⟨b650, 0, none⟩) (List.length r61) c95, .slice A97 (List.length x726) (Int.toNat (((List.length aAccept) : Nat) : Int)), .slice A99 (List.length x727) (Int.toNat (((List.length aAccept) : Nat) : Int))], .row true (cInt .i64) 3 (some ⟨b650, 0, none⟩) c95 r61, .rowx true (cInt .u8) 27 A97 (Int.toNat (((List.length aAccept) : Nat) : Int)) x726 (List.replicate (Int.toNat (((List.length aAccept) : Nat) : Int) - Int.toNat (((List.length aAccept) : Nat) : Int)) (0 : Int)), .rowx true (cSl (cInt .u8)) 35 A99 (Int.toNat (((List.length aAccept) : Nat) : Int)) x727 (List.replicate (Int.toNat (((List.length aAccept) : Nat) : Int) - Int.toNat (((List.length aAccept) : Nat) : Int)) ([] : List Int))] ∧ moore_Of_l0 N x45 r61 m812 x726 x727 x728 = some x808) N ?_ ?_
     ·
      exact ⟨List.replicate (Int.toNat (((List.length aAccept) : Nat) : Int)) (0 : Int), List.replicate (Int.toNat (((List.length aAccept) : Nat) : Int)) ([] : List Int), 0, E.pick _ ⟨rfl, rfl, rfl, rfl, rfl, rfl, trivial⟩, H.sel [0, 1, 2, 3, 4, 5] rfl, hL809⟩
     ·
      clear E H hL809; intro m812 a w811 hI_
      obtain ⟨x726, x727, x728, E, H, hP⟩ := hI_
      obtain ⟨m807, rfl⟩ : ∃ q_, m812 = q_ + 1 := by cases m812 with | zero => rw [moore_Of_l0] at hP; cases hP | succ q_ => exact ⟨q_, rfl⟩
      rw [moore_Of_l0] at hP
      refine wp_seq ?_
      refine wp_region_lit ?_
      refine vr tbok 1 [] [(4, .pointer (some ⟨g23, 0, none⟩)), (6, .pointer (some ⟨b42, 0, none⟩)), (8, .pointer (some ⟨g92, 0, none⟩)), (39, .slice (some ⟨b650, 0, none⟩) (List.length r61) c95), (40, .int .i64 (((List.length r61) : Nat) : Int)), (41, .int .i64 x728), (42, .bool (decide (x728 < (((List.length r61) : Nat) : Int))))] [] E (by kernel_rfl) trivial ?_
      clear E; intro a E
      refine wpList_nil ?_
      refine th_n ?_
      refine wp_seq ?_
      refine E.cases (t := 42) rfl (fun hb_ E_ => ?_) (fun hb_ E_ => ?_)
      ·
       replace E := E_; clear E_
       have h814 : x728 < (((List.length r61) : Nat) : Int) := of_decide_eq_true hb_
       clear hb_; replace hP := ite_t h814 hP
       refine c_true E rfl ?_
       refine wp_skip ?_
       refine th_n ?_
       refine wp_seq ?_
       refine wp_block ?_
       refine wp_seq ?_
       refine wp_region_lit ?_
       obtain ⟨g815, hP⟩ := ask_inv hP
       refine vr tbok 5 [.int .i64 (List.getD r61 (Int.toNat x728) 0)] [(4, .pointer (some ⟨g23, 0, none⟩)), (6, .pointer (some ⟨b42, 0, none⟩)), (8, .pointer (some ⟨g92, 0, none⟩)), (9, .int .i64 x728), (10, .int .i64 (List.getD r61 (Int.toNat x728) 0)), (39, .slice (some ⟨b650, 0, none⟩) (List.length r61) c95), (40, .int .i64 (((List.length r61) : Nat) : Int)), (41, .int .i64 x728)] [0 ≤ x728 ∧ x728 < (((List.length r61) : Nat) : Int), World.cell? w811 ⟨b650, 0 + (Int.toNat x728) * 1, none⟩ = some (.int .i64 (List.getD r61 (Int.toNat x728) 0))] E (by kernel_rfl) ⟨g815, Rds.at1 (H.rd 3 rds_row) 0 g815⟩ ?_
       clear E; intro a E
       refine wpList_nil ?_
       refine th_n ?_
       refine wp_block ?_
       refine wp_seq ?_
       refine wp_region_lit ?_
       refine vr tbok 3 [] [(4, .pointer (some ⟨g23, 0, none⟩)), (6, .pointer (some ⟨b42, 0, none⟩)), (8, .pointer (some ⟨g92, 0, none⟩)), (9, .int .i64 x728), (10, .int .i64 (List.getD r61 (Int.toNat x728) 0)), (39, .slice (some ⟨b650, 0, none⟩) (List.length r61) c95), (40, .int .i64 (((List.length r61) : Nat) : Int)), (41, .int .i64 x728), (46, .bool (decide (0 < (List.getD r61 (Int.toNat x728) 0))))] [] E (by kernel_rfl) trivial ?_
       clear E; intro a E
       refine wpList_nil ?_
       refine th_n ?_
       refine E.cases (t := 46) rfl (fun hb_ E_ => ?_) (fun hb_ E_ => ?_)
       ·
        replace E := E_; clear E_
        have h816 : 0 < (List.getD r61 (Int.toNat x728) 0) := of_decide_eq_true hb_
        clear hb_; replace hP := ite_t h816 hP
        refine c_true E rfl ?_
        obtain ⟨r817, h818, hP⟩ := bind_inv hP
        obtain ⟨g826, hP⟩ := ask_inv hP
        obtain ⟨b827, e_b827⟩ := H.raddrx 4 rfl (idx_pos g826)
        subst e_b827
        have HR835 := H
        refine dr_start (S := fun w_ => Chg (atL [.rowx true (cInt .u8) 27 (some ⟨b827, 0, none⟩) (Int.toNat (((List.length aAccept) : Nat) : Int)) x726 (List.replicate (Int.toNat (((List.length aAccept) : Nat) : Int) - Int.toNat (((List.length aAccept) : Nat) : Int)) (0 : Int))]) w811 w_) (by kernel_rfl) ?_
        intro w832 hc833
        have HS834 : Chg (atL [.rowx true (cInt .u8) 27 (some ⟨b827, 0, none⟩) (Int.toNat (((List.length aAccept) : Nat) : Int)) x726 (List.replicate (Int.toNat (((List.length aAccept) : Nat) : Int) - Int.toNat (((List.length aAccept) : Nat) : Int)) (0 : Int))]) w811 w832 := hc833.mono (fun _ _ h_ => h_.elim)
        replace H := H.ext hc833
        refine dr tbok (by kernel_rfl) [0, 1, 2, 3, 4, 5, 6] [.slice (some ⟨b827, 0, none⟩) (List.length x726) (Int.toNat (((List.length aAccept) : Nat) : Int)), .slice (some ⟨b650, 0, none⟩) (List.length r61) c95] [(4, .pointer (some ⟨g23, 0, none⟩)), (6, .pointer (some ⟨b42, 0, none⟩)), (8, .pointer (some ⟨g92, 0, none⟩)), (39, .slice (some ⟨b650, 0, none⟩) (List.length r61) c95), (40, .int .i64 (((List.length r61) : Nat) : Int)), (41, .int .i64 x728), (50, .slice (some ⟨b827, 0, none⟩) (List.length x726) (Int.toNat (((List.length aAccept) : Nat) : Int))), (51, .int .i64 x728), (52, .pointer (some ⟨b42, 0, none⟩)), (54, .slice (some ⟨b650, 0, none⟩) (List.length r61) c95), (55, .int .i64 x728)] (fun w_ => [World.cell? w_ ⟨g92, 2, none⟩ = some (.slice (some ⟨b827, 0, none⟩) (List.length x726) (Int.toNat (((List.length aAccept) : Nat) : Int))), World.cell? w_ ⟨g92, 1, none⟩ = some (.slice (some ⟨b650, 0, none⟩) (List.length r61) c95)]) 3 E (fun _ _ => by kernel_rfl) (fun w_ hS_ => ⟨(HR835.boxk [4] hS_ 2 rfl rfl).cell (j := 2) rfl, (HR835.boxk [4] hS_ 2 rfl rfl).cell (j := 1) rfl⟩) (by kernel_rfl) HS834 ?_
        clear E; intro a E
        refine wpAnyH_all (rs := [7]) (by kernel_rfl) (by simp) ?_
        refine all1 ?_
        ·
         refine wpOp_of_list rfl ?_
         obtain ⟨Fa836, Hc837, hb838⟩ := H.call [] [(1, false), (3, false)] rfl rfl trivial
         refine e_call E rfl rfl Try.func36 rfl rfl rfl (moore_game_choice_calls b42 0 (some ⟨b650, 0, none⟩) c95 x45.1 r61 x728 (H.rcap 3 rfl) Hc837 h818) ?_
         rintro v839 w840 a ⟨rfl, HR841⟩ E_
         replace E := E_ _ rfl; clear E_
         obtain ⟨H_, hc842⟩ := hb838 _ _ HR841 rfl
         replace HS834 := HS834.ext (callS_ext hc842)
         replace H := H_; clear H_; try dsimp only [setn, addE, goneL] at H
         refine wpList_nil ?_
         refine th_n ⟨HS834, ?_⟩
         refine wpAnyH_all (rs := [8]) (by kernel_rfl) (by simp) ?_
         refine all1 ?_
         ·
          refine wpOp_of_list rfl ?_
          refine vr tbok 1 [] [(4, .pointer (some ⟨g23, 0, none⟩)), (6, .pointer (some ⟨b42, 0, none⟩)), (8, .pointer (some ⟨g92, 0, none⟩)), (39, .slice (some ⟨b650, 0, none⟩) (List.length r61) c95), (40, .int .i64 (((List.length r61) : Nat) : Int)), (41, .int .i64 x728), (50, .slice (some ⟨b827, 0, none⟩) (List.length x726) (Int.toNat (((List.length aAccept) : Nat) : Int))), (51, .int .i64 x728), (56, .int .u8 r817), (57, .pointer (some ⟨b827, 0 + (Int.toNat x728) * 1, none⟩))] [0 ≤ x728 ∧ x728 < (((List.length x726) : Nat) : Int)] E (by kernel_rfl) (g826) ?_
          clear E; intro a E
          refine wpList_nil ?_
          refine th_n ⟨HS834, ?_⟩
          refine wpAnyH_all (rs := [9]) (by kernel_rfl) (by simp) ?_
          refine all1 ?_
          ·
           refine wpOp_of_list rfl ?_
           refine h_setx (g := b827) (i := x728) r817 H 4 rfl E rfl rfl rfl rfl tbok rfl (fun _ HF_ => rfl) rfl g826 rfl ?_
           clear E; intro w843 a hc844 H_ E
           replace HS834 := HS834.trans hc844 (fun k_ hk_ h_ => (fun _ _ h_ => Or.inl h_) k_ hk_ h_)
           replace H := H_; clear H_; try dsimp only [setn, addE, goneL] at H
           have hn845 : (List.length x726) = (List.length (List.set x726 (Int.toNat x728) r817)) := by simp only [List.length_set]
           replace E := E.same (t := 50) (u := .slice (some ⟨b827, 0, none⟩) (List.length (List.set x726 (Int.toNat x728) r817)) (Int.toNat (((List.length aAccept) : Nat) : Int))) rfl (congrArg (fun n_ => Value.slice (some ⟨b827, 0, none⟩) n_ (Int.toNat (((List.length aAccept) : Nat) : Int))) hn845)
           replace H := H.boxEq 2 rfl (by rw [hn845]); try dsimp only [setn, addE, goneL] at H
           refine wpList_nil ?_
           refine th_n ⟨HS834, ?_⟩
           refine dr_done (by kernel_rfl) ?_
           clear HS834 HR835
           refine bl_n ?_
           refine bl_n ?_
           refine th_n ?_
           refine wp_region_lit ?_
           obtain ⟨g846, hP⟩ := ask_inv hP
           refine vr tbok 2 [.int .i64 (x728 + 1)] [(4, .pointer (some ⟨g23, 0, none⟩)), (6, .pointer (some ⟨b42, 0, none⟩)), (8, .pointer (some ⟨g92, 0, none⟩)), (39, .slice (some ⟨b650, 0, none⟩) (List.length r61) c95), (40, .int .i64 (((List.length r61) : Nat) : Int)), (41, .int .i64 (x728 + 1))] [IntKind.i64.wrap (x728 + 1) = x728 + 1] E (by kernel_rfl) (wrap_in g846) ?_
           clear E; intro a E
           refine wpList_nil ?_
           exact th_n ⟨m807, Nat.lt_succ_self _, List.set x726 (Int.toNat x728) r817, x727, x728 + 1, E.pick _ ⟨rfl, rfl, rfl, rfl, rfl, rfl, trivial⟩, H.sel [0, 1, 2, 3, 4, 5] rfl, hP⟩
       ·
        replace E := E_; clear E_
        have h847 : ¬ (0 < (List.getD r61 (Int.toNat x728) 0)) := of_decide_eq_false hb_
        clear hb_; replace hP := ite_f h847 hP
        refine c_false E rfl ?_
        refine wp_seq ?_
        refine wp_region_lit ?_
        refine vr tbok 3 [] [(4, .pointer (some ⟨g23, 0, none⟩)), (6, .pointer (some ⟨b42, 0, none⟩)), (8, .pointer (some ⟨g92, 0, none⟩)), (9, .int .i64 x728), (39, .slice (some ⟨b650, 0, none⟩) (List.length r61) c95), (40, .int .i64 (((List.length r61) : Nat) : Int)), (41, .int .i64 x728), (58, .bool (decide ((List.getD r61 (Int.toNat x728) 0) < 0)))] [] E (by kernel_rfl) trivial ?_
        clear E; intro a E
        refine wpList_nil ?_
        refine th_n ?_
        refine E.cases (t := 58) rfl (fun hb_ E_ => ?_) (fun hb_ E_ => ?_)
        ·
         replace E := E_; clear E_
         have h848 : (List.getD r61 (Int.toNat x728) 0) < 0 := of_decide_eq_true hb_
         clear hb_; replace hP := ite_t h848 hP
         refine c_true E rfl ?_
         obtain ⟨r849, h850, hP⟩ := bind_inv hP
         obtain ⟨g861, hP⟩ := ask_inv hP
         obtain ⟨b862, e_b862⟩ := H.raddrx 5 rfl (idx_pos g861)
         subst e_b862
         have HR871 := H
         refine dr_start (S := fun w_ => Chg (atL [.rowx true (cSl (cInt .u8)) 35 (some ⟨b862, 0, none⟩) (Int.toNat (((List.length aAccept) : Nat) : Int)) x727 (List.replicate (Int.toNat (((List.length aAccept) : Nat) : Int) - Int.toNat (((List.length aAccept) : Nat) : Int)) ([] : List Int))]) w811 w_) (by kernel_rfl) ?_
         intro w868 hc869
         have HS870 : Chg (atL [.rowx true (cSl (cInt .u8)) 35 (some ⟨b862, 0, none⟩) (Int.toNat (((List.length aAccept) : Nat) : Int)) x727 (List.replicate (Int.toNat (((List.length aAccept) : Nat) : Int) - Int.toNat (((List.length aAccept) : Nat) : Int)) ([] : List Int))]) w811 w868 := hc869.mono (fun _ _ h_ => h_.elim)
         replace H := H.ext hc869
         refine dr tbok (by kernel_rfl) [0, 1, 2, 3, 4, 5, 6] [.slice (some ⟨b862, 0, none⟩) (List.length x727) (Int.toNat (((List.length aAccept) : Nat) : Int)), .slice (some ⟨b650, 0, none⟩) (List.length r61) c95] [(4, .pointer (some ⟨g23, 0, none⟩)), (6, .pointer (some ⟨b42, 0, none⟩)), (8, .pointer (some ⟨g92, 0, none⟩)), (39, .slice (some ⟨b650, 0, none⟩) (List.length r61) c95), (40, .int .i64 (((List.length r61) : Nat) : Int)), (41, .int .i64 x728), (62, .slice (some ⟨b862, 0, none⟩) (List.length x727) (Int.toNat (((List.length aAccept) : Nat) : Int))), (63, .int .i64 x728), (64, .pointer (some ⟨b42, 0, none⟩)), (66, .slice (some ⟨b650, 0, none⟩) (List.length r61) c95), (67, .int .i64 x728)] (fun w_ => [World.cell? w_ ⟨g92, 3, none⟩ = some (.slice (some ⟨b862, 0, none⟩) (List.length x727) (Int.toNat (((List.length aAccept) : Nat) : Int))), World.cell? w_ ⟨g92, 1, none⟩ = some (.slice (some ⟨b650, 0, none⟩) (List.length r61) c95)]) 3 E (fun _ _ => by kernel_rfl) (fun w_ hS_ => ⟨(HR871.boxk [5] hS_ 2 rfl rfl).cell (j := 3) rfl, (HR871.boxk [5] hS_ 2 rfl rfl).cell (j := 1) rfl⟩) (by kernel_rfl) HS870 ?_
         clear E; intro a E
         refine wpAnyH_all (rs := [7]) (by kernel_rfl) (by simp) ?_
         refine all1 ?_
         ·
          refine wpOp_of_list rfl ?_
          obtain ⟨Fa872, Hc873, hb874⟩ := H.call [] [(1, false), (3, false)] rfl rfl trivial
          refine e_call E rfl rfl Try.func37 rfl rfl rfl (moore_game_reply_calls b42 0 (some ⟨b650, 0, none⟩) c95 x45.1 r61 x728 (H.rcap 3 rfl) Hc873 h850) ?_
          rintro v875 w876 a ⟨A879, c880, rfl, HR877⟩ E_
          replace E := E_ _ rfl; clear E_
          obtain ⟨H_, hc878⟩ := hb874 _ _ HR877 rfl
          replace HS870 := HS870.ext (callS_ext hc878)
          replace H := H_; clear H_; try dsimp only [setn, addE, goneL] at H
          refine wpList_nil ?_
          refine th_n ⟨HS870, ?_⟩
          refine wpAnyH_all (rs := [8]) (by kernel_rfl) (by simp) ?_
          refine all1 ?_
          ·
           refine wpOp_of_list rfl ?_
           refine vr tbok 1 [] [(4, .pointer (some ⟨g23, 0, none⟩)), (6, .pointer (some ⟨b42, 0, none⟩)), (8, .pointer (some ⟨g92, 0, none⟩)), (39, .slice (some ⟨b650, 0, none⟩) (List.length r61) c95), (40, .int .i64 (((List.length r61) : Nat) : Int)), (41, .int .i64 x728), (62, .slice (some ⟨b862, 0, none⟩) (List.length x727) (Int.toNat (((List.length aAccept) : Nat) : Int))), (63, .int .i64 x728), (68, .slice A879 (List.length r849) c880), (69, .pointer (some ⟨b862, 0 + (Int.toNat x728) * 1, none⟩))] [0 ≤ x728 ∧ x728 < (((List.length x727) : Nat) : Int)] E (by kernel_rfl) (g861) ?_
           clear E; intro a E
           refine wpList_nil ?_
           refine th_n ⟨HS870, ?_⟩
           refine wpAnyH_all (rs := [9]) (by kernel_rfl) (by simp) ?_
           refine all1 ?_
           ·
            refine wpOp_of_list rfl ?_
            have hk882 := H.rcap 6 rfl
            replace H := H.frz 6 rfl; try dsimp only [setn, addE, goneL] at H
            refine h_setx (g := b862) (i := x728) r849 H 5 rfl E rfl rfl rfl rfl tbok rfl (fun _ HF_ => ⟨_, _, rfl, hk882, (HF_.roC 6 rfl)⟩) rfl g861 rfl ?_
            clear E; intro w883 a hc884 H_ E
            replace HS870 := HS870.trans hc884 (fun k_ hk_ h_ => (fun _ _ h_ => Or.inl h_) k_ hk_ h_)
            replace H := H_; clear H_; try dsimp only [setn, addE, goneL] at H
            have hn885 : (List.length x727) = (List.length (List.set x727 (Int.toNat x728) r849)) := by simp only [List.length_set]
            replace E := E.same (t := 62) (u := .slice (some ⟨b862, 0, none⟩) (List.length (List.set x727 (Int.toNat x728) r849)) (Int.toNat (((List.length aAccept) : Nat) : Int))) rfl (congrArg (fun n_ => Value.slice (some ⟨b862, 0, none⟩) n_ (Int.toNat (((List.length aAccept) : Nat) : Int))) hn885)
            replace H := H.boxEq 2 rfl (by rw [hn885]); try dsimp only [setn, addE, goneL] at H
            refine wpList_nil ?_
            refine th_n ⟨HS870, ?_⟩
            refine dr_done (by kernel_rfl) ?_
            clear HS870 HR871
            refine bl_n ?_
            refine bl_n ?_
            refine th_n ?_
            refine wp_region_lit ?_
            obtain ⟨g886, hP⟩ := ask_inv hP
            refine vr tbok 2 [.int .i64 (x728 + 1)] [(4, .pointer (some ⟨g23, 0, none⟩)), (6, .pointer (some ⟨b42, 0, none⟩)), (8, .pointer (some ⟨g92, 0, none⟩)), (39, .slice (some ⟨b650, 0, none⟩) (List.length r61) c95), (40, .int .i64 (((List.length r61) : Nat) : Int)), (41, .int .i64 (x728 + 1))] [IntKind.i64.wrap (x728 + 1) = x728 + 1] E (by kernel_rfl) (wrap_in g886) ?_
            clear E; intro a E
            refine wpList_nil ?_
            exact th_n ⟨m807, Nat.lt_succ_self _, x726, List.set x727 (Int.toNat x728) r849, x728 + 1, E.pick _ ⟨rfl, rfl, rfl, rfl, rfl, rfl, trivial⟩, H.sel [0, 1, 2, 3, 4, 5] rfl, hP⟩
        ·
         replace E := E_; clear E_
         have h887 : ¬ ((List.getD r61 (Int.toNat x728) 0) < 0) := of_decide_eq_false hb_
         clear hb_; replace hP := ite_f h887 hP
         refine c_false E rfl ?_
         refine wp_skip ?_
         refine bl_n ?_
         refine bl_n ?_
         refine th_n ?_
         refine wp_region_lit ?_
         obtain ⟨g888, hP⟩ := ask_inv hP
         refine vr tbok 2 [.int .i64 (x728 + 1)] [(4, .pointer (some ⟨g23, 0, none⟩)), (6, .pointer (some ⟨b42, 0, none⟩)), (8, .pointer (some ⟨g92, 0, none⟩)), (39, .slice (some ⟨b650, 0, none⟩) (List.length r61) c95), (40, .int .i64 (((List.length r61) : Nat) : Int)), (41, .int .i64 (x728 + 1))] [IntKind.i64.wrap (x728 + 1) = x728 + 1] E (by kernel_rfl) (wrap_in g888) ?_
         clear E; intro a E
         refine wpList_nil ?_
         exact th_n ⟨m807, Nat.lt_succ_self _, x726, x727, x728 + 1, E.pick _ ⟨rfl, rfl, rfl, rfl, rfl, rfl, trivial⟩, H.sel [0, 1, 2, 3, 4, 5] rfl, hP⟩
      ·
       replace E := E_; clear E_
       have h889 : ¬ (x728 < (((List.length r61) : Nat) : Int)) := of_decide_eq_false hb_
       clear hb_; replace hP := ite_f h889 hP
       refine c_false E rfl ?_
       refine wp_exit ?_
       refine th_exit ?_
       have hx_ := Option.some.inj hP
       refine th_exit (.inl ⟨0, rfl, ?_⟩)
       exact ⟨rfl, (x726, x727), E.pick _ ⟨rfl, rfl, trivial⟩, H.sel [0, 2, 3, 4, 5] rfl, hx_.symm⟩
    ·
     clear E H hL809; intro i_ a w811 hM_
     obtain ⟨rfl, x813, E, H, hx_⟩ := hM_
     subst hx_; have hP := hK810; clear hK810
     refine bl_hit ?_
     refine th_n ?_
     refine wp_seq ?_
     refine wp_region_lit ?_
     refine vr tbok 1 [.agg #[.bool (decide (0 ≤ (List.getD r61 (Int.toNat (0 : Int)) 0))), .slice (some ⟨b650, 0, none⟩) (List.length r61) c95, .slice A97 (List.length x808.1) (Int.toNat (((List.length aAccept) : Nat) : Int)), .slice A99 (List.length x808.2) (Int.toNat (((List.length aAccept) : Nat) : Int))]] [(4, .pointer (some ⟨g23, 0, none⟩)), (71, .agg #[.bool (decide (0 ≤ (List.getD r61 (Int.toNat (0 : Int)) 0))), .slice (some ⟨b650, 0, none⟩) (List.length r61) c95, .slice A97 (List.length x808.1) (Int.toNat (((List.length aAccept) : Nat) : Int)), .slice A99 (List.length x808.2) (Int.toNat (((List.length aAccept) : Nat) : Int))])] [cellsAt w811 g92 (0) [.bool (decide (0 ≤ (List.getD r61 (Int.toNat (0 : Int)) 0))), .slice (some ⟨b650, 0, none⟩) (List.length r61) c95, .slice A97 (List.length x808.1) (Int.toNat (((List.length aAccept) : Nat) : Int)), .slice A99 (List.length x808.2) (Int.toNat (((List.length aAccept) : Nat) : Int))]] E (by kernel_rfl) ((H.box 1 rfl).sub 0 _ rfl) ?_
     clear E; intro a E
     refine h_store (g := g23) (off := 0) H 0 rfl E rfl rfl rfl rfl tbok rfl rfl rfl rfl rfl ?_
     clear E; intro w890 a hc891 H_ E
     replace H := H_; clear H_; try dsimp only [setn, addE, goneL] at H
     refine vr tbok 1 [] [(4, .pointer (some ⟨g23, 0, none⟩)), (5, .int .i64 0)] [] E (by kernel_rfl) trivial ?_
     clear E; intro a E
     refine wpList_nil ?_
     refine th_n ?_
     refine wp_ret ?_
     replace H := H.rowx 3 rfl; try dsimp only [setn, addE, goneL] at H
     replace H := H.rowx 4 rfl; try dsimp only [setn, addE, goneL] at H
     obtain rfl := Option.some.inj hP
     refine retV E [.cell 4 38, .tmp 5] [.agg #[.bool (decide (0 ≤ (List.getD r61 (Int.toNat (0 : Int)) 0))), .slice (some ⟨b650, 0, none⟩) (List.length r61) c95, .slice A97 (List.length x808.1) (Int.toNat (((List.length aAccept) : Nat) : Int)), .slice A99 (List.length x808.2) (Int.toNat (((List.length aAccept) : Nat) : Int))], .int .i64 0] rfl ⟨⟨_, rfl, run_loadBx tbok (H.box 0 rfl) rfl rfl rfl 0 rfl rfl⟩, rfl, trivial⟩ (.inl rfl) ?_
     exact ⟨_, rfl, (some ⟨b650, 0, none⟩), c95, A97, (Int.toNat (((List.length aAccept) : Nat) : Int)), A99, (Int.toNat (((List.length aAccept) : Nat) : Int)), rfl, H.sel [2, 3, 4] rfl⟩

end Go.V
