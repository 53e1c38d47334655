/- Plain functions, and the calls that give them. -/
import Derived.Test.YtflangjkfaalkaaA4
set_option linter.all false
set_option linter.unusedVariables false
set_option linter.unnecessarySimpa false
set_option linter.unusedSimpArgs false
namespace Go.V
open Go Go.Proofs
/-! (*rejoinder/moore.game).choice -/
def moore_game_choice_l0 (N : Nat) (g : (Int × (List Bool) × (List Int) × (List Nd)) × (Int × Int) × (List Int) × (List Int)) (ranks : List Int) (q : Int) : Nat → Int → Int → Option Int
  | 0, _, _ => none
  | m114 + 1, best91, x92 =>
    if x92 < (((List.length g.2.2.1) : Nat) : Int) then
      ask (idx x92 (List.length g.2.2.1)) <|
      Option.bind (moore_game_worst N g ranks q (List.getD g.2.2.1 (Int.toNat x92) 0)) fun r125 =>
      if 0 ≤ r125 then
        ask (in64 (x92 + 1)) <|
        moore_game_choice_l0 N g ranks q m114 (minL best91 [r125]) (x92 + 1)
      else
        ask (in64 (x92 + 1)) <|
        moore_game_choice_l0 N g ranks q m114 best91 (x92 + 1)
    else
      some best91
def moore_game_choice_f3 (N : Nat) (g : (Int × (List Bool) × (List Int) × (List Nd)) × (Int × Int) × (List Int) × (List Int)) (ranks : List Int) (q : Int) (x115 : Int) (x323 : Int) : Option Bool :=
    Option.bind (moore_game_worst N g ranks q (List.getD g.2.2.1 (Int.toNat x323) 0)) fun r390 =>
    some ((r390 : Int) == x115)
def moore_game_choice_l2 (N : Nat) (g : (Int × (List Bool) × (List Int) × (List Nd)) × (Int × Int) × (List Int) × (List Int)) (ranks : List Int) (q : Int) (x115 : Int) : Nat → Int → Option (Unit ⊕ Int)
  | 0, _ => none
  | m355 + 1, x323 =>
    if x323 < (((List.length g.2.2.1) : Nat) : Int) then
      ask (idx x323 (List.length g.2.2.1)) <|
      Option.bind (moore_game_choice_f3 N g ranks q x115 x323) fun x387 =>
      if x387 = true then
        some (Sum.inr x323)
      else
        ask (in64 (x323 + 1)) <|
        moore_game_choice_l2 N g ranks q x115 m355 (x323 + 1)
    else
      some (Sum.inl ())
def moore_game_choice_f1 (N : Nat) (g : (Int × (List Bool) × (List Int) × (List Nd)) × (Int × Int) × (List Int) × (List Int)) (ranks : List Int) (q : Int) (x115 : Int) : Option Int :=
    Option.bind (moore_game_choice_l2 N g ranks q x115 N 0) fun x356 =>
    Sum.elim (fun x361 =>
      some (-1))
     (fun x416 =>
      some x416) x356
def moore_game_choice (N : Nat) (g : (Int × (List Bool) × (List Int) × (List Nd)) × (Int × Int) × (List Int) × (List Int)) (ranks : List Int) (q : Int) : Option Int :=
  Option.bind (moore_game_choice_l0 N g ranks q N (((List.length ranks) : Nat) : Int) 0) fun x115 =>
  Option.bind (moore_game_choice_f1 N g ranks q x115) fun x290 =>
  ask (idx x290 (List.length g.2.2.1)) <|
  some (List.getD g.2.2.1 (Int.toNat x290) 0)
set_option maxRecDepth 100000 in
set_option maxHeartbeats 4000000 in
theorem moore_game_choice_calls {N : Nat} {S Fa : Nat → Prop} {w0 : World} {r : Int} (b1 : Nat) (o2 : Nat) (A4 : Option Addr) (c5 : Nat) (g : (Int × (List Bool) × (List Int) × (List Nd)) × (Int × Int) × (List Int) × (List Int)) (ranks : List Int) (q : Int) (hk6 : List.length ranks ≤ c5) (H : Hp S Fa w0 w0 [.ro false cS87 (some ⟨b1, o2, none⟩) ([g]), .ro false (cInt .i64) A4 ranks]) (hP : moore_game_choice N g ranks q = some r) :
    Calls Try.prog 36 #[.pointer (some ⟨b1, o2, none⟩), .slice A4 (List.length ranks) c5, .int .i64 q] w0 fun e w' => ∃ v, e = .returned v ∧ v = .int .u8 r ∧ Hp S Fa w0 w' [] := by
 refine enterV (n := 45) Try.func36 rfl rfl rfl ?_
 intro a E
 replace E := E.pick [(0, .pointer (some ⟨b1, o2, none⟩)), (1, .slice A4 (List.length ranks) c5), (2, .int .i64 q)] ⟨rfl, rfl, rfl, trivial⟩
 rw [moore_game_choice] at hP
 refine wp_seq ?_
 refine wp_region_lit ?_
 refine h_box H E rfl rfl rfl ?_
 intro w9 g8 a hc10 hg12 H_ E_
 replace E := E_ _ rfl; clear E_
 replace H := H_; clear H_; try dsimp only [setn, addE, goneL] at H
 refine h_box H E rfl rfl rfl ?_
 intro w14 g13 a hc15 hg17 H_ E_
 replace E := E_ _ rfl; clear E_
 replace H := H_; clear H_; try dsimp only [setn, addE, goneL] at H
 refine h_box H E rfl rfl rfl ?_
 intro w19 g18 a hc20 hg22 H_ E_
 replace E := E_ _ rfl; clear E_
 replace H := H_; clear H_; try dsimp only [setn, addE, goneL] at H
 refine vn tbok 1 [] [] [] E (by kernel_rfl) (by kernel_rfl) trivial ?_
 clear E; intro a E
 refine wpList_nil ?_
 refine th_n ?_
 refine wp_seq ?_
 refine wp_region_lit ?_
 refine vn tbok 2 [.slice A4 (List.length ranks) c5] [(12, .int .i64 (((List.length ranks) : Nat) : Int))] [World.cell? w19 ⟨g13, 0, none⟩ = some (.slice A4 (List.length ranks) c5)] E (by kernel_rfl) (by kernel_rfl) ((H.box 3 rfl).cell (j := 0) rfl) ?_
 clear E; intro a E
 refine h_alloc H E rfl rfl tbok rfl ?_
 intro w24 g23 a hc25 hg27 H_ E_
 replace E := E_ _ rfl; clear E_
 replace H := H_; clear H_; try dsimp only [setn, addE, goneL] at H
 refine h_store (g := g23) (off := 0) H 5 rfl E rfl rfl rfl rfl tbok rfl rfl rfl rfl rfl ?_
 clear E; intro w28 a hc29 H_ E
 replace H := H_; clear H_; try dsimp only [setn, addE, goneL] at H
 refine wpList_nil ?_
 refine th_n ?_
 refine wp_seq ?_
 refine wp_seq ?_
 refine wp_region_lit ?_
 obtain ⟨Fz30, cs32, HF31, hK33, hc34⟩ := H.elem 0 false (el_ro rfl) g (idx_one _)
 obtain ⟨_, _, rfl, hK35, hK36⟩ := hK33
 obtain ⟨_, _, rfl, hK37, hK38⟩ := hK35
 obtain rfl := hK37
 obtain ⟨_, _, rfl, hK39, hK40⟩ := hK38
 obtain ⟨A41, c42, rfl, hk43, hC44⟩ := hK39
 obtain ⟨_, _, rfl, hK46, hK47⟩ := hK40
 obtain ⟨A48, c49, rfl, hk50, hC51⟩ := hK46
 obtain ⟨A53, c54, rfl, hk55, hC56⟩ := hK47
 obtain ⟨_, _, rfl, hK58, hK59⟩ := hK36
 obtain rfl := hK58
 obtain ⟨_, _, rfl, hK60, hK61⟩ := hK59
 obtain ⟨A62, c63, rfl, hk64, hC65⟩ := hK60
 obtain ⟨A67, c68, rfl, hk69, hC70⟩ := hK61
 replace HF31 := HF31.ins hC44
 replace HF31 := HF31.ins hC51
 replace HF31 := HF31.ins hC56
 replace HF31 := HF31.ins hC65
 replace HF31 := HF31.ins hC70
 replace H := HF31.hp; try dsimp only [addE] at H
 have hc72 : cellsAt w28 b1 (o2) [.int .i64 g.1.1, .slice A41 (List.length g.1.2.1) c42, .slice A48 (List.length g.1.2.2.1) c49, .slice A53 (List.length g.1.2.2.2) c54, .int .u8 g.2.1.1, .int .u8 g.2.1.2, .slice A62 (List.length g.2.2.1) c63, .slice A67 (List.length g.2.2.2) c68] := hc34
 refine vn tbok 6 [.pointer (some ⟨b1, o2, none⟩), .slice A62 (List.length g.2.2.1) c63] [(16, .slice A62 (List.length g.2.2.1) c63), (17, .int .i64 (((List.length g.2.2.1) : Nat) : Int)), (18, .int .i64 0)] [World.cell? w28 ⟨g8, 0, none⟩ = some (.pointer (some ⟨b1, o2, none⟩)), World.cell? w28 ⟨b1, o2 + 6, none⟩ = some (.slice A62 (List.length g.2.2.1) c63)] E (by kernel_rfl) (by kernel_rfl) ⟨(H.box 2 rfl).cell (j := 0) rfl, hc72.get 6 _ rfl⟩ ?_
 clear E; intro a E
 refine wpList_nil ?_
 refine th_n ?_
 refine wp_block ?_
 obtain ⟨x115, hL116, hK117⟩ := bind_inv hP
 clear hP
 refine loop_cut (fun i_ a w_ => (i_ = 0 ∧ ∃ (x120 : Int), Fr a 45 [(3, .pointer (some ⟨g8, 0, none⟩)), (4, .pointer (some ⟨g13, 0, none⟩)), (5, .pointer (some ⟨g18, 0, none⟩)), (7, .pointer (some ⟨g23, 0, none⟩))] ∧ Hp S Fa w0 w_ [.ro false cS87 (some ⟨b1, o2, none⟩) ([g]), .box g8 62 [.pointer (some ⟨b1, o2, none⟩)], .ro false (cInt .i64) A4 ranks, .box g13 23 [.slice A4 (List.length ranks) c5], .box g18 3 [.int .i64 q], .box g23 3 [.int .i64 x120]] ∧ x115 = x120)) ?_ ?_
 ·
  refine loopV (fun m119 a w118 => ∃ (best91 : Int) (x92 : Int), Fr a 45 [(3, .pointer (some ⟨g8, 0, none⟩)), (4, .pointer (some ⟨g13, 0, none⟩)), (5, .pointer (some ⟨g18, 0, none⟩)), (7, .pointer (some ⟨g23, 0, none⟩)), (16, .slice A62 (List.length g.2.2.1) c63), (17, .int .i64 (((List.length g.2.2.1) : Nat) : Int)), (18, .int .i64 x92)] ∧ Hp S Fa w0 w118 [.ro false cS87 (some ⟨b1, o2, none⟩) ([g]), .box g8 62 [.pointer (some ⟨b1, o2, none⟩)], .ro false (cInt .i64) A4 ranks, .box g13 23 [.slice A4 (List.length ranks) c5], .box g18 3 [.int .i64 q], .box g23 3 [.int .i64 best91], .ro false (cInt .u8) A62 g.2.2.1] ∧ moore_game_choice_l0 N g ranks q m119 best91 x92 = some x115) N ?_ ?_
  ·
   exact ⟨(((List.length ranks) : Nat) : Int), 0, E.pick _ ⟨rfl, rfl, rfl, rfl, rfl, rfl, rfl, trivial⟩, H.sel [0, 2, 1, 3, 4, 5, 9] rfl, hL116⟩
  clear E H hL116; intro m119 a w118 hI_
  obtain ⟨best91, x92, E, H, hP⟩ := hI_
  obtain ⟨m114, rfl⟩ : ∃ q_, m119 = q_ + 1 := by cases m119 with | zero => rw [moore_game_choice_l0] at hP; cases hP | succ q_ => exact ⟨q_, rfl⟩
  rw [moore_game_choice_l0] at hP
  refine wp_seq ?_
  refine wp_region_lit ?_
  refine vn tbok 1 [] [(19, .bool (decide (x92 < (((List.length g.2.2.1) : Nat) : Int))))] [] E (by kernel_rfl) (by kernel_rfl) trivial ?_
  clear E; intro a E
  refine wpList_nil ?_
  refine th_n ?_
  refine wp_seq ?_
  refine E.cases (t := 19) rfl (fun hb_ E_ => ?_) (fun hb_ E_ => ?_)
  ·
   replace E := E_; clear E_
   have h121 : x92 < (((List.length g.2.2.1) : Nat) : Int) := of_decide_eq_true hb_
   clear hb_; replace hP := ite_t h121 hP
   refine c_true E rfl ?_
   refine wp_skip ?_
   refine th_n ?_
   refine wp_seq ?_
   refine wp_block ?_
   refine wp_seq ?_
   refine wp_region_lit ?_
   obtain ⟨g122, hP⟩ := ask_inv hP
   obtain ⟨b123, o124, e_b123⟩ := (H.rd 6 rds_ro).addr (idx_pos g122)
   subst e_b123
   refine vn tbok 3 [.int .u8 (List.getD g.2.2.1 (Int.toNat x92) 0)] [(9, .int .u8 (List.getD g.2.2.1 (Int.toNat x92) 0))] [0 ≤ x92 ∧ x92 < (((List.length g.2.2.1) : Nat) : Int), World.cell? w118 ⟨b123, o124 + (Int.toNat x92) * 1, none⟩ = some (.int .u8 (List.getD g.2.2.1 (Int.toNat x92) 0))] E (by kernel_rfl) (by kernel_rfl) ⟨g122, Rds.at1 (H.rd 6 rds_ro) 0 g122⟩ ?_
   clear E; intro a E
   refine wpList_nil ?_
   refine th_n ?_
   refine wp_seq ?_
   refine wp_region_lit ?_
   refine vn tbok 4 [.pointer (some ⟨b1, o2, none⟩), .slice A4 (List.length ranks) c5, .int .i64 q] [(22, .pointer (some ⟨b1, o2, none⟩)), (23, .slice A4 (List.length ranks) c5), (24, .int .i64 q), (25, .int .u8 (List.getD g.2.2.1 (Int.toNat x92) 0))] [World.cell? w118 ⟨g8, 0, none⟩ = some (.pointer (some ⟨b1, o2, none⟩)), World.cell? w118 ⟨g13, 0, none⟩ = some (.slice A4 (List.length ranks) c5), World.cell? w118 ⟨g18, 0, none⟩ = some (.int .i64 q)] E (by kernel_rfl) (by kernel_rfl) ⟨(H.box 1 rfl).cell (j := 0) rfl, (H.box 3 rfl).cell (j := 0) rfl, (H.box 4 rfl).cell (j := 0) rfl⟩ ?_
   clear E; intro a E
   obtain ⟨r125, h126, hP⟩ := bind_inv hP
   obtain ⟨Fa127, Hc128, hb129⟩ := H.call [] [(0, false), (2, false)] rfl rfl trivial
   refine e_call E rfl rfl Try.func60 rfl rfl rfl (moore_game_worst_calls b1 o2 A4 c5 g ranks q (List.getD g.2.2.1 (Int.toNat x92) 0) hk6 Hc128 h126) ?_
   rintro v130 w131 a ⟨rfl, HR132⟩ E_
   replace E := E_ _ rfl; clear E_
   obtain ⟨H_, hc133⟩ := hb129 _ _ HR132 rfl
   replace H := H_; clear H_; try dsimp only [setn, addE, goneL] at H
   refine vn tbok 1 [] [(10, .int .i64 r125)] [] E (by kernel_rfl) (by kernel_rfl) trivial ?_
   clear E; intro a E
   refine wpList_nil ?_
   refine th_n ?_
   refine wp_seq ?_
   refine wp_region_lit ?_
   refine vn tbok 2 [] [(28, .bool (decide (0 ≤ r125)))] [] E (by kernel_rfl) (by kernel_rfl) trivial ?_
   clear E; intro a E
   refine wpList_nil ?_
   refine th_n ?_
   refine E.cases (t := 28) rfl (fun hb_ E_ => ?_) (fun hb_ E_ => ?_)
   ·
    replace E := E_; clear E_
    have h134 : 0 ≤ r125 := of_decide_eq_true hb_
    clear hb_; replace hP := ite_t h134 hP
    refine c_true E rfl ?_
    refine wp_region_lit ?_
    refine vn tbok 2 [.int .i64 best91] [(29, .int .i64 best91), (30, .int .i64 r125)] [World.cell? w131 ⟨g23, 0, none⟩ = some (.int .i64 best91)] E (by kernel_rfl) (by kernel_rfl) ((H.box 5 rfl).cell (j := 0) rfl) ?_
    clear E; intro a E
    refine e_min (x := best91) (xs := [r125]) E rfl rfl rfl rfl ?_
    clear E; intro a E
    refine h_store (g := g23) (off := 0) H 5 rfl E rfl rfl rfl rfl tbok rfl rfl rfl rfl rfl ?_
    clear E; intro w135 a hc136 H_ E
    replace H := H_; clear H_; try dsimp only [setn, addE, goneL] at H
    refine wpList_nil ?_
    refine bl_n ?_
    refine th_n ?_
    refine wp_region_lit ?_
    obtain ⟨g137, hP⟩ := ask_inv hP
    refine vn tbok 2 [.int .i64 (x92 + 1)] [(18, .int .i64 (x92 + 1))] [IntKind.i64.wrap (x92 + 1) = x92 + 1] E (by kernel_rfl) (by kernel_rfl) (wrap_in g137) ?_
    clear E; intro a E
    refine wpList_nil ?_
    exact th_n ⟨m114, Nat.lt_succ_self _, (minL best91 [r125]), x92 + 1, E.pick _ ⟨rfl, rfl, rfl, rfl, rfl, rfl, rfl, trivial⟩, H.sel [0, 1, 2, 3, 4, 5, 6] rfl, hP⟩
   replace E := E_; clear E_
   have h138 : ¬ (0 ≤ r125) := of_decide_eq_false hb_
   clear hb_; replace hP := ite_f h138 hP
   refine c_false E rfl ?_
   refine wp_skip ?_
   refine bl_n ?_
   refine th_n ?_
   refine wp_region_lit ?_
   obtain ⟨g139, hP⟩ := ask_inv hP
   refine vn tbok 2 [.int .i64 (x92 + 1)] [(18, .int .i64 (x92 + 1))] [IntKind.i64.wrap (x92 + 1) = x92 + 1] E (by kernel_rfl) (by kernel_rfl) (wrap_in g139) ?_
   clear E; intro a E
   refine wpList_nil ?_
   exact th_n ⟨m114, Nat.lt_succ_self _, best91, x92 + 1, E.pick _ ⟨rfl, rfl, rfl, rfl, rfl, rfl, rfl, trivial⟩, H.sel [0, 1, 2, 3, 4, 5, 6] rfl, hP⟩
  replace E := E_; clear E_
  have h140 : ¬ (x92 < (((List.length g.2.2.1) : Nat) : Int)) := of_decide_eq_false hb_
  clear hb_; replace hP := ite_f h140 hP
  refine c_false E rfl ?_
  refine wp_exit ?_
  refine th_exit ?_
  have hx_ := Option.some.inj hP
  refine th_exit (.inl ⟨0, rfl, ?_⟩)
  exact ⟨rfl, best91, E.pick _ ⟨rfl, rfl, rfl, rfl, trivial⟩, H.sel [0, 1, 2, 3, 4, 5] rfl, hx_.symm⟩
 clear E H hL116; intro i_ a w118 hM_
 obtain ⟨rfl, x120, E, H, hx_⟩ := hM_
 subst hx_; have hP := hK117; clear hK117
 refine bl_hit ?_
 refine th_n ?_
 refine wp_seq ?_
 obtain ⟨Fz141, cs143, HF142, hK144, hc145⟩ := H.elem 0 false (el_ro rfl) g (idx_one _)
 obtain ⟨_, _, rfl, hK146, hK147⟩ := hK144
 obtain ⟨_, _, rfl, hK148, hK149⟩ := hK146
 obtain rfl := hK148
 obtain ⟨_, _, rfl, hK150, hK151⟩ := hK149
 obtain ⟨A152, c153, rfl, hk154, hC155⟩ := hK150
 obtain ⟨_, _, rfl, hK157, hK158⟩ := hK151
 obtain ⟨A159, c160, rfl, hk161, hC162⟩ := hK157
 obtain ⟨A164, c165, rfl, hk166, hC167⟩ := hK158
 obtain ⟨_, _, rfl, hK169, hK170⟩ := hK147
 obtain rfl := hK169
 obtain ⟨_, _, rfl, hK171, hK172⟩ := hK170
 obtain ⟨A173, c174, rfl, hk175, hC176⟩ := hK171
 obtain ⟨A178, c179, rfl, hk180, hC181⟩ := hK172
 replace HF142 := HF142.ins hC155
 replace HF142 := HF142.ins hC162
 replace HF142 := HF142.ins hC167
 replace HF142 := HF142.ins hC176
 replace HF142 := HF142.ins hC181
 replace H := HF142.hp; try dsimp only [addE] at H
 have hc183 : cellsAt w118 b1 (o2) [.int .i64 g.1.1, .slice A152 (List.length g.1.2.1) c153, .slice A159 (List.length g.1.2.2.1) c160, .slice A164 (List.length g.1.2.2.2) c165, .int .u8 g.2.1.1, .int .u8 g.2.1.2, .slice A173 (List.length g.2.2.1) c174, .slice A178 (List.length g.2.2.2) c179] := hc145
 obtain ⟨Fz184, cs186, HF185, hK187, hc188⟩ := H.elem 0 false (el_ro rfl) g (idx_one _)
 obtain ⟨_, _, rfl, hK189, hK190⟩ := hK187
 obtain ⟨_, _, rfl, hK191, hK192⟩ := hK189
 obtain rfl := hK191
 obtain ⟨_, _, rfl, hK193, hK194⟩ := hK192
 obtain ⟨A195, c196, rfl, hk197, hC198⟩ := hK193
 obtain ⟨_, _, rfl, hK200, hK201⟩ := hK194
 obtain ⟨A202, c203, rfl, hk204, hC205⟩ := hK200
 obtain ⟨A207, c208, rfl, hk209, hC210⟩ := hK201
 obtain ⟨_, _, rfl, hK212, hK213⟩ := hK190
 obtain rfl := hK212
 obtain ⟨_, _, rfl, hK214, hK215⟩ := hK213
 obtain ⟨A216, c217, rfl, hk218, hC219⟩ := hK214
 obtain ⟨A221, c222, rfl, hk223, hC224⟩ := hK215
 replace HF185 := HF185.ins hC198
 replace HF185 := HF185.ins hC205
 replace HF185 := HF185.ins hC210
 replace HF185 := HF185.ins hC219
 replace HF185 := HF185.ins hC224
 replace H := HF185.hp; try dsimp only [addE] at H
 have hc226 : cellsAt w118 b1 (o2) [.int .i64 g.1.1, .slice A195 (List.length g.1.2.1) c196, .slice A202 (List.length g.1.2.2.1) c203, .slice A207 (List.length g.1.2.2.2) c208, .int .u8 g.2.1.1, .int .u8 g.2.1.2, .slice A216 (List.length g.2.2.1) c217, .slice A221 (List.length g.2.2.2) c222] := hc188
 obtain ⟨x290, h291, hP⟩ := bind_inv hP
 obtain ⟨g419, hP⟩ := ask_inv hP
 obtain ⟨b420, o421, e_b420⟩ := (H.rd 9 rds_ro).addr (idx_pos g419)
 subst e_b420
 have HR425 := H
 refine dr_start (S := fun w_ => Chg (atL []) w118 w_) (by kernel_rfl) ?_
 intro w422 hc423
 have HS424 : Chg (atL []) w118 w422 := hc423.mono (fun _ _ h_ => h_.elim)
 replace H := H.ext hc423
 refine dn tbok (by kernel_rfl) [0, 1, 2, 3, 4, 5, 6, 7] [.pointer (some ⟨b1, o2, none⟩), .slice (some ⟨b420, o421, none⟩) (List.length g.2.2.1) c174, .pointer (some ⟨b1, o2, none⟩), .slice A216 (List.length g.2.2.1) c217] [(36, .slice (some ⟨b420, o421, none⟩) (List.length g.2.2.1) c174), (40, .slice A216 (List.length g.2.2.1) c217)] (fun w_ => [World.cell? w_ ⟨g8, 0, none⟩ = some (.pointer (some ⟨b1, o2, none⟩)), World.cell? w_ ⟨b1, o2 + 6, none⟩ = some (.slice (some ⟨b420, o421, none⟩) (List.length g.2.2.1) c174), World.cell? w_ ⟨g8, 0, none⟩ = some (.pointer (some ⟨b1, o2, none⟩)), World.cell? w_ ⟨b1, o2 + 6, none⟩ = some (.slice A216 (List.length g.2.2.1) c217)]) 5 E (fun _ _ => by kernel_rfl) (by kernel_rfl) (fun w_ hS_ => ⟨(HR425.boxk [] hS_ 1 rfl rfl).cell (j := 0) rfl, hS_.cell (hc183.get 6 _ rfl) (HR425.blk [] 0 rds_ro (idx_pos (idx_one _)) rfl), (HR425.boxk [] hS_ 1 rfl rfl).cell (j := 0) rfl, hS_.cell (hc226.get 6 _ rfl) (HR425.blk [] 0 rds_ro (idx_pos (idx_one _)) rfl)⟩) (by kernel_rfl) HS424 ?_
 clear E; intro a E
 refine wpAnyH_all (rs := [8]) (by kernel_rfl) (by simp) ?_
 refine all1 ?_
 refine wpOp_of_list rfl ?_
 refine e_makeFunc (vs := [.pointer (some ⟨g8, 0, none⟩), .pointer (some ⟨g13, 0, none⟩), .pointer (some ⟨g18, 0, none⟩), .pointer (some ⟨g23, 0, none⟩)]) E rfl rfl rfl rfl ?_
 clear E; intro a E
 refine wpList_nil ?_
 refine th_n ⟨HS424, ?_⟩
 refine wpAnyH_all (rs := [9]) (by kernel_rfl) (by simp) ?_
 refine all1 ?_
 refine wpOp_of_list rfl ?_
 refine e_call (R := fun v_ w_ => ∃ (x489 : Int), v_ = .int .i64 x489 ∧ Hp S Fa w0 w_ [.ro false cS87 (some ⟨b1, o2, none⟩) ([g]), .box g8 62 [.pointer (some ⟨b1, o2, none⟩)], .ro false (cInt .i64) A4 ranks, .box g13 23 [.slice A4 (List.length ranks) c5], .box g18 3 [.int .i64 q], .box g23 3 [.int .i64 x115], .ro false (cInt .u8) (some ⟨b420, o421, none⟩) g.2.2.1, .ro false (cInt .u8) A216 g.2.2.1] ∧ Chg (atL []) w118 w_ ∧ x290 = x489) E rfl rfl Try.func58 rfl rfl rfl ?_ ?_
 ·
  clear E hP; have hP := h291; clear h291; rw [moore_game_choice_f1] at hP
  refine enterV (n := 19) Try.func58 rfl rfl rfl ?_
  intro a E
  replace E := E.pick [(0, .slice A216 (List.length g.2.2.1) c217), (1, .func (.func 64) #[] #[.pointer (some ⟨g8, 0, none⟩), .pointer (some ⟨g13, 0, none⟩), .pointer (some ⟨g18, 0, none⟩), .pointer (some ⟨g23, 0, none⟩)])] ⟨rfl, rfl, trivial⟩
  refine wp_seq ?_
  refine wp_region_lit ?_
  refine vn tbok 1 [] [] [] E (by kernel_rfl) (by kernel_rfl) trivial ?_
  clear E; intro a E
  refine wpList_nil ?_
  refine th_n ?_
  refine wp_seq ?_
  refine wp_seq ?_
  refine wp_region_lit ?_
  refine vn tbok 3 [] [(7, .slice A216 (List.length g.2.2.1) c217), (8, .int .i64 (((List.length g.2.2.1) : Nat) : Int)), (9, .int .i64 0)] [] E (by kernel_rfl) (by kernel_rfl) trivial ?_
  clear E; intro a E
  refine wpList_nil ?_
  refine th_n ?_
  refine wp_block ?_
  obtain ⟨x356, hL552, hK553⟩ := bind_inv hP
  clear hP
  refine loop_cut (fun i_ a w_ => (i_ = 0 ∧ ∃ (x556 : Unit), Fr a 19 [] ∧ Hp S Fa w0 w_ [.ro false cS87 (some ⟨b1, o2, none⟩) ([g]), .box g8 62 [.pointer (some ⟨b1, o2, none⟩)], .ro false (cInt .i64) A4 ranks, .box g13 23 [.slice A4 (List.length ranks) c5], .box g18 3 [.int .i64 q], .box g23 3 [.int .i64 x115], .ro false (cInt .u8) (some ⟨b420, o421, none⟩) g.2.2.1, .ro false (cInt .u8) A216 g.2.2.1] ∧ Chg (atL []) w118 w_ ∧ x356 = Sum.inl x556)) ?_ ?_
  ·
   refine loopV (fun m555 a w554 => ∃ (x323 : Int), Fr a 19 [(1, .func (.func 64) #[] #[.pointer (some ⟨g8, 0, none⟩), .pointer (some ⟨g13, 0, none⟩), .pointer (some ⟨g18, 0, none⟩), .pointer (some ⟨g23, 0, none⟩)]), (7, .slice A216 (List.length g.2.2.1) c217), (8, .int .i64 (((List.length g.2.2.1) : Nat) : Int)), (9, .int .i64 x323)] ∧ Hp S Fa w0 w554 [.ro false cS87 (some ⟨b1, o2, none⟩) ([g]), .box g8 62 [.pointer (some ⟨b1, o2, none⟩)], .ro false (cInt .i64) A4 ranks, .box g13 23 [.slice A4 (List.length ranks) c5], .box g18 3 [.int .i64 q], .box g23 3 [.int .i64 x115], .ro false (cInt .u8) A216 g.2.2.1, .ro false (cInt .u8) (some ⟨b420, o421, none⟩) g.2.2.1] ∧ Chg (atL []) w118 w554 ∧ moore_game_choice_l2 N g ranks q x115 m555 x323 = some x356) N ?_ ?_
   ·
    exact ⟨0, E.pick _ ⟨rfl, rfl, rfl, rfl, trivial⟩, H.sel [0, 1, 2, 3, 4, 5, 14, 9] rfl, HS424, hL552⟩
   clear E H hL552 HS424; intro m555 a w554 hI_
   obtain ⟨x323, E, H, HS424, hP⟩ := hI_
   obtain ⟨m355, rfl⟩ : ∃ q_, m555 = q_ + 1 := by cases m555 with | zero => rw [moore_game_choice_l2] at hP; cases hP | succ q_ => exact ⟨q_, rfl⟩
   rw [moore_game_choice_l2] at hP
   refine wp_seq ?_
   refine wp_region_lit ?_
   refine vn tbok 1 [] [(10, .bool (decide (x323 < (((List.length g.2.2.1) : Nat) : Int))))] [] E (by kernel_rfl) (by kernel_rfl) trivial ?_
   clear E; intro a E
   refine wpList_nil ?_
   refine th_n ?_
   refine wp_seq ?_
   refine E.cases (t := 10) rfl (fun hb_ E_ => ?_) (fun hb_ E_ => ?_)
   ·
    replace E := E_; clear E_
    have h557 : x323 < (((List.length g.2.2.1) : Nat) : Int) := of_decide_eq_true hb_
    clear hb_; replace hP := ite_t h557 hP
    refine c_true E rfl ?_
    refine wp_skip ?_
    refine th_n ?_
    refine wp_seq ?_
    refine wp_block ?_
    refine wp_seq ?_
    refine wp_region_lit ?_
    obtain ⟨g558, hP⟩ := ask_inv hP
    obtain ⟨b559, o560, e_b559⟩ := (H.rd 6 rds_ro).addr (idx_pos g558)
    subst e_b559
    refine vn tbok 5 [.int .u8 (List.getD g.2.2.1 (Int.toNat x323) 0)] [(5, .int .i64 x323), (6, .int .u8 (List.getD g.2.2.1 (Int.toNat x323) 0))] [0 ≤ x323 ∧ x323 < (((List.length g.2.2.1) : Nat) : Int), World.cell? w554 ⟨b559, o560 + (Int.toNat x323) * 1, none⟩ = some (.int .u8 (List.getD g.2.2.1 (Int.toNat x323) 0))] E (by kernel_rfl) (by kernel_rfl) ⟨g558, Rds.at1 (H.rd 6 rds_ro) 0 g558⟩ ?_
    clear E; intro a E
    refine wpList_nil ?_
    refine th_n ?_
    refine wp_seq ?_
    refine wp_region_lit ?_
    refine vn tbok 2 [] [(14, .func (.func 64) #[] #[.pointer (some ⟨g8, 0, none⟩), .pointer (some ⟨g13, 0, none⟩), .pointer (some ⟨g18, 0, none⟩), .pointer (some ⟨g23, 0, none⟩)]), (15, .int .u8 (List.getD g.2.2.1 (Int.toNat x323) 0))] [] E (by kernel_rfl) (by kernel_rfl) trivial ?_
    clear E; intro a E
    obtain ⟨x387, h582, hP⟩ := bind_inv hP
    refine e_callv (R := fun v_ w_ => ∃ (x583 : Bool), v_ = .bool x583 ∧ Hp S Fa w0 w_ [.ro false cS87 (some ⟨b1, o2, none⟩) ([g]), .box g8 62 [.pointer (some ⟨b1, o2, none⟩)], .ro false (cInt .i64) A4 ranks, .box g13 23 [.slice A4 (List.length ranks) c5], .box g18 3 [.int .i64 q], .box g23 3 [.int .i64 x115], .ro false (cInt .u8) (some ⟨b420, o421, none⟩) g.2.2.1, .ro false (cInt .u8) (some ⟨b559, o560, none⟩) g.2.2.1] ∧ Chg (atL []) w118 w_ ∧ x387 = x583) E rfl rfl rfl Try.func64 rfl rfl rfl ?_ ?_
    ·
     clear E hP; have hP := h582; clear h582; rw [moore_game_choice_f3] at hP
     refine enterV (n := 14) Try.func64 rfl rfl rfl ?_
     intro a E
     replace E := E.pick [(0, .int .u8 (List.getD g.2.2.1 (Int.toNat x323) 0)), (1, .pointer (some ⟨g8, 0, none⟩)), (2, .pointer (some ⟨g13, 0, none⟩)), (3, .pointer (some ⟨g18, 0, none⟩)), (4, .pointer (some ⟨g23, 0, none⟩))] ⟨rfl, rfl, rfl, rfl, rfl, trivial⟩
     refine wp_seq ?_
     refine wp_region_lit ?_
     refine vn tbok 1 [] [] [] E (by kernel_rfl) (by kernel_rfl) trivial ?_
     clear E; intro a E
     refine wpList_nil ?_
     refine th_n ?_
     refine wp_seq ?_
     obtain ⟨r390, h585, hP⟩ := bind_inv hP
     have HR596 := H
     refine dr_start (S := fun w_ => Chg (atL []) w554 w_) (by kernel_rfl) ?_
     intro w593 hc594
     have HS595 : Chg (atL []) w554 w593 := hc594.mono (fun _ _ h_ => h_.elim)
     replace HS424 := HS424.ext hc594
     replace H := H.ext hc594
     refine dn tbok (by kernel_rfl) [0, 1, 2, 3, 5] [.pointer (some ⟨b1, o2, none⟩), .slice A4 (List.length ranks) c5, .int .i64 q, .int .i64 x115] [(7, .pointer (some ⟨b1, o2, none⟩)), (8, .slice A4 (List.length ranks) c5), (9, .int .i64 q), (10, .int .u8 (List.getD g.2.2.1 (Int.toNat x323) 0)), (12, .int .i64 x115)] (fun w_ => [World.cell? w_ ⟨g8, 0, none⟩ = some (.pointer (some ⟨b1, o2, none⟩)), World.cell? w_ ⟨g13, 0, none⟩ = some (.slice A4 (List.length ranks) c5), World.cell? w_ ⟨g18, 0, none⟩ = some (.int .i64 q), World.cell? w_ ⟨g23, 0, none⟩ = some (.int .i64 x115)]) 3 E (fun _ _ => by kernel_rfl) (by kernel_rfl) (fun w_ hS_ => ⟨(HR596.boxk [] hS_ 1 rfl rfl).cell (j := 0) rfl, (HR596.boxk [] hS_ 3 rfl rfl).cell (j := 0) rfl, (HR596.boxk [] hS_ 4 rfl rfl).cell (j := 0) rfl, (HR596.boxk [] hS_ 5 rfl rfl).cell (j := 0) rfl⟩) (by kernel_rfl) HS595 ?_
     clear E; intro a E
     refine wpAnyH_all (rs := [4]) (by kernel_rfl) (by simp) ?_
     refine all1 ?_
     refine wpOp_of_list rfl ?_
     obtain ⟨Fa597, Hc598, hb599⟩ := H.call [] [(0, false), (2, false)] rfl rfl trivial
     refine e_call E rfl rfl Try.func60 rfl rfl rfl (moore_game_worst_calls b1 o2 A4 c5 g ranks q (List.getD g.2.2.1 (Int.toNat x323) 0) hk6 Hc598 h585) ?_
     rintro v600 w601 a ⟨rfl, HR602⟩ E_
     replace E := E_ _ rfl; clear E_
     obtain ⟨H_, hc603⟩ := hb599 _ _ HR602 rfl
     replace HS424 := HS424.ext (callS_ext hc603)
     replace HS595 := HS595.ext (callS_ext hc603)
     replace H := H_; clear H_; try dsimp only [setn, addE, goneL] at H
     refine wpList_nil ?_
     refine th_n ⟨HS595, ?_⟩
     refine dn tbok (by kernel_rfl) [6, 7] [] [(6, .bool ((r390 : Int) == x115))] (fun w_ => []) 0 E (fun _ _ => by kernel_rfl) (by kernel_rfl) (fun w_ hS_ => trivial) (by kernel_rfl) HS595 ?_
     clear E; intro a E
     refine dr_done (by kernel_rfl) ?_
     clear HS595 HR596
     refine th_n ?_
     refine wp_ret ?_
     have hx_ := Option.some.inj hP
     refine ret1 E rfl rfl ?_
     exact ⟨_, rfl, (r390 : Int) == x115, rfl, H.sel [0, 1, 2, 3, 4, 5, 7, 6] rfl, HS424, hx_.symm⟩
    clear H HS424
    rintro v605 w604 a ⟨x583, rfl, H, HS424, hx_⟩ E_
    subst hx_
    replace E := E_ _ rfl; clear E_
    refine wpList_nil ?_
    refine th_n ?_
    refine E.cases (t := 16) rfl (fun hb_ E_ => ?_) (fun hb_ E_ => ?_)
    ·
     replace E := E_; clear E_
     have h606 : x387 = true := hb_
     clear hb_; replace hP := ite_t h606 hP
     refine c_true E rfl ?_
     refine wp_seq ?_
     refine wp_region_lit ?_
     refine vn tbok 2 [] [(4, .int .i64 x323)] [] E (by kernel_rfl) (by kernel_rfl) trivial ?_
     clear E; intro a E
     refine wpList_nil ?_
     refine th_n ?_
     refine wp_ret ?_
     refine bl_ret ?_
     refine th_ret ?_
     refine th_ret ?_
     refine .inr ⟨rfl, ?_⟩
     refine bl_ret ?_
     refine th_ret ?_
     have hx_ := Option.some.inj hP; subst hx_
     have hP : some (x323) = some x290 := hK553
     have hx_ := Option.some.inj hP
     refine ret1 E rfl rfl ?_
     exact ⟨_, rfl, x323, rfl, H.sel [0, 1, 2, 3, 4, 5, 6, 7] rfl, HS424, hx_.symm⟩
    replace E := E_; clear E_
    have h607 : ¬ (x387 = true) := (ne_true_of_eq_false hb_)
    clear hb_; replace hP := ite_f h607 hP
    refine c_false E rfl ?_
    refine wp_skip ?_
    refine bl_n ?_
    refine th_n ?_
    refine wp_region_lit ?_
    obtain ⟨g608, hP⟩ := ask_inv hP
    refine vn tbok 2 [.int .i64 (x323 + 1)] [(9, .int .i64 (x323 + 1))] [IntKind.i64.wrap (x323 + 1) = x323 + 1] E (by kernel_rfl) (by kernel_rfl) (wrap_in g608) ?_
    clear E; intro a E
    refine wpList_nil ?_
    exact th_n ⟨m355, Nat.lt_succ_self _, x323 + 1, E.pick _ ⟨rfl, rfl, rfl, rfl, trivial⟩, H.sel [0, 1, 2, 3, 4, 5, 7, 6] rfl, HS424, hP⟩
   replace E := E_; clear E_
   have h609 : ¬ (x323 < (((List.length g.2.2.1) : Nat) : Int)) := of_decide_eq_false hb_
   clear hb_; replace hP := ite_f h609 hP
   refine c_false E rfl ?_
   refine wp_exit ?_
   refine th_exit ?_
   have hx_ := Option.some.inj hP
   refine th_exit (.inl ⟨0, rfl, ?_⟩)
   exact ⟨rfl, (), E.pick _ trivial, H.sel [0, 1, 2, 3, 4, 5, 7, 6] rfl, HS424, hx_.symm⟩
  clear E H hL552 HS424; intro i_ a w554 hM_
  obtain ⟨rfl, x361, E, H, HS424, hx_⟩ := hM_
  subst hx_; have hP := elim_l hK553
  clear hK553
  refine bl_hit ?_
  refine th_n ?_
  refine wp_seq ?_
  refine wp_region_lit ?_
  refine vn tbok 1 [] [(4, .int .i64 (-1))] [] E (by kernel_rfl) (by kernel_rfl) trivial ?_
  clear E; intro a E
  refine wpList_nil ?_
  refine th_n ?_
  refine wp_ret ?_
  have hx_ := Option.some.inj hP
  refine ret1 E rfl rfl ?_
  exact ⟨_, rfl, -1, rfl, H.sel [0, 1, 2, 3, 4, 5, 6, 7] rfl, HS424, hx_.symm⟩
 clear H HS424
 rintro v612 w611 a ⟨x489, rfl, H, HS424, hx_⟩ E_
 subst hx_
 replace E := E_ _ rfl; clear E_
 refine wpList_nil ?_
 refine th_n ⟨HS424, ?_⟩
 refine dn tbok (by kernel_rfl) [10, 11, 12] [.int .u8 (List.getD g.2.2.1 (Int.toNat x290) 0)] [(6, .int .u8 (List.getD g.2.2.1 (Int.toNat x290) 0))] (fun w_ => [0 ≤ x290 ∧ x290 < (((List.length g.2.2.1) : Nat) : Int), World.cell? w_ ⟨b420, o421 + (Int.toNat x290) * 1, none⟩ = some (.int .u8 (List.getD g.2.2.1 (Int.toNat x290) 0))]) 0 E (fun _ _ => by kernel_rfl) (by kernel_rfl) (fun w_ hS_ => ⟨g419, Rds.at1 (HR425.rdk [] hS_ 9 rds_ro rfl) 0 g419⟩) (by kernel_rfl) HS424 ?_
 clear E; intro a E
 refine dr_done (by kernel_rfl) ?_
 clear HS424 HR425
 refine th_n ?_
 refine wp_ret ?_
 obtain rfl := Option.some.inj hP
 refine ret1 E rfl rfl ?_
 exact ⟨_, rfl, rfl, H.sel [] rfl⟩

/-! (*rejoinder/moore.game).reply -/
def moore_game_reply_f3 (N : Nat) (g : (Int × (List Bool) × (List Int) × (List Nd)) × (Int × Int) × (List Int) × (List Int)) (ranks : List Int) (q : Int) (x254 : Int) (x611 : Int) : Option Bool :=
    Option.bind (moore_game_to N g q (orV .u8 (List.getD g.2.2.1 (Int.toNat x254) 0) (List.getD g.2.2.2 (Int.toNat x611) 0))) fun r684 =>
    ask (idx r684 (List.length ranks)) <|
    some (decide ((List.getD ranks (Int.toNat r684) 0) < 0))
def moore_game_reply_l2 (N : Nat) (g : (Int × (List Bool) × (List Int) × (List Nd)) × (Int × Int) × (List Int) × (List Int)) (ranks : List Int) (q : Int) (x254 : Int) : Nat → Int → Option (Unit ⊕ Int)
  | 0, _ => none
  | m646 + 1, x611 =>
    if x611 < (((List.length g.2.2.2) : Nat) : Int) then
      ask (idx x611 (List.length g.2.2.2)) <|
      Option.bind (moore_game_reply_f3 N g ranks q x254 x611) fun x681 =>
      if x681 = true then
        some (Sum.inr x611)
      else
        ask (in64 (x611 + 1)) <|
        moore_game_reply_l2 N g ranks q x254 m646 (x611 + 1)
    else
      some (Sum.inl ())
def moore_game_reply_f1 (N : Nat) (g : (Int × (List Bool) × (List Int) × (List Nd)) × (Int × Int) × (List Int) × (List Int)) (ranks : List Int) (q : Int) (x254 : Int) : Option Int :=
    Option.bind (moore_game_reply_l2 N g ranks q x254 N 0) fun x647 =>
    Sum.elim (fun x652 =>
      some (-1))
     (fun x713 =>
      some x713) x647
def moore_game_reply_l0 (N : Nat) (g : (Int × (List Bool) × (List Int) × (List Nd)) × (Int × Int) × (List Int) × (List Int)) (ranks : List Int) (q : Int) : Nat → (List Int) → Int → Option (List Int)
  | 0, _, _ => none
  | m444 + 1, out251, x254 =>
    if x254 < (((List.length g.2.2.1) : Nat) : Int) then
      ask (idx x254 (List.length g.2.2.1)) <|
      Option.bind (moore_game_reply_f1 N g ranks q x254) fun x575 =>
      ask (idx x575 (List.length g.2.2.2)) <|
      ask (List.length out251 + List.length ([(List.getD g.2.2.2 (Int.toNat x575) 0)] : List Int) ≤ 1000000000) <|
      ask (in64 (x254 + 1)) <|
      moore_game_reply_l0 N g ranks q m444 (out251 ++ ([(List.getD g.2.2.2 (Int.toNat x575) 0)] : List Int)) (x254 + 1)
    else
      some out251
def moore_game_reply (N : Nat) (g : (Int × (List Bool) × (List Int) × (List Nd)) × (Int × Int) × (List Int) × (List Int)) (ranks : List Int) (q : Int) : Option (List Int) :=
  Option.bind (moore_game_reply_l0 N g ranks q N [] 0) fun x445 =>
  some x445
set_option maxRecDepth 100000 in
set_option maxHeartbeats 4000000 in
theorem moore_game_reply_calls {N : Nat} {S Fa : Nat → Prop} {w0 : World} {r : List Int} (b1 : Nat) (o2 : Nat) (A4 : Option Addr) (c5 : Nat) (g : (Int × (List Bool) × (List Int) × (List Nd)) × (Int × Int) × (List Int) × (List Int)) (ranks : List Int) (q : Int) (hk6 : List.length ranks ≤ c5) (H : Hp S Fa w0 w0 [.ro false cS87 (some ⟨b1, o2, none⟩) ([g]), .ro false (cInt .i64) A4 ranks]) (hP : moore_game_reply N g ranks q = some r) :
    Calls Try.prog 37 #[.pointer (some ⟨b1, o2, none⟩), .slice A4 (List.length ranks) c5, .int .i64 q] w0 fun e w' => ∃ v, e = .returned v ∧ ∃ (A775 : Option Addr) (c776 : Nat), v = .slice A775 (List.length r) c776 ∧ Hp S Fa w0 w' [.row true (cInt .u8) 27 A775 c776 r] := by
 refine enterV (n := 38) Try.func37 rfl rfl rfl ?_
 intro a E
 replace E := E.pick [(0, .pointer (some ⟨b1, o2, none⟩)), (1, .slice A4 (List.length ranks) c5), (2, .int .i64 q)] ⟨rfl, rfl, rfl, trivial⟩
 rw [moore_game_reply] at hP
 refine wp_seq ?_
 refine wp_region_lit ?_
 refine h_box H E rfl rfl rfl ?_
 intro w9 g8 a hc10 hg12 H_ E_
 replace E := E_ _ rfl; clear E_
 replace H := H_; clear H_; try dsimp only [setn, addE, goneL] at H
 refine h_box H E rfl rfl rfl ?_
 intro w14 g13 a hc15 hg17 H_ E_
 replace E := E_ _ rfl; clear E_
 replace H := H_; clear H_; try dsimp only [setn, addE, goneL] at H
 refine h_box H E rfl rfl rfl ?_
 intro w19 g18 a hc20 hg22 H_ E_
 replace E := E_ _ rfl; clear E_
 replace H := H_; clear H_; try dsimp only [setn, addE, goneL] at H
 refine vn tbok 1 [] [] [] E (by kernel_rfl) (by kernel_rfl) trivial ?_
 clear E; intro a E
 refine wpList_nil ?_
 refine th_n ?_
 refine wp_seq ?_
 refine wp_region_lit ?_
 refine vn tbok 1 [] [(7, .slice none 0 0)] [] E (by kernel_rfl) (by kernel_rfl) trivial ?_
 clear E; intro a E
 refine wpList_nil ?_
 refine th_n ?_
 refine wp_seq ?_
 refine wp_seq ?_
 refine wp_region_lit ?_
 obtain ⟨Fz23, cs25, HF24, hK26, hc27⟩ := H.elem 0 false (el_ro rfl) g (idx_one _)
 obtain ⟨_, _, rfl, hK28, hK29⟩ := hK26
 obtain ⟨_, _, rfl, hK30, hK31⟩ := hK28
 obtain rfl := hK30
 obtain ⟨_, _, rfl, hK32, hK33⟩ := hK31
 obtain ⟨A34, c35, rfl, hk36, hC37⟩ := hK32
 obtain ⟨_, _, rfl, hK39, hK40⟩ := hK33
 obtain ⟨A41, c42, rfl, hk43, hC44⟩ := hK39
 obtain ⟨A46, c47, rfl, hk48, hC49⟩ := hK40
 obtain ⟨_, _, rfl, hK51, hK52⟩ := hK29
 obtain rfl := hK51
 obtain ⟨_, _, rfl, hK53, hK54⟩ := hK52
 obtain ⟨A55, c56, rfl, hk57, hC58⟩ := hK53
 obtain ⟨A60, c61, rfl, hk62, hC63⟩ := hK54
 replace HF24 := HF24.ins hC37
 replace HF24 := HF24.ins hC44
 replace HF24 := HF24.ins hC49
 replace HF24 := HF24.ins hC58
 replace HF24 := HF24.ins hC63
 replace H := HF24.hp; try dsimp only [addE] at H
 have hc65 : cellsAt w19 b1 (o2) [.int .i64 g.1.1, .slice A34 (List.length g.1.2.1) c35, .slice A41 (List.length g.1.2.2.1) c42, .slice A46 (List.length g.1.2.2.2) c47, .int .u8 g.2.1.1, .int .u8 g.2.1.2, .slice A55 (List.length g.2.2.1) c56, .slice A60 (List.length g.2.2.2) c61] := hc27
 refine vn tbok 6 [.pointer (some ⟨b1, o2, none⟩), .slice A55 (List.length g.2.2.1) c56] [(14, .slice A55 (List.length g.2.2.1) c56), (15, .int .i64 (((List.length g.2.2.1) : Nat) : Int)), (16, .int .i64 0)] [World.cell? w19 ⟨g8, 0, none⟩ = some (.pointer (some ⟨b1, o2, none⟩)), World.cell? w19 ⟨b1, o2 + 6, none⟩ = some (.slice A55 (List.length g.2.2.1) c56)] E (by kernel_rfl) (by kernel_rfl) ⟨(H.box 2 rfl).cell (j := 0) rfl, hc65.get 6 _ rfl⟩ ?_
 clear E; intro a E
 refine wpList_nil ?_
 refine th_n ?_
 refine wp_block ?_
 obtain ⟨x445, hL446, hK447⟩ := bind_inv hP
 clear hP
 replace H := H.nilrow (cInt .u8) 27; try dsimp only [setn, addE, goneL] at H
 refine loop_cut (fun i_ a w_ => (i_ = 0 ∧ ∃ (x451 : List Int), ∃ (A442 : Option Addr) (c443 : Nat), Fr a 38 [(7, .slice A442 (List.length x451) c443)] ∧ Hp S Fa w0 w_ [.row true (cInt .u8) 27 A442 c443 x451] ∧ x445 = x451)) ?_ ?_
 ·
  refine loopV (fun m450 a w449 => ∃ (out251 : List Int) (x254 : Int), ∃ (A252 : Option Addr) (c253 : Nat), Fr a 38 [(3, .pointer (some ⟨g8, 0, none⟩)), (4, .pointer (some ⟨g13, 0, none⟩)), (5, .pointer (some ⟨g18, 0, none⟩)), (7, .slice A252 (List.length out251) c253), (14, .slice A55 (List.length g.2.2.1) c56), (15, .int .i64 (((List.length g.2.2.1) : Nat) : Int)), (16, .int .i64 x254)] ∧ Hp S Fa w0 w449 [.ro false cS87 (some ⟨b1, o2, none⟩) ([g]), .box g8 62 [.pointer (some ⟨b1, o2, none⟩)], .ro false (cInt .i64) A4 ranks, .box g13 23 [.slice A4 (List.length ranks) c5], .box g18 3 [.int .i64 q], .row true (cInt .u8) 27 A252 c253 out251, .ro false (cInt .u8) A55 g.2.2.1] ∧ moore_game_reply_l0 N g ranks q m450 out251 x254 = some x445) N ?_ ?_
  ·
   exact ⟨[], 0, none, 0, E.pick _ ⟨rfl, rfl, rfl, rfl, rfl, rfl, rfl, trivial⟩, H.sel [0, 2, 1, 3, 4, 10, 8] rfl, hL446⟩
  clear E H hL446; intro m450 a w449 hI_
  obtain ⟨out251, x254, A252, c253, E, H, hP⟩ := hI_
  obtain ⟨m444, rfl⟩ : ∃ q_, m450 = q_ + 1 := by cases m450 with | zero => rw [moore_game_reply_l0] at hP; cases hP | succ q_ => exact ⟨q_, rfl⟩
  rw [moore_game_reply_l0] at hP
  refine wp_seq ?_
  refine wp_region_lit ?_
  refine vn tbok 1 [] [(17, .bool (decide (x254 < (((List.length g.2.2.1) : Nat) : Int))))] [] E (by kernel_rfl) (by kernel_rfl) trivial ?_
  clear E; intro a E
  refine wpList_nil ?_
  refine th_n ?_
  refine wp_seq ?_
  refine E.cases (t := 17) rfl (fun hb_ E_ => ?_) (fun hb_ E_ => ?_)
  ·
   replace E := E_; clear E_
   have h452 : x254 < (((List.length g.2.2.1) : Nat) : Int) := of_decide_eq_true hb_
   clear hb_; replace hP := ite_t h452 hP
   refine c_true E rfl ?_
   refine wp_skip ?_
   refine th_n ?_
   refine wp_seq ?_
   refine wp_block ?_
   refine wp_seq ?_
   refine wp_region_lit ?_
   obtain ⟨g453, hP⟩ := ask_inv hP
   obtain ⟨b454, o455, e_b454⟩ := (H.rd 6 rds_ro).addr (idx_pos g453)
   subst e_b454
   refine vn tbok 2 [.int .u8 (List.getD g.2.2.1 (Int.toNat x254) 0)] [(19, .int .u8 (List.getD g.2.2.1 (Int.toNat x254) 0))] [0 ≤ x254 ∧ x254 < (((List.length g.2.2.1) : Nat) : Int), World.cell? w449 ⟨b454, o455 + (Int.toNat x254) * 1, none⟩ = some (.int .u8 (List.getD g.2.2.1 (Int.toNat x254) 0))] E (by kernel_rfl) (by kernel_rfl) ⟨g453, Rds.at1 (H.rd 6 rds_ro) 0 g453⟩ ?_
   clear E; intro a E
   refine h_alloc H E rfl rfl tbok rfl ?_
   intro w457 g456 a hc458 hg460 H_ E_
   replace E := E_ _ rfl; clear E_
   replace H := H_; clear H_; try dsimp only [setn, addE, goneL] at H
   refine h_store (g := g456) (off := 0) H 7 rfl E rfl rfl rfl rfl tbok rfl rfl rfl rfl rfl ?_
   clear E; intro w461 a hc462 H_ E
   replace H := H_; clear H_; try dsimp only [setn, addE, goneL] at H
   refine wpList_nil ?_
   refine th_n ?_
   refine wp_seq ?_
   refine wp_region_lit ?_
   obtain ⟨Fz463, cs465, HF464, hK466, hc467⟩ := H.elem 0 false (el_ro rfl) g (idx_one _)
   obtain ⟨_, _, rfl, hK468, hK469⟩ := hK466
   obtain ⟨_, _, rfl, hK470, hK471⟩ := hK468
   obtain rfl := hK470
   obtain ⟨_, _, rfl, hK472, hK473⟩ := hK471
   obtain ⟨A474, c475, rfl, hk476, hC477⟩ := hK472
   obtain ⟨_, _, rfl, hK479, hK480⟩ := hK473
   obtain ⟨A481, c482, rfl, hk483, hC484⟩ := hK479
   obtain ⟨A486, c487, rfl, hk488, hC489⟩ := hK480
   obtain ⟨_, _, rfl, hK491, hK492⟩ := hK469
   obtain rfl := hK491
   obtain ⟨_, _, rfl, hK493, hK494⟩ := hK492
   obtain ⟨A495, c496, rfl, hk497, hC498⟩ := hK493
   obtain ⟨A500, c501, rfl, hk502, hC503⟩ := hK494
   replace HF464 := HF464.ins hC477
   replace HF464 := HF464.ins hC484
   replace HF464 := HF464.ins hC489
   replace HF464 := HF464.ins hC498
   replace HF464 := HF464.ins hC503
   replace H := HF464.hp; try dsimp only [addE] at H
   have hc505 : cellsAt w461 b1 (o2) [.int .i64 g.1.1, .slice A474 (List.length g.1.2.1) c475, .slice A481 (List.length g.1.2.2.1) c482, .slice A486 (List.length g.1.2.2.2) c487, .int .u8 g.2.1.1, .int .u8 g.2.1.2, .slice A495 (List.length g.2.2.1) c496, .slice A500 (List.length g.2.2.2) c501] := hc467
   refine vn tbok 4 [.pointer (some ⟨b1, o2, none⟩), .slice A500 (List.length g.2.2.2) c501] [(23, .slice A500 (List.length g.2.2.2) c501)] [World.cell? w461 ⟨g8, 0, none⟩ = some (.pointer (some ⟨b1, o2, none⟩)), World.cell? w461 ⟨b1, o2 + 7, none⟩ = some (.slice A500 (List.length g.2.2.2) c501)] E (by kernel_rfl) (by kernel_rfl) ⟨(H.box 1 rfl).cell (j := 0) rfl, hc505.get 7 _ rfl⟩ ?_
   clear E; intro a E
   refine e_makeFunc (vs := [.pointer (some ⟨g13, 0, none⟩), .pointer (some ⟨g8, 0, none⟩), .pointer (some ⟨g18, 0, none⟩), .pointer (some ⟨g456, 0, none⟩)]) E rfl rfl rfl rfl ?_
   clear E; intro a E
   obtain ⟨x575, h576, hP⟩ := bind_inv hP
   refine e_call (R := fun v_ w_ => ∃ (x577 : Int), v_ = .int .i64 x577 ∧ Hp S Fa w0 w_ [.ro false cS87 (some ⟨b1, o2, none⟩) ([g]), .box g8 62 [.pointer (some ⟨b1, o2, none⟩)], .ro false (cInt .i64) A4 ranks, .box g13 23 [.slice A4 (List.length ranks) c5], .box g18 3 [.int .i64 q], .row true (cInt .u8) 27 A252 c253 out251, .box g456 27 [.int .u8 (List.getD g.2.2.1 (Int.toNat x254) 0)], .ro false (cInt .u8) (some ⟨b454, o455, none⟩) g.2.2.1, .ro false (cInt .u8) A500 g.2.2.2] ∧ x575 = x577) E rfl rfl Try.func58 rfl rfl rfl ?_ ?_
   ·
    clear E hP; have hP := h576; clear h576; rw [moore_game_reply_f1] at hP
    refine enterV (n := 19) Try.func58 rfl rfl rfl ?_
    intro a E
    replace E := E.pick [(0, .slice A500 (List.length g.2.2.2) c501), (1, .func (.func 65) #[] #[.pointer (some ⟨g13, 0, none⟩), .pointer (some ⟨g8, 0, none⟩), .pointer (some ⟨g18, 0, none⟩), .pointer (some ⟨g456, 0, none⟩)])] ⟨rfl, rfl, trivial⟩
    refine wp_seq ?_
    refine wp_region_lit ?_
    refine vn tbok 1 [] [] [] E (by kernel_rfl) (by kernel_rfl) trivial ?_
    clear E; intro a E
    refine wpList_nil ?_
    refine th_n ?_
    refine wp_seq ?_
    refine wp_seq ?_
    refine wp_region_lit ?_
    refine vn tbok 3 [] [(7, .slice A500 (List.length g.2.2.2) c501), (8, .int .i64 (((List.length g.2.2.2) : Nat) : Int)), (9, .int .i64 0)] [] E (by kernel_rfl) (by kernel_rfl) trivial ?_
    clear E; intro a E
    refine wpList_nil ?_
    refine th_n ?_
    refine wp_block ?_
    obtain ⟨x647, hL648, hK649⟩ := bind_inv hP
    clear hP
    refine loop_cut (fun i_ a w_ => (i_ = 0 ∧ ∃ (x652 : Unit), Fr a 19 [] ∧ Hp S Fa w0 w_ [.ro false cS87 (some ⟨b1, o2, none⟩) ([g]), .box g8 62 [.pointer (some ⟨b1, o2, none⟩)], .ro false (cInt .i64) A4 ranks, .box g13 23 [.slice A4 (List.length ranks) c5], .box g18 3 [.int .i64 q], .row true (cInt .u8) 27 A252 c253 out251, .box g456 27 [.int .u8 (List.getD g.2.2.1 (Int.toNat x254) 0)], .ro false (cInt .u8) (some ⟨b454, o455, none⟩) g.2.2.1, .ro false (cInt .u8) A500 g.2.2.2] ∧ x647 = Sum.inl x652)) ?_ ?_
    ·
     refine loopV (fun m651 a w650 => ∃ (x611 : Int), Fr a 19 [(1, .func (.func 65) #[] #[.pointer (some ⟨g13, 0, none⟩), .pointer (some ⟨g8, 0, none⟩), .pointer (some ⟨g18, 0, none⟩), .pointer (some ⟨g456, 0, none⟩)]), (7, .slice A500 (List.length g.2.2.2) c501), (8, .int .i64 (((List.length g.2.2.2) : Nat) : Int)), (9, .int .i64 x611)] ∧ Hp S Fa w0 w650 [.ro false (cInt .i64) A4 ranks, .box g13 23 [.slice A4 (List.length ranks) c5], .ro false cS87 (some ⟨b1, o2, none⟩) ([g]), .box g8 62 [.pointer (some ⟨b1, o2, none⟩)], .box g18 3 [.int .i64 q], .box g456 27 [.int .u8 (List.getD g.2.2.1 (Int.toNat x254) 0)], .ro false (cInt .u8) A500 g.2.2.2, .row true (cInt .u8) 27 A252 c253 out251, .ro false (cInt .u8) (some ⟨b454, o455, none⟩) g.2.2.1] ∧ moore_game_reply_l2 N g ranks q x254 m651 x611 = some x647) N ?_ ?_
     ·
      exact ⟨0, E.pick _ ⟨rfl, rfl, rfl, rfl, trivial⟩, H.sel [2, 3, 0, 1, 4, 7, 12, 5, 6] rfl, hL648⟩
     clear E H hL648; intro m651 a w650 hI_
     obtain ⟨x611, E, H, hP⟩ := hI_
     obtain ⟨m646, rfl⟩ : ∃ q_, m651 = q_ + 1 := by cases m651 with | zero => rw [moore_game_reply_l2] at hP; cases hP | succ q_ => exact ⟨q_, rfl⟩
     rw [moore_game_reply_l2] at hP
     refine wp_seq ?_
     refine wp_region_lit ?_
     refine vn tbok 1 [] [(10, .bool (decide (x611 < (((List.length g.2.2.2) : Nat) : Int))))] [] E (by kernel_rfl) (by kernel_rfl) trivial ?_
     clear E; intro a E
     refine wpList_nil ?_
     refine th_n ?_
     refine wp_seq ?_
     refine E.cases (t := 10) rfl (fun hb_ E_ => ?_) (fun hb_ E_ => ?_)
     ·
      replace E := E_; clear E_
      have h653 : x611 < (((List.length g.2.2.2) : Nat) : Int) := of_decide_eq_true hb_
      clear hb_; replace hP := ite_t h653 hP
      refine c_true E rfl ?_
      refine wp_skip ?_
      refine th_n ?_
      refine wp_seq ?_
      refine wp_block ?_
      refine wp_seq ?_
      refine wp_region_lit ?_
      obtain ⟨g654, hP⟩ := ask_inv hP
      obtain ⟨b655, o656, e_b655⟩ := (H.rd 6 rds_ro).addr (idx_pos g654)
      subst e_b655
      refine vn tbok 5 [.int .u8 (List.getD g.2.2.2 (Int.toNat x611) 0)] [(5, .int .i64 x611), (6, .int .u8 (List.getD g.2.2.2 (Int.toNat x611) 0))] [0 ≤ x611 ∧ x611 < (((List.length g.2.2.2) : Nat) : Int), World.cell? w650 ⟨b655, o656 + (Int.toNat x611) * 1, none⟩ = some (.int .u8 (List.getD g.2.2.2 (Int.toNat x611) 0))] E (by kernel_rfl) (by kernel_rfl) ⟨g654, Rds.at1 (H.rd 6 rds_ro) 0 g654⟩ ?_
      clear E; intro a E
      refine wpList_nil ?_
      refine th_n ?_
      refine wp_seq ?_
      refine wp_region_lit ?_
      refine vn tbok 2 [] [(14, .func (.func 65) #[] #[.pointer (some ⟨g13, 0, none⟩), .pointer (some ⟨g8, 0, none⟩), .pointer (some ⟨g18, 0, none⟩), .pointer (some ⟨g456, 0, none⟩)]), (15, .int .u8 (List.getD g.2.2.2 (Int.toNat x611) 0))] [] E (by kernel_rfl) (by kernel_rfl) trivial ?_
      clear E; intro a E
      obtain ⟨x681, h682, hP⟩ := bind_inv hP
      refine e_callv (R := fun v_ w_ => ∃ (x683 : Bool), v_ = .bool x683 ∧ Hp S Fa w0 w_ [.ro false cS87 (some ⟨b1, o2, none⟩) ([g]), .box g8 62 [.pointer (some ⟨b1, o2, none⟩)], .ro false (cInt .i64) A4 ranks, .box g13 23 [.slice A4 (List.length ranks) c5], .box g18 3 [.int .i64 q], .row true (cInt .u8) 27 A252 c253 out251, .box g456 27 [.int .u8 (List.getD g.2.2.1 (Int.toNat x254) 0)], .ro false (cInt .u8) (some ⟨b454, o455, none⟩) g.2.2.1, .ro false (cInt .u8) (some ⟨b655, o656, none⟩) g.2.2.2] ∧ x681 = x683) E rfl rfl rfl Try.func65 rfl rfl rfl ?_ ?_
      ·
       clear E hP; have hP := h682; clear h682; rw [moore_game_reply_f3] at hP
       refine enterV (n := 17) Try.func65 rfl rfl rfl ?_
       intro a E
       replace E := E.pick [(0, .int .u8 (List.getD g.2.2.2 (Int.toNat x611) 0)), (1, .pointer (some ⟨g13, 0, none⟩)), (2, .pointer (some ⟨g8, 0, none⟩)), (3, .pointer (some ⟨g18, 0, none⟩)), (4, .pointer (some ⟨g456, 0, none⟩))] ⟨rfl, rfl, rfl, rfl, rfl, trivial⟩
       refine wp_seq ?_
       refine wp_region_lit ?_
       refine vn tbok 1 [] [] [] E (by kernel_rfl) (by kernel_rfl) trivial ?_
       clear E; intro a E
       refine wpList_nil ?_
       refine th_n ?_
       refine wp_seq ?_
       obtain ⟨r684, h685, hP⟩ := bind_inv hP
       obtain ⟨g693, hP⟩ := ask_inv hP
       obtain ⟨b694, o695, e_b694⟩ := (H.rd 0 rds_ro).addr (idx_pos g693)
       subst e_b694
       have HR699 := H
       refine dr_start (S := fun w_ => Chg (atL []) w650 w_) (by kernel_rfl) ?_
       intro w696 hc697
       have HS698 : Chg (atL []) w650 w696 := hc697.mono (fun _ _ h_ => h_.elim)
       replace H := H.ext hc697
       refine dn tbok (by kernel_rfl) [0, 1, 2, 3, 4, 5] [.slice (some ⟨b694, o695, none⟩) (List.length ranks) c5, .pointer (some ⟨b1, o2, none⟩), .int .i64 q, .int .u8 (List.getD g.2.2.1 (Int.toNat x254) 0), .int .u8 (orV .u8 (List.getD g.2.2.1 (Int.toNat x254) 0) (List.getD g.2.2.2 (Int.toNat x611) 0))] [(7, .slice (some ⟨b694, o695, none⟩) (List.length ranks) c5), (8, .pointer (some ⟨b1, o2, none⟩)), (9, .int .i64 q), (12, .int .u8 (orV .u8 (List.getD g.2.2.1 (Int.toNat x254) 0) (List.getD g.2.2.2 (Int.toNat x611) 0)))] (fun w_ => [World.cell? w_ ⟨g13, 0, none⟩ = some (.slice (some ⟨b694, o695, none⟩) (List.length ranks) c5), World.cell? w_ ⟨g8, 0, none⟩ = some (.pointer (some ⟨b1, o2, none⟩)), World.cell? w_ ⟨g18, 0, none⟩ = some (.int .i64 q), World.cell? w_ ⟨g456, 0, none⟩ = some (.int .u8 (List.getD g.2.2.1 (Int.toNat x254) 0)), IntKind.u8.wrap (BitVec.ofInt (IntKind.bits .u8) (List.getD g.2.2.1 (Int.toNat x254) 0) ||| BitVec.ofInt (IntKind.bits .u8) (List.getD g.2.2.2 (Int.toNat x611) 0)).toNat = orV .u8 (List.getD g.2.2.1 (Int.toNat x254) 0) (List.getD g.2.2.2 (Int.toNat x611) 0)]) 5 E (fun _ _ => by kernel_rfl) (by kernel_rfl) (fun w_ hS_ => ⟨(HR699.boxk [] hS_ 1 rfl rfl).cell (j := 0) rfl, (HR699.boxk [] hS_ 3 rfl rfl).cell (j := 0) rfl, (HR699.boxk [] hS_ 4 rfl rfl).cell (j := 0) rfl, (HR699.boxk [] hS_ 5 rfl rfl).cell (j := 0) rfl, rfl⟩) (by kernel_rfl) HS698 ?_
       clear E; intro a E
       refine wpAnyH_all (rs := [6]) (by kernel_rfl) (by simp) ?_
       refine all1 ?_
       refine wpOp_of_list rfl ?_
       obtain ⟨Fa700, Hc701, hb702⟩ := H.call [] [(2, false)] rfl rfl trivial
       refine e_call E rfl rfl Try.func50 rfl rfl rfl (moore_game_to_calls b1 o2 g q (orV .u8 (List.getD g.2.2.1 (Int.toNat x254) 0) (List.getD g.2.2.2 (Int.toNat x611) 0))  Hc701 h685) ?_
       rintro v703 w704 a ⟨rfl, HR705⟩ E_
       replace E := E_ _ rfl; clear E_
       obtain ⟨H_, hc706⟩ := hb702 _ _ HR705 rfl
       replace HS698 := HS698.ext (callS_ext hc706)
       replace H := H_; clear H_; try dsimp only [setn, addE, goneL] at H
       refine wpList_nil ?_
       refine th_n ⟨HS698, ?_⟩
       refine dn tbok (by kernel_rfl) [7, 8, 9, 10] [.int .i64 (List.getD ranks (Int.toNat r684) 0)] [(6, .bool (decide ((List.getD ranks (Int.toNat r684) 0) < 0)))] (fun w_ => [0 ≤ r684 ∧ r684 < (((List.length ranks) : Nat) : Int), World.cell? w_ ⟨b694, o695 + (Int.toNat r684) * 1, none⟩ = some (.int .i64 (List.getD ranks (Int.toNat r684) 0))]) 0 E (fun _ _ => by kernel_rfl) (by kernel_rfl) (fun w_ hS_ => ⟨g693, Rds.at1 (HR699.rdk [] hS_ 0 rds_ro rfl) 0 g693⟩) (by kernel_rfl) HS698 ?_
       clear E; intro a E
       refine dr_done (by kernel_rfl) ?_
       clear HS698 HR699
       refine th_n ?_
       refine wp_ret ?_
       have hx_ := Option.some.inj hP
       refine ret1 E rfl rfl ?_
       exact ⟨_, rfl, decide ((List.getD ranks (Int.toNat r684) 0) < 0), rfl, H.sel [2, 3, 0, 1, 4, 7, 5, 8, 6] rfl, hx_.symm⟩
      clear H
      rintro v708 w707 a ⟨x683, rfl, H, hx_⟩ E_
      subst hx_
      replace E := E_ _ rfl; clear E_
      refine wpList_nil ?_
      refine th_n ?_
      refine E.cases (t := 16) rfl (fun hb_ E_ => ?_) (fun hb_ E_ => ?_)
      ·
       replace E := E_; clear E_
       have h709 : x681 = true := hb_
       clear hb_; replace hP := ite_t h709 hP
       refine c_true E rfl ?_
       refine wp_seq ?_
       refine wp_region_lit ?_
       refine vn tbok 2 [] [(4, .int .i64 x611)] [] E (by kernel_rfl) (by kernel_rfl) trivial ?_
       clear E; intro a E
       refine wpList_nil ?_
       refine th_n ?_
       refine wp_ret ?_
       refine bl_ret ?_
       refine th_ret ?_
       refine th_ret ?_
       refine .inr ⟨rfl, ?_⟩
       refine bl_ret ?_
       refine th_ret ?_
       have hx_ := Option.some.inj hP; subst hx_
       have hP : some (x611) = some x575 := hK649
       have hx_ := Option.some.inj hP
       refine ret1 E rfl rfl ?_
       exact ⟨_, rfl, x611, rfl, H.sel [0, 1, 2, 3, 4, 5, 6, 7, 8] rfl, hx_.symm⟩
      replace E := E_; clear E_
      have h710 : ¬ (x681 = true) := (ne_true_of_eq_false hb_)
      clear hb_; replace hP := ite_f h710 hP
      refine c_false E rfl ?_
      refine wp_skip ?_
      refine bl_n ?_
      refine th_n ?_
      refine wp_region_lit ?_
      obtain ⟨g711, hP⟩ := ask_inv hP
      refine vn tbok 2 [.int .i64 (x611 + 1)] [(9, .int .i64 (x611 + 1))] [IntKind.i64.wrap (x611 + 1) = x611 + 1] E (by kernel_rfl) (by kernel_rfl) (wrap_in g711) ?_
      clear E; intro a E
      refine wpList_nil ?_
      exact th_n ⟨m646, Nat.lt_succ_self _, x611 + 1, E.pick _ ⟨rfl, rfl, rfl, rfl, trivial⟩, H.sel [2, 3, 0, 1, 4, 6, 8, 5, 7] rfl, hP⟩
     replace E := E_; clear E_
     have h712 : ¬ (x611 < (((List.length g.2.2.2) : Nat) : Int)) := of_decide_eq_false hb_
     clear hb_; replace hP := ite_f h712 hP
     refine c_false E rfl ?_
     refine wp_exit ?_
     refine th_exit ?_
     have hx_ := Option.some.inj hP
     refine th_exit (.inl ⟨0, rfl, ?_⟩)
     exact ⟨rfl, (), E.pick _ trivial, H.sel [2, 3, 0, 1, 4, 7, 5, 8, 6] rfl, hx_.symm⟩
    clear E H hL648; intro i_ a w650 hM_
    obtain ⟨rfl, x652, E, H, hx_⟩ := hM_
    subst hx_; have hP := elim_l hK649
    clear hK649
    refine bl_hit ?_
    refine th_n ?_
    refine wp_seq ?_
    refine wp_region_lit ?_
    refine vn tbok 1 [] [(4, .int .i64 (-1))] [] E (by kernel_rfl) (by kernel_rfl) trivial ?_
    clear E; intro a E
    refine wpList_nil ?_
    refine th_n ?_
    refine wp_ret ?_
    have hx_ := Option.some.inj hP
    refine ret1 E rfl rfl ?_
    exact ⟨_, rfl, -1, rfl, H.sel [0, 1, 2, 3, 4, 5, 6, 7, 8] rfl, hx_.symm⟩
   clear H
   rintro v715 w714 a ⟨x577, rfl, H, hx_⟩ E_
   subst hx_
   replace E := E_ _ rfl; clear E_
   refine vn tbok 1 [] [(10, .int .i64 x575)] [] E (by kernel_rfl) (by kernel_rfl) trivial ?_
   clear E; intro a E
   refine wpList_nil ?_
   refine th_n ?_
   refine wp_region_lit ?_
   obtain ⟨Fz716, cs718, HF717, hK719, hc720⟩ := H.elem 0 false (el_ro rfl) g (idx_one _)
   obtain ⟨_, _, rfl, hK721, hK722⟩ := hK719
   obtain ⟨_, _, rfl, hK723, hK724⟩ := hK721
   obtain rfl := hK723
   obtain ⟨_, _, rfl, hK725, hK726⟩ := hK724
   obtain ⟨A727, c728, rfl, hk729, hC730⟩ := hK725
   obtain ⟨_, _, rfl, hK732, hK733⟩ := hK726
   obtain ⟨A734, c735, rfl, hk736, hC737⟩ := hK732
   obtain ⟨A739, c740, rfl, hk741, hC742⟩ := hK733
   obtain ⟨_, _, rfl, hK744, hK745⟩ := hK722
   obtain rfl := hK744
   obtain ⟨_, _, rfl, hK746, hK747⟩ := hK745
   obtain ⟨A748, c749, rfl, hk750, hC751⟩ := hK746
   obtain ⟨A753, c754, rfl, hk755, hC756⟩ := hK747
   replace HF717 := HF717.ins hC730
   replace HF717 := HF717.ins hC737
   replace HF717 := HF717.ins hC742
   replace HF717 := HF717.ins hC751
   replace HF717 := HF717.ins hC756
   replace H := HF717.hp; try dsimp only [addE] at H
   have hc758 : cellsAt w714 b1 (o2) [.int .i64 g.1.1, .slice A727 (List.length g.1.2.1) c728, .slice A734 (List.length g.1.2.2.1) c735, .slice A739 (List.length g.1.2.2.2) c740, .int .u8 g.2.1.1, .int .u8 g.2.1.2, .slice A748 (List.length g.2.2.1) c749, .slice A753 (List.length g.2.2.2) c754] := hc720
   obtain ⟨g759, hP⟩ := ask_inv hP
   obtain ⟨b760, o761, e_b760⟩ := (H.rd 13 rds_ro).addr (idx_pos g759)
   subst e_b760
   refine vn tbok 8 [.pointer (some ⟨b1, o2, none⟩), .slice (some ⟨b760, o761, none⟩) (List.length g.2.2.2) c754, .int .u8 (List.getD g.2.2.2 (Int.toNat x575) 0)] [(26, .slice A252 (List.length out251) c253), (33, .int .u8 (List.getD g.2.2.2 (Int.toNat x575) 0))] [World.cell? w714 ⟨g8, 0, none⟩ = some (.pointer (some ⟨b1, o2, none⟩)), World.cell? w714 ⟨b1, o2 + 7, none⟩ = some (.slice (some ⟨b760, o761, none⟩) (List.length g.2.2.2) c754), 0 ≤ x575 ∧ x575 < (((List.length g.2.2.2) : Nat) : Int), World.cell? w714 ⟨b760, o761 + (Int.toNat x575) * 1, none⟩ = some (.int .u8 (List.getD g.2.2.2 (Int.toNat x575) 0))] E (by kernel_rfl) (by kernel_rfl) ⟨(H.box 1 rfl).cell (j := 0) rfl, hc758.get 7 _ rfl, g759, Rds.at1 (H.rd 13 rds_ro) 0 g759⟩ ?_
   clear E; intro a E
   refine h_buildSlice (ps := [(0, .int .u8 (List.getD g.2.2.2 (Int.toNat x575) 0))]) (cs := [.int .u8 (List.getD g.2.2.2 (Int.toNat x575) 0)]) H E rfl rfl tbok rfl rfl (by kernel_rfl) ?_
   intro w763 g762 a hc764 hg766 H_ E_
   replace E := E_ _ rfl; clear E_
   replace H := H_; clear H_; try dsimp only [setn, addE, goneL] at H
   obtain ⟨g767, hP⟩ := ask_inv hP
   refine h_append (cInt .u8) (xs := out251) (ys := ([(List.getD g.2.2.2 (Int.toNat x575) 0)] : List Int)) (0 : Int) H 5 rfl E rfl rfl tbok rfl rfl rfl rfl rfl (fun _ _ => rfl) rfl rfl (fun _ HF_ => HF_.srcB 14 rfl (⟨_, _, rfl, rfl, rfl⟩)) g767 ?_
   intro w768 A769 c770 a hc771 hA772 H_ E_
   replace E := E_ _ rfl; clear E_
   replace H := H_; clear H_; try dsimp only [setn, addE, goneL] at H
   refine vn tbok 1 [] [(7, .slice A769 (List.length (out251 ++ ([(List.getD g.2.2.2 (Int.toNat x575) 0)] : List Int))) c770)] [] E (by kernel_rfl) (by kernel_rfl) trivial ?_
   clear E; intro a E
   refine wpList_nil ?_
   refine bl_n ?_
   refine th_n ?_
   refine wp_region_lit ?_
   obtain ⟨g773, hP⟩ := ask_inv hP
   refine vn tbok 2 [.int .i64 (x254 + 1)] [(16, .int .i64 (x254 + 1))] [IntKind.i64.wrap (x254 + 1) = x254 + 1] E (by kernel_rfl) (by kernel_rfl) (wrap_in g773) ?_
   clear E; intro a E
   refine wpList_nil ?_
   exact th_n ⟨m444, Nat.lt_succ_self _, out251 ++ ([(List.getD g.2.2.2 (Int.toNat x575) 0)] : List Int), x254 + 1, A769, c770, E.pick _ ⟨rfl, rfl, rfl, rfl, rfl, rfl, rfl, trivial⟩, H.sel [0, 1, 2, 3, 4, 5, 7] rfl, hP⟩
  replace E := E_; clear E_
  have h774 : ¬ (x254 < (((List.length g.2.2.1) : Nat) : Int)) := of_decide_eq_false hb_
  clear hb_; replace hP := ite_f h774 hP
  refine c_false E rfl ?_
  refine wp_exit ?_
  refine th_exit ?_
  have hx_ := Option.some.inj hP
  refine th_exit (.inl ⟨0, rfl, ?_⟩)
  exact ⟨rfl, out251, A252, c253, E.pick _ ⟨rfl, trivial⟩, H.sel [5] rfl, hx_.symm⟩
 clear E H hL446; intro i_ a w449 hM_
 obtain ⟨rfl, x451, A442, c443, E, H, hx_⟩ := hM_
 subst hx_; have hP := hK447; clear hK447
 refine bl_hit ?_
 refine th_n ?_
 refine wp_seq ?_
 refine wp_region_lit ?_
 refine vn tbok 2 [] [(6, .slice A442 (List.length x445) c443)] [] E (by kernel_rfl) (by kernel_rfl) trivial ?_
 clear E; intro a E
 refine wpList_nil ?_
 refine th_n ?_
 refine wp_ret ?_
 obtain rfl := Option.some.inj hP
 refine ret1 E rfl rfl ?_
 exact ⟨_, rfl, A442, c443, rfl, H.sel [0] rfl⟩

/-! rejoinder/moore.Of -/
def moore_Of_l0 (N : Nat) (x45 : ((Int × (List Bool) × (List Int) × (List Nd)) × (Int × Int) × (List Int) × (List Int)) × Int) (r66 : List Int) : Nat → (List Int) → (List (List Int)) → Int → Option ((List Int) × (List (List Int)))
  | 0, _, _, _ => none
  | m812 + 1, x731, x732, x733 =>
    if x733 < (((List.length r66) : Nat) : Int) then
      ask (idx x733 (List.length r66)) <|
      if 0 < (List.getD r66 (Int.toNat x733) 0) then
        Option.bind (moore_game_choice N x45.1 r66 x733) fun r822 =>
        ask (idx x733 (List.length x731)) <|
        ask (in64 (x733 + 1)) <|
        moore_Of_l0 N x45 r66 m812 (List.set x731 (Int.toNat x733) r822) x732 (x733 + 1)
      else
        if (List.getD r66 (Int.toNat x733) 0) < 0 then
          Option.bind (moore_game_reply N x45.1 r66 x733) fun r854 =>
          ask (idx x733 (List.length x732)) <|
          ask (in64 (x733 + 1)) <|
          moore_Of_l0 N x45 r66 m812 x731 (List.set x732 (Int.toNat x733) r854) (x733 + 1)
        else
          ask (in64 (x733 + 1)) <|
          moore_Of_l0 N x45 r66 m812 x731 x732 (x733 + 1)
    else
      some (x731, x732)
def moore_Of (N : Nat) (aProps : Int) (aAccept : List Bool) (aGuard : List Int) (aNodes : List Nd) (s : Int × Int) : Option ((Bool × (List Int) × (List Int) × (List (List Int))) × Int) :=
  Option.bind (moore_begun N aProps aAccept aGuard aNodes (s.1, s.2)) fun r28 =>
  Sum.elim (fun x44 =>
    if (x44 : Int) = 0 then
      none
    else
      some ((false, [], [], []), x44))
   (fun x45 =>
    if (x45.2 : Int) = 0 then
      Option.bind (moore_game_ranks N x45.1) fun r66 =>
      ask (0 ≤ (((List.length aAccept) : Nat) : Int) ∧ (((List.length aAccept) : Nat) : Int) ≤ 1000000000) <|
      ask (idx (0 : Int) (List.length r66)) <|
      Option.bind (moore_Of_l0 N x45 r66 N (List.replicate (Int.toNat (((List.length aAccept) : Nat) : Int)) (0 : Int)) (List.replicate (Int.toNat (((List.length aAccept) : Nat) : Int)) ([] : List Int)) 0) fun x813 =>
      some ((decide (0 ≤ (List.getD r66 (Int.toNat (0 : Int)) 0)), r66, x813.1, x813.2), 0)
    else
      some ((false, [], [], []), x45.2)) r28
set_option maxRecDepth 100000 in
set_option maxHeartbeats 4000000 in
theorem moore_Of_calls {N : Nat} {S Fa : Nat → Prop} {w0 : World} {r : (Bool × (List Int) × (List Int) × (List (List Int))) × Int} (A1 : Option Addr) (c2 : Nat) (A5 : Option Addr) (c6 : Nat) (A9 : Option Addr) (c10 : Nat) (aProps : Int) (aAccept : List Bool) (aGuard : List Int) (aNodes : List Nd) (s : Int × Int) (hk3 : List.length aAccept ≤ c2) (hk7 : List.length aGuard ≤ c6) (hk11 : List.length aNodes ≤ c10) (H : Hp S Fa w0 w0 [.ro false cBool A1 aAccept, .ro false (cInt .i64) A5 aGuard, .ro false cNode A9 aNodes]) (hP : moore_Of N aProps aAccept aGuard aNodes s = some r) :
    Calls Try.prog 12 #[.agg #[.int .i64 aProps, .slice A1 (List.length aAccept) c2, .slice A5 (List.length aGuard) c6, .slice A9 (List.length aNodes) c10], .agg #[.int .u8 s.1, .int .u8 s.2]] w0 fun e w' => ∃ v, e = .returned v ∧ ∃ (A897 : Option Addr) (c898 : Nat) (A899 : Option Addr) (c900 : Nat) (A901 : Option Addr) (c902 : Nat), v = .tuple #[.agg #[.bool r.1.1, .slice A897 (List.length r.1.2.1) c898, .slice A899 (List.length r.1.2.2.1) c900, .slice A901 (List.length r.1.2.2.2) c902], .int .i64 r.2] ∧ Hp S Fa w0 w' [.row true (cInt .i64) 3 A897 c898 r.1.2.1, .row true (cInt .u8) 27 A899 c900 r.1.2.2.1, .row true (cSl (cInt .u8)) 35 A901 c902 r.1.2.2.2] := by
 refine enterV (n := 72) Try.func12 rfl rfl rfl ?_
 intro a E
 replace E := E.pick [(0, .agg #[.int .i64 aProps, .slice A1 (List.length aAccept) c2, .slice A5 (List.length aGuard) c6, .slice A9 (List.length aNodes) c10]), (1, .agg #[.int .u8 s.1, .int .u8 s.2])] ⟨rfl, rfl, trivial⟩
 rw [moore_Of] at hP
 refine wp_seq ?_
 refine wp_region_lit ?_
 refine h_box H E rfl rfl rfl ?_
 intro w14 g13 a hc15 hg17 H_ E_
 replace E := E_ _ rfl; clear E_
 replace H := H_; clear H_; try dsimp only [setn, addE, goneL] at H
 refine h_box H E rfl rfl rfl ?_
 intro w19 g18 a hc20 hg22 H_ E_
 replace E := E_ _ rfl; clear E_
 replace H := H_; clear H_; try dsimp only [setn, addE, goneL] at H
 refine h_alloc H E rfl rfl tbok rfl ?_
 intro w24 g23 a hc25 hg27 H_ E_
 replace E := E_ _ rfl; clear E_
 replace H := H_; clear H_; try dsimp only [setn, addE, goneL] at H
 refine vn tbok 1 [] [] [] E (by kernel_rfl) (by kernel_rfl) trivial ?_
 clear E; intro a E
 refine wpList_nil ?_
 refine th_n ?_
 refine wp_seq ?_
 refine wp_region_lit ?_
 refine vn tbok 2 [.agg #[.int .i64 aProps, .slice A1 (List.length aAccept) c2, .slice A5 (List.length aGuard) c6, .slice A9 (List.length aNodes) c10], .agg #[.int .u8 s.1, .int .u8 s.2]] [(12, .agg #[.int .i64 aProps, .slice A1 (List.length aAccept) c2, .slice A5 (List.length aGuard) c6, .slice A9 (List.length aNodes) c10]), (13, .agg #[.int .u8 s.1, .int .u8 s.2])] [cellsAt w24 g13 (0) [.int .i64 aProps, .slice A1 (List.length aAccept) c2, .slice A5 (List.length aGuard) c6, .slice A9 (List.length aNodes) c10], cellsAt w24 g18 (0) [.int .u8 s.1, .int .u8 s.2]] E (by kernel_rfl) (by kernel_rfl) ⟨(H.box 3 rfl).sub 0 _ rfl, (H.box 4 rfl).sub 0 _ rfl⟩ ?_
 clear E; intro a E
 obtain ⟨r28, h29, hP⟩ := bind_inv hP
 obtain ⟨Fa30, Hc31, hb32⟩ := H.callA [] [(0, false), (1, false), (2, false)] rfl rfl trivial
 refine e_call E rfl rfl Try.func31 rfl rfl rfl (moore_begun_calls A1 c2 A5 c6 A9 c10 aProps aAccept aGuard aNodes (s.1, s.2) hk3 hk7 hk11 Hc31 h29) ?_
 intro v38 w37 a hR39 E_
 rcases hR39 with ⟨x_, hr_, rfl, HR41⟩ | ⟨x_, b42, hr_, rfl, HR43⟩
 ·
  subst hr_; have hP := elim_l hP
  obtain ⟨x44, hxx_⟩ : ∃ y_, y_ = x_ := ⟨_, rfl⟩; subst hxx_
  replace E := E_ _ rfl; clear E_
  obtain ⟨H_, hc40⟩ := hb32 _ _ HR41
  replace H := H_; clear H_; try dsimp only [setn, addE, goneL] at H
  refine vn tbok 5 [] [(6, .pointer none), (7, .int .i64 x44)] [] E (by kernel_rfl) (by kernel_rfl) trivial ?_
  clear E; intro a E
  refine wpList_nil ?_
  refine th_n ?_
  refine wp_seq ?_
  refine wp_seq ?_
  refine wp_region_lit ?_
  refine vn tbok 2 [] [(18, .bool ((x44 : Int) != 0))] [] E (by kernel_rfl) (by kernel_rfl) trivial ?_
  clear E; intro a E
  refine wpList_nil ?_
  refine th_n ?_
  refine E.cases (t := 18) rfl (fun hb_ E_ => ?_) (fun hb_ E_ => ?_)
  ·
   replace E := E_; clear E_
   have h46 : ¬ ((x44 : Int) = 0) := bne_iff_ne.1 hb_
   clear hb_; replace hP := ite_f h46 hP
   refine c_true E rfl ?_
   refine wp_seq ?_
   refine wp_region_lit ?_
   refine e_build (ps := []) (v := .agg #[.bool false, .slice none 0 0, .slice none 0 0, .slice none 0 0]) E rfl rfl tbok rfl (by kernel_rfl) rfl ?_
   clear E; intro a E
   refine vn tbok 1 [] [(20, .int .i64 x44)] [] E (by kernel_rfl) (by kernel_rfl) trivial ?_
   clear E; intro a E
   refine h_store (g := g23) (off := 0) H 5 rfl E rfl rfl rfl rfl tbok rfl rfl rfl rfl rfl ?_
   clear E; intro w47 a hc48 H_ E
   replace H := H_; clear H_; try dsimp only [setn, addE, goneL] at H
   refine vn tbok 1 [] [(5, .int .i64 x44)] [] E (by kernel_rfl) (by kernel_rfl) trivial ?_
   clear E; intro a E
   refine wpList_nil ?_
   refine th_n ?_
   refine wp_ret ?_
   refine th_ret ?_
   replace H := H.nilrow (cInt .i64) 3; try dsimp only [setn, addE, goneL] at H
   replace H := H.nilrow (cInt .u8) 27; try dsimp only [setn, addE, goneL] at H
   replace H := H.nilrow (cSl (cInt .u8)) 35; try dsimp only [setn, addE, goneL] at H
   obtain rfl := Option.some.inj hP
   refine retV E [.cell 4 38, .tmp 5] [.agg #[.bool false, .slice none 0 0, .slice none 0 0, .slice none 0 0], .int .i64 x44] rfl ⟨⟨_, rfl, run_loadBx tbok (H.box 5 rfl) rfl rfl rfl 0 rfl rfl⟩, rfl, trivial⟩ (.inl rfl) ?_
   exact ⟨_, rfl, none, 0, none, 0, none, 0, rfl, H.sel [6, 7, 8] rfl⟩
  replace E := E_; clear E_
  have h52 : (x44 : Int) = 0 := bne_eq_false_iff_eq.1 hb_
  clear hb_; replace hP := ite_t h52 hP
  exact none_inv hP
  -- STOPPED: nilCheck of nilptr
 subst hr_; have hP := (elim_r hP)
 obtain ⟨x45, hxx_⟩ : ∃ y_, y_ = x_ := ⟨_, rfl⟩; subst hxx_
 replace E := E_ _ rfl; clear E_
 obtain ⟨H_, hc40⟩ := hb32 _ _ HR43
 replace H := H_; clear H_; try dsimp only [setn, addE, goneL] at H
 refine vn tbok 5 [] [(6, .pointer (some ⟨b42, 0, none⟩)), (7, .int .i64 x45.2)] [] E (by kernel_rfl) (by kernel_rfl) trivial ?_
 clear E; intro a E
 refine wpList_nil ?_
 refine th_n ?_
 refine wp_seq ?_
 refine wp_seq ?_
 refine wp_region_lit ?_
 refine vn tbok 2 [] [(18, .bool ((x45.2 : Int) != 0))] [] E (by kernel_rfl) (by kernel_rfl) trivial ?_
 clear E; intro a E
 refine wpList_nil ?_
 refine th_n ?_
 refine E.cases (t := 18) rfl (fun hb_ E_ => ?_) (fun hb_ E_ => ?_)
 ·
  replace E := E_; clear E_
  have h59 : ¬ ((x45.2 : Int) = 0) := bne_iff_ne.1 hb_
  clear hb_; replace hP := ite_f h59 hP
  refine c_true E rfl ?_
  refine wp_seq ?_
  refine wp_region_lit ?_
  refine e_build (ps := []) (v := .agg #[.bool false, .slice none 0 0, .slice none 0 0, .slice none 0 0]) E rfl rfl tbok rfl (by kernel_rfl) rfl ?_
  clear E; intro a E
  refine vn tbok 1 [] [(20, .int .i64 x45.2)] [] E (by kernel_rfl) (by kernel_rfl) trivial ?_
  clear E; intro a E
  refine h_store (g := g23) (off := 0) H 5 rfl E rfl rfl rfl rfl tbok rfl rfl rfl rfl rfl ?_
  clear E; intro w60 a hc61 H_ E
  replace H := H_; clear H_; try dsimp only [setn, addE, goneL] at H
  refine vn tbok 1 [] [(5, .int .i64 x45.2)] [] E (by kernel_rfl) (by kernel_rfl) trivial ?_
  clear E; intro a E
  refine wpList_nil ?_
  refine th_n ?_
  refine wp_ret ?_
  refine th_ret ?_
  replace H := H.nilrow (cInt .i64) 3; try dsimp only [setn, addE, goneL] at H
  replace H := H.nilrow (cInt .u8) 27; try dsimp only [setn, addE, goneL] at H
  replace H := H.nilrow (cSl (cInt .u8)) 35; try dsimp only [setn, addE, goneL] at H
  obtain rfl := Option.some.inj hP
  refine retV E [.cell 4 38, .tmp 5] [.agg #[.bool false, .slice none 0 0, .slice none 0 0, .slice none 0 0], .int .i64 x45.2] rfl ⟨⟨_, rfl, run_loadBx tbok (H.box 5 rfl) rfl rfl rfl 0 rfl rfl⟩, rfl, trivial⟩ (.inl rfl) ?_
  exact ⟨_, rfl, none, 0, none, 0, none, 0, rfl, H.sel [7, 8, 9] rfl⟩
 replace E := E_; clear E_
 have h65 : (x45.2 : Int) = 0 := bne_eq_false_iff_eq.1 hb_
 clear hb_; replace hP := ite_t h65 hP
 refine c_false E rfl ?_
 refine wp_skip ?_
 refine th_n ?_
 refine wp_seq ?_
 obtain ⟨r66, h67, hP⟩ := bind_inv hP
 obtain ⟨g78, hP⟩ := ask_inv hP
 refine meet_cut (fun a w105 => ∃ (g97 : Nat) (A99 : Option Addr) (c100 : Nat) (A102 : Option Addr) (A104 : Option Addr), Fr a 72 [(4, .pointer (some ⟨g23, 0, none⟩)), (6, .pointer (some ⟨b42, 0, none⟩)), (8, .pointer (some ⟨g97, 0, none⟩))] ∧ Hp S Fa w0 w105 [.box g23 38 [.bool false, .slice none 0 0, .slice none 0 0, .slice none 0 0], .ro false cS87 (some ⟨b42, 0, none⟩) ([x45.1]), .box g97 38 [.bool false, .slice A99 (List.length r66) c100, .slice A102 (List.length (List.replicate (Int.toNat (((List.length aAccept) : Nat) : Int)) (0 : Int))) (Int.toNat (((List.length aAccept) : Nat) : Int)), .slice A104 (List.length (List.replicate (Int.toNat (((List.length aAccept) : Nat) : Int)) ([] : List Int))) (Int.toNat (((List.length aAccept) : Nat) : Int))], .row true (cInt .i64) 3 A99 c100 r66, .rowx true (cInt .u8) 27 A102 (Int.toNat (((List.length aAccept) : Nat) : Int)) (List.replicate (Int.toNat (((List.length aAccept) : Nat) : Int)) (0 : Int)) (List.replicate (Int.toNat (((List.length aAccept) : Nat) : Int) - Int.toNat (((List.length aAccept) : Nat) : Int)) (0 : Int)), .rowx true (cSl (cInt .u8)) 35 A104 (Int.toNat (((List.length aAccept) : Nat) : Int)) (List.replicate (Int.toNat (((List.length aAccept) : Nat) : Int)) ([] : List Int)) (List.replicate (Int.toNat (((List.length aAccept) : Nat) : Int) - Int.toNat (((List.length aAccept) : Nat) : Int)) ([] : List Int))]) ?_ ?_
 ·
  have HR109 := H
  refine dr_start (S := fun w_ => Chg (atL []) w37 w_) (by kernel_rfl) ?_
  intro w106 hc107
  have HS108 : Chg (atL []) w37 w106 := hc107.mono (fun _ _ h_ => h_.elim)
  replace H := H.ext hc107
  refine dn tbok (by kernel_rfl) [0, 2, 3, 4, 6, 7, 8] [.slice A1 (List.length aAccept) c2, .slice A1 (List.length aAccept) c2] [(21, .pointer (some ⟨b42, 0, none⟩)), (25, .int .i64 (((List.length aAccept) : Nat) : Int)), (29, .int .i64 (((List.length aAccept) : Nat) : Int))] (fun w_ => [World.cell? w_ ⟨g13, 1, none⟩ = some (.slice A1 (List.length aAccept) c2), World.cell? w_ ⟨g13, 1, none⟩ = some (.slice A1 (List.length aAccept) c2)]) 6 E (fun _ _ => by kernel_rfl) (by kernel_rfl) (fun w_ hS_ => ⟨(HR109.boxk [] hS_ 3 rfl rfl).cell (j := 1) rfl, (HR109.boxk [] hS_ 3 rfl rfl).cell (j := 1) rfl⟩) (by kernel_rfl) HS108 ?_
  clear E; intro a E
  refine wpAnyH_all (rs := [1, 5, 9, 11]) (by kernel_rfl) (by simp) ?_
  refine all4 ?_ ?_ ?_ ?_
  ·
   refine wpOp_of_list rfl ?_
   obtain ⟨Fa110, Hc111, hb112⟩ := H.call [] [(6, false)] rfl rfl trivial
   refine e_call E rfl rfl Try.func32 rfl rfl rfl (moore_game_ranks_calls b42 0 x45.1  Hc111 h67) ?_
   rintro v113 w114 a ⟨A117, c118, rfl, HR115⟩ E_
   replace E := E_ _ rfl; clear E_
   obtain ⟨H_, hc116⟩ := hb112 _ _ HR115 rfl
   replace HS108 := HS108.ext (callS_ext hc116)
   replace H := H_; clear H_; try dsimp only [setn, addE, goneL] at H
   refine wpList_nil ?_
   refine th_n ⟨HS108, ?_⟩
   refine wpAnyH_all (rs := [5, 9, 11]) (by kernel_rfl) (by simp) ?_
   refine all3 ?_ ?_ ?_
   ·
    refine wpOp_of_list rfl ?_
    refine h_make (cInt .u8) (0 : Int) H E rfl rfl tbok rfl rfl rfl rfl ⟨g78.1, Int.le_refl _, g78.2⟩ rfl rfl rfl (fun _ _ => rfl) ?_
    intro w121 g120 a hc122 hg124 H_ E_
    replace E := E_ _ rfl; clear E_
    have hin125 : ∀ q_, q_ < w37.heap.size → At (some ⟨g120, 0, none⟩) q_ → (atL []) q_ := fun q_ h1_ h2_ => by have hs_ := HS108.size; have h4_ : q_ = g120 := At.of_g h2_; exfalso; omega
    replace HS108 := HS108.ext hc122
    replace H := H_; clear H_; try dsimp only [setn, addE, goneL] at H
    refine wpList_nil ?_
    refine th_n ⟨HS108, ?_⟩
    refine wpAnyH_all (rs := [9, 11]) (by kernel_rfl) (by simp) ?_
    refine all2 ?_ ?_
    ·
     refine wpOp_of_list rfl ?_
     refine h_make (cSl (cInt .u8)) ([] : List Int) H E rfl rfl tbok rfl rfl rfl rfl ⟨g78.1, Int.le_refl _, g78.2⟩ rfl rfl rfl (fun _ _ => kSl_nil) ?_
     intro w127 g126 a hc128 hg130 H_ E_
     replace E := E_ _ rfl; clear E_
     have hin131 : ∀ q_, q_ < w37.heap.size → At (some ⟨g126, 0, none⟩) q_ → (atL []) q_ := fun q_ h1_ h2_ => by have hs_ := HS108.size; have h4_ : q_ = g126 := At.of_g h2_; exfalso; omega
     replace HS108 := HS108.ext hc128
     replace H := H_; clear H_; try dsimp only [setn, addE, goneL] at H
     refine wpList_nil ?_
     refine th_n ⟨HS108, ?_⟩
     refine wpAnyH_all (rs := [10, 11]) (by kernel_rfl) (by simp) ?_
     refine all2 ?_ ?_
     ·
      refine wpOp_of_list rfl ?_
      refine e_build (ps := [(1, .slice A117 (List.length r66) c118), (2, .slice (some ⟨g120, 0, none⟩) (List.length (List.replicate (Int.toNat (((List.length aAccept) : Nat) : Int)) (0 : Int))) (Int.toNat (((List.length aAccept) : Nat) : Int))), (3, .slice (some ⟨g126, 0, none⟩) (List.length (List.replicate (Int.toNat (((List.length aAccept) : Nat) : Int)) ([] : List Int))) (Int.toNat (((List.length aAccept) : Nat) : Int)))]) (v := .agg #[.bool false, .slice A117 (List.length r66) c118, .slice (some ⟨g120, 0, none⟩) (List.length (List.replicate (Int.toNat (((List.length aAccept) : Nat) : Int)) (0 : Int))) (Int.toNat (((List.length aAccept) : Nat) : Int)), .slice (some ⟨g126, 0, none⟩) (List.length (List.replicate (Int.toNat (((List.length aAccept) : Nat) : Int)) ([] : List Int))) (Int.toNat (((List.length aAccept) : Nat) : Int))]) E rfl rfl tbok rfl (by kernel_rfl) rfl ?_
      clear E; intro a E
      refine wpList_nil ?_
      refine th_n ⟨HS108, ?_⟩
      refine wpAnyH_all (rs := [11]) (by kernel_rfl) (by simp) ?_
      refine all1 ?_
      refine wpOp_of_list rfl ?_
      refine h_alloc H E rfl rfl tbok rfl ?_
      intro w133 g132 a hc134 hg136 H_ E_
      replace E := E_ _ rfl; clear E_
      have hin137 : ∀ q_, q_ < w37.heap.size → q_ = g132 → (atL []) q_ := fun q_ h1_ h2_ => by have hs_ := HS108.size; have h4_ : q_ = g132 := h2_; exfalso; omega
      replace HS108 := HS108.ext hc134
      replace H := H_; clear H_; try dsimp only [setn, addE, goneL] at H
      refine wpList_nil ?_
      refine th_n ⟨HS108, ?_⟩
      refine wpAnyH_all (rs := [12]) (by kernel_rfl) (by simp) ?_
      refine all1 ?_
      refine wpOp_of_list rfl ?_
      refine h_store (g := g132) (off := 0) H 10 rfl E rfl rfl rfl rfl tbok rfl rfl rfl rfl rfl ?_
      clear E; intro w138 a hc139 H_ E
      replace HS108 := HS108.trans hc139 (fun k_ hk_ h_ => hin137 k_ hk_ h_)
      replace H := H_; clear H_; try dsimp only [setn, addE, goneL] at H
      refine wpList_nil ?_
      refine th_n ⟨HS108, ?_⟩
      refine dr_done (by kernel_rfl) ?_
      exact .inl ⟨rfl, g132, A117, c118, (some ⟨g120, 0, none⟩), (some ⟨g126, 0, none⟩), E.pick _ ⟨rfl, rfl, rfl, trivial⟩, H.sel [5, 6, 10, 7, 8, 9] rfl⟩
     refine wpOp_of_list rfl ?_
     refine h_alloc H E rfl rfl tbok rfl ?_
     intro w141 g140 a hc142 hg144 H_ E_
     replace E := E_ _ rfl; clear E_
     have hin145 : ∀ q_, q_ < w37.heap.size → q_ = g140 → (atL []) q_ := fun q_ h1_ h2_ => by have hs_ := HS108.size; have h4_ : q_ = g140 := h2_; exfalso; omega
     replace HS108 := HS108.ext hc142
     replace H := H_; clear H_; try dsimp only [setn, addE, goneL] at H
     refine wpList_nil ?_
     refine th_n ⟨HS108, ?_⟩
     refine wpAnyH_all (rs := [10]) (by kernel_rfl) (by simp) ?_
     refine all1 ?_
     refine wpOp_of_list rfl ?_
     refine e_build (ps := [(1, .slice A117 (List.length r66) c118), (2, .slice (some ⟨g120, 0, none⟩) (List.length (List.replicate (Int.toNat (((List.length aAccept) : Nat) : Int)) (0 : Int))) (Int.toNat (((List.length aAccept) : Nat) : Int))), (3, .slice (some ⟨g126, 0, none⟩) (List.length (List.replicate (Int.toNat (((List.length aAccept) : Nat) : Int)) ([] : List Int))) (Int.toNat (((List.length aAccept) : Nat) : Int)))]) (v := .agg #[.bool false, .slice A117 (List.length r66) c118, .slice (some ⟨g120, 0, none⟩) (List.length (List.replicate (Int.toNat (((List.length aAccept) : Nat) : Int)) (0 : Int))) (Int.toNat (((List.length aAccept) : Nat) : Int)), .slice (some ⟨g126, 0, none⟩) (List.length (List.replicate (Int.toNat (((List.length aAccept) : Nat) : Int)) ([] : List Int))) (Int.toNat (((List.length aAccept) : Nat) : Int))]) E rfl rfl tbok rfl (by kernel_rfl) rfl ?_
     clear E; intro a E
     refine wpList_nil ?_
     refine th_n ⟨HS108, ?_⟩
     refine wpAnyH_all (rs := [12]) (by kernel_rfl) (by simp) ?_
     refine all1 ?_
     refine wpOp_of_list rfl ?_
     refine h_store (g := g140) (off := 0) H 10 rfl E rfl rfl rfl rfl tbok rfl rfl rfl rfl rfl ?_
     clear E; intro w146 a hc147 H_ E
     replace HS108 := HS108.trans hc147 (fun k_ hk_ h_ => hin145 k_ hk_ h_)
     replace H := H_; clear H_; try dsimp only [setn, addE, goneL] at H
     refine wpList_nil ?_
     refine th_n ⟨HS108, ?_⟩
     refine dr_done (by kernel_rfl) ?_
     exact .inl ⟨rfl, g140, A117, c118, (some ⟨g120, 0, none⟩), (some ⟨g126, 0, none⟩), E.pick _ ⟨rfl, rfl, rfl, trivial⟩, H.sel [5, 6, 10, 7, 8, 9] rfl⟩
    refine wpOp_of_list rfl ?_
    refine h_alloc H E rfl rfl tbok rfl ?_
    intro w149 g148 a hc150 hg152 H_ E_
    replace E := E_ _ rfl; clear E_
    have hin153 : ∀ q_, q_ < w37.heap.size → q_ = g148 → (atL []) q_ := fun q_ h1_ h2_ => by have hs_ := HS108.size; have h4_ : q_ = g148 := h2_; exfalso; omega
    replace HS108 := HS108.ext hc150
    replace H := H_; clear H_; try dsimp only [setn, addE, goneL] at H
    refine wpList_nil ?_
    refine th_n ⟨HS108, ?_⟩
    refine wpAnyH_all (rs := [9]) (by kernel_rfl) (by simp) ?_
    refine all1 ?_
    refine wpOp_of_list rfl ?_
    refine h_make (cSl (cInt .u8)) ([] : List Int) H E rfl rfl tbok rfl rfl rfl rfl ⟨g78.1, Int.le_refl _, g78.2⟩ rfl rfl rfl (fun _ _ => kSl_nil) ?_
    intro w155 g154 a hc156 hg158 H_ E_
    replace E := E_ _ rfl; clear E_
    have hin159 : ∀ q_, q_ < w37.heap.size → At (some ⟨g154, 0, none⟩) q_ → (atL []) q_ := fun q_ h1_ h2_ => by have hs_ := HS108.size; have h4_ : q_ = g154 := At.of_g h2_; exfalso; omega
    replace HS108 := HS108.ext hc156
    replace H := H_; clear H_; try dsimp only [setn, addE, goneL] at H
    refine wpList_nil ?_
    refine th_n ⟨HS108, ?_⟩
    refine wpAnyH_all (rs := [10]) (by kernel_rfl) (by simp) ?_
    refine all1 ?_
    refine wpOp_of_list rfl ?_
    refine e_build (ps := [(1, .slice A117 (List.length r66) c118), (2, .slice (some ⟨g120, 0, none⟩) (List.length (List.replicate (Int.toNat (((List.length aAccept) : Nat) : Int)) (0 : Int))) (Int.toNat (((List.length aAccept) : Nat) : Int))), (3, .slice (some ⟨g154, 0, none⟩) (List.length (List.replicate (Int.toNat (((List.length aAccept) : Nat) : Int)) ([] : List Int))) (Int.toNat (((List.length aAccept) : Nat) : Int)))]) (v := .agg #[.bool false, .slice A117 (List.length r66) c118, .slice (some ⟨g120, 0, none⟩) (List.length (List.replicate (Int.toNat (((List.length aAccept) : Nat) : Int)) (0 : Int))) (Int.toNat (((List.length aAccept) : Nat) : Int)), .slice (some ⟨g154, 0, none⟩) (List.length (List.replicate (Int.toNat (((List.length aAccept) : Nat) : Int)) ([] : List Int))) (Int.toNat (((List.length aAccept) : Nat) : Int))]) E rfl rfl tbok rfl (by kernel_rfl) rfl ?_
    clear E; intro a E
    refine wpList_nil ?_
    refine th_n ⟨HS108, ?_⟩
    refine wpAnyH_all (rs := [12]) (by kernel_rfl) (by simp) ?_
    refine all1 ?_
    refine wpOp_of_list rfl ?_
    refine h_store (g := g148) (off := 0) H 9 rfl E rfl rfl rfl rfl tbok rfl rfl rfl rfl rfl ?_
    clear E; intro w160 a hc161 H_ E
    replace HS108 := HS108.trans hc161 (fun k_ hk_ h_ => hin153 k_ hk_ h_)
    replace H := H_; clear H_; try dsimp only [setn, addE, goneL] at H
    refine wpList_nil ?_
    refine th_n ⟨HS108, ?_⟩
    refine dr_done (by kernel_rfl) ?_
    exact .inl ⟨rfl, g148, A117, c118, (some ⟨g120, 0, none⟩), (some ⟨g154, 0, none⟩), E.pick _ ⟨rfl, rfl, rfl, trivial⟩, H.sel [5, 6, 9, 7, 8, 10] rfl⟩
   ·
    refine wpOp_of_list rfl ?_
    refine h_make (cSl (cInt .u8)) ([] : List Int) H E rfl rfl tbok rfl rfl rfl rfl ⟨g78.1, Int.le_refl _, g78.2⟩ rfl rfl rfl (fun _ _ => kSl_nil) ?_
    intro w163 g162 a hc164 hg166 H_ E_
    replace E := E_ _ rfl; clear E_
    have hin167 : ∀ q_, q_ < w37.heap.size → At (some ⟨g162, 0, none⟩) q_ → (atL []) q_ := fun q_ h1_ h2_ => by have hs_ := HS108.size; have h4_ : q_ = g162 := At.of_g h2_; exfalso; omega
    replace HS108 := HS108.ext hc164
    replace H := H_; clear H_; try dsimp only [setn, addE, goneL] at H
    refine wpList_nil ?_
    refine th_n ⟨HS108, ?_⟩
    refine wpAnyH_all (rs := [5, 11]) (by kernel_rfl) (by simp) ?_
    refine all2 ?_ ?_
    ·
     refine wpOp_of_list rfl ?_
     refine h_make (cInt .u8) (0 : Int) H E rfl rfl tbok rfl rfl rfl rfl ⟨g78.1, Int.le_refl _, g78.2⟩ rfl rfl rfl (fun _ _ => rfl) ?_
     intro w169 g168 a hc170 hg172 H_ E_
     replace E := E_ _ rfl; clear E_
     have hin173 : ∀ q_, q_ < w37.heap.size → At (some ⟨g168, 0, none⟩) q_ → (atL []) q_ := fun q_ h1_ h2_ => by have hs_ := HS108.size; have h4_ : q_ = g168 := At.of_g h2_; exfalso; omega
     replace HS108 := HS108.ext hc170
     replace H := H_; clear H_; try dsimp only [setn, addE, goneL] at H
     refine wpList_nil ?_
     refine th_n ⟨HS108, ?_⟩
     refine wpAnyH_all (rs := [10, 11]) (by kernel_rfl) (by simp) ?_
     refine all2 ?_ ?_
     ·
      refine wpOp_of_list rfl ?_
      refine e_build (ps := [(1, .slice A117 (List.length r66) c118), (2, .slice (some ⟨g168, 0, none⟩) (List.length (List.replicate (Int.toNat (((List.length aAccept) : Nat) : Int)) (0 : Int))) (Int.toNat (((List.length aAccept) : Nat) : Int))), (3, .slice (some ⟨g162, 0, none⟩) (List.length (List.replicate (Int.toNat (((List.length aAccept) : Nat) : Int)) ([] : List Int))) (Int.toNat (((List.length aAccept) : Nat) : Int)))]) (v := .agg #[.bool false, .slice A117 (List.length r66) c118, .slice (some ⟨g168, 0, none⟩) (List.length (List.replicate (Int.toNat (((List.length aAccept) : Nat) : Int)) (0 : Int))) (Int.toNat (((List.length aAccept) : Nat) : Int)), .slice (some ⟨g162, 0, none⟩) (List.length (List.replicate (Int.toNat (((List.length aAccept) : Nat) : Int)) ([] : List Int))) (Int.toNat (((List.length aAccept) : Nat) : Int))]) E rfl rfl tbok rfl (by kernel_rfl) rfl ?_
      clear E; intro a E
      refine wpList_nil ?_
      refine th_n ⟨HS108, ?_⟩
      refine wpAnyH_all (rs := [11]) (by kernel_rfl) (by simp) ?_
      refine all1 ?_
      refine wpOp_of_list rfl ?_
      refine h_alloc H E rfl rfl tbok rfl ?_
      intro w175 g174 a hc176 hg178 H_ E_
      replace E := E_ _ rfl; clear E_
      have hin179 : ∀ q_, q_ < w37.heap.size → q_ = g174 → (atL []) q_ := fun q_ h1_ h2_ => by have hs_ := HS108.size; have h4_ : q_ = g174 := h2_; exfalso; omega
      replace HS108 := HS108.ext hc176
      replace H := H_; clear H_; try dsimp only [setn, addE, goneL] at H
      refine wpList_nil ?_
      refine th_n ⟨HS108, ?_⟩
      refine wpAnyH_all (rs := [12]) (by kernel_rfl) (by simp) ?_
      refine all1 ?_
      refine wpOp_of_list rfl ?_
      refine h_store (g := g174) (off := 0) H 10 rfl E rfl rfl rfl rfl tbok rfl rfl rfl rfl rfl ?_
      clear E; intro w180 a hc181 H_ E
      replace HS108 := HS108.trans hc181 (fun k_ hk_ h_ => hin179 k_ hk_ h_)
      replace H := H_; clear H_; try dsimp only [setn, addE, goneL] at H
      refine wpList_nil ?_
      refine th_n ⟨HS108, ?_⟩
      refine dr_done (by kernel_rfl) ?_
      exact .inl ⟨rfl, g174, A117, c118, (some ⟨g168, 0, none⟩), (some ⟨g162, 0, none⟩), E.pick _ ⟨rfl, rfl, rfl, trivial⟩, H.sel [5, 6, 10, 7, 9, 8] rfl⟩
     refine wpOp_of_list rfl ?_
     refine h_alloc H E rfl rfl tbok rfl ?_
     intro w183 g182 a hc184 hg186 H_ E_
     replace E := E_ _ rfl; clear E_
     have hin187 : ∀ q_, q_ < w37.heap.size → q_ = g182 → (atL []) q_ := fun q_ h1_ h2_ => by have hs_ := HS108.size; have h4_ : q_ = g182 := h2_; exfalso; omega
     replace HS108 := HS108.ext hc184
     replace H := H_; clear H_; try dsimp only [setn, addE, goneL] at H
     refine wpList_nil ?_
     refine th_n ⟨HS108, ?_⟩
     refine wpAnyH_all (rs := [10]) (by kernel_rfl) (by simp) ?_
     refine all1 ?_
     refine wpOp_of_list rfl ?_
     refine e_build (ps := [(1, .slice A117 (List.length r66) c118), (2, .slice (some ⟨g168, 0, none⟩) (List.length (List.replicate (Int.toNat (((List.length aAccept) : Nat) : Int)) (0 : Int))) (Int.toNat (((List.length aAccept) : Nat) : Int))), (3, .slice (some ⟨g162, 0, none⟩) (List.length (List.replicate (Int.toNat (((List.length aAccept) : Nat) : Int)) ([] : List Int))) (Int.toNat (((List.length aAccept) : Nat) : Int)))]) (v := .agg #[.bool false, .slice A117 (List.length r66) c118, .slice (some ⟨g168, 0, none⟩) (List.length (List.replicate (Int.toNat (((List.length aAccept) : Nat) : Int)) (0 : Int))) (Int.toNat (((List.length aAccept) : Nat) : Int)), .slice (some ⟨g162, 0, none⟩) (List.length (List.replicate (Int.toNat (((List.length aAccept) : Nat) : Int)) ([] : List Int))) (Int.toNat (((List.length aAccept) : Nat) : Int))]) E rfl rfl tbok rfl (by kernel_rfl) rfl ?_
     clear E; intro a E
     refine wpList_nil ?_
     refine th_n ⟨HS108, ?_⟩
     refine wpAnyH_all (rs := [12]) (by kernel_rfl) (by simp) ?_
     refine all1 ?_
     refine wpOp_of_list rfl ?_
     refine h_store (g := g182) (off := 0) H 10 rfl E rfl rfl rfl rfl tbok rfl rfl rfl rfl rfl ?_
     clear E; intro w188 a hc189 H_ E
     replace HS108 := HS108.trans hc189 (fun k_ hk_ h_ => hin187 k_ hk_ h_)
     replace H := H_; clear H_; try dsimp only [setn, addE, goneL] at H
     refine wpList_nil ?_
     refine th_n ⟨HS108, ?_⟩
     refine dr_done (by kernel_rfl) ?_
     exact .inl ⟨rfl, g182, A117, c118, (some ⟨g168, 0, none⟩), (some ⟨g162, 0, none⟩), E.pick _ ⟨rfl, rfl, rfl, trivial⟩, H.sel [5, 6, 10, 7, 9, 8] rfl⟩
    refine wpOp_of_list rfl ?_
    refine h_alloc H E rfl rfl tbok rfl ?_
    intro w191 g190 a hc192 hg194 H_ E_
    replace E := E_ _ rfl; clear E_
    have hin195 : ∀ q_, q_ < w37.heap.size → q_ = g190 → (atL []) q_ := fun q_ h1_ h2_ => by have hs_ := HS108.size; have h4_ : q_ = g190 := h2_; exfalso; omega
    replace HS108 := HS108.ext hc192
    replace H := H_; clear H_; try dsimp only [setn, addE, goneL] at H
    refine wpList_nil ?_
    refine th_n ⟨HS108, ?_⟩
    refine wpAnyH_all (rs := [5]) (by kernel_rfl) (by simp) ?_
    refine all1 ?_
    refine wpOp_of_list rfl ?_
    refine h_make (cInt .u8) (0 : Int) H E rfl rfl tbok rfl rfl rfl rfl ⟨g78.1, Int.le_refl _, g78.2⟩ rfl rfl rfl (fun _ _ => rfl) ?_
    intro w197 g196 a hc198 hg200 H_ E_
    replace E := E_ _ rfl; clear E_
    have hin201 : ∀ q_, q_ < w37.heap.size → At (some ⟨g196, 0, none⟩) q_ → (atL []) q_ := fun q_ h1_ h2_ => by have hs_ := HS108.size; have h4_ : q_ = g196 := At.of_g h2_; exfalso; omega
    replace HS108 := HS108.ext hc198
    replace H := H_; clear H_; try dsimp only [setn, addE, goneL] at H
    refine wpList_nil ?_
    refine th_n ⟨HS108, ?_⟩
    refine wpAnyH_all (rs := [10]) (by kernel_rfl) (by simp) ?_
    refine all1 ?_
    refine wpOp_of_list rfl ?_
    refine e_build (ps := [(1, .slice A117 (List.length r66) c118), (2, .slice (some ⟨g196, 0, none⟩) (List.length (List.replicate (Int.toNat (((List.length aAccept) : Nat) : Int)) (0 : Int))) (Int.toNat (((List.length aAccept) : Nat) : Int))), (3, .slice (some ⟨g162, 0, none⟩) (List.length (List.replicate (Int.toNat (((List.length aAccept) : Nat) : Int)) ([] : List Int))) (Int.toNat (((List.length aAccept) : Nat) : Int)))]) (v := .agg #[.bool false, .slice A117 (List.length r66) c118, .slice (some ⟨g196, 0, none⟩) (List.length (List.replicate (Int.toNat (((List.length aAccept) : Nat) : Int)) (0 : Int))) (Int.toNat (((List.length aAccept) : Nat) : Int)), .slice (some ⟨g162, 0, none⟩) (List.length (List.replicate (Int.toNat (((List.length aAccept) : Nat) : Int)) ([] : List Int))) (Int.toNat (((List.length aAccept) : Nat) : Int))]) E rfl rfl tbok rfl (by kernel_rfl) rfl ?_
    clear E; intro a E
    refine wpList_nil ?_
    refine th_n ⟨HS108, ?_⟩
    refine wpAnyH_all (rs := [12]) (by kernel_rfl) (by simp) ?_
    refine all1 ?_
    refine wpOp_of_list rfl ?_
    refine h_store (g := g190) (off := 0) H 9 rfl E rfl rfl rfl rfl tbok rfl rfl rfl rfl rfl ?_
    clear E; intro w202 a hc203 H_ E
    replace HS108 := HS108.trans hc203 (fun k_ hk_ h_ => hin195 k_ hk_ h_)
    replace H := H_; clear H_; try dsimp only [setn, addE, goneL] at H
    refine wpList_nil ?_
    refine th_n ⟨HS108, ?_⟩
    refine dr_done (by kernel_rfl) ?_
    exact .inl ⟨rfl, g190, A117, c118, (some ⟨g196, 0, none⟩), (some ⟨g162, 0, none⟩), E.pick _ ⟨rfl, rfl, rfl, trivial⟩, H.sel [5, 6, 9, 7, 10, 8] rfl⟩
   refine wpOp_of_list rfl ?_
   refine h_alloc H E rfl rfl tbok rfl ?_
   intro w205 g204 a hc206 hg208 H_ E_
   replace E := E_ _ rfl; clear E_
   have hin209 : ∀ q_, q_ < w37.heap.size → q_ = g204 → (atL []) q_ := fun q_ h1_ h2_ => by have hs_ := HS108.size; have h4_ : q_ = g204 := h2_; exfalso; omega
   replace HS108 := HS108.ext hc206
   replace H := H_; clear H_; try dsimp only [setn, addE, goneL] at H
   refine wpList_nil ?_
   refine th_n ⟨HS108, ?_⟩
   refine wpAnyH_all (rs := [5, 9]) (by kernel_rfl) (by simp) ?_
   refine all2 ?_ ?_
   ·
    refine wpOp_of_list rfl ?_
    refine h_make (cInt .u8) (0 : Int) H E rfl rfl tbok rfl rfl rfl rfl ⟨g78.1, Int.le_refl _, g78.2⟩ rfl rfl rfl (fun _ _ => rfl) ?_
    intro w211 g210 a hc212 hg214 H_ E_
    replace E := E_ _ rfl; clear E_
    have hin215 : ∀ q_, q_ < w37.heap.size → At (some ⟨g210, 0, none⟩) q_ → (atL []) q_ := fun q_ h1_ h2_ => by have hs_ := HS108.size; have h4_ : q_ = g210 := At.of_g h2_; exfalso; omega
    replace HS108 := HS108.ext hc212
    replace H := H_; clear H_; try dsimp only [setn, addE, goneL] at H
    refine wpList_nil ?_
    refine th_n ⟨HS108, ?_⟩
    refine wpAnyH_all (rs := [9]) (by kernel_rfl) (by simp) ?_
    refine all1 ?_
    refine wpOp_of_list rfl ?_
    refine h_make (cSl (cInt .u8)) ([] : List Int) H E rfl rfl tbok rfl rfl rfl rfl ⟨g78.1, Int.le_refl _, g78.2⟩ rfl rfl rfl (fun _ _ => kSl_nil) ?_
    intro w217 g216 a hc218 hg220 H_ E_
    replace E := E_ _ rfl; clear E_
    have hin221 : ∀ q_, q_ < w37.heap.size → At (some ⟨g216, 0, none⟩) q_ → (atL []) q_ := fun q_ h1_ h2_ => by have hs_ := HS108.size; have h4_ : q_ = g216 := At.of_g h2_; exfalso; omega
    replace HS108 := HS108.ext hc218
    replace H := H_; clear H_; try dsimp only [setn, addE, goneL] at H
    refine wpList_nil ?_
    refine th_n ⟨HS108, ?_⟩
    refine wpAnyH_all (rs := [10]) (by kernel_rfl) (by simp) ?_
    refine all1 ?_
    refine wpOp_of_list rfl ?_
    refine e_build (ps := [(1, .slice A117 (List.length r66) c118), (2, .slice (some ⟨g210, 0, none⟩) (List.length (List.replicate (Int.toNat (((List.length aAccept) : Nat) : Int)) (0 : Int))) (Int.toNat (((List.length aAccept) : Nat) : Int))), (3, .slice (some ⟨g216, 0, none⟩) (List.length (List.replicate (Int.toNat (((List.length aAccept) : Nat) : Int)) ([] : List Int))) (Int.toNat (((List.length aAccept) : Nat) : Int)))]) (v := .agg #[.bool false, .slice A117 (List.length r66) c118, .slice (some ⟨g210, 0, none⟩) (List.length (List.replicate (Int.toNat (((List.length aAccept) : Nat) : Int)) (0 : Int))) (Int.toNat (((List.length aAccept) : Nat) : Int)), .slice (some ⟨g216, 0, none⟩) (List.length (List.replicate (Int.toNat (((List.length aAccept) : Nat) : Int)) ([] : List Int))) (Int.toNat (((List.length aAccept) : Nat) : Int))]) E rfl rfl tbok rfl (by kernel_rfl) rfl ?_
    clear E; intro a E
    refine wpList_nil ?_
    refine th_n ⟨HS108, ?_⟩
    refine wpAnyH_all (rs := [12]) (by kernel_rfl) (by simp) ?_
    refine all1 ?_
    refine wpOp_of_list rfl ?_
    refine h_store (g := g204) (off := 0) H 8 rfl E rfl rfl rfl rfl tbok rfl rfl rfl rfl rfl ?_
    clear E; intro w222 a hc223 H_ E
    replace HS108 := HS108.trans hc223 (fun k_ hk_ h_ => hin209 k_ hk_ h_)
    replace H := H_; clear H_; try dsimp only [setn, addE, goneL] at H
    refine wpList_nil ?_
    refine th_n ⟨HS108, ?_⟩
    refine dr_done (by kernel_rfl) ?_
    exact .inl ⟨rfl, g204, A117, c118, (some ⟨g210, 0, none⟩), (some ⟨g216, 0, none⟩), E.pick _ ⟨rfl, rfl, rfl, trivial⟩, H.sel [5, 6, 8, 7, 9, 10] rfl⟩
   refine wpOp_of_list rfl ?_
   refine h_make (cSl (cInt .u8)) ([] : List Int) H E rfl rfl tbok rfl rfl rfl rfl ⟨g78.1, Int.le_refl _, g78.2⟩ rfl rfl rfl (fun _ _ => kSl_nil) ?_
   intro w225 g224 a hc226 hg228 H_ E_
   replace E := E_ _ rfl; clear E_
   have hin229 : ∀ q_, q_ < w37.heap.size → At (some ⟨g224, 0, none⟩) q_ → (atL []) q_ := fun q_ h1_ h2_ => by have hs_ := HS108.size; have h4_ : q_ = g224 := At.of_g h2_; exfalso; omega
   replace HS108 := HS108.ext hc226
   replace H := H_; clear H_; try dsimp only [setn, addE, goneL] at H
   refine wpList_nil ?_
   refine th_n ⟨HS108, ?_⟩
   refine wpAnyH_all (rs := [5]) (by kernel_rfl) (by simp) ?_
   refine all1 ?_
   refine wpOp_of_list rfl ?_
   refine h_make (cInt .u8) (0 : Int) H E rfl rfl tbok rfl rfl rfl rfl ⟨g78.1, Int.le_refl _, g78.2⟩ rfl rfl rfl (fun _ _ => rfl) ?_
   intro w231 g230 a hc232 hg234 H_ E_
   replace E := E_ _ rfl; clear E_
   have hin235 : ∀ q_, q_ < w37.heap.size → At (some ⟨g230, 0, none⟩) q_ → (atL []) q_ := fun q_ h1_ h2_ => by have hs_ := HS108.size; have h4_ : q_ = g230 := At.of_g h2_; exfalso; omega
   replace HS108 := HS108.ext hc232
   replace H := H_; clear H_; try dsimp only [setn, addE, goneL] at H
   refine wpList_nil ?_
   refine th_n ⟨HS108, ?_⟩
   refine wpAnyH_all (rs := [10]) (by kernel_rfl) (by simp) ?_
   refine all1 ?_
   refine wpOp_of_list rfl ?_
   refine e_build (ps := [(1, .slice A117 (List.length r66) c118), (2, .slice (some ⟨g230, 0, none⟩) (List.length (List.replicate (Int.toNat (((List.length aAccept) : Nat) : Int)) (0 : Int))) (Int.toNat (((List.length aAccept) : Nat) : Int))), (3, .slice (some ⟨g224, 0, none⟩) (List.length (List.replicate (Int.toNat (((List.length aAccept) : Nat) : Int)) ([] : List Int))) (Int.toNat (((List.length aAccept) : Nat) : Int)))]) (v := .agg #[.bool false, .slice A117 (List.length r66) c118, .slice (some ⟨g230, 0, none⟩) (List.length (List.replicate (Int.toNat (((List.length aAccept) : Nat) : Int)) (0 : Int))) (Int.toNat (((List.length aAccept) : Nat) : Int)), .slice (some ⟨g224, 0, none⟩) (List.length (List.replicate (Int.toNat (((List.length aAccept) : Nat) : Int)) ([] : List Int))) (Int.toNat (((List.length aAccept) : Nat) : Int))]) E rfl rfl tbok rfl (by kernel_rfl) rfl ?_
   clear E; intro a E
   refine wpList_nil ?_
   refine th_n ⟨HS108, ?_⟩
   refine wpAnyH_all (rs := [12]) (by kernel_rfl) (by simp) ?_
   refine all1 ?_
   refine wpOp_of_list rfl ?_
   refine h_store (g := g204) (off := 0) H 8 rfl E rfl rfl rfl rfl tbok rfl rfl rfl rfl rfl ?_
   clear E; intro w236 a hc237 H_ E
   replace HS108 := HS108.trans hc237 (fun k_ hk_ h_ => hin209 k_ hk_ h_)
   replace H := H_; clear H_; try dsimp only [setn, addE, goneL] at H
   refine wpList_nil ?_
   refine th_n ⟨HS108, ?_⟩
   refine dr_done (by kernel_rfl) ?_
   exact .inl ⟨rfl, g204, A117, c118, (some ⟨g230, 0, none⟩), (some ⟨g224, 0, none⟩), E.pick _ ⟨rfl, rfl, rfl, trivial⟩, H.sel [5, 6, 8, 7, 10, 9] rfl⟩
  ·
   refine wpOp_of_list rfl ?_
   refine h_make (cInt .u8) (0 : Int) H E rfl rfl tbok rfl rfl rfl rfl ⟨g78.1, Int.le_refl _, g78.2⟩ rfl rfl rfl (fun _ _ => rfl) ?_
   intro w239 g238 a hc240 hg242 H_ E_
   replace E := E_ _ rfl; clear E_
   have hin243 : ∀ q_, q_ < w37.heap.size → At (some ⟨g238, 0, none⟩) q_ → (atL []) q_ := fun q_ h1_ h2_ => by have hs_ := HS108.size; have h4_ : q_ = g238 := At.of_g h2_; exfalso; omega
   replace HS108 := HS108.ext hc240
   replace H := H_; clear H_; try dsimp only [setn, addE, goneL] at H
   refine wpList_nil ?_
   refine th_n ⟨HS108, ?_⟩
   refine wpAnyH_all (rs := [1, 9, 11]) (by kernel_rfl) (by simp) ?_
   refine all3 ?_ ?_ ?_
   ·
    refine wpOp_of_list rfl ?_
    obtain ⟨Fa244, Hc245, hb246⟩ := H.call [] [(6, false)] rfl rfl trivial
    refine e_call E rfl rfl Try.func32 rfl rfl rfl (moore_game_ranks_calls b42 0 x45.1  Hc245 h67) ?_
    rintro v247 w248 a ⟨A251, c252, rfl, HR249⟩ E_
    replace E := E_ _ rfl; clear E_
    obtain ⟨H_, hc250⟩ := hb246 _ _ HR249 rfl
    replace HS108 := HS108.ext (callS_ext hc250)
    replace H := H_; clear H_; try dsimp only [setn, addE, goneL] at H
    refine wpList_nil ?_
    refine th_n ⟨HS108, ?_⟩
    refine wpAnyH_all (rs := [9, 11]) (by kernel_rfl) (by simp) ?_
    refine all2 ?_ ?_
    ·
     refine wpOp_of_list rfl ?_
     refine h_make (cSl (cInt .u8)) ([] : List Int) H E rfl rfl tbok rfl rfl rfl rfl ⟨g78.1, Int.le_refl _, g78.2⟩ rfl rfl rfl (fun _ _ => kSl_nil) ?_
     intro w255 g254 a hc256 hg258 H_ E_
     replace E := E_ _ rfl; clear E_
     have hin259 : ∀ q_, q_ < w37.heap.size → At (some ⟨g254, 0, none⟩) q_ → (atL []) q_ := fun q_ h1_ h2_ => by have hs_ := HS108.size; have h4_ : q_ = g254 := At.of_g h2_; exfalso; omega
     replace HS108 := HS108.ext hc256
     replace H := H_; clear H_; try dsimp only [setn, addE, goneL] at H
     refine wpList_nil ?_
     refine th_n ⟨HS108, ?_⟩
     refine wpAnyH_all (rs := [10, 11]) (by kernel_rfl) (by simp) ?_
     refine all2 ?_ ?_
     ·
      refine wpOp_of_list rfl ?_
      refine e_build (ps := [(1, .slice A251 (List.length r66) c252), (2, .slice (some ⟨g238, 0, none⟩) (List.length (List.replicate (Int.toNat (((List.length aAccept) : Nat) : Int)) (0 : Int))) (Int.toNat (((List.length aAccept) : Nat) : Int))), (3, .slice (some ⟨g254, 0, none⟩) (List.length (List.replicate (Int.toNat (((List.length aAccept) : Nat) : Int)) ([] : List Int))) (Int.toNat (((List.length aAccept) : Nat) : Int)))]) (v := .agg #[.bool false, .slice A251 (List.length r66) c252, .slice (some ⟨g238, 0, none⟩) (List.length (List.replicate (Int.toNat (((List.length aAccept) : Nat) : Int)) (0 : Int))) (Int.toNat (((List.length aAccept) : Nat) : Int)), .slice (some ⟨g254, 0, none⟩) (List.length (List.replicate (Int.toNat (((List.length aAccept) : Nat) : Int)) ([] : List Int))) (Int.toNat (((List.length aAccept) : Nat) : Int))]) E rfl rfl tbok rfl (by kernel_rfl) rfl ?_
      clear E; intro a E
      refine wpList_nil ?_
      refine th_n ⟨HS108, ?_⟩
      refine wpAnyH_all (rs := [11]) (by kernel_rfl) (by simp) ?_
      refine all1 ?_
      refine wpOp_of_list rfl ?_
      refine h_alloc H E rfl rfl tbok rfl ?_
      intro w261 g260 a hc262 hg264 H_ E_
      replace E := E_ _ rfl; clear E_
      have hin265 : ∀ q_, q_ < w37.heap.size → q_ = g260 → (atL []) q_ := fun q_ h1_ h2_ => by have hs_ := HS108.size; have h4_ : q_ = g260 := h2_; exfalso; omega
      replace HS108 := HS108.ext hc262
      replace H := H_; clear H_; try dsimp only [setn, addE, goneL] at H
      refine wpList_nil ?_
      refine th_n ⟨HS108, ?_⟩
      refine wpAnyH_all (rs := [12]) (by kernel_rfl) (by simp) ?_
      refine all1 ?_
      refine wpOp_of_list rfl ?_
      refine h_store (g := g260) (off := 0) H 10 rfl E rfl rfl rfl rfl tbok rfl rfl rfl rfl rfl ?_
      clear E; intro w266 a hc267 H_ E
      replace HS108 := HS108.trans hc267 (fun k_ hk_ h_ => hin265 k_ hk_ h_)
      replace H := H_; clear H_; try dsimp only [setn, addE, goneL] at H
      refine wpList_nil ?_
      refine th_n ⟨HS108, ?_⟩
      refine dr_done (by kernel_rfl) ?_
      exact .inl ⟨rfl, g260, A251, c252, (some ⟨g238, 0, none⟩), (some ⟨g254, 0, none⟩), E.pick _ ⟨rfl, rfl, rfl, trivial⟩, H.sel [5, 6, 10, 8, 7, 9] rfl⟩
     refine wpOp_of_list rfl ?_
     refine h_alloc H E rfl rfl tbok rfl ?_
     intro w269 g268 a hc270 hg272 H_ E_
     replace E := E_ _ rfl; clear E_
     have hin273 : ∀ q_, q_ < w37.heap.size → q_ = g268 → (atL []) q_ := fun q_ h1_ h2_ => by have hs_ := HS108.size; have h4_ : q_ = g268 := h2_; exfalso; omega
     replace HS108 := HS108.ext hc270
     replace H := H_; clear H_; try dsimp only [setn, addE, goneL] at H
     refine wpList_nil ?_
     refine th_n ⟨HS108, ?_⟩
     refine wpAnyH_all (rs := [10]) (by kernel_rfl) (by simp) ?_
     refine all1 ?_
     refine wpOp_of_list rfl ?_
     refine e_build (ps := [(1, .slice A251 (List.length r66) c252), (2, .slice (some ⟨g238, 0, none⟩) (List.length (List.replicate (Int.toNat (((List.length aAccept) : Nat) : Int)) (0 : Int))) (Int.toNat (((List.length aAccept) : Nat) : Int))), (3, .slice (some ⟨g254, 0, none⟩) (List.length (List.replicate (Int.toNat (((List.length aAccept) : Nat) : Int)) ([] : List Int))) (Int.toNat (((List.length aAccept) : Nat) : Int)))]) (v := .agg #[.bool false, .slice A251 (List.length r66) c252, .slice (some ⟨g238, 0, none⟩) (List.length (List.replicate (Int.toNat (((List.length aAccept) : Nat) : Int)) (0 : Int))) (Int.toNat (((List.length aAccept) : Nat) : Int)), .slice (some ⟨g254, 0, none⟩) (List.length (List.replicate (Int.toNat (((List.length aAccept) : Nat) : Int)) ([] : List Int))) (Int.toNat (((List.length aAccept) : Nat) : Int))]) E rfl rfl tbok rfl (by kernel_rfl) rfl ?_
     clear E; intro a E
     refine wpList_nil ?_
     refine th_n ⟨HS108, ?_⟩
     refine wpAnyH_all (rs := [12]) (by kernel_rfl) (by simp) ?_
     refine all1 ?_
     refine wpOp_of_list rfl ?_
     refine h_store (g := g268) (off := 0) H 10 rfl E rfl rfl rfl rfl tbok rfl rfl rfl rfl rfl ?_
     clear E; intro w274 a hc275 H_ E
     replace HS108 := HS108.trans hc275 (fun k_ hk_ h_ => hin273 k_ hk_ h_)
     replace H := H_; clear H_; try dsimp only [setn, addE, goneL] at H
     refine wpList_nil ?_
     refine th_n ⟨HS108, ?_⟩
     refine dr_done (by kernel_rfl) ?_
     exact .inl ⟨rfl, g268, A251, c252, (some ⟨g238, 0, none⟩), (some ⟨g254, 0, none⟩), E.pick _ ⟨rfl, rfl, rfl, trivial⟩, H.sel [5, 6, 10, 8, 7, 9] rfl⟩
    refine wpOp_of_list rfl ?_
    refine h_alloc H E rfl rfl tbok rfl ?_
    intro w277 g276 a hc278 hg280 H_ E_
    replace E := E_ _ rfl; clear E_
    have hin281 : ∀ q_, q_ < w37.heap.size → q_ = g276 → (atL []) q_ := fun q_ h1_ h2_ => by have hs_ := HS108.size; have h4_ : q_ = g276 := h2_; exfalso; omega
    replace HS108 := HS108.ext hc278
    replace H := H_; clear H_; try dsimp only [setn, addE, goneL] at H
    refine wpList_nil ?_
    refine th_n ⟨HS108, ?_⟩
    refine wpAnyH_all (rs := [9]) (by kernel_rfl) (by simp) ?_
    refine all1 ?_
    refine wpOp_of_list rfl ?_
    refine h_make (cSl (cInt .u8)) ([] : List Int) H E rfl rfl tbok rfl rfl rfl rfl ⟨g78.1, Int.le_refl _, g78.2⟩ rfl rfl rfl (fun _ _ => kSl_nil) ?_
    intro w283 g282 a hc284 hg286 H_ E_
    replace E := E_ _ rfl; clear E_
    have hin287 : ∀ q_, q_ < w37.heap.size → At (some ⟨g282, 0, none⟩) q_ → (atL []) q_ := fun q_ h1_ h2_ => by have hs_ := HS108.size; have h4_ : q_ = g282 := At.of_g h2_; exfalso; omega
    replace HS108 := HS108.ext hc284
    replace H := H_; clear H_; try dsimp only [setn, addE, goneL] at H
    refine wpList_nil ?_
    refine th_n ⟨HS108, ?_⟩
    refine wpAnyH_all (rs := [10]) (by kernel_rfl) (by simp) ?_
    refine all1 ?_
    refine wpOp_of_list rfl ?_
    refine e_build (ps := [(1, .slice A251 (List.length r66) c252), (2, .slice (some ⟨g238, 0, none⟩) (List.length (List.replicate (Int.toNat (((List.length aAccept) : Nat) : Int)) (0 : Int))) (Int.toNat (((List.length aAccept) : Nat) : Int))), (3, .slice (some ⟨g282, 0, none⟩) (List.length (List.replicate (Int.toNat (((List.length aAccept) : Nat) : Int)) ([] : List Int))) (Int.toNat (((List.length aAccept) : Nat) : Int)))]) (v := .agg #[.bool false, .slice A251 (List.length r66) c252, .slice (some ⟨g238, 0, none⟩) (List.length (List.replicate (Int.toNat (((List.length aAccept) : Nat) : Int)) (0 : Int))) (Int.toNat (((List.length aAccept) : Nat) : Int)), .slice (some ⟨g282, 0, none⟩) (List.length (List.replicate (Int.toNat (((List.length aAccept) : Nat) : Int)) ([] : List Int))) (Int.toNat (((List.length aAccept) : Nat) : Int))]) E rfl rfl tbok rfl (by kernel_rfl) rfl ?_
    clear E; intro a E
    refine wpList_nil ?_
    refine th_n ⟨HS108, ?_⟩
    refine wpAnyH_all (rs := [12]) (by kernel_rfl) (by simp) ?_
    refine all1 ?_
    refine wpOp_of_list rfl ?_
    refine h_store (g := g276) (off := 0) H 9 rfl E rfl rfl rfl rfl tbok rfl rfl rfl rfl rfl ?_
    clear E; intro w288 a hc289 H_ E
    replace HS108 := HS108.trans hc289 (fun k_ hk_ h_ => hin281 k_ hk_ h_)
    replace H := H_; clear H_; try dsimp only [setn, addE, goneL] at H
    refine wpList_nil ?_
    refine th_n ⟨HS108, ?_⟩
    refine dr_done (by kernel_rfl) ?_
    exact .inl ⟨rfl, g276, A251, c252, (some ⟨g238, 0, none⟩), (some ⟨g282, 0, none⟩), E.pick _ ⟨rfl, rfl, rfl, trivial⟩, H.sel [5, 6, 9, 8, 7, 10] rfl⟩
   ·
    refine wpOp_of_list rfl ?_
    refine h_make (cSl (cInt .u8)) ([] : List Int) H E rfl rfl tbok rfl rfl rfl rfl ⟨g78.1, Int.le_refl _, g78.2⟩ rfl rfl rfl (fun _ _ => kSl_nil) ?_
    intro w291 g290 a hc292 hg294 H_ E_
    replace E := E_ _ rfl; clear E_
    have hin295 : ∀ q_, q_ < w37.heap.size → At (some ⟨g290, 0, none⟩) q_ → (atL []) q_ := fun q_ h1_ h2_ => by have hs_ := HS108.size; have h4_ : q_ = g290 := At.of_g h2_; exfalso; omega
    replace HS108 := HS108.ext hc292
    replace H := H_; clear H_; try dsimp only [setn, addE, goneL] at H
    refine wpList_nil ?_
    refine th_n ⟨HS108, ?_⟩
    refine wpAnyH_all (rs := [1, 11]) (by kernel_rfl) (by simp) ?_
    refine all2 ?_ ?_
    ·
     refine wpOp_of_list rfl ?_
     obtain ⟨Fa296, Hc297, hb298⟩ := H.call [] [(6, false)] rfl rfl trivial
     refine e_call E rfl rfl Try.func32 rfl rfl rfl (moore_game_ranks_calls b42 0 x45.1  Hc297 h67) ?_
     rintro v299 w300 a ⟨A303, c304, rfl, HR301⟩ E_
     replace E := E_ _ rfl; clear E_
     obtain ⟨H_, hc302⟩ := hb298 _ _ HR301 rfl
     replace HS108 := HS108.ext (callS_ext hc302)
     replace H := H_; clear H_; try dsimp only [setn, addE, goneL] at H
     refine wpList_nil ?_
     refine th_n ⟨HS108, ?_⟩
     refine wpAnyH_all (rs := [10, 11]) (by kernel_rfl) (by simp) ?_
     refine all2 ?_ ?_
     ·
      refine wpOp_of_list rfl ?_
      refine e_build (ps := [(1, .slice A303 (List.length r66) c304), (2, .slice (some ⟨g238, 0, none⟩) (List.length (List.replicate (Int.toNat (((List.length aAccept) : Nat) : Int)) (0 : Int))) (Int.toNat (((List.length aAccept) : Nat) : Int))), (3, .slice (some ⟨g290, 0, none⟩) (List.length (List.replicate (Int.toNat (((List.length aAccept) : Nat) : Int)) ([] : List Int))) (Int.toNat (((List.length aAccept) : Nat) : Int)))]) (v := .agg #[.bool false, .slice A303 (List.length r66) c304, .slice (some ⟨g238, 0, none⟩) (List.length (List.replicate (Int.toNat (((List.length aAccept) : Nat) : Int)) (0 : Int))) (Int.toNat (((List.length aAccept) : Nat) : Int)), .slice (some ⟨g290, 0, none⟩) (List.length (List.replicate (Int.toNat (((List.length aAccept) : Nat) : Int)) ([] : List Int))) (Int.toNat (((List.length aAccept) : Nat) : Int))]) E rfl rfl tbok rfl (by kernel_rfl) rfl ?_
      clear E; intro a E
      refine wpList_nil ?_
      refine th_n ⟨HS108, ?_⟩
      refine wpAnyH_all (rs := [11]) (by kernel_rfl) (by simp) ?_
      refine all1 ?_
      refine wpOp_of_list rfl ?_
      refine h_alloc H E rfl rfl tbok rfl ?_
      intro w307 g306 a hc308 hg310 H_ E_
      replace E := E_ _ rfl; clear E_
      have hin311 : ∀ q_, q_ < w37.heap.size → q_ = g306 → (atL []) q_ := fun q_ h1_ h2_ => by have hs_ := HS108.size; have h4_ : q_ = g306 := h2_; exfalso; omega
      replace HS108 := HS108.ext hc308
      replace H := H_; clear H_; try dsimp only [setn, addE, goneL] at H
      refine wpList_nil ?_
      refine th_n ⟨HS108, ?_⟩
      refine wpAnyH_all (rs := [12]) (by kernel_rfl) (by simp) ?_
      refine all1 ?_
      refine wpOp_of_list rfl ?_
      refine h_store (g := g306) (off := 0) H 10 rfl E rfl rfl rfl rfl tbok rfl rfl rfl rfl rfl ?_
      clear E; intro w312 a hc313 H_ E
      replace HS108 := HS108.trans hc313 (fun k_ hk_ h_ => hin311 k_ hk_ h_)
      replace H := H_; clear H_; try dsimp only [setn, addE, goneL] at H
      refine wpList_nil ?_
      refine th_n ⟨HS108, ?_⟩
      refine dr_done (by kernel_rfl) ?_
      exact .inl ⟨rfl, g306, A303, c304, (some ⟨g238, 0, none⟩), (some ⟨g290, 0, none⟩), E.pick _ ⟨rfl, rfl, rfl, trivial⟩, H.sel [5, 6, 10, 9, 7, 8] rfl⟩
     refine wpOp_of_list rfl ?_
     refine h_alloc H E rfl rfl tbok rfl ?_
     intro w315 g314 a hc316 hg318 H_ E_
     replace E := E_ _ rfl; clear E_
     have hin319 : ∀ q_, q_ < w37.heap.size → q_ = g314 → (atL []) q_ := fun q_ h1_ h2_ => by have hs_ := HS108.size; have h4_ : q_ = g314 := h2_; exfalso; omega
     replace HS108 := HS108.ext hc316
     replace H := H_; clear H_; try dsimp only [setn, addE, goneL] at H
     refine wpList_nil ?_
     refine th_n ⟨HS108, ?_⟩
     refine wpAnyH_all (rs := [10]) (by kernel_rfl) (by simp) ?_
     refine all1 ?_
     refine wpOp_of_list rfl ?_
     refine e_build (ps := [(1, .slice A303 (List.length r66) c304), (2, .slice (some ⟨g238, 0, none⟩) (List.length (List.replicate (Int.toNat (((List.length aAccept) : Nat) : Int)) (0 : Int))) (Int.toNat (((List.length aAccept) : Nat) : Int))), (3, .slice (some ⟨g290, 0, none⟩) (List.length (List.replicate (Int.toNat (((List.length aAccept) : Nat) : Int)) ([] : List Int))) (Int.toNat (((List.length aAccept) : Nat) : Int)))]) (v := .agg #[.bool false, .slice A303 (List.length r66) c304, .slice (some ⟨g238, 0, none⟩) (List.length (List.replicate (Int.toNat (((List.length aAccept) : Nat) : Int)) (0 : Int))) (Int.toNat (((List.length aAccept) : Nat) : Int)), .slice (some ⟨g290, 0, none⟩) (List.length (List.replicate (Int.toNat (((List.length aAccept) : Nat) : Int)) ([] : List Int))) (Int.toNat (((List.length aAccept) : Nat) : Int))]) E rfl rfl tbok rfl (by kernel_rfl) rfl ?_
     clear E; intro a E
     refine wpList_nil ?_
     refine th_n ⟨HS108, ?_⟩
     refine wpAnyH_all (rs := [12]) (by kernel_rfl) (by simp) ?_
     refine all1 ?_
     refine wpOp_of_list rfl ?_
     refine h_store (g := g314) (off := 0) H 10 rfl E rfl rfl rfl rfl tbok rfl rfl rfl rfl rfl ?_
     clear E; intro w320 a hc321 H_ E
     replace HS108 := HS108.trans hc321 (fun k_ hk_ h_ => hin319 k_ hk_ h_)
     replace H := H_; clear H_; try dsimp only [setn, addE, goneL] at H
     refine wpList_nil ?_
     refine th_n ⟨HS108, ?_⟩
     refine dr_done (by kernel_rfl) ?_
     exact .inl ⟨rfl, g314, A303, c304, (some ⟨g238, 0, none⟩), (some ⟨g290, 0, none⟩), E.pick _ ⟨rfl, rfl, rfl, trivial⟩, H.sel [5, 6, 10, 9, 7, 8] rfl⟩
    refine wpOp_of_list rfl ?_
    refine h_alloc H E rfl rfl tbok rfl ?_
    intro w323 g322 a hc324 hg326 H_ E_
    replace E := E_ _ rfl; clear E_
    have hin327 : ∀ q_, q_ < w37.heap.size → q_ = g322 → (atL []) q_ := fun q_ h1_ h2_ => by have hs_ := HS108.size; have h4_ : q_ = g322 := h2_; exfalso; omega
    replace HS108 := HS108.ext hc324
    replace H := H_; clear H_; try dsimp only [setn, addE, goneL] at H
    refine wpList_nil ?_
    refine th_n ⟨HS108, ?_⟩
    refine wpAnyH_all (rs := [1]) (by kernel_rfl) (by simp) ?_
    refine all1 ?_
    refine wpOp_of_list rfl ?_
    obtain ⟨Fa328, Hc329, hb330⟩ := H.call [] [(6, false)] rfl rfl trivial
    refine e_call E rfl rfl Try.func32 rfl rfl rfl (moore_game_ranks_calls b42 0 x45.1  Hc329 h67) ?_
    rintro v331 w332 a ⟨A335, c336, rfl, HR333⟩ E_
    replace E := E_ _ rfl; clear E_
    obtain ⟨H_, hc334⟩ := hb330 _ _ HR333 rfl
    replace HS108 := HS108.ext (callS_ext hc334)
    replace H := H_; clear H_; try dsimp only [setn, addE, goneL] at H
    refine wpList_nil ?_
    refine th_n ⟨HS108, ?_⟩
    refine wpAnyH_all (rs := [10]) (by kernel_rfl) (by simp) ?_
    refine all1 ?_
    refine wpOp_of_list rfl ?_
    refine e_build (ps := [(1, .slice A335 (List.length r66) c336), (2, .slice (some ⟨g238, 0, none⟩) (List.length (List.replicate (Int.toNat (((List.length aAccept) : Nat) : Int)) (0 : Int))) (Int.toNat (((List.length aAccept) : Nat) : Int))), (3, .slice (some ⟨g290, 0, none⟩) (List.length (List.replicate (Int.toNat (((List.length aAccept) : Nat) : Int)) ([] : List Int))) (Int.toNat (((List.length aAccept) : Nat) : Int)))]) (v := .agg #[.bool false, .slice A335 (List.length r66) c336, .slice (some ⟨g238, 0, none⟩) (List.length (List.replicate (Int.toNat (((List.length aAccept) : Nat) : Int)) (0 : Int))) (Int.toNat (((List.length aAccept) : Nat) : Int)), .slice (some ⟨g290, 0, none⟩) (List.length (List.replicate (Int.toNat (((List.length aAccept) : Nat) : Int)) ([] : List Int))) (Int.toNat (((List.length aAccept) : Nat) : Int))]) E rfl rfl tbok rfl (by kernel_rfl) rfl ?_
    clear E; intro a E
    refine wpList_nil ?_
    refine th_n ⟨HS108, ?_⟩
    refine wpAnyH_all (rs := [12]) (by kernel_rfl) (by simp) ?_
    refine all1 ?_
    refine wpOp_of_list rfl ?_
    refine h_store (g := g322) (off := 0) H 9 rfl E rfl rfl rfl rfl tbok rfl rfl rfl rfl rfl ?_
    clear E; intro w338 a hc339 H_ E
    replace HS108 := HS108.trans hc339 (fun k_ hk_ h_ => hin327 k_ hk_ h_)
    replace H := H_; clear H_; try dsimp only [setn, addE, goneL] at H
    refine wpList_nil ?_
    refine th_n ⟨HS108, ?_⟩
    refine dr_done (by kernel_rfl) ?_
    exact .inl ⟨rfl, g322, A335, c336, (some ⟨g238, 0, none⟩), (some ⟨g290, 0, none⟩), E.pick _ ⟨rfl, rfl, rfl, trivial⟩, H.sel [5, 6, 9, 10, 7, 8] rfl⟩
   refine wpOp_of_list rfl ?_
   refine h_alloc H E rfl rfl tbok rfl ?_
   intro w341 g340 a hc342 hg344 H_ E_
   replace E := E_ _ rfl; clear E_
   have hin345 : ∀ q_, q_ < w37.heap.size → q_ = g340 → (atL []) q_ := fun q_ h1_ h2_ => by have hs_ := HS108.size; have h4_ : q_ = g340 := h2_; exfalso; omega
   replace HS108 := HS108.ext hc342
   replace H := H_; clear H_; try dsimp only [setn, addE, goneL] at H
   refine wpList_nil ?_
   refine th_n ⟨HS108, ?_⟩
   refine wpAnyH_all (rs := [1, 9]) (by kernel_rfl) (by simp) ?_
   refine all2 ?_ ?_
   ·
    refine wpOp_of_list rfl ?_
    obtain ⟨Fa346, Hc347, hb348⟩ := H.call [] [(6, false)] rfl rfl trivial
    refine e_call E rfl rfl Try.func32 rfl rfl rfl (moore_game_ranks_calls b42 0 x45.1  Hc347 h67) ?_
    rintro v349 w350 a ⟨A353, c354, rfl, HR351⟩ E_
    replace E := E_ _ rfl; clear E_
    obtain ⟨H_, hc352⟩ := hb348 _ _ HR351 rfl
    replace HS108 := HS108.ext (callS_ext hc352)
    replace H := H_; clear H_; try dsimp only [setn, addE, goneL] at H
    refine wpList_nil ?_
    refine th_n ⟨HS108, ?_⟩
    refine wpAnyH_all (rs := [9]) (by kernel_rfl) (by simp) ?_
    refine all1 ?_
    refine wpOp_of_list rfl ?_
    refine h_make (cSl (cInt .u8)) ([] : List Int) H E rfl rfl tbok rfl rfl rfl rfl ⟨g78.1, Int.le_refl _, g78.2⟩ rfl rfl rfl (fun _ _ => kSl_nil) ?_
    intro w357 g356 a hc358 hg360 H_ E_
    replace E := E_ _ rfl; clear E_
    have hin361 : ∀ q_, q_ < w37.heap.size → At (some ⟨g356, 0, none⟩) q_ → (atL []) q_ := fun q_ h1_ h2_ => by have hs_ := HS108.size; have h4_ : q_ = g356 := At.of_g h2_; exfalso; omega
    replace HS108 := HS108.ext hc358
    replace H := H_; clear H_; try dsimp only [setn, addE, goneL] at H
    refine wpList_nil ?_
    refine th_n ⟨HS108, ?_⟩
    refine wpAnyH_all (rs := [10]) (by kernel_rfl) (by simp) ?_
    refine all1 ?_
    refine wpOp_of_list rfl ?_
    refine e_build (ps := [(1, .slice A353 (List.length r66) c354), (2, .slice (some ⟨g238, 0, none⟩) (List.length (List.replicate (Int.toNat (((List.length aAccept) : Nat) : Int)) (0 : Int))) (Int.toNat (((List.length aAccept) : Nat) : Int))), (3, .slice (some ⟨g356, 0, none⟩) (List.length (List.replicate (Int.toNat (((List.length aAccept) : Nat) : Int)) ([] : List Int))) (Int.toNat (((List.length aAccept) : Nat) : Int)))]) (v := .agg #[.bool false, .slice A353 (List.length r66) c354, .slice (some ⟨g238, 0, none⟩) (List.length (List.replicate (Int.toNat (((List.length aAccept) : Nat) : Int)) (0 : Int))) (Int.toNat (((List.length aAccept) : Nat) : Int)), .slice (some ⟨g356, 0, none⟩) (List.length (List.replicate (Int.toNat (((List.length aAccept) : Nat) : Int)) ([] : List Int))) (Int.toNat (((List.length aAccept) : Nat) : Int))]) E rfl rfl tbok rfl (by kernel_rfl) rfl ?_
    clear E; intro a E
    refine wpList_nil ?_
    refine th_n ⟨HS108, ?_⟩
    refine wpAnyH_all (rs := [12]) (by kernel_rfl) (by simp) ?_
    refine all1 ?_
    refine wpOp_of_list rfl ?_
    refine h_store (g := g340) (off := 0) H 8 rfl E rfl rfl rfl rfl tbok rfl rfl rfl rfl rfl ?_
    clear E; intro w362 a hc363 H_ E
    replace HS108 := HS108.trans hc363 (fun k_ hk_ h_ => hin345 k_ hk_ h_)
    replace H := H_; clear H_; try dsimp only [setn, addE, goneL] at H
    refine wpList_nil ?_
    refine th_n ⟨HS108, ?_⟩
    refine dr_done (by kernel_rfl) ?_
    exact .inl ⟨rfl, g340, A353, c354, (some ⟨g238, 0, none⟩), (some ⟨g356, 0, none⟩), E.pick _ ⟨rfl, rfl, rfl, trivial⟩, H.sel [5, 6, 8, 9, 7, 10] rfl⟩
   refine wpOp_of_list rfl ?_
   refine h_make (cSl (cInt .u8)) ([] : List Int) H E rfl rfl tbok rfl rfl rfl rfl ⟨g78.1, Int.le_refl _, g78.2⟩ rfl rfl rfl (fun _ _ => kSl_nil) ?_
   intro w365 g364 a hc366 hg368 H_ E_
   replace E := E_ _ rfl; clear E_
   have hin369 : ∀ q_, q_ < w37.heap.size → At (some ⟨g364, 0, none⟩) q_ → (atL []) q_ := fun q_ h1_ h2_ => by have hs_ := HS108.size; have h4_ : q_ = g364 := At.of_g h2_; exfalso; omega
   replace HS108 := HS108.ext hc366
   replace H := H_; clear H_; try dsimp only [setn, addE, goneL] at H
   refine wpList_nil ?_
   refine th_n ⟨HS108, ?_⟩
   refine wpAnyH_all (rs := [1]) (by kernel_rfl) (by simp) ?_
   refine all1 ?_
   refine wpOp_of_list rfl ?_
   obtain ⟨Fa370, Hc371, hb372⟩ := H.call [] [(6, false)] rfl rfl trivial
   refine e_call E rfl rfl Try.func32 rfl rfl rfl (moore_game_ranks_calls b42 0 x45.1  Hc371 h67) ?_
   rintro v373 w374 a ⟨A377, c378, rfl, HR375⟩ E_
   replace E := E_ _ rfl; clear E_
   obtain ⟨H_, hc376⟩ := hb372 _ _ HR375 rfl
   replace HS108 := HS108.ext (callS_ext hc376)
   replace H := H_; clear H_; try dsimp only [setn, addE, goneL] at H
   refine wpList_nil ?_
   refine th_n ⟨HS108, ?_⟩
   refine wpAnyH_all (rs := [10]) (by kernel_rfl) (by simp) ?_
   refine all1 ?_
   refine wpOp_of_list rfl ?_
   refine e_build (ps := [(1, .slice A377 (List.length r66) c378), (2, .slice (some ⟨g238, 0, none⟩) (List.length (List.replicate (Int.toNat (((List.length aAccept) : Nat) : Int)) (0 : Int))) (Int.toNat (((List.length aAccept) : Nat) : Int))), (3, .slice (some ⟨g364, 0, none⟩) (List.length (List.replicate (Int.toNat (((List.length aAccept) : Nat) : Int)) ([] : List Int))) (Int.toNat (((List.length aAccept) : Nat) : Int)))]) (v := .agg #[.bool false, .slice A377 (List.length r66) c378, .slice (some ⟨g238, 0, none⟩) (List.length (List.replicate (Int.toNat (((List.length aAccept) : Nat) : Int)) (0 : Int))) (Int.toNat (((List.length aAccept) : Nat) : Int)), .slice (some ⟨g364, 0, none⟩) (List.length (List.replicate (Int.toNat (((List.length aAccept) : Nat) : Int)) ([] : List Int))) (Int.toNat (((List.length aAccept) : Nat) : Int))]) E rfl rfl tbok rfl (by kernel_rfl) rfl ?_
   clear E; intro a E
   refine wpList_nil ?_
   refine th_n ⟨HS108, ?_⟩
   refine wpAnyH_all (rs := [12]) (by kernel_rfl) (by simp) ?_
   refine all1 ?_
   refine wpOp_of_list rfl ?_
   refine h_store (g := g340) (off := 0) H 8 rfl E rfl rfl rfl rfl tbok rfl rfl rfl rfl rfl ?_
   clear E; intro w380 a hc381 H_ E
   replace HS108 := HS108.trans hc381 (fun k_ hk_ h_ => hin345 k_ hk_ h_)
   replace H := H_; clear H_; try dsimp only [setn, addE, goneL] at H
   refine wpList_nil ?_
   refine th_n ⟨HS108, ?_⟩
   refine dr_done (by kernel_rfl) ?_
   exact .inl ⟨rfl, g340, A377, c378, (some ⟨g238, 0, none⟩), (some ⟨g364, 0, none⟩), E.pick _ ⟨rfl, rfl, rfl, trivial⟩, H.sel [5, 6, 8, 10, 7, 9] rfl⟩
  ·
   refine wpOp_of_list rfl ?_
   refine h_make (cSl (cInt .u8)) ([] : List Int) H E rfl rfl tbok rfl rfl rfl rfl ⟨g78.1, Int.le_refl _, g78.2⟩ rfl rfl rfl (fun _ _ => kSl_nil) ?_
   intro w383 g382 a hc384 hg386 H_ E_
   replace E := E_ _ rfl; clear E_
   have hin387 : ∀ q_, q_ < w37.heap.size → At (some ⟨g382, 0, none⟩) q_ → (atL []) q_ := fun q_ h1_ h2_ => by have hs_ := HS108.size; have h4_ : q_ = g382 := At.of_g h2_; exfalso; omega
   replace HS108 := HS108.ext hc384
   replace H := H_; clear H_; try dsimp only [setn, addE, goneL] at H
   refine wpList_nil ?_
   refine th_n ⟨HS108, ?_⟩
   refine wpAnyH_all (rs := [1, 5, 11]) (by kernel_rfl) (by simp) ?_
   refine all3 ?_ ?_ ?_
   ·
    refine wpOp_of_list rfl ?_
    obtain ⟨Fa388, Hc389, hb390⟩ := H.call [] [(6, false)] rfl rfl trivial
    refine e_call E rfl rfl Try.func32 rfl rfl rfl (moore_game_ranks_calls b42 0 x45.1  Hc389 h67) ?_
    rintro v391 w392 a ⟨A395, c396, rfl, HR393⟩ E_
    replace E := E_ _ rfl; clear E_
    obtain ⟨H_, hc394⟩ := hb390 _ _ HR393 rfl
    replace HS108 := HS108.ext (callS_ext hc394)
    replace H := H_; clear H_; try dsimp only [setn, addE, goneL] at H
    refine wpList_nil ?_
    refine th_n ⟨HS108, ?_⟩
    refine wpAnyH_all (rs := [5, 11]) (by kernel_rfl) (by simp) ?_
    refine all2 ?_ ?_
    ·
     refine wpOp_of_list rfl ?_
     refine h_make (cInt .u8) (0 : Int) H E rfl rfl tbok rfl rfl rfl rfl ⟨g78.1, Int.le_refl _, g78.2⟩ rfl rfl rfl (fun _ _ => rfl) ?_
     intro w399 g398 a hc400 hg402 H_ E_
     replace E := E_ _ rfl; clear E_
     have hin403 : ∀ q_, q_ < w37.heap.size → At (some ⟨g398, 0, none⟩) q_ → (atL []) q_ := fun q_ h1_ h2_ => by have hs_ := HS108.size; have h4_ : q_ = g398 := At.of_g h2_; exfalso; omega
     replace HS108 := HS108.ext hc400
     replace H := H_; clear H_; try dsimp only [setn, addE, goneL] at H
     refine wpList_nil ?_
     refine th_n ⟨HS108, ?_⟩
     refine wpAnyH_all (rs := [10, 11]) (by kernel_rfl) (by simp) ?_
     refine all2 ?_ ?_
     ·
      refine wpOp_of_list rfl ?_
      refine e_build (ps := [(1, .slice A395 (List.length r66) c396), (2, .slice (some ⟨g398, 0, none⟩) (List.length (List.replicate (Int.toNat (((List.length aAccept) : Nat) : Int)) (0 : Int))) (Int.toNat (((List.length aAccept) : Nat) : Int))), (3, .slice (some ⟨g382, 0, none⟩) (List.length (List.replicate (Int.toNat (((List.length aAccept) : Nat) : Int)) ([] : List Int))) (Int.toNat (((List.length aAccept) : Nat) : Int)))]) (v := .agg #[.bool false, .slice A395 (List.length r66) c396, .slice (some ⟨g398, 0, none⟩) (List.length (List.replicate (Int.toNat (((List.length aAccept) : Nat) : Int)) (0 : Int))) (Int.toNat (((List.length aAccept) : Nat) : Int)), .slice (some ⟨g382, 0, none⟩) (List.length (List.replicate (Int.toNat (((List.length aAccept) : Nat) : Int)) ([] : List Int))) (Int.toNat (((List.length aAccept) : Nat) : Int))]) E rfl rfl tbok rfl (by kernel_rfl) rfl ?_
      clear E; intro a E
      refine wpList_nil ?_
      refine th_n ⟨HS108, ?_⟩
      refine wpAnyH_all (rs := [11]) (by kernel_rfl) (by simp) ?_
      refine all1 ?_
      refine wpOp_of_list rfl ?_
      refine h_alloc H E rfl rfl tbok rfl ?_
      intro w405 g404 a hc406 hg408 H_ E_
      replace E := E_ _ rfl; clear E_
      have hin409 : ∀ q_, q_ < w37.heap.size → q_ = g404 → (atL []) q_ := fun q_ h1_ h2_ => by have hs_ := HS108.size; have h4_ : q_ = g404 := h2_; exfalso; omega
      replace HS108 := HS108.ext hc406
      replace H := H_; clear H_; try dsimp only [setn, addE, goneL] at H
      refine wpList_nil ?_
      refine th_n ⟨HS108, ?_⟩
      refine wpAnyH_all (rs := [12]) (by kernel_rfl) (by simp) ?_
      refine all1 ?_
      refine wpOp_of_list rfl ?_
      refine h_store (g := g404) (off := 0) H 10 rfl E rfl rfl rfl rfl tbok rfl rfl rfl rfl rfl ?_
      clear E; intro w410 a hc411 H_ E
      replace HS108 := HS108.trans hc411 (fun k_ hk_ h_ => hin409 k_ hk_ h_)
      replace H := H_; clear H_; try dsimp only [setn, addE, goneL] at H
      refine wpList_nil ?_
      refine th_n ⟨HS108, ?_⟩
      refine dr_done (by kernel_rfl) ?_
      exact .inl ⟨rfl, g404, A395, c396, (some ⟨g398, 0, none⟩), (some ⟨g382, 0, none⟩), E.pick _ ⟨rfl, rfl, rfl, trivial⟩, H.sel [5, 6, 10, 8, 9, 7] rfl⟩
     refine wpOp_of_list rfl ?_
     refine h_alloc H E rfl rfl tbok rfl ?_
     intro w413 g412 a hc414 hg416 H_ E_
     replace E := E_ _ rfl; clear E_
     have hin417 : ∀ q_, q_ < w37.heap.size → q_ = g412 → (atL []) q_ := fun q_ h1_ h2_ => by have hs_ := HS108.size; have h4_ : q_ = g412 := h2_; exfalso; omega
     replace HS108 := HS108.ext hc414
     replace H := H_; clear H_; try dsimp only [setn, addE, goneL] at H
     refine wpList_nil ?_
     refine th_n ⟨HS108, ?_⟩
     refine wpAnyH_all (rs := [10]) (by kernel_rfl) (by simp) ?_
     refine all1 ?_
     refine wpOp_of_list rfl ?_
     refine e_build (ps := [(1, .slice A395 (List.length r66) c396), (2, .slice (some ⟨g398, 0, none⟩) (List.length (List.replicate (Int.toNat (((List.length aAccept) : Nat) : Int)) (0 : Int))) (Int.toNat (((List.length aAccept) : Nat) : Int))), (3, .slice (some ⟨g382, 0, none⟩) (List.length (List.replicate (Int.toNat (((List.length aAccept) : Nat) : Int)) ([] : List Int))) (Int.toNat (((List.length aAccept) : Nat) : Int)))]) (v := .agg #[.bool false, .slice A395 (List.length r66) c396, .slice (some ⟨g398, 0, none⟩) (List.length (List.replicate (Int.toNat (((List.length aAccept) : Nat) : Int)) (0 : Int))) (Int.toNat (((List.length aAccept) : Nat) : Int)), .slice (some ⟨g382, 0, none⟩) (List.length (List.replicate (Int.toNat (((List.length aAccept) : Nat) : Int)) ([] : List Int))) (Int.toNat (((List.length aAccept) : Nat) : Int))]) E rfl rfl tbok rfl (by kernel_rfl) rfl ?_
     clear E; intro a E
     refine wpList_nil ?_
     refine th_n ⟨HS108, ?_⟩
     refine wpAnyH_all (rs := [12]) (by kernel_rfl) (by simp) ?_
     refine all1 ?_
     refine wpOp_of_list rfl ?_
     refine h_store (g := g412) (off := 0) H 10 rfl E rfl rfl rfl rfl tbok rfl rfl rfl rfl rfl ?_
     clear E; intro w418 a hc419 H_ E
     replace HS108 := HS108.trans hc419 (fun k_ hk_ h_ => hin417 k_ hk_ h_)
     replace H := H_; clear H_; try dsimp only [setn, addE, goneL] at H
     refine wpList_nil ?_
     refine th_n ⟨HS108, ?_⟩
     refine dr_done (by kernel_rfl) ?_
     exact .inl ⟨rfl, g412, A395, c396, (some ⟨g398, 0, none⟩), (some ⟨g382, 0, none⟩), E.pick _ ⟨rfl, rfl, rfl, trivial⟩, H.sel [5, 6, 10, 8, 9, 7] rfl⟩
    refine wpOp_of_list rfl ?_
    refine h_alloc H E rfl rfl tbok rfl ?_
    intro w421 g420 a hc422 hg424 H_ E_
    replace E := E_ _ rfl; clear E_
    have hin425 : ∀ q_, q_ < w37.heap.size → q_ = g420 → (atL []) q_ := fun q_ h1_ h2_ => by have hs_ := HS108.size; have h4_ : q_ = g420 := h2_; exfalso; omega
    replace HS108 := HS108.ext hc422
    replace H := H_; clear H_; try dsimp only [setn, addE, goneL] at H
    refine wpList_nil ?_
    refine th_n ⟨HS108, ?_⟩
    refine wpAnyH_all (rs := [5]) (by kernel_rfl) (by simp) ?_
    refine all1 ?_
    refine wpOp_of_list rfl ?_
    refine h_make (cInt .u8) (0 : Int) H E rfl rfl tbok rfl rfl rfl rfl ⟨g78.1, Int.le_refl _, g78.2⟩ rfl rfl rfl (fun _ _ => rfl) ?_
    intro w427 g426 a hc428 hg430 H_ E_
    replace E := E_ _ rfl; clear E_
    have hin431 : ∀ q_, q_ < w37.heap.size → At (some ⟨g426, 0, none⟩) q_ → (atL []) q_ := fun q_ h1_ h2_ => by have hs_ := HS108.size; have h4_ : q_ = g426 := At.of_g h2_; exfalso; omega
    replace HS108 := HS108.ext hc428
    replace H := H_; clear H_; try dsimp only [setn, addE, goneL] at H
    refine wpList_nil ?_
    refine th_n ⟨HS108, ?_⟩
    refine wpAnyH_all (rs := [10]) (by kernel_rfl) (by simp) ?_
    refine all1 ?_
    refine wpOp_of_list rfl ?_
    refine e_build (ps := [(1, .slice A395 (List.length r66) c396), (2, .slice (some ⟨g426, 0, none⟩) (List.length (List.replicate (Int.toNat (((List.length aAccept) : Nat) : Int)) (0 : Int))) (Int.toNat (((List.length aAccept) : Nat) : Int))), (3, .slice (some ⟨g382, 0, none⟩) (List.length (List.replicate (Int.toNat (((List.length aAccept) : Nat) : Int)) ([] : List Int))) (Int.toNat (((List.length aAccept) : Nat) : Int)))]) (v := .agg #[.bool false, .slice A395 (List.length r66) c396, .slice (some ⟨g426, 0, none⟩) (List.length (List.replicate (Int.toNat (((List.length aAccept) : Nat) : Int)) (0 : Int))) (Int.toNat (((List.length aAccept) : Nat) : Int)), .slice (some ⟨g382, 0, none⟩) (List.length (List.replicate (Int.toNat (((List.length aAccept) : Nat) : Int)) ([] : List Int))) (Int.toNat (((List.length aAccept) : Nat) : Int))]) E rfl rfl tbok rfl (by kernel_rfl) rfl ?_
    clear E; intro a E
    refine wpList_nil ?_
    refine th_n ⟨HS108, ?_⟩
    refine wpAnyH_all (rs := [12]) (by kernel_rfl) (by simp) ?_
    refine all1 ?_
    refine wpOp_of_list rfl ?_
    refine h_store (g := g420) (off := 0) H 9 rfl E rfl rfl rfl rfl tbok rfl rfl rfl rfl rfl ?_
    clear E; intro w432 a hc433 H_ E
    replace HS108 := HS108.trans hc433 (fun k_ hk_ h_ => hin425 k_ hk_ h_)
    replace H := H_; clear H_; try dsimp only [setn, addE, goneL] at H
    refine wpList_nil ?_
    refine th_n ⟨HS108, ?_⟩
    refine dr_done (by kernel_rfl) ?_
    exact .inl ⟨rfl, g420, A395, c396, (some ⟨g426, 0, none⟩), (some ⟨g382, 0, none⟩), E.pick _ ⟨rfl, rfl, rfl, trivial⟩, H.sel [5, 6, 9, 8, 10, 7] rfl⟩
   ·
    refine wpOp_of_list rfl ?_
    refine h_make (cInt .u8) (0 : Int) H E rfl rfl tbok rfl rfl rfl rfl ⟨g78.1, Int.le_refl _, g78.2⟩ rfl rfl rfl (fun _ _ => rfl) ?_
    intro w435 g434 a hc436 hg438 H_ E_
    replace E := E_ _ rfl; clear E_
    have hin439 : ∀ q_, q_ < w37.heap.size → At (some ⟨g434, 0, none⟩) q_ → (atL []) q_ := fun q_ h1_ h2_ => by have hs_ := HS108.size; have h4_ : q_ = g434 := At.of_g h2_; exfalso; omega
    replace HS108 := HS108.ext hc436
    replace H := H_; clear H_; try dsimp only [setn, addE, goneL] at H
    refine wpList_nil ?_
    refine th_n ⟨HS108, ?_⟩
    refine wpAnyH_all (rs := [1, 11]) (by kernel_rfl) (by simp) ?_
    refine all2 ?_ ?_
    ·
     refine wpOp_of_list rfl ?_
     obtain ⟨Fa440, Hc441, hb442⟩ := H.call [] [(6, false)] rfl rfl trivial
     refine e_call E rfl rfl Try.func32 rfl rfl rfl (moore_game_ranks_calls b42 0 x45.1  Hc441 h67) ?_
     rintro v443 w444 a ⟨A447, c448, rfl, HR445⟩ E_
     replace E := E_ _ rfl; clear E_
     obtain ⟨H_, hc446⟩ := hb442 _ _ HR445 rfl
     replace HS108 := HS108.ext (callS_ext hc446)
     replace H := H_; clear H_; try dsimp only [setn, addE, goneL] at H
     refine wpList_nil ?_
     refine th_n ⟨HS108, ?_⟩
     refine wpAnyH_all (rs := [10, 11]) (by kernel_rfl) (by simp) ?_
     refine all2 ?_ ?_
     ·
      refine wpOp_of_list rfl ?_
      refine e_build (ps := [(1, .slice A447 (List.length r66) c448), (2, .slice (some ⟨g434, 0, none⟩) (List.length (List.replicate (Int.toNat (((List.length aAccept) : Nat) : Int)) (0 : Int))) (Int.toNat (((List.length aAccept) : Nat) : Int))), (3, .slice (some ⟨g382, 0, none⟩) (List.length (List.replicate (Int.toNat (((List.length aAccept) : Nat) : Int)) ([] : List Int))) (Int.toNat (((List.length aAccept) : Nat) : Int)))]) (v := .agg #[.bool false, .slice A447 (List.length r66) c448, .slice (some ⟨g434, 0, none⟩) (List.length (List.replicate (Int.toNat (((List.length aAccept) : Nat) : Int)) (0 : Int))) (Int.toNat (((List.length aAccept) : Nat) : Int)), .slice (some ⟨g382, 0, none⟩) (List.length (List.replicate (Int.toNat (((List.length aAccept) : Nat) : Int)) ([] : List Int))) (Int.toNat (((List.length aAccept) : Nat) : Int))]) E rfl rfl tbok rfl (by kernel_rfl) rfl ?_
      clear E; intro a E
      refine wpList_nil ?_
      refine th_n ⟨HS108, ?_⟩
      refine wpAnyH_all (rs := [11]) (by kernel_rfl) (by simp) ?_
      refine all1 ?_
      refine wpOp_of_list rfl ?_
      refine h_alloc H E rfl rfl tbok rfl ?_
      intro w451 g450 a hc452 hg454 H_ E_
      replace E := E_ _ rfl; clear E_
      have hin455 : ∀ q_, q_ < w37.heap.size → q_ = g450 → (atL []) q_ := fun q_ h1_ h2_ => by have hs_ := HS108.size; have h4_ : q_ = g450 := h2_; exfalso; omega
      replace HS108 := HS108.ext hc452
      replace H := H_; clear H_; try dsimp only [setn, addE, goneL] at H
      refine wpList_nil ?_
      refine th_n ⟨HS108, ?_⟩
      refine wpAnyH_all (rs := [12]) (by kernel_rfl) (by simp) ?_
      refine all1 ?_
      refine wpOp_of_list rfl ?_
      refine h_store (g := g450) (off := 0) H 10 rfl E rfl rfl rfl rfl tbok rfl rfl rfl rfl rfl ?_
      clear E; intro w456 a hc457 H_ E
      replace HS108 := HS108.trans hc457 (fun k_ hk_ h_ => hin455 k_ hk_ h_)
      replace H := H_; clear H_; try dsimp only [setn, addE, goneL] at H
      refine wpList_nil ?_
      refine th_n ⟨HS108, ?_⟩
      refine dr_done (by kernel_rfl) ?_
      exact .inl ⟨rfl, g450, A447, c448, (some ⟨g434, 0, none⟩), (some ⟨g382, 0, none⟩), E.pick _ ⟨rfl, rfl, rfl, trivial⟩, H.sel [5, 6, 10, 9, 8, 7] rfl⟩
     refine wpOp_of_list rfl ?_
     refine h_alloc H E rfl rfl tbok rfl ?_
     intro w459 g458 a hc460 hg462 H_ E_
     replace E := E_ _ rfl; clear E_
     have hin463 : ∀ q_, q_ < w37.heap.size → q_ = g458 → (atL []) q_ := fun q_ h1_ h2_ => by have hs_ := HS108.size; have h4_ : q_ = g458 := h2_; exfalso; omega
     replace HS108 := HS108.ext hc460
     replace H := H_; clear H_; try dsimp only [setn, addE, goneL] at H
     refine wpList_nil ?_
     refine th_n ⟨HS108, ?_⟩
     refine wpAnyH_all (rs := [10]) (by kernel_rfl) (by simp) ?_
     refine all1 ?_
     refine wpOp_of_list rfl ?_
     refine e_build (ps := [(1, .slice A447 (List.length r66) c448), (2, .slice (some ⟨g434, 0, none⟩) (List.length (List.replicate (Int.toNat (((List.length aAccept) : Nat) : Int)) (0 : Int))) (Int.toNat (((List.length aAccept) : Nat) : Int))), (3, .slice (some ⟨g382, 0, none⟩) (List.length (List.replicate (Int.toNat (((List.length aAccept) : Nat) : Int)) ([] : List Int))) (Int.toNat (((List.length aAccept) : Nat) : Int)))]) (v := .agg #[.bool false, .slice A447 (List.length r66) c448, .slice (some ⟨g434, 0, none⟩) (List.length (List.replicate (Int.toNat (((List.length aAccept) : Nat) : Int)) (0 : Int))) (Int.toNat (((List.length aAccept) : Nat) : Int)), .slice (some ⟨g382, 0, none⟩) (List.length (List.replicate (Int.toNat (((List.length aAccept) : Nat) : Int)) ([] : List Int))) (Int.toNat (((List.length aAccept) : Nat) : Int))]) E rfl rfl tbok rfl (by kernel_rfl) rfl ?_
     clear E; intro a E
     refine wpList_nil ?_
     refine th_n ⟨HS108, ?_⟩
     refine wpAnyH_all (rs := [12]) (by kernel_rfl) (by simp) ?_
     refine all1 ?_
     refine wpOp_of_list rfl ?_
     refine h_store (g := g458) (off := 0) H 10 rfl E rfl rfl rfl rfl tbok rfl rfl rfl rfl rfl ?_
     clear E; intro w464 a hc465 H_ E
     replace HS108 := HS108.trans hc465 (fun k_ hk_ h_ => hin463 k_ hk_ h_)
     replace H := H_; clear H_; try dsimp only [setn, addE, goneL] at H
     refine wpList_nil ?_
     refine th_n ⟨HS108, ?_⟩
     refine dr_done (by kernel_rfl) ?_
     exact .inl ⟨rfl, g458, A447, c448, (some ⟨g434, 0, none⟩), (some ⟨g382, 0, none⟩), E.pick _ ⟨rfl, rfl, rfl, trivial⟩, H.sel [5, 6, 10, 9, 8, 7] rfl⟩
    refine wpOp_of_list rfl ?_
    refine h_alloc H E rfl rfl tbok rfl ?_
    intro w467 g466 a hc468 hg470 H_ E_
    replace E := E_ _ rfl; clear E_
    have hin471 : ∀ q_, q_ < w37.heap.size → q_ = g466 → (atL []) q_ := fun q_ h1_ h2_ => by have hs_ := HS108.size; have h4_ : q_ = g466 := h2_; exfalso; omega
    replace HS108 := HS108.ext hc468
    replace H := H_; clear H_; try dsimp only [setn, addE, goneL] at H
    refine wpList_nil ?_
    refine th_n ⟨HS108, ?_⟩
    refine wpAnyH_all (rs := [1]) (by kernel_rfl) (by simp) ?_
    refine all1 ?_
    refine wpOp_of_list rfl ?_
    obtain ⟨Fa472, Hc473, hb474⟩ := H.call [] [(6, false)] rfl rfl trivial
    refine e_call E rfl rfl Try.func32 rfl rfl rfl (moore_game_ranks_calls b42 0 x45.1  Hc473 h67) ?_
    rintro v475 w476 a ⟨A479, c480, rfl, HR477⟩ E_
    replace E := E_ _ rfl; clear E_
    obtain ⟨H_, hc478⟩ := hb474 _ _ HR477 rfl
    replace HS108 := HS108.ext (callS_ext hc478)
    replace H := H_; clear H_; try dsimp only [setn, addE, goneL] at H
    refine wpList_nil ?_
    refine th_n ⟨HS108, ?_⟩
    refine wpAnyH_all (rs := [10]) (by kernel_rfl) (by simp) ?_
    refine all1 ?_
    refine wpOp_of_list rfl ?_
    refine e_build (ps := [(1, .slice A479 (List.length r66) c480), (2, .slice (some ⟨g434, 0, none⟩) (List.length (List.replicate (Int.toNat (((List.length aAccept) : Nat) : Int)) (0 : Int))) (Int.toNat (((List.length aAccept) : Nat) : Int))), (3, .slice (some ⟨g382, 0, none⟩) (List.length (List.replicate (Int.toNat (((List.length aAccept) : Nat) : Int)) ([] : List Int))) (Int.toNat (((List.length aAccept) : Nat) : Int)))]) (v := .agg #[.bool false, .slice A479 (List.length r66) c480, .slice (some ⟨g434, 0, none⟩) (List.length (List.replicate (Int.toNat (((List.length aAccept) : Nat) : Int)) (0 : Int))) (Int.toNat (((List.length aAccept) : Nat) : Int)), .slice (some ⟨g382, 0, none⟩) (List.length (List.replicate (Int.toNat (((List.length aAccept) : Nat) : Int)) ([] : List Int))) (Int.toNat (((List.length aAccept) : Nat) : Int))]) E rfl rfl tbok rfl (by kernel_rfl) rfl ?_
    clear E; intro a E
    refine wpList_nil ?_
    refine th_n ⟨HS108, ?_⟩
    refine wpAnyH_all (rs := [12]) (by kernel_rfl) (by simp) ?_
    refine all1 ?_
    refine wpOp_of_list rfl ?_
    refine h_store (g := g466) (off := 0) H 9 rfl E rfl rfl rfl rfl tbok rfl rfl rfl rfl rfl ?_
    clear E; intro w482 a hc483 H_ E
    replace HS108 := HS108.trans hc483 (fun k_ hk_ h_ => hin471 k_ hk_ h_)
    replace H := H_; clear H_; try dsimp only [setn, addE, goneL] at H
    refine wpList_nil ?_
    refine th_n ⟨HS108, ?_⟩
    refine dr_done (by kernel_rfl) ?_
    exact .inl ⟨rfl, g466, A479, c480, (some ⟨g434, 0, none⟩), (some ⟨g382, 0, none⟩), E.pick _ ⟨rfl, rfl, rfl, trivial⟩, H.sel [5, 6, 9, 10, 8, 7] rfl⟩
   refine wpOp_of_list rfl ?_
   refine h_alloc H E rfl rfl tbok rfl ?_
   intro w485 g484 a hc486 hg488 H_ E_
   replace E := E_ _ rfl; clear E_
   have hin489 : ∀ q_, q_ < w37.heap.size → q_ = g484 → (atL []) q_ := fun q_ h1_ h2_ => by have hs_ := HS108.size; have h4_ : q_ = g484 := h2_; exfalso; omega
   replace HS108 := HS108.ext hc486
   replace H := H_; clear H_; try dsimp only [setn, addE, goneL] at H
   refine wpList_nil ?_
   refine th_n ⟨HS108, ?_⟩
   refine wpAnyH_all (rs := [1, 5]) (by kernel_rfl) (by simp) ?_
   refine all2 ?_ ?_
   ·
    refine wpOp_of_list rfl ?_
    obtain ⟨Fa490, Hc491, hb492⟩ := H.call [] [(6, false)] rfl rfl trivial
    refine e_call E rfl rfl Try.func32 rfl rfl rfl (moore_game_ranks_calls b42 0 x45.1  Hc491 h67) ?_
    rintro v493 w494 a ⟨A497, c498, rfl, HR495⟩ E_
    replace E := E_ _ rfl; clear E_
    obtain ⟨H_, hc496⟩ := hb492 _ _ HR495 rfl
    replace HS108 := HS108.ext (callS_ext hc496)
    replace H := H_; clear H_; try dsimp only [setn, addE, goneL] at H
    refine wpList_nil ?_
    refine th_n ⟨HS108, ?_⟩
    refine wpAnyH_all (rs := [5]) (by kernel_rfl) (by simp) ?_
    refine all1 ?_
    refine wpOp_of_list rfl ?_
    refine h_make (cInt .u8) (0 : Int) H E rfl rfl tbok rfl rfl rfl rfl ⟨g78.1, Int.le_refl _, g78.2⟩ rfl rfl rfl (fun _ _ => rfl) ?_
    intro w501 g500 a hc502 hg504 H_ E_
    replace E := E_ _ rfl; clear E_
    have hin505 : ∀ q_, q_ < w37.heap.size → At (some ⟨g500, 0, none⟩) q_ → (atL []) q_ := fun q_ h1_ h2_ => by have hs_ := HS108.size; have h4_ : q_ = g500 := At.of_g h2_; exfalso; omega
    replace HS108 := HS108.ext hc502
    replace H := H_; clear H_; try dsimp only [setn, addE, goneL] at H
    refine wpList_nil ?_
    refine th_n ⟨HS108, ?_⟩
    refine wpAnyH_all (rs := [10]) (by kernel_rfl) (by simp) ?_
    refine all1 ?_
    refine wpOp_of_list rfl ?_
    refine e_build (ps := [(1, .slice A497 (List.length r66) c498), (2, .slice (some ⟨g500, 0, none⟩) (List.length (List.replicate (Int.toNat (((List.length aAccept) : Nat) : Int)) (0 : Int))) (Int.toNat (((List.length aAccept) : Nat) : Int))), (3, .slice (some ⟨g382, 0, none⟩) (List.length (List.replicate (Int.toNat (((List.length aAccept) : Nat) : Int)) ([] : List Int))) (Int.toNat (((List.length aAccept) : Nat) : Int)))]) (v := .agg #[.bool false, .slice A497 (List.length r66) c498, .slice (some ⟨g500, 0, none⟩) (List.length (List.replicate (Int.toNat (((List.length aAccept) : Nat) : Int)) (0 : Int))) (Int.toNat (((List.length aAccept) : Nat) : Int)), .slice (some ⟨g382, 0, none⟩) (List.length (List.replicate (Int.toNat (((List.length aAccept) : Nat) : Int)) ([] : List Int))) (Int.toNat (((List.length aAccept) : Nat) : Int))]) E rfl rfl tbok rfl (by kernel_rfl) rfl ?_
    clear E; intro a E
    refine wpList_nil ?_
    refine th_n ⟨HS108, ?_⟩
    refine wpAnyH_all (rs := [12]) (by kernel_rfl) (by simp) ?_
    refine all1 ?_
    refine wpOp_of_list rfl ?_
    refine h_store (g := g484) (off := 0) H 8 rfl E rfl rfl rfl rfl tbok rfl rfl rfl rfl rfl ?_
    clear E; intro w506 a hc507 H_ E
    replace HS108 := HS108.trans hc507 (fun k_ hk_ h_ => hin489 k_ hk_ h_)
    replace H := H_; clear H_; try dsimp only [setn, addE, goneL] at H
    refine wpList_nil ?_
    refine th_n ⟨HS108, ?_⟩
    refine dr_done (by kernel_rfl) ?_
    exact .inl ⟨rfl, g484, A497, c498, (some ⟨g500, 0, none⟩), (some ⟨g382, 0, none⟩), E.pick _ ⟨rfl, rfl, rfl, trivial⟩, H.sel [5, 6, 8, 9, 10, 7] rfl⟩
   refine wpOp_of_list rfl ?_
   refine h_make (cInt .u8) (0 : Int) H E rfl rfl tbok rfl rfl rfl rfl ⟨g78.1, Int.le_refl _, g78.2⟩ rfl rfl rfl (fun _ _ => rfl) ?_
   intro w509 g508 a hc510 hg512 H_ E_
   replace E := E_ _ rfl; clear E_
   have hin513 : ∀ q_, q_ < w37.heap.size → At (some ⟨g508, 0, none⟩) q_ → (atL []) q_ := fun q_ h1_ h2_ => by have hs_ := HS108.size; have h4_ : q_ = g508 := At.of_g h2_; exfalso; omega
   replace HS108 := HS108.ext hc510
   replace H := H_; clear H_; try dsimp only [setn, addE, goneL] at H
   refine wpList_nil ?_
   refine th_n ⟨HS108, ?_⟩
   refine wpAnyH_all (rs := [1]) (by kernel_rfl) (by simp) ?_
   refine all1 ?_
   refine wpOp_of_list rfl ?_
   obtain ⟨Fa514, Hc515, hb516⟩ := H.call [] [(6, false)] rfl rfl trivial
   refine e_call E rfl rfl Try.func32 rfl rfl rfl (moore_game_ranks_calls b42 0 x45.1  Hc515 h67) ?_
   rintro v517 w518 a ⟨A521, c522, rfl, HR519⟩ E_
   replace E := E_ _ rfl; clear E_
   obtain ⟨H_, hc520⟩ := hb516 _ _ HR519 rfl
   replace HS108 := HS108.ext (callS_ext hc520)
   replace H := H_; clear H_; try dsimp only [setn, addE, goneL] at H
   refine wpList_nil ?_
   refine th_n ⟨HS108, ?_⟩
   refine wpAnyH_all (rs := [10]) (by kernel_rfl) (by simp) ?_
   refine all1 ?_
   refine wpOp_of_list rfl ?_
   refine e_build (ps := [(1, .slice A521 (List.length r66) c522), (2, .slice (some ⟨g508, 0, none⟩) (List.length (List.replicate (Int.toNat (((List.length aAccept) : Nat) : Int)) (0 : Int))) (Int.toNat (((List.length aAccept) : Nat) : Int))), (3, .slice (some ⟨g382, 0, none⟩) (List.length (List.replicate (Int.toNat (((List.length aAccept) : Nat) : Int)) ([] : List Int))) (Int.toNat (((List.length aAccept) : Nat) : Int)))]) (v := .agg #[.bool false, .slice A521 (List.length r66) c522, .slice (some ⟨g508, 0, none⟩) (List.length (List.replicate (Int.toNat (((List.length aAccept) : Nat) : Int)) (0 : Int))) (Int.toNat (((List.length aAccept) : Nat) : Int)), .slice (some ⟨g382, 0, none⟩) (List.length (List.replicate (Int.toNat (((List.length aAccept) : Nat) : Int)) ([] : List Int))) (Int.toNat (((List.length aAccept) : Nat) : Int))]) E rfl rfl tbok rfl (by kernel_rfl) rfl ?_
   clear E; intro a E
   refine wpList_nil ?_
   refine th_n ⟨HS108, ?_⟩
   refine wpAnyH_all (rs := [12]) (by kernel_rfl) (by simp) ?_
   refine all1 ?_
   refine wpOp_of_list rfl ?_
   refine h_store (g := g484) (off := 0) H 8 rfl E rfl rfl rfl rfl tbok rfl rfl rfl rfl rfl ?_
   clear E; intro w524 a hc525 H_ E
   replace HS108 := HS108.trans hc525 (fun k_ hk_ h_ => hin489 k_ hk_ h_)
   replace H := H_; clear H_; try dsimp only [setn, addE, goneL] at H
   refine wpList_nil ?_
   refine th_n ⟨HS108, ?_⟩
   refine dr_done (by kernel_rfl) ?_
   exact .inl ⟨rfl, g484, A521, c522, (some ⟨g508, 0, none⟩), (some ⟨g382, 0, none⟩), E.pick _ ⟨rfl, rfl, rfl, trivial⟩, H.sel [5, 6, 8, 10, 9, 7] rfl⟩
  refine wpOp_of_list rfl ?_
  refine h_alloc H E rfl rfl tbok rfl ?_
  intro w527 g526 a hc528 hg530 H_ E_
  replace E := E_ _ rfl; clear E_
  have hin531 : ∀ q_, q_ < w37.heap.size → q_ = g526 → (atL []) q_ := fun q_ h1_ h2_ => by have hs_ := HS108.size; have h4_ : q_ = g526 := h2_; exfalso; omega
  replace HS108 := HS108.ext hc528
  replace H := H_; clear H_; try dsimp only [setn, addE, goneL] at H
  refine wpList_nil ?_
  refine th_n ⟨HS108, ?_⟩
  refine wpAnyH_all (rs := [1, 5, 9]) (by kernel_rfl) (by simp) ?_
  refine all3 ?_ ?_ ?_
  ·
   refine wpOp_of_list rfl ?_
   obtain ⟨Fa532, Hc533, hb534⟩ := H.call [] [(6, false)] rfl rfl trivial
   refine e_call E rfl rfl Try.func32 rfl rfl rfl (moore_game_ranks_calls b42 0 x45.1  Hc533 h67) ?_
   rintro v535 w536 a ⟨A539, c540, rfl, HR537⟩ E_
   replace E := E_ _ rfl; clear E_
   obtain ⟨H_, hc538⟩ := hb534 _ _ HR537 rfl
   replace HS108 := HS108.ext (callS_ext hc538)
   replace H := H_; clear H_; try dsimp only [setn, addE, goneL] at H
   refine wpList_nil ?_
   refine th_n ⟨HS108, ?_⟩
   refine wpAnyH_all (rs := [5, 9]) (by kernel_rfl) (by simp) ?_
   refine all2 ?_ ?_
   ·
    refine wpOp_of_list rfl ?_
    refine h_make (cInt .u8) (0 : Int) H E rfl rfl tbok rfl rfl rfl rfl ⟨g78.1, Int.le_refl _, g78.2⟩ rfl rfl rfl (fun _ _ => rfl) ?_
    intro w543 g542 a hc544 hg546 H_ E_
    replace E := E_ _ rfl; clear E_
    have hin547 : ∀ q_, q_ < w37.heap.size → At (some ⟨g542, 0, none⟩) q_ → (atL []) q_ := fun q_ h1_ h2_ => by have hs_ := HS108.size; have h4_ : q_ = g542 := At.of_g h2_; exfalso; omega
    replace HS108 := HS108.ext hc544
    replace H := H_; clear H_; try dsimp only [setn, addE, goneL] at H
    refine wpList_nil ?_
    refine th_n ⟨HS108, ?_⟩
    refine wpAnyH_all (rs := [9]) (by kernel_rfl) (by simp) ?_
    refine all1 ?_
    refine wpOp_of_list rfl ?_
    refine h_make (cSl (cInt .u8)) ([] : List Int) H E rfl rfl tbok rfl rfl rfl rfl ⟨g78.1, Int.le_refl _, g78.2⟩ rfl rfl rfl (fun _ _ => kSl_nil) ?_
    intro w549 g548 a hc550 hg552 H_ E_
    replace E := E_ _ rfl; clear E_
    have hin553 : ∀ q_, q_ < w37.heap.size → At (some ⟨g548, 0, none⟩) q_ → (atL []) q_ := fun q_ h1_ h2_ => by have hs_ := HS108.size; have h4_ : q_ = g548 := At.of_g h2_; exfalso; omega
    replace HS108 := HS108.ext hc550
    replace H := H_; clear H_; try dsimp only [setn, addE, goneL] at H
    refine wpList_nil ?_
    refine th_n ⟨HS108, ?_⟩
    refine wpAnyH_all (rs := [10]) (by kernel_rfl) (by simp) ?_
    refine all1 ?_
    refine wpOp_of_list rfl ?_
    refine e_build (ps := [(1, .slice A539 (List.length r66) c540), (2, .slice (some ⟨g542, 0, none⟩) (List.length (List.replicate (Int.toNat (((List.length aAccept) : Nat) : Int)) (0 : Int))) (Int.toNat (((List.length aAccept) : Nat) : Int))), (3, .slice (some ⟨g548, 0, none⟩) (List.length (List.replicate (Int.toNat (((List.length aAccept) : Nat) : Int)) ([] : List Int))) (Int.toNat (((List.length aAccept) : Nat) : Int)))]) (v := .agg #[.bool false, .slice A539 (List.length r66) c540, .slice (some ⟨g542, 0, none⟩) (List.length (List.replicate (Int.toNat (((List.length aAccept) : Nat) : Int)) (0 : Int))) (Int.toNat (((List.length aAccept) : Nat) : Int)), .slice (some ⟨g548, 0, none⟩) (List.length (List.replicate (Int.toNat (((List.length aAccept) : Nat) : Int)) ([] : List Int))) (Int.toNat (((List.length aAccept) : Nat) : Int))]) E rfl rfl tbok rfl (by kernel_rfl) rfl ?_
    clear E; intro a E
    refine wpList_nil ?_
    refine th_n ⟨HS108, ?_⟩
    refine wpAnyH_all (rs := [12]) (by kernel_rfl) (by simp) ?_
    refine all1 ?_
    refine wpOp_of_list rfl ?_
    refine h_store (g := g526) (off := 0) H 7 rfl E rfl rfl rfl rfl tbok rfl rfl rfl rfl rfl ?_
    clear E; intro w554 a hc555 H_ E
    replace HS108 := HS108.trans hc555 (fun k_ hk_ h_ => hin531 k_ hk_ h_)
    replace H := H_; clear H_; try dsimp only [setn, addE, goneL] at H
    refine wpList_nil ?_
    refine th_n ⟨HS108, ?_⟩
    refine dr_done (by kernel_rfl) ?_
    exact .inl ⟨rfl, g526, A539, c540, (some ⟨g542, 0, none⟩), (some ⟨g548, 0, none⟩), E.pick _ ⟨rfl, rfl, rfl, trivial⟩, H.sel [5, 6, 7, 8, 9, 10] rfl⟩
   refine wpOp_of_list rfl ?_
   refine h_make (cSl (cInt .u8)) ([] : List Int) H E rfl rfl tbok rfl rfl rfl rfl ⟨g78.1, Int.le_refl _, g78.2⟩ rfl rfl rfl (fun _ _ => kSl_nil) ?_
   intro w557 g556 a hc558 hg560 H_ E_
   replace E := E_ _ rfl; clear E_
   have hin561 : ∀ q_, q_ < w37.heap.size → At (some ⟨g556, 0, none⟩) q_ → (atL []) q_ := fun q_ h1_ h2_ => by have hs_ := HS108.size; have h4_ : q_ = g556 := At.of_g h2_; exfalso; omega
   replace HS108 := HS108.ext hc558
   replace H := H_; clear H_; try dsimp only [setn, addE, goneL] at H
   refine wpList_nil ?_
   refine th_n ⟨HS108, ?_⟩
   refine wpAnyH_all (rs := [5]) (by kernel_rfl) (by simp) ?_
   refine all1 ?_
   refine wpOp_of_list rfl ?_
   refine h_make (cInt .u8) (0 : Int) H E rfl rfl tbok rfl rfl rfl rfl ⟨g78.1, Int.le_refl _, g78.2⟩ rfl rfl rfl (fun _ _ => rfl) ?_
   intro w563 g562 a hc564 hg566 H_ E_
   replace E := E_ _ rfl; clear E_
   have hin567 : ∀ q_, q_ < w37.heap.size → At (some ⟨g562, 0, none⟩) q_ → (atL []) q_ := fun q_ h1_ h2_ => by have hs_ := HS108.size; have h4_ : q_ = g562 := At.of_g h2_; exfalso; omega
   replace HS108 := HS108.ext hc564
   replace H := H_; clear H_; try dsimp only [setn, addE, goneL] at H
   refine wpList_nil ?_
   refine th_n ⟨HS108, ?_⟩
   refine wpAnyH_all (rs := [10]) (by kernel_rfl) (by simp) ?_
   refine all1 ?_
   refine wpOp_of_list rfl ?_
   refine e_build (ps := [(1, .slice A539 (List.length r66) c540), (2, .slice (some ⟨g562, 0, none⟩) (List.length (List.replicate (Int.toNat (((List.length aAccept) : Nat) : Int)) (0 : Int))) (Int.toNat (((List.length aAccept) : Nat) : Int))), (3, .slice (some ⟨g556, 0, none⟩) (List.length (List.replicate (Int.toNat (((List.length aAccept) : Nat) : Int)) ([] : List Int))) (Int.toNat (((List.length aAccept) : Nat) : Int)))]) (v := .agg #[.bool false, .slice A539 (List.length r66) c540, .slice (some ⟨g562, 0, none⟩) (List.length (List.replicate (Int.toNat (((List.length aAccept) : Nat) : Int)) (0 : Int))) (Int.toNat (((List.length aAccept) : Nat) : Int)), .slice (some ⟨g556, 0, none⟩) (List.length (List.replicate (Int.toNat (((List.length aAccept) : Nat) : Int)) ([] : List Int))) (Int.toNat (((List.length aAccept) : Nat) : Int))]) E rfl rfl tbok rfl (by kernel_rfl) rfl ?_
   clear E; intro a E
   refine wpList_nil ?_
   refine th_n ⟨HS108, ?_⟩
   refine wpAnyH_all (rs := [12]) (by kernel_rfl) (by simp) ?_
   refine all1 ?_
   refine wpOp_of_list rfl ?_
   refine h_store (g := g526) (off := 0) H 7 rfl E rfl rfl rfl rfl tbok rfl rfl rfl rfl rfl ?_
   clear E; intro w568 a hc569 H_ E
   replace HS108 := HS108.trans hc569 (fun k_ hk_ h_ => hin531 k_ hk_ h_)
   replace H := H_; clear H_; try dsimp only [setn, addE, goneL] at H
   refine wpList_nil ?_
   refine th_n ⟨HS108, ?_⟩
   refine dr_done (by kernel_rfl) ?_
   exact .inl ⟨rfl, g526, A539, c540, (some ⟨g562, 0, none⟩), (some ⟨g556, 0, none⟩), E.pick _ ⟨rfl, rfl, rfl, trivial⟩, H.sel [5, 6, 7, 8, 10, 9] rfl⟩
  ·
   refine wpOp_of_list rfl ?_
   refine h_make (cInt .u8) (0 : Int) H E rfl rfl tbok rfl rfl rfl rfl ⟨g78.1, Int.le_refl _, g78.2⟩ rfl rfl rfl (fun _ _ => rfl) ?_
   intro w571 g570 a hc572 hg574 H_ E_
   replace E := E_ _ rfl; clear E_
   have hin575 : ∀ q_, q_ < w37.heap.size → At (some ⟨g570, 0, none⟩) q_ → (atL []) q_ := fun q_ h1_ h2_ => by have hs_ := HS108.size; have h4_ : q_ = g570 := At.of_g h2_; exfalso; omega
   replace HS108 := HS108.ext hc572
   replace H := H_; clear H_; try dsimp only [setn, addE, goneL] at H
   refine wpList_nil ?_
   refine th_n ⟨HS108, ?_⟩
   refine wpAnyH_all (rs := [1, 9]) (by kernel_rfl) (by simp) ?_
   refine all2 ?_ ?_
   ·
    refine wpOp_of_list rfl ?_
    obtain ⟨Fa576, Hc577, hb578⟩ := H.call [] [(6, false)] rfl rfl trivial
    refine e_call E rfl rfl Try.func32 rfl rfl rfl (moore_game_ranks_calls b42 0 x45.1  Hc577 h67) ?_
    rintro v579 w580 a ⟨A583, c584, rfl, HR581⟩ E_
    replace E := E_ _ rfl; clear E_
    obtain ⟨H_, hc582⟩ := hb578 _ _ HR581 rfl
    replace HS108 := HS108.ext (callS_ext hc582)
    replace H := H_; clear H_; try dsimp only [setn, addE, goneL] at H
    refine wpList_nil ?_
    refine th_n ⟨HS108, ?_⟩
    refine wpAnyH_all (rs := [9]) (by kernel_rfl) (by simp) ?_
    refine all1 ?_
    refine wpOp_of_list rfl ?_
    refine h_make (cSl (cInt .u8)) ([] : List Int) H E rfl rfl tbok rfl rfl rfl rfl ⟨g78.1, Int.le_refl _, g78.2⟩ rfl rfl rfl (fun _ _ => kSl_nil) ?_
    intro w587 g586 a hc588 hg590 H_ E_
    replace E := E_ _ rfl; clear E_
    have hin591 : ∀ q_, q_ < w37.heap.size → At (some ⟨g586, 0, none⟩) q_ → (atL []) q_ := fun q_ h1_ h2_ => by have hs_ := HS108.size; have h4_ : q_ = g586 := At.of_g h2_; exfalso; omega
    replace HS108 := HS108.ext hc588
    replace H := H_; clear H_; try dsimp only [setn, addE, goneL] at H
    refine wpList_nil ?_
    refine th_n ⟨HS108, ?_⟩
    refine wpAnyH_all (rs := [10]) (by kernel_rfl) (by simp) ?_
    refine all1 ?_
    refine wpOp_of_list rfl ?_
    refine e_build (ps := [(1, .slice A583 (List.length r66) c584), (2, .slice (some ⟨g570, 0, none⟩) (List.length (List.replicate (Int.toNat (((List.length aAccept) : Nat) : Int)) (0 : Int))) (Int.toNat (((List.length aAccept) : Nat) : Int))), (3, .slice (some ⟨g586, 0, none⟩) (List.length (List.replicate (Int.toNat (((List.length aAccept) : Nat) : Int)) ([] : List Int))) (Int.toNat (((List.length aAccept) : Nat) : Int)))]) (v := .agg #[.bool false, .slice A583 (List.length r66) c584, .slice (some ⟨g570, 0, none⟩) (List.length (List.replicate (Int.toNat (((List.length aAccept) : Nat) : Int)) (0 : Int))) (Int.toNat (((List.length aAccept) : Nat) : Int)), .slice (some ⟨g586, 0, none⟩) (List.length (List.replicate (Int.toNat (((List.length aAccept) : Nat) : Int)) ([] : List Int))) (Int.toNat (((List.length aAccept) : Nat) : Int))]) E rfl rfl tbok rfl (by kernel_rfl) rfl ?_
    clear E; intro a E
    refine wpList_nil ?_
    refine th_n ⟨HS108, ?_⟩
    refine wpAnyH_all (rs := [12]) (by kernel_rfl) (by simp) ?_
    refine all1 ?_
    refine wpOp_of_list rfl ?_
    refine h_store (g := g526) (off := 0) H 7 rfl E rfl rfl rfl rfl tbok rfl rfl rfl rfl rfl ?_
    clear E; intro w592 a hc593 H_ E
    replace HS108 := HS108.trans hc593 (fun k_ hk_ h_ => hin531 k_ hk_ h_)
    replace H := H_; clear H_; try dsimp only [setn, addE, goneL] at H
    refine wpList_nil ?_
    refine th_n ⟨HS108, ?_⟩
    refine dr_done (by kernel_rfl) ?_
    exact .inl ⟨rfl, g526, A583, c584, (some ⟨g570, 0, none⟩), (some ⟨g586, 0, none⟩), E.pick _ ⟨rfl, rfl, rfl, trivial⟩, H.sel [5, 6, 7, 9, 8, 10] rfl⟩
   refine wpOp_of_list rfl ?_
   refine h_make (cSl (cInt .u8)) ([] : List Int) H E rfl rfl tbok rfl rfl rfl rfl ⟨g78.1, Int.le_refl _, g78.2⟩ rfl rfl rfl (fun _ _ => kSl_nil) ?_
   intro w595 g594 a hc596 hg598 H_ E_
   replace E := E_ _ rfl; clear E_
   have hin599 : ∀ q_, q_ < w37.heap.size → At (some ⟨g594, 0, none⟩) q_ → (atL []) q_ := fun q_ h1_ h2_ => by have hs_ := HS108.size; have h4_ : q_ = g594 := At.of_g h2_; exfalso; omega
   replace HS108 := HS108.ext hc596
   replace H := H_; clear H_; try dsimp only [setn, addE, goneL] at H
   refine wpList_nil ?_
   refine th_n ⟨HS108, ?_⟩
   refine wpAnyH_all (rs := [1]) (by kernel_rfl) (by simp) ?_
   refine all1 ?_
   refine wpOp_of_list rfl ?_
   obtain ⟨Fa600, Hc601, hb602⟩ := H.call [] [(6, false)] rfl rfl trivial
   refine e_call E rfl rfl Try.func32 rfl rfl rfl (moore_game_ranks_calls b42 0 x45.1  Hc601 h67) ?_
   rintro v603 w604 a ⟨A607, c608, rfl, HR605⟩ E_
   replace E := E_ _ rfl; clear E_
   obtain ⟨H_, hc606⟩ := hb602 _ _ HR605 rfl
   replace HS108 := HS108.ext (callS_ext hc606)
   replace H := H_; clear H_; try dsimp only [setn, addE, goneL] at H
   refine wpList_nil ?_
   refine th_n ⟨HS108, ?_⟩
   refine wpAnyH_all (rs := [10]) (by kernel_rfl) (by simp) ?_
   refine all1 ?_
   refine wpOp_of_list rfl ?_
   refine e_build (ps := [(1, .slice A607 (List.length r66) c608), (2, .slice (some ⟨g570, 0, none⟩) (List.length (List.replicate (Int.toNat (((List.length aAccept) : Nat) : Int)) (0 : Int))) (Int.toNat (((List.length aAccept) : Nat) : Int))), (3, .slice (some ⟨g594, 0, none⟩) (List.length (List.replicate (Int.toNat (((List.length aAccept) : Nat) : Int)) ([] : List Int))) (Int.toNat (((List.length aAccept) : Nat) : Int)))]) (v := .agg #[.bool false, .slice A607 (List.length r66) c608, .slice (some ⟨g570, 0, none⟩) (List.length (List.replicate (Int.toNat (((List.length aAccept) : Nat) : Int)) (0 : Int))) (Int.toNat (((List.length aAccept) : Nat) : Int)), .slice (some ⟨g594, 0, none⟩) (List.length (List.replicate (Int.toNat (((List.length aAccept) : Nat) : Int)) ([] : List Int))) (Int.toNat (((List.length aAccept) : Nat) : Int))]) E rfl rfl tbok rfl (by kernel_rfl) rfl ?_
   clear E; intro a E
   refine wpList_nil ?_
   refine th_n ⟨HS108, ?_⟩
   refine wpAnyH_all (rs := [12]) (by kernel_rfl) (by simp) ?_
   refine all1 ?_
   refine wpOp_of_list rfl ?_
   refine h_store (g := g526) (off := 0) H 7 rfl E rfl rfl rfl rfl tbok rfl rfl rfl rfl rfl ?_
   clear E; intro w610 a hc611 H_ E
   replace HS108 := HS108.trans hc611 (fun k_ hk_ h_ => hin531 k_ hk_ h_)
   replace H := H_; clear H_; try dsimp only [setn, addE, goneL] at H
   refine wpList_nil ?_
   refine th_n ⟨HS108, ?_⟩
   refine dr_done (by kernel_rfl) ?_
   exact .inl ⟨rfl, g526, A607, c608, (some ⟨g570, 0, none⟩), (some ⟨g594, 0, none⟩), E.pick _ ⟨rfl, rfl, rfl, trivial⟩, H.sel [5, 6, 7, 10, 8, 9] rfl⟩
  refine wpOp_of_list rfl ?_
  refine h_make (cSl (cInt .u8)) ([] : List Int) H E rfl rfl tbok rfl rfl rfl rfl ⟨g78.1, Int.le_refl _, g78.2⟩ rfl rfl rfl (fun _ _ => kSl_nil) ?_
  intro w613 g612 a hc614 hg616 H_ E_
  replace E := E_ _ rfl; clear E_
  have hin617 : ∀ q_, q_ < w37.heap.size → At (some ⟨g612, 0, none⟩) q_ → (atL []) q_ := fun q_ h1_ h2_ => by have hs_ := HS108.size; have h4_ : q_ = g612 := At.of_g h2_; exfalso; omega
  replace HS108 := HS108.ext hc614
  replace H := H_; clear H_; try dsimp only [setn, addE, goneL] at H
  refine wpList_nil ?_
  refine th_n ⟨HS108, ?_⟩
  refine wpAnyH_all (rs := [1, 5]) (by kernel_rfl) (by simp) ?_
  refine all2 ?_ ?_
  ·
   refine wpOp_of_list rfl ?_
   obtain ⟨Fa618, Hc619, hb620⟩ := H.call [] [(6, false)] rfl rfl trivial
   refine e_call E rfl rfl Try.func32 rfl rfl rfl (moore_game_ranks_calls b42 0 x45.1  Hc619 h67) ?_
   rintro v621 w622 a ⟨A625, c626, rfl, HR623⟩ E_
   replace E := E_ _ rfl; clear E_
   obtain ⟨H_, hc624⟩ := hb620 _ _ HR623 rfl
   replace HS108 := HS108.ext (callS_ext hc624)
   replace H := H_; clear H_; try dsimp only [setn, addE, goneL] at H
   refine wpList_nil ?_
   refine th_n ⟨HS108, ?_⟩
   refine wpAnyH_all (rs := [5]) (by kernel_rfl) (by simp) ?_
   refine all1 ?_
   refine wpOp_of_list rfl ?_
   refine h_make (cInt .u8) (0 : Int) H E rfl rfl tbok rfl rfl rfl rfl ⟨g78.1, Int.le_refl _, g78.2⟩ rfl rfl rfl (fun _ _ => rfl) ?_
   intro w629 g628 a hc630 hg632 H_ E_
   replace E := E_ _ rfl; clear E_
   have hin633 : ∀ q_, q_ < w37.heap.size → At (some ⟨g628, 0, none⟩) q_ → (atL []) q_ := fun q_ h1_ h2_ => by have hs_ := HS108.size; have h4_ : q_ = g628 := At.of_g h2_; exfalso; omega
   replace HS108 := HS108.ext hc630
   replace H := H_; clear H_; try dsimp only [setn, addE, goneL] at H
   refine wpList_nil ?_
   refine th_n ⟨HS108, ?_⟩
   refine wpAnyH_all (rs := [10]) (by kernel_rfl) (by simp) ?_
   refine all1 ?_
   refine wpOp_of_list rfl ?_
   refine e_build (ps := [(1, .slice A625 (List.length r66) c626), (2, .slice (some ⟨g628, 0, none⟩) (List.length (List.replicate (Int.toNat (((List.length aAccept) : Nat) : Int)) (0 : Int))) (Int.toNat (((List.length aAccept) : Nat) : Int))), (3, .slice (some ⟨g612, 0, none⟩) (List.length (List.replicate (Int.toNat (((List.length aAccept) : Nat) : Int)) ([] : List Int))) (Int.toNat (((List.length aAccept) : Nat) : Int)))]) (v := .agg #[.bool false, .slice A625 (List.length r66) c626, .slice (some ⟨g628, 0, none⟩) (List.length (List.replicate (Int.toNat (((List.length aAccept) : Nat) : Int)) (0 : Int))) (Int.toNat (((List.length aAccept) : Nat) : Int)), .slice (some ⟨g612, 0, none⟩) (List.length (List.replicate (Int.toNat (((List.length aAccept) : Nat) : Int)) ([] : List Int))) (Int.toNat (((List.length aAccept) : Nat) : Int))]) E rfl rfl tbok rfl (by kernel_rfl) rfl ?_
   clear E; intro a E
   refine wpList_nil ?_
   refine th_n ⟨HS108, ?_⟩
   refine wpAnyH_all (rs := [12]) (by kernel_rfl) (by simp) ?_
   refine all1 ?_
   refine wpOp_of_list rfl ?_
   refine h_store (g := g526) (off := 0) H 7 rfl E rfl rfl rfl rfl tbok rfl rfl rfl rfl rfl ?_
   clear E; intro w634 a hc635 H_ E
   replace HS108 := HS108.trans hc635 (fun k_ hk_ h_ => hin531 k_ hk_ h_)
   replace H := H_; clear H_; try dsimp only [setn, addE, goneL] at H
   refine wpList_nil ?_
   refine th_n ⟨HS108, ?_⟩
   refine dr_done (by kernel_rfl) ?_
   exact .inl ⟨rfl, g526, A625, c626, (some ⟨g628, 0, none⟩), (some ⟨g612, 0, none⟩), E.pick _ ⟨rfl, rfl, rfl, trivial⟩, H.sel [5, 6, 7, 9, 10, 8] rfl⟩
  refine wpOp_of_list rfl ?_
  refine h_make (cInt .u8) (0 : Int) H E rfl rfl tbok rfl rfl rfl rfl ⟨g78.1, Int.le_refl _, g78.2⟩ rfl rfl rfl (fun _ _ => rfl) ?_
  intro w637 g636 a hc638 hg640 H_ E_
  replace E := E_ _ rfl; clear E_
  have hin641 : ∀ q_, q_ < w37.heap.size → At (some ⟨g636, 0, none⟩) q_ → (atL []) q_ := fun q_ h1_ h2_ => by have hs_ := HS108.size; have h4_ : q_ = g636 := At.of_g h2_; exfalso; omega
  replace HS108 := HS108.ext hc638
  replace H := H_; clear H_; try dsimp only [setn, addE, goneL] at H
  refine wpList_nil ?_
  refine th_n ⟨HS108, ?_⟩
  refine wpAnyH_all (rs := [1]) (by kernel_rfl) (by simp) ?_
  refine all1 ?_
  refine wpOp_of_list rfl ?_
  obtain ⟨Fa642, Hc643, hb644⟩ := H.call [] [(6, false)] rfl rfl trivial
  refine e_call E rfl rfl Try.func32 rfl rfl rfl (moore_game_ranks_calls b42 0 x45.1  Hc643 h67) ?_
  rintro v645 w646 a ⟨A649, c650, rfl, HR647⟩ E_
  replace E := E_ _ rfl; clear E_
  obtain ⟨H_, hc648⟩ := hb644 _ _ HR647 rfl
  replace HS108 := HS108.ext (callS_ext hc648)
  replace H := H_; clear H_; try dsimp only [setn, addE, goneL] at H
  refine wpList_nil ?_
  refine th_n ⟨HS108, ?_⟩
  refine wpAnyH_all (rs := [10]) (by kernel_rfl) (by simp) ?_
  refine all1 ?_
  refine wpOp_of_list rfl ?_
  refine e_build (ps := [(1, .slice A649 (List.length r66) c650), (2, .slice (some ⟨g636, 0, none⟩) (List.length (List.replicate (Int.toNat (((List.length aAccept) : Nat) : Int)) (0 : Int))) (Int.toNat (((List.length aAccept) : Nat) : Int))), (3, .slice (some ⟨g612, 0, none⟩) (List.length (List.replicate (Int.toNat (((List.length aAccept) : Nat) : Int)) ([] : List Int))) (Int.toNat (((List.length aAccept) : Nat) : Int)))]) (v := .agg #[.bool false, .slice A649 (List.length r66) c650, .slice (some ⟨g636, 0, none⟩) (List.length (List.replicate (Int.toNat (((List.length aAccept) : Nat) : Int)) (0 : Int))) (Int.toNat (((List.length aAccept) : Nat) : Int)), .slice (some ⟨g612, 0, none⟩) (List.length (List.replicate (Int.toNat (((List.length aAccept) : Nat) : Int)) ([] : List Int))) (Int.toNat (((List.length aAccept) : Nat) : Int))]) E rfl rfl tbok rfl (by kernel_rfl) rfl ?_
  clear E; intro a E
  refine wpList_nil ?_
  refine th_n ⟨HS108, ?_⟩
  refine wpAnyH_all (rs := [12]) (by kernel_rfl) (by simp) ?_
  refine all1 ?_
  refine wpOp_of_list rfl ?_
  refine h_store (g := g526) (off := 0) H 7 rfl E rfl rfl rfl rfl tbok rfl rfl rfl rfl rfl ?_
  clear E; intro w652 a hc653 H_ E
  replace HS108 := HS108.trans hc653 (fun k_ hk_ h_ => hin531 k_ hk_ h_)
  replace H := H_; clear H_; try dsimp only [setn, addE, goneL] at H
  refine wpList_nil ?_
  refine th_n ⟨HS108, ?_⟩
  refine dr_done (by kernel_rfl) ?_
  exact .inl ⟨rfl, g526, A649, c650, (some ⟨g636, 0, none⟩), (some ⟨g612, 0, none⟩), E.pick _ ⟨rfl, rfl, rfl, trivial⟩, H.sel [5, 6, 7, 10, 9, 8] rfl⟩
 clear E H; rintro a w105 ⟨g97, A99, c100, A102, A104, E, H⟩
 refine th_n ?_
 refine wp_seq ?_
 refine wp_region_lit ?_
 obtain ⟨g654, hP⟩ := ask_inv hP
 obtain ⟨b655, e_b655⟩ := H.raddr 3 rfl (idx_pos g654)
 subst e_b655
 refine vn tbok 6 [.slice (some ⟨b655, 0, none⟩) (List.length r66) c100, .int .i64 (List.getD r66 (Int.toNat (0 : Int)) 0)] [(36, .bool (decide (0 ≤ (List.getD r66 (Int.toNat (0 : Int)) 0)))), (37, .pointer (some ⟨g97, 0, none⟩))] [World.cell? w105 ⟨g97, 1, none⟩ = some (.slice (some ⟨b655, 0, none⟩) (List.length r66) c100), 0 ≤ (0 : Int) ∧ (0 : Int) < (((List.length r66) : Nat) : Int), World.cell? w105 ⟨b655, 0 + (Int.toNat (0 : Int)) * 1, none⟩ = some (.int .i64 (List.getD r66 (Int.toNat (0 : Int)) 0))] E (by kernel_rfl) (by kernel_rfl) ⟨(H.box 2 rfl).cell (j := 1) rfl, g654, Rds.at1 (H.rd 3 rds_row) 0 g654⟩ ?_
 clear E; intro a E
 refine h_store (g := g97) (off := 0) H 2 rfl E rfl rfl rfl rfl tbok rfl rfl rfl rfl rfl ?_
 clear E; intro w657 a hc658 H_ E
 replace H := H_; clear H_; try dsimp only [setn, addE, goneL] at H
 refine wpList_nil ?_
 refine th_n ?_
 refine wp_seq ?_
 refine wp_seq ?_
 refine wp_region_lit ?_
 refine vn tbok 4 [.slice (some ⟨b655, 0, none⟩) (List.length r66) c100] [(39, .slice (some ⟨b655, 0, none⟩) (List.length r66) c100), (40, .int .i64 (((List.length r66) : Nat) : Int)), (41, .int .i64 0)] [World.cell? w657 ⟨g97, 1, none⟩ = some (.slice (some ⟨b655, 0, none⟩) (List.length r66) c100)] E (by kernel_rfl) (by kernel_rfl) ((H.box 2 rfl).cell (j := 1) rfl) ?_
 clear E; intro a E
 refine wpList_nil ?_
 refine th_n ?_
 refine wp_block ?_
 obtain ⟨x813, hL814, hK815⟩ := bind_inv hP
 clear hP
 refine loop_cut (fun i_ a w_ => (i_ = 0 ∧ ∃ (x818 : (List Int) × (List (List Int))), Fr a 72 [(4, .pointer (some ⟨g23, 0, none⟩)), (8, .pointer (some ⟨g97, 0, none⟩))] ∧ Hp S Fa w0 w_ [.box g23 38 [.bool false, .slice none 0 0, .slice none 0 0, .slice none 0 0], .box g97 38 [.bool (decide (0 ≤ (List.getD r66 (Int.toNat (0 : Int)) 0))), .slice (some ⟨b655, 0, none⟩) (List.length r66) c100, .slice A102 (List.length x818.1) (Int.toNat (((List.length aAccept) : Nat) : Int)), .slice A104 (List.length x818.2) (Int.toNat (((List.length aAccept) : Nat) : Int))], .row true (cInt .i64) 3 (some ⟨b655, 0, none⟩) c100 r66, .rowx true (cInt .u8) 27 A102 (Int.toNat (((List.length aAccept) : Nat) : Int)) x818.1 (List.replicate (Int.toNat (((List.length aAccept) : Nat) : Int) - Int.toNat (((List.length aAccept) : Nat) : Int)) (0 : Int)), .rowx true (cSl (cInt .u8)) 35 A104 (Int.toNat (((List.length aAccept) : Nat) : Int)) x818.2 (List.replicate (Int.toNat (((List.length aAccept) : Nat) : Int) - Int.toNat (((List.length aAccept) : Nat) : Int)) ([] : List Int))] ∧ x813 = x818)) ?_ ?_
 ·
  refine loopV (fun m817 a w816 => ∃ (x731 : List Int) (x732 : List (List Int)) (x733 : Int), Fr a 72 [(4, .pointer (some ⟨g23, 0, none⟩)), (6, .pointer (some ⟨b42, 0, none⟩)), (8, .pointer (some ⟨g97, 0, none⟩)), (39, .slice (some ⟨b655, 0, none⟩) (List.length r66) c100), (40, .int .i64 (((List.length r66) : Nat) : Int)), (41, .int .i64 x733)] ∧ Hp S Fa w0 w816 [.box g23 38 [.bool false, .slice none 0 0, .slice none 0 0, .slice none 0 0], .ro false cS87 (some ⟨b42, 0, none⟩) ([x45.1]), .box g97 38 [.bool (decide (0 ≤ (List.getD r66 (Int.toNat (0 : Int)) 0))), .slice (some ⟨b655, 0, none⟩) (List.length r66) c100, .slice A102 (List.length x731) (Int.toNat (((List.length aAccept) : Nat) : Int)), .slice A104 (List.length x732) (Int.toNat (((List.length aAccept) : Nat) : Int))], .row true (cInt .i64) 3 (some ⟨b655, 0, none⟩) c100 r66, .rowx true (cInt .u8) 27 A102 (Int.toNat (((List.length aAccept) : Nat) : Int)) x731 (List.replicate (Int.toNat (((List.length aAccept) : Nat) : Int) - Int.toNat (((List.length aAccept) : Nat) : Int)) (0 : Int)), .rowx true (cSl (cInt .u8)) 35 A104 (Int.toNat (((List.length aAccept) : Nat) : Int)) x732 (List.replicate (Int.toNat (((List.length aAccept) : Nat) : Int) - Int.toNat (((List.length aAccept) : Nat) : Int)) ([] : List Int))] ∧ moore_Of_l0 N x45 r66 m817 x731 x732 x733 = some x813) N ?_ ?_
  ·
   exact ⟨List.replicate (Int.toNat (((List.length aAccept) : Nat) : Int)) (0 : Int), List.replicate (Int.toNat (((List.length aAccept) : Nat) : Int)) ([] : List Int), 0, E.pick _ ⟨rfl, rfl, rfl, rfl, rfl, rfl, trivial⟩, H.sel [0, 1, 2, 3, 4, 5] rfl, hL814⟩
  clear E H hL814; intro m817 a w816 hI_
  obtain ⟨x731, x732, x733, E, H, hP⟩ := hI_
  obtain ⟨m812, rfl⟩ : ∃ q_, m817 = q_ + 1 := by cases m817 with | zero => rw [moore_Of_l0] at hP; cases hP | succ q_ => exact ⟨q_, rfl⟩
  rw [moore_Of_l0] at hP
  refine wp_seq ?_
  refine wp_region_lit ?_
  refine vn tbok 1 [] [(42, .bool (decide (x733 < (((List.length r66) : Nat) : Int))))] [] E (by kernel_rfl) (by kernel_rfl) trivial ?_
  clear E; intro a E
  refine wpList_nil ?_
  refine th_n ?_
  refine wp_seq ?_
  refine E.cases (t := 42) rfl (fun hb_ E_ => ?_) (fun hb_ E_ => ?_)
  ·
   replace E := E_; clear E_
   have h819 : x733 < (((List.length r66) : Nat) : Int) := of_decide_eq_true hb_
   clear hb_; replace hP := ite_t h819 hP
   refine c_true E rfl ?_
   refine wp_skip ?_
   refine th_n ?_
   refine wp_seq ?_
   refine wp_block ?_
   refine wp_seq ?_
   refine wp_region_lit ?_
   obtain ⟨g820, hP⟩ := ask_inv hP
   refine vn tbok 5 [.int .i64 (List.getD r66 (Int.toNat x733) 0)] [(9, .int .i64 x733), (10, .int .i64 (List.getD r66 (Int.toNat x733) 0))] [0 ≤ x733 ∧ x733 < (((List.length r66) : Nat) : Int), World.cell? w816 ⟨b655, 0 + (Int.toNat x733) * 1, none⟩ = some (.int .i64 (List.getD r66 (Int.toNat x733) 0))] E (by kernel_rfl) (by kernel_rfl) ⟨g820, Rds.at1 (H.rd 3 rds_row) 0 g820⟩ ?_
   clear E; intro a E
   refine wpList_nil ?_
   refine th_n ?_
   refine wp_block ?_
   refine wp_seq ?_
   refine wp_region_lit ?_
   refine vn tbok 3 [] [(46, .bool (decide (0 < (List.getD r66 (Int.toNat x733) 0))))] [] E (by kernel_rfl) (by kernel_rfl) trivial ?_
   clear E; intro a E
   refine wpList_nil ?_
   refine th_n ?_
   refine E.cases (t := 46) rfl (fun hb_ E_ => ?_) (fun hb_ E_ => ?_)
   ·
    replace E := E_; clear E_
    have h821 : 0 < (List.getD r66 (Int.toNat x733) 0) := of_decide_eq_true hb_
    clear hb_; replace hP := ite_t h821 hP
    refine c_true E rfl ?_
    obtain ⟨r822, h823, hP⟩ := bind_inv hP
    obtain ⟨g831, hP⟩ := ask_inv hP
    obtain ⟨b832, e_b832⟩ := H.raddrx 4 rfl (idx_pos g831)
    subst e_b832
    have HR840 := H
    refine dr_start (S := fun w_ => Chg (atL [.rowx true (cInt .u8) 27 (some ⟨b832, 0, none⟩) (Int.toNat (((List.length aAccept) : Nat) : Int)) x731 (List.replicate (Int.toNat (((List.length aAccept) : Nat) : Int) - Int.toNat (((List.length aAccept) : Nat) : Int)) (0 : Int))]) w816 w_) (by kernel_rfl) ?_
    intro w837 hc838
    have HS839 : Chg (atL [.rowx true (cInt .u8) 27 (some ⟨b832, 0, none⟩) (Int.toNat (((List.length aAccept) : Nat) : Int)) x731 (List.replicate (Int.toNat (((List.length aAccept) : Nat) : Int) - Int.toNat (((List.length aAccept) : Nat) : Int)) (0 : Int))]) w816 w837 := hc838.mono (fun _ _ h_ => h_.elim)
    replace H := H.ext hc838
    refine dn tbok (by kernel_rfl) [0, 1, 2, 3, 4, 5, 6] [.slice (some ⟨b832, 0, none⟩) (List.length x731) (Int.toNat (((List.length aAccept) : Nat) : Int)), .slice (some ⟨b655, 0, none⟩) (List.length r66) c100] [(50, .slice (some ⟨b832, 0, none⟩) (List.length x731) (Int.toNat (((List.length aAccept) : Nat) : Int))), (51, .int .i64 x733), (52, .pointer (some ⟨b42, 0, none⟩)), (54, .slice (some ⟨b655, 0, none⟩) (List.length r66) c100), (55, .int .i64 x733)] (fun w_ => [World.cell? w_ ⟨g97, 2, none⟩ = some (.slice (some ⟨b832, 0, none⟩) (List.length x731) (Int.toNat (((List.length aAccept) : Nat) : Int))), World.cell? w_ ⟨g97, 1, none⟩ = some (.slice (some ⟨b655, 0, none⟩) (List.length r66) c100)]) 3 E (fun _ _ => by kernel_rfl) (by kernel_rfl) (fun w_ hS_ => ⟨(HR840.boxk [4] hS_ 2 rfl rfl).cell (j := 2) rfl, (HR840.boxk [4] hS_ 2 rfl rfl).cell (j := 1) rfl⟩) (by kernel_rfl) HS839 ?_
    clear E; intro a E
    refine wpAnyH_all (rs := [7]) (by kernel_rfl) (by simp) ?_
    refine all1 ?_
    refine wpOp_of_list rfl ?_
    obtain ⟨Fa841, Hc842, hb843⟩ := H.call [] [(1, false), (3, false)] rfl rfl trivial
    refine e_call E rfl rfl Try.func36 rfl rfl rfl (moore_game_choice_calls b42 0 (some ⟨b655, 0, none⟩) c100 x45.1 r66 x733 (H.rcap 3 rfl) Hc842 h823) ?_
    rintro v844 w845 a ⟨rfl, HR846⟩ E_
    replace E := E_ _ rfl; clear E_
    obtain ⟨H_, hc847⟩ := hb843 _ _ HR846 rfl
    replace HS839 := HS839.ext (callS_ext hc847)
    replace H := H_; clear H_; try dsimp only [setn, addE, goneL] at H
    refine wpList_nil ?_
    refine th_n ⟨HS839, ?_⟩
    refine wpAnyH_all (rs := [8]) (by kernel_rfl) (by simp) ?_
    refine all1 ?_
    refine wpOp_of_list rfl ?_
    refine vn tbok 1 [] [(57, .pointer (some ⟨b832, 0 + (Int.toNat x733) * 1, none⟩))] [0 ≤ x733 ∧ x733 < (((List.length x731) : Nat) : Int)] E (by kernel_rfl) (by kernel_rfl) (g831) ?_
    clear E; intro a E
    refine wpList_nil ?_
    refine th_n ⟨HS839, ?_⟩
    refine wpAnyH_all (rs := [9]) (by kernel_rfl) (by simp) ?_
    refine all1 ?_
    refine wpOp_of_list rfl ?_
    refine h_setx (g := b832) (i := x733) r822 H 4 rfl E rfl rfl rfl rfl tbok rfl (fun _ HF_ => rfl) rfl g831 rfl ?_
    clear E; intro w848 a hc849 H_ E
    replace HS839 := HS839.trans hc849 (fun k_ hk_ h_ => (fun _ _ h_ => Or.inl h_) k_ hk_ h_)
    replace H := H_; clear H_; try dsimp only [setn, addE, goneL] at H
    have hn850 : (List.length x731) = (List.length (List.set x731 (Int.toNat x733) r822)) := by simp only [List.length_set]
    replace E := E.same (t := 50) (u := .slice (some ⟨b832, 0, none⟩) (List.length (List.set x731 (Int.toNat x733) r822)) (Int.toNat (((List.length aAccept) : Nat) : Int))) rfl (congrArg (fun n_ => Value.slice (some ⟨b832, 0, none⟩) n_ (Int.toNat (((List.length aAccept) : Nat) : Int))) hn850)
    replace H := H.boxEq 2 rfl (by rw [hn850]); try dsimp only [setn, addE, goneL] at H
    refine wpList_nil ?_
    refine th_n ⟨HS839, ?_⟩
    refine dr_done (by kernel_rfl) ?_
    clear HS839 HR840
    refine bl_n ?_
    refine bl_n ?_
    refine th_n ?_
    refine wp_region_lit ?_
    obtain ⟨g851, hP⟩ := ask_inv hP
    refine vn tbok 2 [.int .i64 (x733 + 1)] [(41, .int .i64 (x733 + 1))] [IntKind.i64.wrap (x733 + 1) = x733 + 1] E (by kernel_rfl) (by kernel_rfl) (wrap_in g851) ?_
    clear E; intro a E
    refine wpList_nil ?_
    exact th_n ⟨m812, Nat.lt_succ_self _, List.set x731 (Int.toNat x733) r822, x732, x733 + 1, E.pick _ ⟨rfl, rfl, rfl, rfl, rfl, rfl, trivial⟩, H.sel [0, 1, 2, 3, 4, 5] rfl, hP⟩
   replace E := E_; clear E_
   have h852 : ¬ (0 < (List.getD r66 (Int.toNat x733) 0)) := of_decide_eq_false hb_
   clear hb_; replace hP := ite_f h852 hP
   refine c_false E rfl ?_
   refine wp_seq ?_
   refine wp_region_lit ?_
   refine vn tbok 3 [] [(58, .bool (decide ((List.getD r66 (Int.toNat x733) 0) < 0)))] [] E (by kernel_rfl) (by kernel_rfl) trivial ?_
   clear E; intro a E
   refine wpList_nil ?_
   refine th_n ?_
   refine E.cases (t := 58) rfl (fun hb_ E_ => ?_) (fun hb_ E_ => ?_)
   ·
    replace E := E_; clear E_
    have h853 : (List.getD r66 (Int.toNat x733) 0) < 0 := of_decide_eq_true hb_
    clear hb_; replace hP := ite_t h853 hP
    refine c_true E rfl ?_
    obtain ⟨r854, h855, hP⟩ := bind_inv hP
    obtain ⟨g866, hP⟩ := ask_inv hP
    obtain ⟨b867, e_b867⟩ := H.raddrx 5 rfl (idx_pos g866)
    subst e_b867
    have HR876 := H
    refine dr_start (S := fun w_ => Chg (atL [.rowx true (cSl (cInt .u8)) 35 (some ⟨b867, 0, none⟩) (Int.toNat (((List.length aAccept) : Nat) : Int)) x732 (List.replicate (Int.toNat (((List.length aAccept) : Nat) : Int) - Int.toNat (((List.length aAccept) : Nat) : Int)) ([] : List Int))]) w816 w_) (by kernel_rfl) ?_
    intro w873 hc874
    have HS875 : Chg (atL [.rowx true (cSl (cInt .u8)) 35 (some ⟨b867, 0, none⟩) (Int.toNat (((List.length aAccept) : Nat) : Int)) x732 (List.replicate (Int.toNat (((List.length aAccept) : Nat) : Int) - Int.toNat (((List.length aAccept) : Nat) : Int)) ([] : List Int))]) w816 w873 := hc874.mono (fun _ _ h_ => h_.elim)
    replace H := H.ext hc874
    refine dn tbok (by kernel_rfl) [0, 1, 2, 3, 4, 5, 6] [.slice (some ⟨b867, 0, none⟩) (List.length x732) (Int.toNat (((List.length aAccept) : Nat) : Int)), .slice (some ⟨b655, 0, none⟩) (List.length r66) c100] [(62, .slice (some ⟨b867, 0, none⟩) (List.length x732) (Int.toNat (((List.length aAccept) : Nat) : Int))), (63, .int .i64 x733), (64, .pointer (some ⟨b42, 0, none⟩)), (66, .slice (some ⟨b655, 0, none⟩) (List.length r66) c100), (67, .int .i64 x733)] (fun w_ => [World.cell? w_ ⟨g97, 3, none⟩ = some (.slice (some ⟨b867, 0, none⟩) (List.length x732) (Int.toNat (((List.length aAccept) : Nat) : Int))), World.cell? w_ ⟨g97, 1, none⟩ = some (.slice (some ⟨b655, 0, none⟩) (List.length r66) c100)]) 3 E (fun _ _ => by kernel_rfl) (by kernel_rfl) (fun w_ hS_ => ⟨(HR876.boxk [5] hS_ 2 rfl rfl).cell (j := 3) rfl, (HR876.boxk [5] hS_ 2 rfl rfl).cell (j := 1) rfl⟩) (by kernel_rfl) HS875 ?_
    clear E; intro a E
    refine wpAnyH_all (rs := [7]) (by kernel_rfl) (by simp) ?_
    refine all1 ?_
    refine wpOp_of_list rfl ?_
    obtain ⟨Fa877, Hc878, hb879⟩ := H.call [] [(1, false), (3, false)] rfl rfl trivial
    refine e_call E rfl rfl Try.func37 rfl rfl rfl (moore_game_reply_calls b42 0 (some ⟨b655, 0, none⟩) c100 x45.1 r66 x733 (H.rcap 3 rfl) Hc878 h855) ?_
    rintro v880 w881 a ⟨A884, c885, rfl, HR882⟩ E_
    replace E := E_ _ rfl; clear E_
    obtain ⟨H_, hc883⟩ := hb879 _ _ HR882 rfl
    replace HS875 := HS875.ext (callS_ext hc883)
    replace H := H_; clear H_; try dsimp only [setn, addE, goneL] at H
    refine wpList_nil ?_
    refine th_n ⟨HS875, ?_⟩
    refine wpAnyH_all (rs := [8]) (by kernel_rfl) (by simp) ?_
    refine all1 ?_
    refine wpOp_of_list rfl ?_
    refine vn tbok 1 [] [(69, .pointer (some ⟨b867, 0 + (Int.toNat x733) * 1, none⟩))] [0 ≤ x733 ∧ x733 < (((List.length x732) : Nat) : Int)] E (by kernel_rfl) (by kernel_rfl) (g866) ?_
    clear E; intro a E
    refine wpList_nil ?_
    refine th_n ⟨HS875, ?_⟩
    refine wpAnyH_all (rs := [9]) (by kernel_rfl) (by simp) ?_
    refine all1 ?_
    refine wpOp_of_list rfl ?_
    have hk887 := H.rcap 6 rfl
    replace H := H.frz 6 rfl; try dsimp only [setn, addE, goneL] at H
    refine h_setx (g := b867) (i := x733) r854 H 5 rfl E rfl rfl rfl rfl tbok rfl (fun _ HF_ => ⟨_, _, rfl, hk887, (HF_.roC 6 rfl)⟩) rfl g866 rfl ?_
    clear E; intro w888 a hc889 H_ E
    replace HS875 := HS875.trans hc889 (fun k_ hk_ h_ => (fun _ _ h_ => Or.inl h_) k_ hk_ h_)
    replace H := H_; clear H_; try dsimp only [setn, addE, goneL] at H
    have hn890 : (List.length x732) = (List.length (List.set x732 (Int.toNat x733) r854)) := by simp only [List.length_set]
    replace E := E.same (t := 62) (u := .slice (some ⟨b867, 0, none⟩) (List.length (List.set x732 (Int.toNat x733) r854)) (Int.toNat (((List.length aAccept) : Nat) : Int))) rfl (congrArg (fun n_ => Value.slice (some ⟨b867, 0, none⟩) n_ (Int.toNat (((List.length aAccept) : Nat) : Int))) hn890)
    replace H := H.boxEq 2 rfl (by rw [hn890]); try dsimp only [setn, addE, goneL] at H
    refine wpList_nil ?_
    refine th_n ⟨HS875, ?_⟩
    refine dr_done (by kernel_rfl) ?_
    clear HS875 HR876
    refine bl_n ?_
    refine bl_n ?_
    refine th_n ?_
    refine wp_region_lit ?_
    obtain ⟨g891, hP⟩ := ask_inv hP
    refine vn tbok 2 [.int .i64 (x733 + 1)] [(41, .int .i64 (x733 + 1))] [IntKind.i64.wrap (x733 + 1) = x733 + 1] E (by kernel_rfl) (by kernel_rfl) (wrap_in g891) ?_
    clear E; intro a E
    refine wpList_nil ?_
    exact th_n ⟨m812, Nat.lt_succ_self _, x731, List.set x732 (Int.toNat x733) r854, x733 + 1, E.pick _ ⟨rfl, rfl, rfl, rfl, rfl, rfl, trivial⟩, H.sel [0, 1, 2, 3, 4, 5] rfl, hP⟩
   replace E := E_; clear E_
   have h892 : ¬ ((List.getD r66 (Int.toNat x733) 0) < 0) := of_decide_eq_false hb_
   clear hb_; replace hP := ite_f h892 hP
   refine c_false E rfl ?_
   refine wp_skip ?_
   refine bl_n ?_
   refine bl_n ?_
   refine th_n ?_
   refine wp_region_lit ?_
   obtain ⟨g893, hP⟩ := ask_inv hP
   refine vn tbok 2 [.int .i64 (x733 + 1)] [(41, .int .i64 (x733 + 1))] [IntKind.i64.wrap (x733 + 1) = x733 + 1] E (by kernel_rfl) (by kernel_rfl) (wrap_in g893) ?_
   clear E; intro a E
   refine wpList_nil ?_
   exact th_n ⟨m812, Nat.lt_succ_self _, x731, x732, x733 + 1, E.pick _ ⟨rfl, rfl, rfl, rfl, rfl, rfl, trivial⟩, H.sel [0, 1, 2, 3, 4, 5] rfl, hP⟩
  replace E := E_; clear E_
  have h894 : ¬ (x733 < (((List.length r66) : Nat) : Int)) := of_decide_eq_false hb_
  clear hb_; replace hP := ite_f h894 hP
  refine c_false E rfl ?_
  refine wp_exit ?_
  refine th_exit ?_
  have hx_ := Option.some.inj hP
  refine th_exit (.inl ⟨0, rfl, ?_⟩)
  exact ⟨rfl, (x731, x732), E.pick _ ⟨rfl, rfl, trivial⟩, H.sel [0, 2, 3, 4, 5] rfl, hx_.symm⟩
 clear E H hL814; intro i_ a w816 hM_
 obtain ⟨rfl, x818, E, H, hx_⟩ := hM_
 subst hx_; have hP := hK815; clear hK815
 refine bl_hit ?_
 refine th_n ?_
 refine wp_seq ?_
 refine wp_region_lit ?_
 refine vn tbok 1 [.agg #[.bool (decide (0 ≤ (List.getD r66 (Int.toNat (0 : Int)) 0))), .slice (some ⟨b655, 0, none⟩) (List.length r66) c100, .slice A102 (List.length x813.1) (Int.toNat (((List.length aAccept) : Nat) : Int)), .slice A104 (List.length x813.2) (Int.toNat (((List.length aAccept) : Nat) : Int))]] [(71, .agg #[.bool (decide (0 ≤ (List.getD r66 (Int.toNat (0 : Int)) 0))), .slice (some ⟨b655, 0, none⟩) (List.length r66) c100, .slice A102 (List.length x813.1) (Int.toNat (((List.length aAccept) : Nat) : Int)), .slice A104 (List.length x813.2) (Int.toNat (((List.length aAccept) : Nat) : Int))])] [cellsAt w816 g97 (0) [.bool (decide (0 ≤ (List.getD r66 (Int.toNat (0 : Int)) 0))), .slice (some ⟨b655, 0, none⟩) (List.length r66) c100, .slice A102 (List.length x813.1) (Int.toNat (((List.length aAccept) : Nat) : Int)), .slice A104 (List.length x813.2) (Int.toNat (((List.length aAccept) : Nat) : Int))]] E (by kernel_rfl) (by kernel_rfl) ((H.box 1 rfl).sub 0 _ rfl) ?_
 clear E; intro a E
 refine h_store (g := g23) (off := 0) H 0 rfl E rfl rfl rfl rfl tbok rfl rfl rfl rfl rfl ?_
 clear E; intro w895 a hc896 H_ E
 replace H := H_; clear H_; try dsimp only [setn, addE, goneL] at H
 refine vn tbok 1 [] [(5, .int .i64 0)] [] E (by kernel_rfl) (by kernel_rfl) trivial ?_
 clear E; intro a E
 refine wpList_nil ?_
 refine th_n ?_
 refine wp_ret ?_
 replace H := H.rowx 3 rfl; try dsimp only [setn, addE, goneL] at H
 replace H := H.rowx 4 rfl; try dsimp only [setn, addE, goneL] at H
 obtain rfl := Option.some.inj hP
 refine retV E [.cell 4 38, .tmp 5] [.agg #[.bool (decide (0 ≤ (List.getD r66 (Int.toNat (0 : Int)) 0))), .slice (some ⟨b655, 0, none⟩) (List.length r66) c100, .slice A102 (List.length x813.1) (Int.toNat (((List.length aAccept) : Nat) : Int)), .slice A104 (List.length x813.2) (Int.toNat (((List.length aAccept) : Nat) : Int))], .int .i64 0] rfl ⟨⟨_, rfl, run_loadBx tbok (H.box 0 rfl) rfl rfl rfl 0 rfl rfl⟩, rfl, trivial⟩ (.inl rfl) ?_
 exact ⟨_, rfl, (some ⟨b655, 0, none⟩), c100, A102, (Int.toNat (((List.length aAccept) : Nat) : Int)), A104, (Int.toNat (((List.length aAccept) : Nat) : Int)), rfl, H.sel [2, 3, 4] rfl⟩

end Go.V
