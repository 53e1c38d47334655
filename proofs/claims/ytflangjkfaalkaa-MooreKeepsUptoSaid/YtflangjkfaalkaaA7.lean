/- Plain functions, and the calls that give them. -/
import Derived.Test.YtflangjkfaalkaaA6
set_option linter.all false
set_option linter.unusedVariables false
set_option linter.unnecessarySimpa false
set_option linter.unusedSimpArgs false
namespace Go.V
open Go Go.Proofs
/-! (*rejoinder/moore.game).all -/
def moore_game_all_l0 (N : Nat) (g : (Int × (List Bool) × (List Int) × (List Nd)) × (Int × Int) × (List Int) × (List Int)) (xWins : Bool) (xRanks : List Int) (xChoice : List Int) (xReply : List (List Int)) : Nat → Int → Option (Unit ⊕ Bool)
  | 0, _ => none
  | m104 + 1, x89 =>
    if x89 < (((List.length g.1.2.1) : Nat) : Int) then
      Option.bind (moore_game_keeps N g xWins xRanks xChoice xReply x89) fun r112 =>
      if r112 = true then
        ask (in64 (x89 + 1)) <|
        moore_game_all_l0 N g xWins xRanks xChoice xReply m104 (x89 + 1)
      else
        some (Sum.inr false)
    else
      some (Sum.inl ())
def moore_game_all (N : Nat) (g : (Int × (List Bool) × (List Int) × (List Nd)) × (Int × Int) × (List Int) × (List Int)) (xWins : Bool) (xRanks : List Int) (xChoice : List Int) (xReply : List (List Int)) : Option Bool :=
  if ((((List.length xRanks) : Nat) : Int) : Int) = (((List.length g.1.2.1) : Nat) : Int) then
    if ((((List.length xChoice) : Nat) : Int) : Int) = (((List.length g.1.2.1) : Nat) : Int) then
      if ((((List.length xReply) : Nat) : Int) : Int) = (((List.length g.1.2.1) : Nat) : Int) then
        ask (idx (0 : Int) (List.length xRanks)) <|
        if xWins = (decide (0 ≤ (List.getD xRanks (Int.toNat (0 : Int)) 0))) then
          Option.bind (moore_game_all_l0 N g xWins xRanks xChoice xReply N 0) fun x105 =>
          Sum.elim (fun x110 =>
            some true)
           (fun x125 =>
            some x125) x105
        else
          some false
      else
        some false
    else
      some false
  else
    some false
set_option maxRecDepth 100000 in
set_option maxHeartbeats 4000000 in
theorem moore_game_all_calls {N : Nat} {S Fa : Nat → Prop} {w0 : World} {r : Bool} (b1 : Nat) (o2 : Nat) (A4 : Option Addr) (c5 : Nat) (A8 : Option Addr) (c9 : Nat) (A12 : Option Addr) (c13 : Nat) (g : (Int × (List Bool) × (List Int) × (List Nd)) × (Int × Int) × (List Int) × (List Int)) (xWins : Bool) (xRanks : List Int) (xChoice : List Int) (xReply : List (List Int)) (hk6 : List.length xRanks ≤ c5) (hk10 : List.length xChoice ≤ c9) (hk14 : List.length xReply ≤ c13) (H : Hp S Fa w0 w0 [.ro false cS87 (some ⟨b1, o2, none⟩) ([g]), .ro false (cInt .i64) A4 xRanks, .ro false (cInt .u8) A8 xChoice, .ro false (cSl (cInt .u8)) A12 xReply]) (hP : moore_game_all N g xWins xRanks xChoice xReply = some r) :
    Calls Try.prog 47 #[.pointer (some ⟨b1, o2, none⟩), .agg #[.bool xWins, .slice A4 (List.length xRanks) c5, .slice A8 (List.length xChoice) c9, .slice A12 (List.length xReply) c13]] w0 fun e w' => ∃ v, e = .returned v ∧ v = .bool r ∧ Hp S Fa w0 w' [] := by
 refine enterV (n := 52) Try.func47 rfl rfl rfl ?_
 intro a E
 replace E := E.pick [(0, .pointer (some ⟨b1, o2, none⟩)), (1, .agg #[.bool xWins, .slice A4 (List.length xRanks) c5, .slice A8 (List.length xChoice) c9, .slice A12 (List.length xReply) c13])] ⟨rfl, rfl, trivial⟩
 rw [moore_game_all] at hP
 refine wp_seq ?_
 refine wp_region_lit ?_
 refine h_box H E rfl rfl rfl ?_
 intro w17 g16 a hc18 hg20 H_ E_
 replace E := E_ _ rfl; clear E_
 replace H := H_; clear H_; try dsimp only [setn, addE, goneL] at H
 refine vn tbok 1 [] [] [] E (by kernel_rfl) (by kernel_rfl) trivial ?_
 clear E; intro a E
 refine wpList_nil ?_
 refine th_n ?_
 refine wp_seq ?_
 refine wp_region_lit ?_
 obtain ⟨Fz21, cs23, HF22, hK24, hc25⟩ := H.elem 0 false (el_ro rfl) g (idx_one _)
 obtain ⟨_, _, rfl, hK26, hK27⟩ := hK24
 obtain ⟨_, _, rfl, hK28, hK29⟩ := hK26
 obtain rfl := hK28
 obtain ⟨_, _, rfl, hK30, hK31⟩ := hK29
 obtain ⟨A32, c33, rfl, hk34, hC35⟩ := hK30
 obtain ⟨_, _, rfl, hK37, hK38⟩ := hK31
 obtain ⟨A39, c40, rfl, hk41, hC42⟩ := hK37
 obtain ⟨A44, c45, rfl, hk46, hC47⟩ := hK38
 obtain ⟨_, _, rfl, hK49, hK50⟩ := hK27
 obtain rfl := hK49
 obtain ⟨_, _, rfl, hK51, hK52⟩ := hK50
 obtain ⟨A53, c54, rfl, hk55, hC56⟩ := hK51
 obtain ⟨A58, c59, rfl, hk60, hC61⟩ := hK52
 replace HF22 := HF22.ins hC35
 replace HF22 := HF22.ins hC42
 replace HF22 := HF22.ins hC47
 replace HF22 := HF22.ins hC56
 replace HF22 := HF22.ins hC61
 replace H := HF22.hp; try dsimp only [addE] at H
 have hc63 : cellsAt w17 b1 (o2) [.int .i64 g.1.1, .slice A32 (List.length g.1.2.1) c33, .slice A39 (List.length g.1.2.2.1) c40, .slice A44 (List.length g.1.2.2.2) c45, .int .u8 g.2.1.1, .int .u8 g.2.1.2, .slice A53 (List.length g.2.2.1) c54, .slice A58 (List.length g.2.2.2) c59] := hc25
 refine vn tbok 7 [.slice A32 (List.length g.1.2.1) c33] [(5, .int .i64 (((List.length g.1.2.1) : Nat) : Int))] [World.cell? w17 ⟨b1, o2 + 1, none⟩ = some (.slice A32 (List.length g.1.2.1) c33)] E (by kernel_rfl) (by kernel_rfl) (hc63.get 1 _ rfl) ?_
 clear E; intro a E
 refine wpList_nil ?_
 refine th_n ?_
 refine wp_seq ?_
 refine wp_seq ?_
 by_cases h64 : ((((List.length xRanks) : Nat) : Int) : Int) = (((List.length g.1.2.1) : Nat) : Int)
 ·
  replace hP := ite_t h64 hP
  by_cases h65 : ((((List.length xChoice) : Nat) : Int) : Int) = (((List.length g.1.2.1) : Nat) : Int)
  ·
   replace hP := ite_t h65 hP
   by_cases h66 : ((((List.length xReply) : Nat) : Int) : Int) = (((List.length g.1.2.1) : Nat) : Int)
   ·
    replace hP := ite_t h66 hP
    obtain ⟨g67, hP⟩ := ask_inv hP
    obtain ⟨b68, o69, e_b68⟩ := (H.rd 1 rds_ro).addr (idx_pos g67)
    subst e_b68
    have HR73 := H
    refine dr_start (S := fun w_ => Chg (atL []) w17 w_) (by kernel_rfl) ?_
    intro w70 hc71
    have HS72 : Chg (atL []) w17 w70 := hc71.mono (fun _ _ h_ => h_.elim)
    replace H := H.ext hc71
    refine dn tbok (by kernel_rfl) [0, 1, 2, 3, 4, 5] [.slice (some ⟨b68, o69, none⟩) (List.length xRanks) c5] [(18, .bool (((((List.length xRanks) : Nat) : Int) : Int) != (((List.length g.1.2.1) : Nat) : Int)))] (fun w_ => [World.cell? w_ ⟨g16, 1, none⟩ = some (.slice (some ⟨b68, o69, none⟩) (List.length xRanks) c5)]) 23 E (fun _ _ => by kernel_rfl) (by kernel_rfl) (fun w_ hS_ => ((HR73.boxk [] hS_ 4 rfl rfl).cell (j := 1) rfl)) (by kernel_rfl) HS72 ?_
    clear E; intro a E
    replace E := E.same (t := 18) (u := .bool false) rfl (congrArg Value.bool (bne_eq_false_iff_eq.2 h64))
    refine dn tbok (by kernel_rfl) [6, 7, 8, 9, 10, 11, 12] [.slice A8 (List.length xChoice) c9] [(25, .bool (((((List.length xChoice) : Nat) : Int) : Int) != (((List.length g.1.2.1) : Nat) : Int)))] (fun w_ => [World.cell? w_ ⟨g16, 2, none⟩ = some (.slice A8 (List.length xChoice) c9)]) 16 E (fun _ _ => by kernel_rfl) (by kernel_rfl) (fun w_ hS_ => ((HR73.boxk [] hS_ 4 rfl rfl).cell (j := 2) rfl)) (by kernel_rfl) HS72 ?_
    clear E; intro a E
    replace E := E.same (t := 25) (u := .bool false) rfl (congrArg Value.bool (bne_eq_false_iff_eq.2 h65))
    refine dn tbok (by kernel_rfl) [13, 14, 15, 16, 17, 18, 19] [.slice A12 (List.length xReply) c13] [(32, .bool (((((List.length xReply) : Nat) : Int) : Int) != (((List.length g.1.2.1) : Nat) : Int)))] (fun w_ => [World.cell? w_ ⟨g16, 3, none⟩ = some (.slice A12 (List.length xReply) c13)]) 9 E (fun _ _ => by kernel_rfl) (by kernel_rfl) (fun w_ hS_ => ((HR73.boxk [] hS_ 4 rfl rfl).cell (j := 3) rfl)) (by kernel_rfl) HS72 ?_
    clear E; intro a E
    replace E := E.same (t := 32) (u := .bool false) rfl (congrArg Value.bool (bne_eq_false_iff_eq.2 h66))
    refine dn tbok (by kernel_rfl) [20, 21, 22, 23, 24, 25, 26, 27, 28] [.bool xWins, .slice (some ⟨b68, o69, none⟩) (List.length xRanks) c5, .int .i64 (List.getD xRanks (Int.toNat (0 : Int)) 0)] [(41, .bool (!(xWins == (decide (0 ≤ (List.getD xRanks (Int.toNat (0 : Int)) 0))))))] (fun w_ => [World.cell? w_ ⟨g16, 0, none⟩ = some (.bool xWins), World.cell? w_ ⟨g16, 1, none⟩ = some (.slice (some ⟨b68, o69, none⟩) (List.length xRanks) c5), 0 ≤ (0 : Int) ∧ (0 : Int) < (((List.length xRanks) : Nat) : Int), World.cell? w_ ⟨b68, o69 + (Int.toNat (0 : Int)) * 1, none⟩ = some (.int .i64 (List.getD xRanks (Int.toNat (0 : Int)) 0))]) 0 E (fun _ _ => by kernel_rfl) (by kernel_rfl) (fun w_ hS_ => ⟨(HR73.boxk [] hS_ 4 rfl rfl).cell (j := 0) rfl, (HR73.boxk [] hS_ 4 rfl rfl).cell (j := 1) rfl, g67, Rds.at1 (HR73.rdk [] hS_ 1 rds_ro rfl) 0 g67⟩) (by kernel_rfl) HS72 ?_
    clear E; intro a E
    refine dr_done (by kernel_rfl) ?_
    clear HS72 HR73
    refine th_n ?_
    refine E.cases (t := 41) rfl (fun hb_ E_ => ?_) (fun hb_ E_ => ?_)
    ·
     replace E := E_; clear E_
     have h74 : ¬ (xWins = (decide (0 ≤ (List.getD xRanks (Int.toNat (0 : Int)) 0)))) := (by simpa using hb_)
     clear hb_; replace hP := ite_f h74 hP
     refine c_true E rfl ?_
     refine wp_seq ?_
     refine wp_region_lit ?_
     refine vn tbok 1 [] [(4, .bool false)] [] E (by kernel_rfl) (by kernel_rfl) trivial ?_
     clear E; intro a E
     refine wpList_nil ?_
     refine th_n ?_
     refine wp_ret ?_
     refine th_ret ?_
     obtain rfl := Option.some.inj hP
     refine ret1 E rfl rfl ?_
     exact ⟨_, rfl, rfl, H.sel [] rfl⟩
    replace E := E_; clear E_
    have h75 : xWins = (decide (0 ≤ (List.getD xRanks (Int.toNat (0 : Int)) 0))) := (by simpa using hb_)
    clear hb_; replace hP := ite_t h75 hP
    refine c_false E rfl ?_
    refine wp_skip ?_
    refine th_n ?_
    refine wp_seq ?_
    refine wp_seq ?_
    refine wp_region_lit ?_
    refine vn tbok 2 [] [(42, .int .i64 (((List.length g.1.2.1) : Nat) : Int)), (43, .int .i64 0)] [] E (by kernel_rfl) (by kernel_rfl) trivial ?_
    clear E; intro a E
    refine wpList_nil ?_
    refine th_n ?_
    refine wp_block ?_
    obtain ⟨x105, hL106, hK107⟩ := bind_inv hP
    clear hP
    refine loop_cut (fun i_ a w_ => (i_ = 0 ∧ ∃ (x110 : Unit), Fr a 52 [] ∧ Hp S Fa w0 w_ [] ∧ x105 = Sum.inl x110)) ?_ ?_
    ·
     refine loopV (fun m109 a w108 => ∃ (x89 : Int), Fr a 52 [(0, .pointer (some ⟨b1, o2, none⟩)), (3, .pointer (some ⟨g16, 0, none⟩)), (42, .int .i64 (((List.length g.1.2.1) : Nat) : Int)), (43, .int .i64 x89)] ∧ Hp S Fa w0 w108 [.ro false cS87 (some ⟨b1, o2, none⟩) ([g]), .ro false (cInt .i64) (some ⟨b68, o69, none⟩) xRanks, .ro false (cInt .u8) A8 xChoice, .ro false (cSl (cInt .u8)) A12 xReply, .box g16 38 [.bool xWins, .slice (some ⟨b68, o69, none⟩) (List.length xRanks) c5, .slice A8 (List.length xChoice) c9, .slice A12 (List.length xReply) c13]] ∧ moore_game_all_l0 N g xWins xRanks xChoice xReply m109 x89 = some x105) N ?_ ?_
     ·
      exact ⟨0, E.pick _ ⟨rfl, rfl, rfl, rfl, trivial⟩, H.sel [0, 1, 2, 3, 4] rfl, hL106⟩
     clear E H hL106; intro m109 a w108 hI_
     obtain ⟨x89, E, H, hP⟩ := hI_
     obtain ⟨m104, rfl⟩ : ∃ q_, m109 = q_ + 1 := by cases m109 with | zero => rw [moore_game_all_l0] at hP; cases hP | succ q_ => exact ⟨q_, rfl⟩
     rw [moore_game_all_l0] at hP
     refine wp_seq ?_
     refine wp_region_lit ?_
     refine vn tbok 1 [] [(44, .bool (decide (x89 < (((List.length g.1.2.1) : Nat) : Int))))] [] E (by kernel_rfl) (by kernel_rfl) trivial ?_
     clear E; intro a E
     refine wpList_nil ?_
     refine th_n ?_
     refine wp_seq ?_
     refine E.cases (t := 44) rfl (fun hb_ E_ => ?_) (fun hb_ E_ => ?_)
     ·
      replace E := E_; clear E_
      have h111 : x89 < (((List.length g.1.2.1) : Nat) : Int) := of_decide_eq_true hb_
      clear hb_; replace hP := ite_t h111 hP
      refine c_true E rfl ?_
      refine wp_skip ?_
      refine th_n ?_
      refine wp_seq ?_
      refine wp_block ?_
      refine wp_seq ?_
      refine wp_region_lit ?_
      refine vn tbok 2 [] [(6, .int .i64 x89)] [] E (by kernel_rfl) (by kernel_rfl) trivial ?_
      clear E; intro a E
      refine wpList_nil ?_
      refine th_n ?_
      refine wp_seq ?_
      refine wp_region_lit ?_
      refine vn tbok 3 [.agg #[.bool xWins, .slice (some ⟨b68, o69, none⟩) (List.length xRanks) c5, .slice A8 (List.length xChoice) c9, .slice A12 (List.length xReply) c13]] [(46, .pointer (some ⟨b1, o2, none⟩)), (47, .agg #[.bool xWins, .slice (some ⟨b68, o69, none⟩) (List.length xRanks) c5, .slice A8 (List.length xChoice) c9, .slice A12 (List.length xReply) c13]), (48, .int .i64 x89)] [cellsAt w108 g16 (0) [.bool xWins, .slice (some ⟨b68, o69, none⟩) (List.length xRanks) c5, .slice A8 (List.length xChoice) c9, .slice A12 (List.length xReply) c13]] E (by kernel_rfl) (by kernel_rfl) ((H.box 4 rfl).sub 0 _ rfl) ?_
      clear E; intro a E
      obtain ⟨r112, h113, hP⟩ := bind_inv hP
      obtain ⟨Fa114, Hc115, hb116⟩ := H.call [] [(0, false), (1, false), (2, false), (3, false)] rfl rfl trivial
      refine e_call E rfl rfl Try.func70 rfl rfl rfl (moore_game_keeps_calls b1 o2 (some ⟨b68, o69, none⟩) c5 A8 c9 A12 c13 g xWins xRanks xChoice xReply x89 hk6 hk10 hk14 Hc115 h113) ?_
      rintro v117 w118 a ⟨rfl, HR119⟩ E_
      replace E := E_ _ rfl; clear E_
      obtain ⟨H_, hc120⟩ := hb116 _ _ HR119 rfl
      replace H := H_; clear H_; try dsimp only [setn, addE, goneL] at H
      refine vn tbok 1 [] [(50, .bool (!r112))] [] E (by kernel_rfl) (by kernel_rfl) trivial ?_
      clear E; intro a E
      refine wpList_nil ?_
      refine th_n ?_
      refine E.cases (t := 50) rfl (fun hb_ E_ => ?_) (fun hb_ E_ => ?_)
      ·
       replace E := E_; clear E_
       have h121 : ¬ (r112 = true) := (ne_true_of_eq_false (not_t hb_))
       clear hb_; replace hP := ite_f h121 hP
       refine c_true E rfl ?_
       refine wp_seq ?_
       refine wp_region_lit ?_
       refine vn tbok 1 [] [(4, .bool false)] [] E (by kernel_rfl) (by kernel_rfl) trivial ?_
       clear E; intro a E
       refine wpList_nil ?_
       refine th_n ?_
       refine wp_ret ?_
       refine bl_ret ?_
       refine th_ret ?_
       refine th_ret ?_
       refine .inr ⟨rfl, ?_⟩
       refine bl_ret ?_
       refine th_ret ?_
       have hx_ := Option.some.inj hP; subst hx_
       have hP : some (false) = some r := hK107
       obtain rfl := Option.some.inj hP
       refine ret1 E rfl rfl ?_
       exact ⟨_, rfl, rfl, H.sel [] rfl⟩
      replace E := E_; clear E_
      have h122 : r112 = true := (not_f hb_)
      clear hb_; replace hP := ite_t h122 hP
      refine c_false E rfl ?_
      refine wp_skip ?_
      refine bl_n ?_
      refine th_n ?_
      refine wp_region_lit ?_
      obtain ⟨g123, hP⟩ := ask_inv hP
      refine vn tbok 2 [.int .i64 (x89 + 1)] [(43, .int .i64 (x89 + 1))] [IntKind.i64.wrap (x89 + 1) = x89 + 1] E (by kernel_rfl) (by kernel_rfl) (wrap_in g123) ?_
      clear E; intro a E
      refine wpList_nil ?_
      exact th_n ⟨m104, Nat.lt_succ_self _, x89 + 1, E.pick _ ⟨rfl, rfl, rfl, rfl, trivial⟩, H.sel [0, 1, 2, 3, 4] rfl, hP⟩
     replace E := E_; clear E_
     have h124 : ¬ (x89 < (((List.length g.1.2.1) : Nat) : Int)) := of_decide_eq_false hb_
     clear hb_; replace hP := ite_f h124 hP
     refine c_false E rfl ?_
     refine wp_exit ?_
     refine th_exit ?_
     have hx_ := Option.some.inj hP
     refine th_exit (.inl ⟨0, rfl, ?_⟩)
     exact ⟨rfl, (), E.pick _ trivial, H.sel [] rfl, hx_.symm⟩
    clear E H hL106; intro i_ a w108 hM_
    obtain ⟨rfl, x110, E, H, hx_⟩ := hM_
    subst hx_; have hP := elim_l hK107
    clear hK107
    refine bl_hit ?_
    refine th_n ?_
    refine wp_seq ?_
    refine wp_region_lit ?_
    refine vn tbok 1 [] [(4, .bool true)] [] E (by kernel_rfl) (by kernel_rfl) trivial ?_
    clear E; intro a E
    refine wpList_nil ?_
    refine th_n ?_
    refine wp_ret ?_
    obtain rfl := Option.some.inj hP
    refine ret1 E rfl rfl ?_
    exact ⟨_, rfl, rfl, H.sel [] rfl⟩
   replace hP := ite_f h66 hP
   have HR129 := H
   refine dr_start (S := fun w_ => Chg (atL []) w17 w_) (by kernel_rfl) ?_
   intro w126 hc127
   have HS128 : Chg (atL []) w17 w126 := hc127.mono (fun _ _ h_ => h_.elim)
   replace H := H.ext hc127
   refine dn tbok (by kernel_rfl) [0, 1, 2, 3, 4, 5] [.slice A4 (List.length xRanks) c5] [(18, .bool (((((List.length xRanks) : Nat) : Int) : Int) != (((List.length g.1.2.1) : Nat) : Int)))] (fun w_ => [World.cell? w_ ⟨g16, 1, none⟩ = some (.slice A4 (List.length xRanks) c5)]) 23 E (fun _ _ => by kernel_rfl) (by kernel_rfl) (fun w_ hS_ => ((HR129.boxk [] hS_ 4 rfl rfl).cell (j := 1) rfl)) (by kernel_rfl) HS128 ?_
   clear E; intro a E
   replace E := E.same (t := 18) (u := .bool false) rfl (congrArg Value.bool (bne_eq_false_iff_eq.2 h64))
   refine dn tbok (by kernel_rfl) [6, 7, 8, 9, 10, 11, 12] [.slice A8 (List.length xChoice) c9] [(25, .bool (((((List.length xChoice) : Nat) : Int) : Int) != (((List.length g.1.2.1) : Nat) : Int)))] (fun w_ => [World.cell? w_ ⟨g16, 2, none⟩ = some (.slice A8 (List.length xChoice) c9)]) 16 E (fun _ _ => by kernel_rfl) (by kernel_rfl) (fun w_ hS_ => ((HR129.boxk [] hS_ 4 rfl rfl).cell (j := 2) rfl)) (by kernel_rfl) HS128 ?_
   clear E; intro a E
   replace E := E.same (t := 25) (u := .bool false) rfl (congrArg Value.bool (bne_eq_false_iff_eq.2 h65))
   refine dn tbok (by kernel_rfl) [13, 14, 15, 16, 17, 18, 19] [.slice A12 (List.length xReply) c13] [(32, .bool (((((List.length xReply) : Nat) : Int) : Int) != (((List.length g.1.2.1) : Nat) : Int)))] (fun w_ => [World.cell? w_ ⟨g16, 3, none⟩ = some (.slice A12 (List.length xReply) c13)]) 9 E (fun _ _ => by kernel_rfl) (by kernel_rfl) (fun w_ hS_ => ((HR129.boxk [] hS_ 4 rfl rfl).cell (j := 3) rfl)) (by kernel_rfl) HS128 ?_
   clear E; intro a E
   replace E := E.same (t := 32) (u := .bool true) rfl (congrArg Value.bool (bne_iff_ne.2 h66))
   refine dn tbok (by kernel_rfl) [20, 21, 22, 23, 24, 25, 26, 27, 28] [] [(41, .bool true)] (fun w_ => []) 0 E (fun _ _ => by kernel_rfl) (by kernel_rfl) (fun w_ hS_ => trivial) (by kernel_rfl) HS128 ?_
   clear E; intro a E
   refine dr_done (by kernel_rfl) ?_
   clear HS128 HR129
   refine th_n ?_
   refine c_true E rfl ?_
   refine wp_seq ?_
   refine wp_region_lit ?_
   refine vn tbok 1 [] [(4, .bool false)] [] E (by kernel_rfl) (by kernel_rfl) trivial ?_
   clear E; intro a E
   refine wpList_nil ?_
   refine th_n ?_
   refine wp_ret ?_
   refine th_ret ?_
   obtain rfl := Option.some.inj hP
   refine ret1 E rfl rfl ?_
   exact ⟨_, rfl, rfl, H.sel [] rfl⟩
  replace hP := ite_f h65 hP
  have HR133 := H
  refine dr_start (S := fun w_ => Chg (atL []) w17 w_) (by kernel_rfl) ?_
  intro w130 hc131
  have HS132 : Chg (atL []) w17 w130 := hc131.mono (fun _ _ h_ => h_.elim)
  replace H := H.ext hc131
  refine dn tbok (by kernel_rfl) [0, 1, 2, 3, 4, 5] [.slice A4 (List.length xRanks) c5] [(18, .bool (((((List.length xRanks) : Nat) : Int) : Int) != (((List.length g.1.2.1) : Nat) : Int)))] (fun w_ => [World.cell? w_ ⟨g16, 1, none⟩ = some (.slice A4 (List.length xRanks) c5)]) 23 E (fun _ _ => by kernel_rfl) (by kernel_rfl) (fun w_ hS_ => ((HR133.boxk [] hS_ 4 rfl rfl).cell (j := 1) rfl)) (by kernel_rfl) HS132 ?_
  clear E; intro a E
  replace E := E.same (t := 18) (u := .bool false) rfl (congrArg Value.bool (bne_eq_false_iff_eq.2 h64))
  refine dn tbok (by kernel_rfl) [6, 7, 8, 9, 10, 11, 12] [.slice A8 (List.length xChoice) c9] [(25, .bool (((((List.length xChoice) : Nat) : Int) : Int) != (((List.length g.1.2.1) : Nat) : Int)))] (fun w_ => [World.cell? w_ ⟨g16, 2, none⟩ = some (.slice A8 (List.length xChoice) c9)]) 16 E (fun _ _ => by kernel_rfl) (by kernel_rfl) (fun w_ hS_ => ((HR133.boxk [] hS_ 4 rfl rfl).cell (j := 2) rfl)) (by kernel_rfl) HS132 ?_
  clear E; intro a E
  replace E := E.same (t := 25) (u := .bool true) rfl (congrArg Value.bool (bne_iff_ne.2 h65))
  refine dn tbok (by kernel_rfl) [13, 14, 15, 16, 17, 18, 19, 20, 21, 22, 23, 24, 25, 26, 27, 28] [] [(41, .bool true)] (fun w_ => []) 0 E (fun _ _ => by kernel_rfl) (by kernel_rfl) (fun w_ hS_ => trivial) (by kernel_rfl) HS132 ?_
  clear E; intro a E
  refine dr_done (by kernel_rfl) ?_
  clear HS132 HR133
  refine th_n ?_
  refine c_true E rfl ?_
  refine wp_seq ?_
  refine wp_region_lit ?_
  refine vn tbok 1 [] [(4, .bool false)] [] E (by kernel_rfl) (by kernel_rfl) trivial ?_
  clear E; intro a E
  refine wpList_nil ?_
  refine th_n ?_
  refine wp_ret ?_
  refine th_ret ?_
  obtain rfl := Option.some.inj hP
  refine ret1 E rfl rfl ?_
  exact ⟨_, rfl, rfl, H.sel [] rfl⟩
 replace hP := ite_f h64 hP
 have HR137 := H
 refine dr_start (S := fun w_ => Chg (atL []) w17 w_) (by kernel_rfl) ?_
 intro w134 hc135
 have HS136 : Chg (atL []) w17 w134 := hc135.mono (fun _ _ h_ => h_.elim)
 replace H := H.ext hc135
 refine dn tbok (by kernel_rfl) [0, 1, 2, 3, 4, 5] [.slice A4 (List.length xRanks) c5] [(18, .bool (((((List.length xRanks) : Nat) : Int) : Int) != (((List.length g.1.2.1) : Nat) : Int)))] (fun w_ => [World.cell? w_ ⟨g16, 1, none⟩ = some (.slice A4 (List.length xRanks) c5)]) 23 E (fun _ _ => by kernel_rfl) (by kernel_rfl) (fun w_ hS_ => ((HR137.boxk [] hS_ 4 rfl rfl).cell (j := 1) rfl)) (by kernel_rfl) HS136 ?_
 clear E; intro a E
 replace E := E.same (t := 18) (u := .bool true) rfl (congrArg Value.bool (bne_iff_ne.2 h64))
 refine dn tbok (by kernel_rfl) [6, 7, 8, 9, 10, 11, 12, 13, 14, 15, 16, 17, 18, 19, 20, 21, 22, 23, 24, 25, 26, 27, 28] [] [(41, .bool true)] (fun w_ => []) 0 E (fun _ _ => by kernel_rfl) (by kernel_rfl) (fun w_ hS_ => trivial) (by kernel_rfl) HS136 ?_
 clear E; intro a E
 refine dr_done (by kernel_rfl) ?_
 clear HS136 HR137
 refine th_n ?_
 refine c_true E rfl ?_
 refine wp_seq ?_
 refine wp_region_lit ?_
 refine vn tbok 1 [] [(4, .bool false)] [] E (by kernel_rfl) (by kernel_rfl) trivial ?_
 clear E; intro a E
 refine wpList_nil ?_
 refine th_n ?_
 refine wp_ret ?_
 refine th_ret ?_
 obtain rfl := Option.some.inj hP
 refine ret1 E rfl rfl ?_
 exact ⟨_, rfl, rfl, H.sel [] rfl⟩

/-! rejoinder/moore.Check -/
def moore_Check (N : Nat) (aProps : Int) (aAccept : List Bool) (aGuard : List Int) (aNodes : List Nd) (s : Int × Int) (xWins : Bool) (xRanks : List Int) (xChoice : List Int) (xReply : List (List Int)) : Option (Bool × Int) :=
  Option.bind (moore_begun N aProps aAccept aGuard aNodes (s.1, s.2)) fun r40 =>
  Sum.elim (fun x56 =>
    if (x56 : Int) = 0 then
      none
    else
      some (false, x56))
   (fun x57 =>
    if (x57.2 : Int) = 0 then
      Option.bind (moore_game_all N x57.1 xWins xRanks xChoice xReply) fun r68 =>
      some (r68, 0)
    else
      some (false, x57.2)) r40
set_option maxRecDepth 100000 in
set_option maxHeartbeats 4000000 in
theorem moore_Check_calls {N : Nat} {S Fa : Nat → Prop} {w0 : World} {r : Bool × Int} (A1 : Option Addr) (c2 : Nat) (A5 : Option Addr) (c6 : Nat) (A9 : Option Addr) (c10 : Nat) (A13 : Option Addr) (c14 : Nat) (A17 : Option Addr) (c18 : Nat) (A21 : Option Addr) (c22 : Nat) (aProps : Int) (aAccept : List Bool) (aGuard : List Int) (aNodes : List Nd) (s : Int × Int) (xWins : Bool) (xRanks : List Int) (xChoice : List Int) (xReply : List (List Int)) (hk3 : List.length aAccept ≤ c2) (hk7 : List.length aGuard ≤ c6) (hk11 : List.length aNodes ≤ c10) (hk15 : List.length xRanks ≤ c14) (hk19 : List.length xChoice ≤ c18) (hk23 : List.length xReply ≤ c22) (H : Hp S Fa w0 w0 [.ro false cBool A1 aAccept, .ro false (cInt .i64) A5 aGuard, .ro false cNode A9 aNodes, .ro false (cInt .i64) A13 xRanks, .ro false (cInt .u8) A17 xChoice, .ro false (cSl (cInt .u8)) A21 xReply]) (hP : moore_Check N aProps aAccept aGuard aNodes s xWins xRanks xChoice xReply = some r) :
    Calls Try.prog 21 #[.agg #[.int .i64 aProps, .slice A1 (List.length aAccept) c2, .slice A5 (List.length aGuard) c6, .slice A9 (List.length aNodes) c10], .agg #[.int .u8 s.1, .int .u8 s.2], .agg #[.bool xWins, .slice A13 (List.length xRanks) c14, .slice A17 (List.length xChoice) c18, .slice A21 (List.length xReply) c22]] w0 fun e w' => ∃ v, e = .returned v ∧ v = .tuple #[.bool r.1, .int .i64 r.2] ∧ Hp S Fa w0 w' [] := by
 refine enterV (n := 22) Try.func21 rfl rfl rfl ?_
 intro a E
 replace E := E.pick [(0, .agg #[.int .i64 aProps, .slice A1 (List.length aAccept) c2, .slice A5 (List.length aGuard) c6, .slice A9 (List.length aNodes) c10]), (1, .agg #[.int .u8 s.1, .int .u8 s.2]), (2, .agg #[.bool xWins, .slice A13 (List.length xRanks) c14, .slice A17 (List.length xChoice) c18, .slice A21 (List.length xReply) c22])] ⟨rfl, rfl, rfl, trivial⟩
 rw [moore_Check] at hP
 refine wp_seq ?_
 refine wp_region_lit ?_
 refine h_box H E rfl rfl rfl ?_
 intro w26 g25 a hc27 hg29 H_ E_
 replace E := E_ _ rfl; clear E_
 replace H := H_; clear H_; try dsimp only [setn, addE, goneL] at H
 refine h_box H E rfl rfl rfl ?_
 intro w31 g30 a hc32 hg34 H_ E_
 replace E := E_ _ rfl; clear E_
 replace H := H_; clear H_; try dsimp only [setn, addE, goneL] at H
 refine h_box H E rfl rfl rfl ?_
 intro w36 g35 a hc37 hg39 H_ E_
 replace E := E_ _ rfl; clear E_
 replace H := H_; clear H_; try dsimp only [setn, addE, goneL] at H
 refine vn tbok 2 [] [] [] E (by kernel_rfl) (by kernel_rfl) trivial ?_
 clear E; intro a E
 refine wpList_nil ?_
 refine th_n ?_
 refine wp_seq ?_
 refine wp_region_lit ?_
 refine vn tbok 2 [.agg #[.int .i64 aProps, .slice A1 (List.length aAccept) c2, .slice A5 (List.length aGuard) c6, .slice A9 (List.length aNodes) c10], .agg #[.int .u8 s.1, .int .u8 s.2]] [(11, .agg #[.int .i64 aProps, .slice A1 (List.length aAccept) c2, .slice A5 (List.length aGuard) c6, .slice A9 (List.length aNodes) c10]), (12, .agg #[.int .u8 s.1, .int .u8 s.2])] [cellsAt w36 g25 (0) [.int .i64 aProps, .slice A1 (List.length aAccept) c2, .slice A5 (List.length aGuard) c6, .slice A9 (List.length aNodes) c10], cellsAt w36 g30 (0) [.int .u8 s.1, .int .u8 s.2]] E (by kernel_rfl) (by kernel_rfl) ⟨(H.box 6 rfl).sub 0 _ rfl, (H.box 7 rfl).sub 0 _ rfl⟩ ?_
 clear E; intro a E
 obtain ⟨r40, h41, hP⟩ := bind_inv hP
 obtain ⟨Fa42, Hc43, hb44⟩ := H.callA [] [(0, false), (1, false), (2, false)] rfl rfl trivial
 refine e_call E rfl rfl Try.func31 rfl rfl rfl (moore_begun_calls A1 c2 A5 c6 A9 c10 aProps aAccept aGuard aNodes (s.1, s.2) hk3 hk7 hk11 Hc43 h41) ?_
 intro v50 w49 a hR51 E_
 rcases hR51 with ⟨x_, hr_, rfl, HR53⟩ | ⟨x_, b54, hr_, rfl, HR55⟩
 ·
  subst hr_; have hP := elim_l hP
  obtain ⟨x56, hxx_⟩ : ∃ y_, y_ = x_ := ⟨_, rfl⟩; subst hxx_
  replace E := E_ _ rfl; clear E_
  obtain ⟨H_, hc52⟩ := hb44 _ _ HR53
  replace H := H_; clear H_; try dsimp only [setn, addE, goneL] at H
  refine vn tbok 5 [] [(8, .pointer none), (9, .int .i64 x56)] [] E (by kernel_rfl) (by kernel_rfl) trivial ?_
  clear E; intro a E
  refine wpList_nil ?_
  refine th_n ?_
  refine wp_seq ?_
  refine wp_seq ?_
  refine wp_region_lit ?_
  refine vn tbok 2 [] [(17, .bool ((x56 : Int) != 0))] [] E (by kernel_rfl) (by kernel_rfl) trivial ?_
  clear E; intro a E
  refine wpList_nil ?_
  refine th_n ?_
  refine E.cases (t := 17) rfl (fun hb_ E_ => ?_) (fun hb_ E_ => ?_)
  ·
   replace E := E_; clear E_
   have h58 : ¬ ((x56 : Int) = 0) := bne_iff_ne.1 hb_
   clear hb_; replace hP := ite_f h58 hP
   refine c_true E rfl ?_
   refine wp_seq ?_
   refine wp_region_lit ?_
   refine vn tbok 3 [] [(6, .bool false), (7, .int .i64 x56)] [] E (by kernel_rfl) (by kernel_rfl) trivial ?_
   clear E; intro a E
   refine wpList_nil ?_
   refine th_n ?_
   refine wp_ret ?_
   refine th_ret ?_
   obtain rfl := Option.some.inj hP
   refine ret2 E rfl rfl rfl ?_
   exact ⟨_, rfl, rfl, H.sel [] rfl⟩
  replace E := E_; clear E_
  have h59 : (x56 : Int) = 0 := bne_eq_false_iff_eq.1 hb_
  clear hb_; replace hP := ite_t h59 hP
  exact none_inv hP
  -- STOPPED: nilCheck of nilptr
 subst hr_; have hP := (elim_r hP)
 obtain ⟨x57, hxx_⟩ : ∃ y_, y_ = x_ := ⟨_, rfl⟩; subst hxx_
 replace E := E_ _ rfl; clear E_
 obtain ⟨H_, hc52⟩ := hb44 _ _ HR55
 replace H := H_; clear H_; try dsimp only [setn, addE, goneL] at H
 refine vn tbok 5 [] [(8, .pointer (some ⟨b54, 0, none⟩)), (9, .int .i64 x57.2)] [] E (by kernel_rfl) (by kernel_rfl) trivial ?_
 clear E; intro a E
 refine wpList_nil ?_
 refine th_n ?_
 refine wp_seq ?_
 refine wp_seq ?_
 refine wp_region_lit ?_
 refine vn tbok 2 [] [(17, .bool ((x57.2 : Int) != 0))] [] E (by kernel_rfl) (by kernel_rfl) trivial ?_
 clear E; intro a E
 refine wpList_nil ?_
 refine th_n ?_
 refine E.cases (t := 17) rfl (fun hb_ E_ => ?_) (fun hb_ E_ => ?_)
 ·
  replace E := E_; clear E_
  have h66 : ¬ ((x57.2 : Int) = 0) := bne_iff_ne.1 hb_
  clear hb_; replace hP := ite_f h66 hP
  refine c_true E rfl ?_
  refine wp_seq ?_
  refine wp_region_lit ?_
  refine vn tbok 3 [] [(6, .bool false), (7, .int .i64 x57.2)] [] E (by kernel_rfl) (by kernel_rfl) trivial ?_
  clear E; intro a E
  refine wpList_nil ?_
  refine th_n ?_
  refine wp_ret ?_
  refine th_ret ?_
  obtain rfl := Option.some.inj hP
  refine ret2 E rfl rfl rfl ?_
  exact ⟨_, rfl, rfl, H.sel [] rfl⟩
 replace E := E_; clear E_
 have h67 : (x57.2 : Int) = 0 := bne_eq_false_iff_eq.1 hb_
 clear hb_; replace hP := ite_t h67 hP
 refine c_false E rfl ?_
 refine wp_skip ?_
 refine th_n ?_
 refine wp_seq ?_
 refine wp_region_lit ?_
 refine vn tbok 2 [.agg #[.bool xWins, .slice A13 (List.length xRanks) c14, .slice A17 (List.length xChoice) c18, .slice A21 (List.length xReply) c22]] [(19, .pointer (some ⟨b54, 0, none⟩)), (20, .agg #[.bool xWins, .slice A13 (List.length xRanks) c14, .slice A17 (List.length xChoice) c18, .slice A21 (List.length xReply) c22])] [cellsAt w49 g35 (0) [.bool xWins, .slice A13 (List.length xRanks) c14, .slice A17 (List.length xChoice) c18, .slice A21 (List.length xReply) c22]] E (by kernel_rfl) (by kernel_rfl) ((H.box 8 rfl).sub 0 _ rfl) ?_
 clear E; intro a E
 obtain ⟨r68, h69, hP⟩ := bind_inv hP
 obtain ⟨Fa70, Hc71, hb72⟩ := H.call [] [(9, false), (3, false), (4, false), (5, false)] rfl rfl trivial
 refine e_call E rfl rfl Try.func47 rfl rfl rfl (moore_game_all_calls b54 0 A13 c14 A17 c18 A21 c22 x57.1 xWins xRanks xChoice xReply hk15 hk19 hk23 Hc71 h69) ?_
 rintro v73 w74 a ⟨rfl, HR75⟩ E_
 replace E := E_ _ rfl; clear E_
 obtain ⟨H_, hc76⟩ := hb72 _ _ HR75 rfl
 replace H := H_; clear H_; try dsimp only [setn, addE, goneL] at H
 refine vn tbok 2 [] [(6, .bool r68), (7, .int .i64 0)] [] E (by kernel_rfl) (by kernel_rfl) trivial ?_
 clear E; intro a E
 refine wpList_nil ?_
 refine th_n ?_
 refine wp_ret ?_
 obtain rfl := Option.some.inj hP
 refine ret2 E rfl rfl rfl ?_
 exact ⟨_, rfl, rfl, H.sel [] rfl⟩

/-! slices.Index[[]rejoinder/api.Letter,rejoinder/api.Letter] -/
def slices_Index_api_Letter_api_Letter_l0 (N : Nat) (s : List Int) (vv : Int) : Nat → Int → Option (Unit ⊕ Int)
  | 0, _ => none
  | m21 + 1, x12 =>
    if x12 < (((List.length s) : Nat) : Int) then
      ask (idx x12 (List.length s)) <|
      if (vv : Int) = (List.getD s (Int.toNat x12) 0) then
        some (Sum.inr x12)
      else
        ask (in64 (x12 + 1)) <|
        slices_Index_api_Letter_api_Letter_l0 N s vv m21 (x12 + 1)
    else
      some (Sum.inl ())
def slices_Index_api_Letter_api_Letter (N : Nat) (s : List Int) (vv : Int) : Option Int :=
  Option.bind (slices_Index_api_Letter_api_Letter_l0 N s vv N 0) fun x22 =>
  Sum.elim (fun x27 =>
    some (-1))
   (fun x36 =>
    some x36) x22
set_option maxRecDepth 100000 in
set_option maxHeartbeats 4000000 in
theorem slices_Index_api_Letter_api_Letter_calls {N : Nat} {S Fa : Nat → Prop} {w0 : World} {r : Int} (A1 : Option Addr) (c2 : Nat) (s : List Int) (vv : Int) (hk3 : List.length s ≤ c2) (H : Hp S Fa w0 w0 [.ro false (cInt .u8) A1 s]) (hP : slices_Index_api_Letter_api_Letter N s vv = some r) :
    Calls Try.prog 72 #[.slice A1 (List.length s) c2, .int .u8 vv] w0 fun e w' => ∃ v, e = .returned v ∧ v = .int .i64 r ∧ Hp S Fa w0 w' [] := by
 refine enterV (n := 19) Try.func72 rfl rfl rfl ?_
 intro a E
 replace E := E.pick [(0, .slice A1 (List.length s) c2), (1, .int .u8 vv)] ⟨rfl, rfl, trivial⟩
 rw [slices_Index_api_Letter_api_Letter] at hP
 refine wp_seq ?_
 refine wp_region_lit ?_
 refine vn tbok 1 [] [] [] E (by kernel_rfl) (by kernel_rfl) trivial ?_
 clear E; intro a E
 refine wpList_nil ?_
 refine th_n ?_
 refine wp_seq ?_
 refine wp_seq ?_
 refine wp_region_lit ?_
 refine vn tbok 3 [] [(7, .int .i64 (((List.length s) : Nat) : Int)), (8, .int .i64 0)] [] E (by kernel_rfl) (by kernel_rfl) trivial ?_
 clear E; intro a E
 refine wpList_nil ?_
 refine th_n ?_
 refine wp_block ?_
 obtain ⟨x22, hL23, hK24⟩ := bind_inv hP
 clear hP
 refine loop_cut (fun i_ a w_ => (i_ = 0 ∧ ∃ (x27 : Unit), Fr a 19 [] ∧ Hp S Fa w0 w_ [] ∧ x22 = Sum.inl x27)) ?_ ?_
 ·
  refine loopV (fun m26 a w25 => ∃ (x12 : Int), Fr a 19 [(0, .slice A1 (List.length s) c2), (1, .int .u8 vv), (7, .int .i64 (((List.length s) : Nat) : Int)), (8, .int .i64 x12)] ∧ Hp S Fa w0 w25 [.ro false (cInt .u8) A1 s] ∧ slices_Index_api_Letter_api_Letter_l0 N s vv m26 x12 = some x22) N ?_ ?_
  ·
   exact ⟨0, E.pick _ ⟨rfl, rfl, rfl, rfl, trivial⟩, H.sel [0] rfl, hL23⟩
  clear E H hL23; intro m26 a w25 hI_
  obtain ⟨x12, E, H, hP⟩ := hI_
  obtain ⟨m21, rfl⟩ : ∃ q_, m26 = q_ + 1 := by cases m26 with | zero => rw [slices_Index_api_Letter_api_Letter_l0] at hP; cases hP | succ q_ => exact ⟨q_, rfl⟩
  rw [slices_Index_api_Letter_api_Letter_l0] at hP
  refine wp_seq ?_
  refine wp_region_lit ?_
  refine vn tbok 1 [] [(9, .bool (decide (x12 < (((List.length s) : Nat) : Int))))] [] E (by kernel_rfl) (by kernel_rfl) trivial ?_
  clear E; intro a E
  refine wpList_nil ?_
  refine th_n ?_
  refine wp_seq ?_
  refine E.cases (t := 9) rfl (fun hb_ E_ => ?_) (fun hb_ E_ => ?_)
  ·
   replace E := E_; clear E_
   have h28 : x12 < (((List.length s) : Nat) : Int) := of_decide_eq_true hb_
   clear hb_; replace hP := ite_t h28 hP
   refine c_true E rfl ?_
   refine wp_skip ?_
   refine th_n ?_
   refine wp_seq ?_
   refine wp_block ?_
   refine wp_seq ?_
   refine wp_region_lit ?_
   refine vn tbok 2 [] [(5, .int .i64 x12)] [] E (by kernel_rfl) (by kernel_rfl) trivial ?_
   clear E; intro a E
   refine wpList_nil ?_
   refine th_n ?_
   refine wp_seq ?_
   refine wp_region_lit ?_
   obtain ⟨g29, hP⟩ := ask_inv hP
   obtain ⟨b30, o31, e_b30⟩ := (H.rd 0 rds_ro).addr (idx_pos g29)
   subst e_b30
   refine vn tbok 6 [.int .u8 (List.getD s (Int.toNat x12) 0)] [(16, .bool ((vv : Int) == (List.getD s (Int.toNat x12) 0)))] [0 ≤ x12 ∧ x12 < (((List.length s) : Nat) : Int), World.cell? w25 ⟨b30, o31 + (Int.toNat x12) * 1, none⟩ = some (.int .u8 (List.getD s (Int.toNat x12) 0))] E (by kernel_rfl) (by kernel_rfl) ⟨g29, Rds.at1 (H.rd 0 rds_ro) 0 g29⟩ ?_
   clear E; intro a E
   refine wpList_nil ?_
   refine th_n ?_
   refine E.cases (t := 16) rfl (fun hb_ E_ => ?_) (fun hb_ E_ => ?_)
   ·
    replace E := E_; clear E_
    have h32 : (vv : Int) = (List.getD s (Int.toNat x12) 0) := eq_of_beq hb_
    clear hb_; replace hP := ite_t h32 hP
    refine c_true E rfl ?_
    refine wp_seq ?_
    refine wp_region_lit ?_
    refine vn tbok 2 [] [(4, .int .i64 x12)] [] E (by kernel_rfl) (by kernel_rfl) trivial ?_
    clear E; intro a E
    refine wpList_nil ?_
    refine th_n ?_
    refine wp_ret ?_
    refine bl_ret ?_
    refine th_ret ?_
    refine th_ret ?_
    refine .inr ⟨rfl, ?_⟩
    refine bl_ret ?_
    refine th_ret ?_
    have hx_ := Option.some.inj hP; subst hx_
    have hP : some (x12) = some r := hK24
    obtain rfl := Option.some.inj hP
    refine ret1 E rfl rfl ?_
    exact ⟨_, rfl, rfl, H.sel [] rfl⟩
   replace E := E_; clear E_
   have h33 : ¬ ((vv : Int) = (List.getD s (Int.toNat x12) 0)) := ne_of_beq_false hb_
   clear hb_; replace hP := ite_f h33 hP
   refine c_false E rfl ?_
   refine wp_skip ?_
   refine bl_n ?_
   refine th_n ?_
   refine wp_region_lit ?_
   obtain ⟨g34, hP⟩ := ask_inv hP
   refine vn tbok 2 [.int .i64 (x12 + 1)] [(8, .int .i64 (x12 + 1))] [IntKind.i64.wrap (x12 + 1) = x12 + 1] E (by kernel_rfl) (by kernel_rfl) (wrap_in g34) ?_
   clear E; intro a E
   refine wpList_nil ?_
   exact th_n ⟨m21, Nat.lt_succ_self _, x12 + 1, E.pick _ ⟨rfl, rfl, rfl, rfl, trivial⟩, H.sel [0] rfl, hP⟩
  replace E := E_; clear E_
  have h35 : ¬ (x12 < (((List.length s) : Nat) : Int)) := of_decide_eq_false hb_
  clear hb_; replace hP := ite_f h35 hP
  refine c_false E rfl ?_
  refine wp_exit ?_
  refine th_exit ?_
  have hx_ := Option.some.inj hP
  refine th_exit (.inl ⟨0, rfl, ?_⟩)
  exact ⟨rfl, (), E.pick _ trivial, H.sel [] rfl, hx_.symm⟩
 clear E H hL23; intro i_ a w25 hM_
 obtain ⟨rfl, x27, E, H, hx_⟩ := hM_
 subst hx_; have hP := elim_l hK24
 clear hK24
 refine bl_hit ?_
 refine th_n ?_
 refine wp_seq ?_
 refine wp_region_lit ?_
 refine vn tbok 1 [] [(4, .int .i64 (-1))] [] E (by kernel_rfl) (by kernel_rfl) trivial ?_
 clear E; intro a E
 refine wpList_nil ?_
 refine th_n ?_
 refine wp_ret ?_
 obtain rfl := Option.some.inj hP
 refine ret1 E rfl rfl ?_
 exact ⟨_, rfl, rfl, H.sel [] rfl⟩

/-! rejoinder/board.Number -/
def board_Number (N : Nat) (mask : Int) (move : Int) : Option (Int × Int) :=
  Option.bind (board_Moves N mask) fun r1 =>
  Option.bind (slices_Index_api_Letter_api_Letter N r1 move) fun r13 =>
  if r13 < 0 then
    some (0, 14)
  else
    some (r13, 0)
set_option maxRecDepth 100000 in
set_option maxHeartbeats 4000000 in
theorem board_Number_calls {N : Nat} {S Fa : Nat → Prop} {w0 : World} {r : Int × Int} (mask : Int) (move : Int) (H : Hp S Fa w0 w0 []) (hP : board_Number N mask move = some r) :
    Calls Try.prog 49 #[.int .u8 mask, .int .u8 move] w0 fun e w' => ∃ v, e = .returned v ∧ v = .tuple #[.int .i64 r.1, .int .i64 r.2] ∧ Hp S Fa w0 w' [] := by
 refine enterV (n := 14) Try.func49 rfl rfl rfl ?_
 intro a E
 replace E := E.pick [(0, .int .u8 mask), (1, .int .u8 move)] ⟨rfl, rfl, trivial⟩
 rw [board_Number] at hP
 refine wp_seq ?_
 refine wp_region_lit ?_
 refine vn tbok 2 [] [] [] E (by kernel_rfl) (by kernel_rfl) trivial ?_
 clear E; intro a E
 refine wpList_nil ?_
 refine th_n ?_
 refine wp_seq ?_
 refine wp_region_lit ?_
 refine vn tbok 1 [] [(7, .int .u8 mask)] [] E (by kernel_rfl) (by kernel_rfl) trivial ?_
 clear E; intro a E
 obtain ⟨r1, h2, hP⟩ := bind_inv hP
 obtain ⟨Fa3, Hc4, hb5⟩ := H.call [] [] rfl rfl trivial
 refine e_call E rfl rfl Try.func29 rfl rfl rfl (board_Moves_calls  mask  Hc4 h2) ?_
 rintro v6 w7 a ⟨A10, c11, rfl, HR8⟩ E_
 replace E := E_ _ rfl; clear E_
 obtain ⟨H_, hc9⟩ := hb5 _ _ HR8 rfl
 replace H := H_; clear H_; try dsimp only [setn, addE, goneL] at H
 refine vn tbok 1 [] [(9, .int .u8 move)] [] E (by kernel_rfl) (by kernel_rfl) trivial ?_
 clear E; intro a E
 obtain ⟨r13, h14, hP⟩ := bind_inv hP
 obtain ⟨Fa15, Hc16, hb17⟩ := H.call [] [(0, false)] rfl rfl trivial
 refine e_call E rfl rfl Try.func72 rfl rfl rfl (slices_Index_api_Letter_api_Letter_calls A10 c11 r1 move (H.rcap 0 rfl) Hc16 h14) ?_
 rintro v18 w19 a ⟨rfl, HR20⟩ E_
 replace E := E_ _ rfl; clear E_
 obtain ⟨H_, hc21⟩ := hb17 _ _ HR20 rfl
 replace H := H_; clear H_; try dsimp only [setn, addE, goneL] at H
 refine vn tbok 1 [] [(6, .int .i64 r13)] [] E (by kernel_rfl) (by kernel_rfl) trivial ?_
 clear E; intro a E
 refine wpList_nil ?_
 refine th_n ?_
 refine wp_seq ?_
 refine wp_seq ?_
 refine wp_region_lit ?_
 refine vn tbok 2 [] [(12, .bool (decide (r13 < 0)))] [] E (by kernel_rfl) (by kernel_rfl) trivial ?_
 clear E; intro a E
 refine wpList_nil ?_
 refine th_n ?_
 refine E.cases (t := 12) rfl (fun hb_ E_ => ?_) (fun hb_ E_ => ?_)
 ·
  replace E := E_; clear E_
  have h22 : r13 < 0 := of_decide_eq_true hb_
  clear hb_; replace hP := ite_t h22 hP
  refine c_true E rfl ?_
  refine wp_seq ?_
  refine wp_region_lit ?_
  refine vn tbok 2 [] [(4, .int .i64 0), (5, .int .i64 14)] [] E (by kernel_rfl) (by kernel_rfl) trivial ?_
  clear E; intro a E
  refine wpList_nil ?_
  refine th_n ?_
  refine wp_ret ?_
  refine th_ret ?_
  obtain rfl := Option.some.inj hP
  refine ret2 E rfl rfl rfl ?_
  exact ⟨_, rfl, rfl, H.sel [] rfl⟩
 replace E := E_; clear E_
 have h23 : ¬ (r13 < 0) := of_decide_eq_false hb_
 clear hb_; replace hP := ite_f h23 hP
 refine c_false E rfl ?_
 refine wp_skip ?_
 refine th_n ?_
 refine wp_seq ?_
 refine wp_region_lit ?_
 refine vn tbok 3 [] [(4, .int .i64 r13), (5, .int .i64 0)] [] E (by kernel_rfl) (by kernel_rfl) trivial ?_
 clear E; intro a E
 refine wpList_nil ?_
 refine th_n ?_
 refine wp_ret ?_
 obtain rfl := Option.some.inj hP
 refine ret2 E rfl rfl rfl ?_
 exact ⟨_, rfl, rfl, H.sel [] rfl⟩

/-! rejoinder/moore.Play -/
def moore_Play_j0 (N : Nat) (s : Int × Int) (xWins : Bool) : Option Int :=
    if xWins = true then
      some s.1
    else
      some s.2
def moore_Play_j2 (N : Nat) (xWins : Bool) (xChoice : List Int) (xReply : List (List Int)) (q165 : Int) (r244 : Int × Int) : Option Int :=
    if xWins = true then
      some (List.getD xChoice (Int.toNat q165) 0)
    else
      ask (idx q165 (List.length xReply)) <|
      ask (idx r244.1 (List.length (List.getD xReply (Int.toNat q165) []))) <|
      some (List.getD (List.getD xReply (Int.toNat q165) []) (Int.toNat r244.1) 0)
def moore_Play_l1 (N : Nat) (aAccept : List Bool) (xWins : Bool) (xChoice : List Int) (xReply : List (List Int)) (moves : List Int) (x61 : ((Int × (List Bool) × (List Int) × (List Nd)) × (Int × Int) × (List Int) × (List Int)) × Int) (x92 : Int) : Nat → (List Int) → Int → Int → Option ((List Int) ⊕ ((List Int) × Int))
  | 0, _, _, _ => none
  | m229 + 1, out162, q165, i166 =>
    if i166 < (((List.length moves) : Nat) : Int) then
      ask (idx q165 (List.length aAccept)) <|
      if (List.getD aAccept (Int.toNat q165) false) = true then
        some (Sum.inl out162)
      else
        ask (idx i166 (List.length moves)) <|
        Option.bind (board_Number N x92 (List.getD moves (Int.toNat i166) 0)) fun r244 =>
        if (r244.2 : Int) = 0 then
          ask (idx q165 (List.length xChoice)) <|
          Option.bind (moore_Play_j2 N xWins xChoice xReply q165 r244) fun x273 =>
          Option.bind (moore_game_to N x61.1 q165 (orV .u8 x273 (List.getD moves (Int.toNat i166) 0))) fun r291 =>
          ask (List.length out162 + List.length ([r291] : List Int) ≤ 1000000000) <|
          ask (in64 (i166 + 1)) <|
          moore_Play_l1 N aAccept xWins xChoice xReply moves x61 x92 m229 (out162 ++ ([r291] : List Int)) r291 (i166 + 1)
        else
          some (Sum.inr ([], r244.2))
    else
      some (Sum.inl out162)
def moore_Play (N : Nat) (aProps : Int) (aAccept : List Bool) (aGuard : List Int) (aNodes : List Nd) (s : Int × Int) (xWins : Bool) (xRanks : List Int) (xChoice : List Int) (xReply : List (List Int)) (moves : List Int) : Option ((List Int) × Int) :=
  Option.bind (moore_begun N aProps aAccept aGuard aNodes (s.1, s.2)) fun r44 =>
  Sum.elim (fun x60 =>
    if (x60 : Int) = 0 then
      none
    else
      some ([], x60))
   (fun x61 =>
    if (x61.2 : Int) = 0 then
      Option.bind (moore_game_all N x61.1 xWins xRanks xChoice xReply) fun r74 =>
      if r74 = true then
        if 1024 < (((List.length moves) : Nat) : Int) then
          some ([], 3)
        else
          Option.bind (moore_Play_j0 N s xWins) fun x92 =>
          Option.bind (moore_Play_l1 N aAccept xWins xChoice xReply moves x61 x92 N ([0] : List Int) 0 0) fun x230 =>
          Sum.elim (fun x235 =>
            some (x235, 0))
           (fun x314 =>
            some x314) x230
      else
        some ([], 360)
    else
      some ([], x61.2)) r44
set_option maxRecDepth 100000 in
set_option maxHeartbeats 4000000 in
theorem moore_Play_calls {N : Nat} {S Fa : Nat → Prop} {w0 : World} {r : (List Int) × Int} (A1 : Option Addr) (c2 : Nat) (A5 : Option Addr) (c6 : Nat) (A9 : Option Addr) (c10 : Nat) (A13 : Option Addr) (c14 : Nat) (A17 : Option Addr) (c18 : Nat) (A21 : Option Addr) (c22 : Nat) (A25 : Option Addr) (c26 : Nat) (aProps : Int) (aAccept : List Bool) (aGuard : List Int) (aNodes : List Nd) (s : Int × Int) (xWins : Bool) (xRanks : List Int) (xChoice : List Int) (xReply : List (List Int)) (moves : List Int) (hk3 : List.length aAccept ≤ c2) (hk7 : List.length aGuard ≤ c6) (hk11 : List.length aNodes ≤ c10) (hk15 : List.length xRanks ≤ c14) (hk19 : List.length xChoice ≤ c18) (hk23 : List.length xReply ≤ c22) (hk27 : List.length moves ≤ c26) (H : Hp S Fa w0 w0 [.ro false cBool A1 aAccept, .ro false (cInt .i64) A5 aGuard, .ro false cNode A9 aNodes, .ro false (cInt .i64) A13 xRanks, .ro false (cInt .u8) A17 xChoice, .ro false (cSl (cInt .u8)) A21 xReply, .ro false (cInt .u8) A25 moves]) (hP : moore_Play N aProps aAccept aGuard aNodes s xWins xRanks xChoice xReply moves = some r) :
    Calls Try.prog 23 #[.agg #[.int .i64 aProps, .slice A1 (List.length aAccept) c2, .slice A5 (List.length aGuard) c6, .slice A9 (List.length aNodes) c10], .agg #[.int .u8 s.1, .int .u8 s.2], .agg #[.bool xWins, .slice A13 (List.length xRanks) c14, .slice A17 (List.length xChoice) c18, .slice A21 (List.length xReply) c22], .slice A25 (List.length moves) c26] w0 fun e w' => ∃ v, e = .returned v ∧ ∃ (A315 : Option Addr) (c316 : Nat), v = .tuple #[.slice A315 (List.length r.1) c316, .int .i64 r.2] ∧ Hp S Fa w0 w' [.row true (cInt .i64) 3 A315 c316 r.1] := by
 refine enterV (n := 101) Try.func23 rfl rfl rfl ?_
 intro a E
 replace E := E.pick [(0, .agg #[.int .i64 aProps, .slice A1 (List.length aAccept) c2, .slice A5 (List.length aGuard) c6, .slice A9 (List.length aNodes) c10]), (1, .agg #[.int .u8 s.1, .int .u8 s.2]), (2, .agg #[.bool xWins, .slice A13 (List.length xRanks) c14, .slice A17 (List.length xChoice) c18, .slice A21 (List.length xReply) c22]), (3, .slice A25 (List.length moves) c26)] ⟨rfl, rfl, rfl, rfl, trivial⟩
 rw [moore_Play] at hP
 refine wp_seq ?_
 refine wp_region_lit ?_
 refine h_box H E rfl rfl rfl ?_
 intro w30 g29 a hc31 hg33 H_ E_
 replace E := E_ _ rfl; clear E_
 replace H := H_; clear H_; try dsimp only [setn, addE, goneL] at H
 refine h_box H E rfl rfl rfl ?_
 intro w35 g34 a hc36 hg38 H_ E_
 replace E := E_ _ rfl; clear E_
 replace H := H_; clear H_; try dsimp only [setn, addE, goneL] at H
 refine h_box H E rfl rfl rfl ?_
 intro w40 g39 a hc41 hg43 H_ E_
 replace E := E_ _ rfl; clear E_
 replace H := H_; clear H_; try dsimp only [setn, addE, goneL] at H
 refine vn tbok 2 [] [] [] E (by kernel_rfl) (by kernel_rfl) trivial ?_
 clear E; intro a E
 refine wpList_nil ?_
 refine th_n ?_
 refine wp_seq ?_
 refine wp_region_lit ?_
 refine vn tbok 2 [.agg #[.int .i64 aProps, .slice A1 (List.length aAccept) c2, .slice A5 (List.length aGuard) c6, .slice A9 (List.length aNodes) c10], .agg #[.int .u8 s.1, .int .u8 s.2]] [(20, .agg #[.int .i64 aProps, .slice A1 (List.length aAccept) c2, .slice A5 (List.length aGuard) c6, .slice A9 (List.length aNodes) c10]), (21, .agg #[.int .u8 s.1, .int .u8 s.2])] [cellsAt w40 g29 (0) [.int .i64 aProps, .slice A1 (List.length aAccept) c2, .slice A5 (List.length aGuard) c6, .slice A9 (List.length aNodes) c10], cellsAt w40 g34 (0) [.int .u8 s.1, .int .u8 s.2]] E (by kernel_rfl) (by kernel_rfl) ⟨(H.box 7 rfl).sub 0 _ rfl, (H.box 8 rfl).sub 0 _ rfl⟩ ?_
 clear E; intro a E
 obtain ⟨r44, h45, hP⟩ := bind_inv hP
 obtain ⟨Fa46, Hc47, hb48⟩ := H.callA [] [(0, false), (1, false), (2, false)] rfl rfl trivial
 refine e_call E rfl rfl Try.func31 rfl rfl rfl (moore_begun_calls A1 c2 A5 c6 A9 c10 aProps aAccept aGuard aNodes (s.1, s.2) hk3 hk7 hk11 Hc47 h45) ?_
 intro v54 w53 a hR55 E_
 rcases hR55 with ⟨x_, hr_, rfl, HR57⟩ | ⟨x_, b58, hr_, rfl, HR59⟩
 ·
  subst hr_; have hP := elim_l hP
  obtain ⟨x60, hxx_⟩ : ∃ y_, y_ = x_ := ⟨_, rfl⟩; subst hxx_
  replace E := E_ _ rfl; clear E_
  obtain ⟨H_, hc56⟩ := hb48 _ _ HR57
  replace H := H_; clear H_; try dsimp only [setn, addE, goneL] at H
  refine vn tbok 5 [] [(10, .pointer none), (11, .int .i64 x60)] [] E (by kernel_rfl) (by kernel_rfl) trivial ?_
  clear E; intro a E
  refine wpList_nil ?_
  refine th_n ?_
  refine wp_seq ?_
  refine wp_block ?_
  refine wp_seq ?_
  refine wp_region_lit ?_
  refine vn tbok 3 [] [(25, .bool ((x60 : Int) != 0))] [] E (by kernel_rfl) (by kernel_rfl) trivial ?_
  clear E; intro a E
  refine wpList_nil ?_
  refine th_n ?_
  refine E.cases (t := 25) rfl (fun hb_ E_ => ?_) (fun hb_ E_ => ?_)
  ·
   replace E := E_; clear E_
   have h62 : ¬ ((x60 : Int) = 0) := bne_iff_ne.1 hb_
   clear hb_; replace hP := ite_f h62 hP
   refine c_true E rfl ?_
   refine wp_seq ?_
   refine wp_region_lit ?_
   refine vn tbok 3 [] [(8, .slice none 0 0), (9, .int .i64 x60)] [] E (by kernel_rfl) (by kernel_rfl) trivial ?_
   clear E; intro a E
   refine wpList_nil ?_
   refine th_n ?_
   refine wp_ret ?_
   refine bl_ret ?_
   refine th_ret ?_
   replace H := H.nilrow (cInt .i64) 3; try dsimp only [setn, addE, goneL] at H
   obtain rfl := Option.some.inj hP
   refine ret2 E rfl rfl rfl ?_
   exact ⟨_, rfl, none, 0, rfl, H.sel [10] rfl⟩
  replace E := E_; clear E_
  have h64 : (x60 : Int) = 0 := bne_eq_false_iff_eq.1 hb_
  clear hb_; replace hP := ite_t h64 hP
  exact none_inv hP
  -- STOPPED: nilCheck of nilptr
 subst hr_; have hP := (elim_r hP)
 obtain ⟨x61, hxx_⟩ : ∃ y_, y_ = x_ := ⟨_, rfl⟩; subst hxx_
 replace E := E_ _ rfl; clear E_
 obtain ⟨H_, hc56⟩ := hb48 _ _ HR59
 replace H := H_; clear H_; try dsimp only [setn, addE, goneL] at H
 refine vn tbok 5 [] [(10, .pointer (some ⟨b58, 0, none⟩)), (11, .int .i64 x61.2)] [] E (by kernel_rfl) (by kernel_rfl) trivial ?_
 clear E; intro a E
 refine wpList_nil ?_
 refine th_n ?_
 refine wp_seq ?_
 refine wp_block ?_
 refine wp_seq ?_
 refine wp_region_lit ?_
 refine vn tbok 3 [] [(25, .bool ((x61.2 : Int) != 0))] [] E (by kernel_rfl) (by kernel_rfl) trivial ?_
 clear E; intro a E
 refine wpList_nil ?_
 refine th_n ?_
 refine E.cases (t := 25) rfl (fun hb_ E_ => ?_) (fun hb_ E_ => ?_)
 ·
  replace E := E_; clear E_
  have h71 : ¬ ((x61.2 : Int) = 0) := bne_iff_ne.1 hb_
  clear hb_; replace hP := ite_f h71 hP
  refine c_true E rfl ?_
  refine wp_seq ?_
  refine wp_region_lit ?_
  refine vn tbok 3 [] [(8, .slice none 0 0), (9, .int .i64 x61.2)] [] E (by kernel_rfl) (by kernel_rfl) trivial ?_
  clear E; intro a E
  refine wpList_nil ?_
  refine th_n ?_
  refine wp_ret ?_
  refine bl_ret ?_
  refine th_ret ?_
  replace H := H.nilrow (cInt .i64) 3; try dsimp only [setn, addE, goneL] at H
  obtain rfl := Option.some.inj hP
  refine ret2 E rfl rfl rfl ?_
  exact ⟨_, rfl, none, 0, rfl, H.sel [11] rfl⟩
 replace E := E_; clear E_
 have h73 : (x61.2 : Int) = 0 := bne_eq_false_iff_eq.1 hb_
 clear hb_; replace hP := ite_t h73 hP
 refine c_false E rfl ?_
 refine wp_seq ?_
 refine wp_region_lit ?_
 refine vn tbok 2 [.agg #[.bool xWins, .slice A13 (List.length xRanks) c14, .slice A17 (List.length xChoice) c18, .slice A21 (List.length xReply) c22]] [(30, .pointer (some ⟨b58, 0, none⟩)), (31, .agg #[.bool xWins, .slice A13 (List.length xRanks) c14, .slice A17 (List.length xChoice) c18, .slice A21 (List.length xReply) c22])] [cellsAt w53 g39 (0) [.bool xWins, .slice A13 (List.length xRanks) c14, .slice A17 (List.length xChoice) c18, .slice A21 (List.length xReply) c22]] E (by kernel_rfl) (by kernel_rfl) ((H.box 9 rfl).sub 0 _ rfl) ?_
 clear E; intro a E
 obtain ⟨r74, h75, hP⟩ := bind_inv hP
 obtain ⟨Fa76, Hc77, hb78⟩ := H.call [] [(10, false), (3, false), (4, false), (5, false)] rfl rfl trivial
 refine e_call E rfl rfl Try.func47 rfl rfl rfl (moore_game_all_calls b58 0 A13 c14 A17 c18 A21 c22 x61.1 xWins xRanks xChoice xReply hk15 hk19 hk23 Hc77 h75) ?_
 rintro v79 w80 a ⟨rfl, HR81⟩ E_
 replace E := E_ _ rfl; clear E_
 obtain ⟨H_, hc82⟩ := hb78 _ _ HR81 rfl
 replace H := H_; clear H_; try dsimp only [setn, addE, goneL] at H
 refine vn tbok 2 [] [(29, .bool (!r74))] [] E (by kernel_rfl) (by kernel_rfl) trivial ?_
 clear E; intro a E
 refine wpList_nil ?_
 refine th_n ?_
 refine E.cases (t := 29) rfl (fun hb_ E_ => ?_) (fun hb_ E_ => ?_)
 ·
  replace E := E_; clear E_
  have h83 : ¬ (r74 = true) := (ne_true_of_eq_false (not_t hb_))
  clear hb_; replace hP := ite_f h83 hP
  refine c_true E rfl ?_
  refine wp_seq ?_
  refine wp_region_lit ?_
  refine vn tbok 2 [] [(8, .slice none 0 0), (9, .int .i64 360)] [] E (by kernel_rfl) (by kernel_rfl) trivial ?_
  clear E; intro a E
  refine wpList_nil ?_
  refine th_n ?_
  refine wp_ret ?_
  refine bl_ret ?_
  refine th_ret ?_
  replace H := H.nilrow (cInt .i64) 3; try dsimp only [setn, addE, goneL] at H
  obtain rfl := Option.some.inj hP
  refine ret2 E rfl rfl rfl ?_
  exact ⟨_, rfl, none, 0, rfl, H.sel [11] rfl⟩
 replace E := E_; clear E_
 have h85 : r74 = true := (not_f hb_)
 clear hb_; replace hP := ite_t h85 hP
 refine c_false E rfl ?_
 refine wp_seq ?_
 refine wp_region_lit ?_
 refine vn tbok 4 [] [(34, .bool (decide (1024 < (((List.length moves) : Nat) : Int))))] [] E (by kernel_rfl) (by kernel_rfl) trivial ?_
 clear E; intro a E
 refine wpList_nil ?_
 refine th_n ?_
 refine E.cases (t := 34) rfl (fun hb_ E_ => ?_) (fun hb_ E_ => ?_)
 ·
  replace E := E_; clear E_
  have h86 : 1024 < (((List.length moves) : Nat) : Int) := of_decide_eq_true hb_
  clear hb_; replace hP := ite_t h86 hP
  refine c_true E rfl ?_
  refine wp_seq ?_
  refine wp_region_lit ?_
  refine vn tbok 2 [] [(8, .slice none 0 0), (9, .int .i64 3)] [] E (by kernel_rfl) (by kernel_rfl) trivial ?_
  clear E; intro a E
  refine wpList_nil ?_
  refine th_n ?_
  refine wp_ret ?_
  refine bl_ret ?_
  refine th_ret ?_
  replace H := H.nilrow (cInt .i64) 3; try dsimp only [setn, addE, goneL] at H
  obtain rfl := Option.some.inj hP
  refine ret2 E rfl rfl rfl ?_
  exact ⟨_, rfl, none, 0, rfl, H.sel [11] rfl⟩
 replace E := E_; clear E_
 have h88 : ¬ (1024 < (((List.length moves) : Nat) : Int)) := of_decide_eq_false hb_
 clear hb_; replace hP := ite_f h88 hP
 refine c_false E rfl ?_
 refine wp_skip ?_
 refine bl_n ?_
 refine th_n ?_
 refine wp_seq ?_
 refine wp_region_lit ?_
 refine vn tbok 3 [.int .u8 s.2] [(12, .int .u8 s.2)] [World.cell? w80 ⟨g34, 1, none⟩ = some (.int .u8 s.2)] E (by kernel_rfl) (by kernel_rfl) ((H.box 8 rfl).cell (j := 1) rfl) ?_
 clear E; intro a E
 refine wpList_nil ?_
 refine th_n ?_
 refine wp_seq ?_
 refine wp_seq ?_
 refine wp_region_lit ?_
 refine vn tbok 2 [.bool xWins] [(41, .bool xWins)] [World.cell? w80 ⟨g39, 0, none⟩ = some (.bool xWins)] E (by kernel_rfl) (by kernel_rfl) ((H.box 9 rfl).cell (j := 0) rfl) ?_
 clear E; intro a E
 refine wpList_nil ?_
 refine th_n ?_
 obtain ⟨x92, h93, hK94⟩ := bind_inv hP
 clear hP
 refine meet_cut (fun a w96 => ∃ (x95 : Int), Fr a 101 [(3, .slice A25 (List.length moves) c26), (4, .pointer (some ⟨g29, 0, none⟩)), (6, .pointer (some ⟨g39, 0, none⟩)), (10, .pointer (some ⟨b58, 0, none⟩)), (12, .int .u8 x95)] ∧ Hp S Fa w0 w96 [.ro false (cInt .u8) A25 moves, .ro false cBool A1 aAccept, .ro false (cInt .i64) A5 aGuard, .ro false cNode A9 aNodes, .box g29 26 [.int .i64 aProps, .slice A1 (List.length aAccept) c2, .slice A5 (List.length aGuard) c6, .slice A9 (List.length aNodes) c10], .ro false (cInt .i64) A13 xRanks, .ro false (cInt .u8) A17 xChoice, .ro false (cSl (cInt .u8)) A21 xReply, .box g39 38 [.bool xWins, .slice A13 (List.length xRanks) c14, .slice A17 (List.length xChoice) c18, .slice A21 (List.length xReply) c22], .ro false cS87 (some ⟨b58, 0, none⟩) ([x61.1])] ∧ x92 = x95) ?_ ?_
 ·
  have hP := h93; clear h93; rw [moore_Play_j0] at hP
  refine E.cases (t := 41) rfl (fun hb_ E_ => ?_) (fun hb_ E_ => ?_)
  ·
   replace E := E_; clear E_
   have h97 : xWins = true := hb_
   clear hb_; replace hP := ite_t h97 hP
   refine c_true E rfl ?_
   refine wp_region_lit ?_
   refine vn tbok 3 [.int .u8 s.1] [(12, .int .u8 s.1)] [World.cell? w80 ⟨g34, 0, none⟩ = some (.int .u8 s.1)] E (by kernel_rfl) (by kernel_rfl) ((H.box 8 rfl).cell (j := 0) rfl) ?_
   clear E; intro a E
   refine wpList_nil ?_
   have hx_ := Option.some.inj hP
   exact .inl ⟨rfl, s.1, E.pick _ ⟨rfl, rfl, rfl, rfl, rfl, trivial⟩, H.sel [6, 0, 1, 2, 7, 3, 4, 5, 9, 10] rfl, hx_.symm⟩
  replace E := E_; clear E_
  have h98 : ¬ (xWins = true) := (ne_true_of_eq_false hb_)
  clear hb_; replace hP := ite_f h98 hP
  refine c_false E rfl ?_
  refine wp_skip ?_
  have hx_ := Option.some.inj hP
  exact .inl ⟨rfl, s.2, E.pick _ ⟨rfl, rfl, rfl, rfl, rfl, trivial⟩, H.sel [6, 0, 1, 2, 7, 3, 4, 5, 9, 10] rfl, hx_.symm⟩
 clear E H h93; rintro a w96 ⟨x95, E, H, hx_⟩
 subst hx_; have hP := hK94; clear hK94
 refine th_n ?_
 refine wp_seq ?_
 refine wp_region_lit ?_
 refine h_buildSlice (ps := [(0, .int .i64 0)]) (cs := [.int .i64 0]) H E rfl rfl tbok rfl rfl (by kernel_rfl) ?_
 intro w100 g99 a hc101 hg103 H_ E_
 replace E := E_ _ rfl; clear E_
 replace H := H_; clear H_; try dsimp only [setn, addE, goneL] at H
 refine vn tbok 1 [] [(13, .slice (some ⟨g99, 0, none⟩) 1 1)] [] E (by kernel_rfl) (by kernel_rfl) trivial ?_
 clear E; intro a E
 refine wpList_nil ?_
 refine th_n ?_
 refine wp_seq ?_
 refine wp_seq ?_
 refine wp_region_lit ?_
 refine vn tbok 2 [] [(14, .int .i64 0), (15, .int .i64 0)] [] E (by kernel_rfl) (by kernel_rfl) trivial ?_
 clear E; intro a E
 refine wpList_nil ?_
 refine th_n ?_
 refine wp_block ?_
 obtain ⟨x230, hL231, hK232⟩ := bind_inv hP
 clear hP
 replace H := H.boxRow (cInt .i64) true ([0] : List Int) 10 rfl (fun _ _ => ⟨_, _, rfl, rfl, rfl⟩) (Nat.le_of_ble_eq_true rfl); try dsimp only [setn, addE, goneL] at H
 replace H := H.rowx 10 rfl; try dsimp only [setn, addE, goneL] at H
 refine loop_cut (fun i_ a w_ => (i_ = 1 ∧ ∃ (x235 : List Int), ∃ (A227 : Option Addr) (c228 : Nat), Fr a 101 [(13, .slice A227 (List.length x235) c228)] ∧ Hp S Fa w0 w_ [.row true (cInt .i64) 3 A227 c228 x235] ∧ x230 = Sum.inl x235)) ?_ ?_
 ·
  refine loopV (fun m234 a w233 => ∃ (out162 : List Int) (q165 : Int) (i166 : Int), ∃ (A163 : Option Addr) (c164 : Nat), Fr a 101 [(3, .slice A25 (List.length moves) c26), (4, .pointer (some ⟨g29, 0, none⟩)), (6, .pointer (some ⟨g39, 0, none⟩)), (10, .pointer (some ⟨b58, 0, none⟩)), (12, .int .u8 x92), (13, .slice A163 (List.length out162) c164), (14, .int .i64 q165), (15, .int .i64 i166)] ∧ Hp S Fa w0 w233 [.ro false (cInt .u8) A25 moves, .ro false cBool A1 aAccept, .ro false (cInt .i64) A5 aGuard, .ro false cNode A9 aNodes, .box g29 26 [.int .i64 aProps, .slice A1 (List.length aAccept) c2, .slice A5 (List.length aGuard) c6, .slice A9 (List.length aNodes) c10], .ro false (cInt .i64) A13 xRanks, .ro false (cInt .u8) A17 xChoice, .ro false (cSl (cInt .u8)) A21 xReply, .box g39 38 [.bool xWins, .slice A13 (List.length xRanks) c14, .slice A17 (List.length xChoice) c18, .slice A21 (List.length xReply) c22], .ro false cS87 (some ⟨b58, 0, none⟩) ([x61.1]), .row true (cInt .i64) 3 A163 c164 out162] ∧ moore_Play_l1 N aAccept xWins xChoice xReply moves x61 x92 m234 out162 q165 i166 = some x230) N ?_ ?_
  ·
   exact ⟨([0] : List Int), 0, 0, (some ⟨g99, 0, none⟩), (List.length ([0] : List Int)), E.pick _ ⟨rfl, rfl, rfl, rfl, rfl, rfl, rfl, rfl, trivial⟩, H.sel [0, 1, 2, 3, 4, 5, 6, 7, 8, 9, 10] rfl, hL231⟩
  clear E H hL231; intro m234 a w233 hI_
  obtain ⟨out162, q165, i166, A163, c164, E, H, hP⟩ := hI_
  obtain ⟨m229, rfl⟩ : ∃ q_, m234 = q_ + 1 := by cases m234 with | zero => rw [moore_Play_l1] at hP; cases hP | succ q_ => exact ⟨q_, rfl⟩
  rw [moore_Play_l1] at hP
  refine wp_seq ?_
  refine wp_seq ?_
  refine wp_region_lit ?_
  refine vn tbok 5 [] [(49, .bool (decide (i166 < (((List.length moves) : Nat) : Int))))] [] E (by kernel_rfl) (by kernel_rfl) trivial ?_
  clear E; intro a E
  refine E.cases (t := 49) rfl (fun hb_ E_ => ?_) (fun hb_ E_ => ?_)
  ·
   replace E := E_; clear E_
   have h236 : i166 < (((List.length moves) : Nat) : Int) := of_decide_eq_true hb_
   clear hb_; replace hP := ite_t h236 hP
   obtain ⟨g237, hP⟩ := ask_inv hP
   obtain ⟨b238, o239, e_b238⟩ := (H.rd 1 rds_ro).addr (idx_pos g237)
   subst e_b238
   refine vn tbok 7 [.slice (some ⟨b238, o239, none⟩) (List.length aAccept) c2, .bool (List.getD aAccept (Int.toNat q165) false)] [(56, .bool (!(List.getD aAccept (Int.toNat q165) false)))] [World.cell? w233 ⟨g29, 1, none⟩ = some (.slice (some ⟨b238, o239, none⟩) (List.length aAccept) c2), 0 ≤ q165 ∧ q165 < (((List.length aAccept) : Nat) : Int), World.cell? w233 ⟨b238, o239 + (Int.toNat q165) * 1, none⟩ = some (.bool (List.getD aAccept (Int.toNat q165) false))] E (by kernel_rfl) (by kernel_rfl) ⟨(H.box 4 rfl).cell (j := 1) rfl, g237, Rds.at1 (H.rd 1 rds_ro) false g237⟩ ?_
   clear E; intro a E
   refine wpList_nil ?_
   refine th_n ?_
   refine E.cases (t := 56) rfl (fun hb_ E_ => ?_) (fun hb_ E_ => ?_)
   ·
    replace E := E_; clear E_
    have h240 : ¬ ((List.getD aAccept (Int.toNat q165) false) = true) := (ne_true_of_eq_false (not_t hb_))
    clear hb_; replace hP := ite_f h240 hP
    refine c_true E rfl ?_
    refine wp_skip ?_
    refine th_n ?_
    refine wp_seq ?_
    refine wp_block ?_
    refine wp_seq ?_
    refine wp_region_lit ?_
    obtain ⟨g241, hP⟩ := ask_inv hP
    obtain ⟨b242, o243, e_b242⟩ := (H.rd 0 rds_ro).addr (idx_pos g241)
    subst e_b242
    refine vn tbok 5 [.int .u8 (List.getD moves (Int.toNat i166) 0)] [(60, .int .u8 x92), (64, .int .u8 (List.getD moves (Int.toNat i166) 0))] [0 ≤ i166 ∧ i166 < (((List.length moves) : Nat) : Int), World.cell? w233 ⟨b242, o243 + (Int.toNat i166) * 1, none⟩ = some (.int .u8 (List.getD moves (Int.toNat i166) 0))] E (by kernel_rfl) (by kernel_rfl) ⟨g241, Rds.at1 (H.rd 0 rds_ro) 0 g241⟩ ?_
    clear E; intro a E
    obtain ⟨r244, h245, hP⟩ := bind_inv hP
    obtain ⟨Fa246, Hc247, hb248⟩ := H.call [] [] rfl rfl trivial
    refine e_call E rfl rfl Try.func49 rfl rfl rfl (board_Number_calls  x92 (List.getD moves (Int.toNat i166) 0)  Hc247 h245) ?_
    rintro v249 w250 a ⟨rfl, HR251⟩ E_
    replace E := E_ _ rfl; clear E_
    obtain ⟨H_, hc252⟩ := hb248 _ _ HR251 rfl
    replace H := H_; clear H_; try dsimp only [setn, addE, goneL] at H
    refine vn tbok 5 [] [(16, .int .i64 r244.1), (17, .int .i64 r244.2)] [] E (by kernel_rfl) (by kernel_rfl) trivial ?_
    clear E; intro a E
    refine wpList_nil ?_
    refine th_n ?_
    refine wp_seq ?_
    refine wp_seq ?_
    refine wp_region_lit ?_
    refine vn tbok 2 [] [(69, .bool ((r244.2 : Int) != 0))] [] E (by kernel_rfl) (by kernel_rfl) trivial ?_
    clear E; intro a E
    refine wpList_nil ?_
    refine th_n ?_
    refine E.cases (t := 69) rfl (fun hb_ E_ => ?_) (fun hb_ E_ => ?_)
    ·
     replace E := E_; clear E_
     have h253 : ¬ ((r244.2 : Int) = 0) := bne_iff_ne.1 hb_
     clear hb_; replace hP := ite_f h253 hP
     refine c_true E rfl ?_
     refine wp_seq ?_
     refine wp_region_lit ?_
     refine vn tbok 3 [] [(8, .slice none 0 0), (9, .int .i64 r244.2)] [] E (by kernel_rfl) (by kernel_rfl) trivial ?_
     clear E; intro a E
     refine wpList_nil ?_
     refine th_n ?_
     refine wp_ret ?_
     refine th_ret ?_
     refine bl_ret ?_
     refine th_ret ?_
     refine th_ret ?_
     refine .inr ⟨rfl, ?_⟩
     refine bl_ret ?_
     refine th_ret ?_
     replace H := H.nilrow (cInt .i64) 3; try dsimp only [setn, addE, goneL] at H
     have hx_ := Option.some.inj hP; subst hx_
     have hP : some (([], r244.2)) = some r := hK232
     obtain rfl := Option.some.inj hP
     refine ret2 E rfl rfl rfl ?_
     exact ⟨_, rfl, none, 0, rfl, H.sel [11] rfl⟩
    replace E := E_; clear E_
    have h255 : (r244.2 : Int) = 0 := bne_eq_false_iff_eq.1 hb_
    clear hb_; replace hP := ite_t h255 hP
    refine c_false E rfl ?_
    refine wp_skip ?_
    refine th_n ?_
    refine wp_seq ?_
    refine wp_region_lit ?_
    obtain ⟨g256, hP⟩ := ask_inv hP
    obtain ⟨b257, o258, e_b257⟩ := (H.rd 6 rds_ro).addr (idx_pos g256)
    subst e_b257
    refine vn tbok 6 [.slice (some ⟨b257, o258, none⟩) (List.length xChoice) c18, .int .u8 (List.getD xChoice (Int.toNat q165) 0)] [(18, .int .u8 (List.getD xChoice (Int.toNat q165) 0))] [World.cell? w250 ⟨g39, 2, none⟩ = some (.slice (some ⟨b257, o258, none⟩) (List.length xChoice) c18), 0 ≤ q165 ∧ q165 < (((List.length xChoice) : Nat) : Int), World.cell? w250 ⟨b257, o258 + (Int.toNat q165) * 1, none⟩ = some (.int .u8 (List.getD xChoice (Int.toNat q165) 0))] E (by kernel_rfl) (by kernel_rfl) ⟨(H.box 8 rfl).cell (j := 2) rfl, g256, Rds.at1 (H.rd 6 rds_ro) 0 g256⟩ ?_
    clear E; intro a E
    refine wpList_nil ?_
    refine th_n ?_
    refine wp_seq ?_
    refine wp_seq ?_
    refine wp_region_lit ?_
    refine vn tbok 3 [.bool xWins] [(78, .bool (!xWins))] [World.cell? w250 ⟨g39, 0, none⟩ = some (.bool xWins)] E (by kernel_rfl) (by kernel_rfl) ((H.box 8 rfl).cell (j := 0) rfl) ?_
    clear E; intro a E
    refine wpList_nil ?_
    refine th_n ?_
    obtain ⟨x273, h274, hK275⟩ := bind_inv hP
    clear hP
    refine meet_cut (fun a w277 => ∃ (x276 : Int), Fr a 101 [(3, .slice (some ⟨b242, o243, none⟩) (List.length moves) c26), (4, .pointer (some ⟨g29, 0, none⟩)), (6, .pointer (some ⟨g39, 0, none⟩)), (10, .pointer (some ⟨b58, 0, none⟩)), (12, .int .u8 x92), (13, .slice A163 (List.length out162) c164), (14, .int .i64 q165), (15, .int .i64 i166), (18, .int .u8 x276)] ∧ Hp S Fa w0 w277 [.ro false (cInt .u8) (some ⟨b242, o243, none⟩) moves, .ro false cBool (some ⟨b238, o239, none⟩) aAccept, .ro false (cInt .i64) A5 aGuard, .ro false cNode A9 aNodes, .box g29 26 [.int .i64 aProps, .slice (some ⟨b238, o239, none⟩) (List.length aAccept) c2, .slice A5 (List.length aGuard) c6, .slice A9 (List.length aNodes) c10], .ro false (cInt .i64) A13 xRanks, .ro false (cInt .u8) (some ⟨b257, o258, none⟩) xChoice, .ro false (cSl (cInt .u8)) A21 xReply, .box g39 38 [.bool xWins, .slice A13 (List.length xRanks) c14, .slice (some ⟨b257, o258, none⟩) (List.length xChoice) c18, .slice A21 (List.length xReply) c22], .ro false cS87 (some ⟨b58, 0, none⟩) ([x61.1]), .row true (cInt .i64) 3 A163 c164 out162] ∧ x273 = x276) ?_ ?_
    ·
     have hP := h274; clear h274; rw [moore_Play_j2] at hP
     refine E.cases (t := 78) rfl (fun hb_ E_ => ?_) (fun hb_ E_ => ?_)
     ·
      replace E := E_; clear E_
      have h278 : ¬ (xWins = true) := (ne_true_of_eq_false (not_t hb_))
      clear hb_; replace hP := ite_f h278 hP
      refine c_true E rfl ?_
      refine wp_region_lit ?_
      obtain ⟨g279, hP⟩ := ask_inv hP
      obtain ⟨b280, o281, e_b280⟩ := (H.rd 7 rds_ro).addr (idx_pos g279)
      subst e_b280
      obtain ⟨A282, c283, hl284, hk285, H⟩ := H.subSl 7 false (el_ro rfl) g279
      try dsimp only [addE] at H
      obtain ⟨g287, hP⟩ := ask_inv hP
      obtain ⟨b288, o289, e_b288⟩ := (H.rd 11 rds_ro).addr (idx_pos g287)
      subst e_b288
      refine vn tbok 9 [.slice (some ⟨b280, o281, none⟩) (List.length xReply) c22, .slice (some ⟨b288, o289, none⟩) (List.length (List.getD xReply (Int.toNat q165) [])) c283, .int .u8 (List.getD (List.getD xReply (Int.toNat q165) []) (Int.toNat r244.1) 0)] [(18, .int .u8 (List.getD (List.getD xReply (Int.toNat q165) []) (Int.toNat r244.1) 0))] [World.cell? w250 ⟨g39, 3, none⟩ = some (.slice (some ⟨b280, o281, none⟩) (List.length xReply) c22), 0 ≤ q165 ∧ q165 < (((List.length xReply) : Nat) : Int), World.cell? w250 ⟨b280, o281 + (Int.toNat q165) * 1, none⟩ = some (.slice (some ⟨b288, o289, none⟩) (List.length (List.getD xReply (Int.toNat q165) [])) c283), 0 ≤ r244.1 ∧ r244.1 < (((List.length (List.getD xReply (Int.toNat q165) [])) : Nat) : Int), World.cell? w250 ⟨b288, o289 + (Int.toNat r244.1) * 1, none⟩ = some (.int .u8 (List.getD (List.getD xReply (Int.toNat q165) []) (Int.toNat r244.1) 0))] E (by kernel_rfl) (by kernel_rfl) ⟨(H.box 8 rfl).cell (j := 3) rfl, g279, hl284, g287, Rds.at1 (H.rd 11 rds_ro) 0 g287⟩ ?_
      clear E; intro a E
      refine wpList_nil ?_
      have hx_ := Option.some.inj hP
      exact .inl ⟨rfl, (List.getD (List.getD xReply (Int.toNat q165) []) (Int.toNat r244.1) 0), E.pick _ ⟨rfl, rfl, rfl, rfl, rfl, rfl, rfl, rfl, rfl, trivial⟩, H.sel [0, 1, 2, 3, 4, 5, 6, 7, 8, 9, 10] rfl, hx_.symm⟩
     replace E := E_; clear E_
     have h290 : xWins = true := (not_f hb_)
     clear hb_; replace hP := ite_t h290 hP
     refine c_false E rfl ?_
     refine wp_skip ?_
     have hx_ := Option.some.inj hP
     exact .inl ⟨rfl, (List.getD xChoice (Int.toNat q165) 0), E.pick _ ⟨rfl, rfl, rfl, rfl, rfl, rfl, rfl, rfl, rfl, trivial⟩, H.sel [0, 1, 2, 3, 4, 5, 6, 7, 8, 9, 10] rfl, hx_.symm⟩
    clear E H h274; rintro a w277 ⟨x276, E, H, hx_⟩
    subst hx_; have hP := hK275; clear hK275
    refine th_n ?_
    refine wp_seq ?_
    refine wp_region_lit ?_
    refine vn tbok 8 [.int .u8 (List.getD moves (Int.toNat i166) 0), .int .u8 (orV .u8 x273 (List.getD moves (Int.toNat i166) 0))] [(87, .pointer (some ⟨b58, 0, none⟩)), (88, .int .i64 q165), (94, .int .u8 (orV .u8 x273 (List.getD moves (Int.toNat i166) 0)))] [0 ≤ i166 ∧ i166 < (((List.length moves) : Nat) : Int), World.cell? w277 ⟨b242, o243 + (Int.toNat i166) * 1, none⟩ = some (.int .u8 (List.getD moves (Int.toNat i166) 0)), IntKind.u8.wrap (BitVec.ofInt (IntKind.bits .u8) x273 ||| BitVec.ofInt (IntKind.bits .u8) (List.getD moves (Int.toNat i166) 0)).toNat = orV .u8 x273 (List.getD moves (Int.toNat i166) 0)] E (by kernel_rfl) (by kernel_rfl) ⟨g241, Rds.at1 (H.rd 0 rds_ro) 0 g241, rfl⟩ ?_
    clear E; intro a E
    obtain ⟨r291, h292, hP⟩ := bind_inv hP
    obtain ⟨Fa293, Hc294, hb295⟩ := H.call [] [(9, false)] rfl rfl trivial
    refine e_call E rfl rfl Try.func50 rfl rfl rfl (moore_game_to_calls b58 0 x61.1 q165 (orV .u8 x273 (List.getD moves (Int.toNat i166) 0))  Hc294 h292) ?_
    rintro v296 w297 a ⟨rfl, HR298⟩ E_
    replace E := E_ _ rfl; clear E_
    obtain ⟨H_, hc299⟩ := hb295 _ _ HR298 rfl
    replace H := H_; clear H_; try dsimp only [setn, addE, goneL] at H
    refine vn tbok 1 [] [(14, .int .i64 r291)] [] E (by kernel_rfl) (by kernel_rfl) trivial ?_
    clear E; intro a E
    refine wpList_nil ?_
    refine th_n ?_
    refine wp_region_lit ?_
    refine vn tbok 2 [] [(96, .slice A163 (List.length out162) c164), (97, .int .i64 r291)] [] E (by kernel_rfl) (by kernel_rfl) trivial ?_
    clear E; intro a E
    refine h_buildSlice (ps := [(0, .int .i64 r291)]) (cs := [.int .i64 r291]) H E rfl rfl tbok rfl rfl (by kernel_rfl) ?_
    intro w301 g300 a hc302 hg304 H_ E_
    replace E := E_ _ rfl; clear E_
    replace H := H_; clear H_; try dsimp only [setn, addE, goneL] at H
    obtain ⟨g305, hP⟩ := ask_inv hP
    refine h_append (cInt .i64) (xs := out162) (ys := ([r291] : List Int)) (0 : Int) H 10 rfl E rfl rfl tbok rfl rfl rfl rfl rfl (fun _ _ => rfl) rfl rfl (fun _ HF_ => HF_.srcB 11 rfl (⟨_, _, rfl, rfl, rfl⟩)) g305 ?_
    intro w306 A307 c308 a hc309 hA310 H_ E_
    replace E := E_ _ rfl; clear E_
    replace H := H_; clear H_; try dsimp only [setn, addE, goneL] at H
    refine vn tbok 1 [] [(13, .slice A307 (List.length (out162 ++ ([r291] : List Int))) c308)] [] E (by kernel_rfl) (by kernel_rfl) trivial ?_
    clear E; intro a E
    refine wpList_nil ?_
    refine bl_n ?_
    refine th_n ?_
    refine wp_region_lit ?_
    obtain ⟨g311, hP⟩ := ask_inv hP
    refine vn tbok 3 [.int .i64 (i166 + 1)] [(15, .int .i64 (i166 + 1))] [IntKind.i64.wrap (i166 + 1) = i166 + 1] E (by kernel_rfl) (by kernel_rfl) (wrap_in g311) ?_
    clear E; intro a E
    refine wpList_nil ?_
    exact th_n ⟨m229, Nat.lt_succ_self _, out162 ++ ([r291] : List Int), r291, i166 + 1, A307, c308, E.pick _ ⟨rfl, rfl, rfl, rfl, rfl, rfl, rfl, rfl, trivial⟩, H.sel [0, 1, 2, 3, 4, 5, 6, 7, 8, 9, 10] rfl, hP⟩
   replace E := E_; clear E_
   have h312 : (List.getD aAccept (Int.toNat q165) false) = true := (not_f hb_)
   clear hb_; replace hP := ite_t h312 hP
   refine c_false E rfl ?_
   refine wp_exit ?_
   refine th_exit ?_
   have hx_ := Option.some.inj hP
   refine th_exit (.inl ⟨1, rfl, ?_⟩)
   exact ⟨rfl, out162, A163, c164, E.pick _ ⟨rfl, trivial⟩, H.sel [10] rfl, hx_.symm⟩
  replace E := E_; clear E_
  have h313 : ¬ (i166 < (((List.length moves) : Nat) : Int)) := of_decide_eq_false hb_
  clear hb_; replace hP := ite_f h313 hP
  refine vn tbok 7 [] [(56, .bool false)] [] E (by kernel_rfl) (by kernel_rfl) trivial ?_
  clear E; intro a E
  refine wpList_nil ?_
  refine th_n ?_
  refine c_false E rfl ?_
  refine wp_exit ?_
  refine th_exit ?_
  have hx_ := Option.some.inj hP
  refine th_exit (.inl ⟨1, rfl, ?_⟩)
  exact ⟨rfl, out162, A163, c164, E.pick _ ⟨rfl, trivial⟩, H.sel [10] rfl, hx_.symm⟩
 clear E H hL231; intro i_ a w233 hM_
 obtain ⟨rfl, x235, A227, c228, E, H, hx_⟩ := hM_
 subst hx_; have hP := elim_l hK232
 clear hK232
 refine bl_hit ?_
 refine th_n ?_
 refine wp_seq ?_
 refine wp_region_lit ?_
 refine vn tbok 3 [] [(8, .slice A227 (List.length x235) c228), (9, .int .i64 0)] [] E (by kernel_rfl) (by kernel_rfl) trivial ?_
 clear E; intro a E
 refine wpList_nil ?_
 refine th_n ?_
 refine wp_ret ?_
 obtain rfl := Option.some.inj hP
 refine ret2 E rfl rfl rfl ?_
 exact ⟨_, rfl, A227, c228, rfl, H.sel [0] rfl⟩

end Go.V
