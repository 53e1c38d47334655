/- Plain functions, and the calls that give them. -/
import Derived.Test.YtljkomkejdngcaaA4
set_option linter.all false
set_option linter.unusedVariables false
set_option linter.unnecessarySimpa false
set_option linter.unusedSimpArgs false
namespace Go.V
open Go Go.Proofs
/-! rejoinder/rejoinderlaw21.same -/
def law21_same_l0 (N : Nat) (aa : List Int) (b : List Int) : Nat → Int → Option (Unit ⊕ Bool)
  | 0, _ => none
  | m41 + 1, i25 =>
    if i25 < (((List.length aa) : Nat) : Int) then
      ask (idx i25 (List.length aa)) <|
      ask (idx i25 (List.length b)) <|
      if ((List.getD aa (Int.toNat i25) 0) : Int) = (List.getD b (Int.toNat i25) 0) then
        ask (in64 (i25 + 1)) <|
        law21_same_l0 N aa b m41 (i25 + 1)
      else
        some (Sum.inr false)
    else
      some (Sum.inl ())
def law21_same (N : Nat) (aa : List Int) (b : List Int) : Option Bool :=
  if ((((List.length aa) : Nat) : Int) : Int) = (((List.length b) : Nat) : Int) then
    Option.bind (law21_same_l0 N aa b N 0) fun x42 =>
    Sum.elim (fun x47 =>
      some true)
     (fun x63 =>
      some x63) x42
  else
    some false
set_option maxRecDepth 100000 in
set_option maxHeartbeats 4000000 in
theorem law21_same_calls {N : Nat} {S Fa : Nat → Prop} {w0 : World} {r : Bool} (A1 : Option Addr) (c2 : Nat) (A5 : Option Addr) (c6 : Nat) (aa : List Int) (b : List Int) (hk3 : List.length aa ≤ c2) (hk7 : List.length b ≤ c6) (H : Hp S Fa w0 w0 [.ro false (cInt .u8) A1 aa, .ro false (cInt .u8) A5 b]) (hP : law21_same N aa b = some r) :
    Calls Try.prog 23 #[.slice A1 (List.length aa) c2, .slice A5 (List.length b) c6] w0 fun e w' => ∃ v, e = .returned v ∧ v = .bool r ∧ Hp S Fa w0 w' [] := by
 refine enterV (n := 26) Try.func23 rfl rfl rfl ?_
 intro a E
 replace E := E.pick [(0, .slice A1 (List.length aa) c2), (1, .slice A5 (List.length b) c6)] ⟨rfl, rfl, trivial⟩
 rw [law21_same] at hP
 refine wp_seq ?_
 refine wp_region_lit ?_
 refine vr tbok 1 [] [(0, .slice A1 (List.length aa) c2), (1, .slice A5 (List.length b) c6)] [] E (by kernel_rfl) trivial ?_
 clear E; intro a E
 refine wpList_nil ?_
 refine th_n ?_
 refine wp_seq ?_
 refine wp_seq ?_
 refine wp_region_lit ?_
 refine vr tbok 5 [] [(0, .slice A1 (List.length aa) c2), (1, .slice A5 (List.length b) c6), (10, .bool (((((List.length aa) : Nat) : Int) : Int) != (((List.length b) : Nat) : Int)))] [] E (by kernel_rfl) trivial ?_
 clear E; intro a E
 refine wpList_nil ?_
 refine th_n ?_
 refine E.cases (t := 10) rfl (fun hb_ E_ => ?_) (fun hb_ E_ => ?_)
 ·
  replace E := E_; clear E_
  have h9 : ¬ (((((List.length aa) : Nat) : Int) : Int) = (((List.length b) : Nat) : Int)) := bne_iff_ne.1 hb_
  clear hb_; replace hP := ite_f h9 hP
  refine c_true E rfl ?_
  refine wp_seq ?_
  refine wp_region_lit ?_
  refine vr tbok 1 [] [(4, .bool false)] [] E (by kernel_rfl) trivial ?_
  clear E; intro a E
  refine wpList_nil ?_
  refine th_n ?_
  refine wp_ret ?_
  refine th_ret ?_
  obtain rfl := Option.some.inj hP
  refine ret1 E rfl rfl ?_
  exact ⟨_, rfl, rfl, H.sel [] rfl⟩
 replace E := E_; clear E_
 have h10 : ((((List.length aa) : Nat) : Int) : Int) = (((List.length b) : Nat) : Int) := bne_eq_false_iff_eq.1 hb_
 clear hb_; replace hP := ite_t h10 hP
 refine c_false E rfl ?_
 refine wp_skip ?_
 refine th_n ?_
 refine wp_seq ?_
 refine wp_seq ?_
 refine wp_region_lit ?_
 refine vr tbok 1 [] [(0, .slice A1 (List.length aa) c2), (1, .slice A5 (List.length b) c6), (5, .int .i64 0)] [] E (by kernel_rfl) trivial ?_
 clear E; intro a E
 refine wpList_nil ?_
 refine th_n ?_
 refine wp_block ?_
 obtain ⟨x42, hL43, hK44⟩ := bind_inv hP
 clear hP
 refine loop_cut (fun i_ a w_ => (i_ = 0 ∧ ∃ (x47 : Unit), Fr a 26 [] ∧ Hp S Fa w0 w_ [] ∧ x42 = Sum.inl x47)) ?_ ?_
 ·
  refine loopV (fun m46 a w45 => ∃ (i25 : Int), Fr a 26 [(0, .slice A1 (List.length aa) c2), (1, .slice A5 (List.length b) c6), (5, .int .i64 i25)] ∧ Hp S Fa w0 w45 [.ro false (cInt .u8) A1 aa, .ro false (cInt .u8) A5 b] ∧ law21_same_l0 N aa b m46 i25 = some x42) N ?_ ?_
  ·
   exact ⟨0, E.pick _ ⟨rfl, rfl, rfl, trivial⟩, H.sel [0, 1] rfl, hL43⟩
  clear E H hL43; intro m46 a w45 hI_
  obtain ⟨i25, E, H, hP⟩ := hI_
  obtain ⟨m41, rfl⟩ : ∃ q_, m46 = q_ + 1 := by cases m46 with | zero => rw [law21_same_l0] at hP; cases hP | succ q_ => exact ⟨q_, rfl⟩
  rw [law21_same_l0] at hP
  refine wp_seq ?_
  refine wp_seq ?_
  refine wp_region_lit ?_
  refine vr tbok 4 [] [(0, .slice A1 (List.length aa) c2), (1, .slice A5 (List.length b) c6), (5, .int .i64 i25), (14, .bool (decide (i25 < (((List.length aa) : Nat) : Int))))] [] E (by kernel_rfl) trivial ?_
  clear E; intro a E
  refine wpList_nil ?_
  refine th_n ?_
  refine E.cases (t := 14) rfl (fun hb_ E_ => ?_) (fun hb_ E_ => ?_)
  ·
   replace E := E_; clear E_
   have h48 : i25 < (((List.length aa) : Nat) : Int) := of_decide_eq_true hb_
   clear hb_; replace hP := ite_t h48 hP
   refine c_true E rfl ?_
   refine wp_skip ?_
   refine th_n ?_
   refine wp_seq ?_
   refine wp_block ?_
   refine wp_seq ?_
   obtain ⟨g49, hP⟩ := ask_inv hP
   obtain ⟨b50, o51, e_b50⟩ := (H.rd 0 rds_ro).addr (idx_pos g49)
   subst e_b50
   obtain ⟨g52, hP⟩ := ask_inv hP
   obtain ⟨b53, o54, e_b53⟩ := (H.rd 1 rds_ro).addr (idx_pos g52)
   subst e_b53
   have HR58 := H
   refine dr_start (S := fun w_ => Chg (atL []) w45 w_) (by kernel_rfl) ?_
   intro w55 hc56
   have HS57 : Chg (atL []) w45 w55 := hc56.mono (fun _ _ h_ => h_.elim)
   replace H := H.ext hc56
   refine dr tbok (by kernel_rfl) [0, 1, 2, 3, 4, 5, 6, 7, 8] [.int .u8 (List.getD aa (Int.toNat i25) 0), .int .u8 (List.getD b (Int.toNat i25) 0)] [(0, .slice (some ⟨b50, o51, none⟩) (List.length aa) c2), (1, .slice (some ⟨b53, o54, none⟩) (List.length b) c6), (5, .int .i64 i25), (25, .bool (((List.getD aa (Int.toNat i25) 0) : Int) != (List.getD b (Int.toNat i25) 0)))] (fun w_ => [0 ≤ i25 ∧ i25 < (((List.length aa) : Nat) : Int), World.cell? w_ ⟨b50, o51 + (Int.toNat i25) * 1, none⟩ = some (.int .u8 (List.getD aa (Int.toNat i25) 0)), 0 ≤ i25 ∧ i25 < (((List.length b) : Nat) : Int), World.cell? w_ ⟨b53, o54 + (Int.toNat i25) * 1, none⟩ = some (.int .u8 (List.getD b (Int.toNat i25) 0))]) 0 E (fun _ _ => by kernel_rfl) (fun w_ hS_ => ⟨g49, Rds.at1 (HR58.rdk [] hS_ 0 rds_ro rfl) 0 g49, g52, Rds.at1 (HR58.rdk [] hS_ 1 rds_ro rfl) 0 g52⟩) (by kernel_rfl) HS57 ?_
   clear E; intro a E
   refine dr_done (by kernel_rfl) ?_
   clear HS57 HR58
   refine th_n ?_
   refine E.cases (t := 25) rfl (fun hb_ E_ => ?_) (fun hb_ E_ => ?_)
   ·
    replace E := E_; clear E_
    have h59 : ¬ (((List.getD aa (Int.toNat i25) 0) : Int) = (List.getD b (Int.toNat i25) 0)) := bne_iff_ne.1 hb_
    clear hb_; replace hP := ite_f h59 hP
    refine c_true E rfl ?_
    refine wp_seq ?_
    refine wp_region_lit ?_
    refine vr tbok 1 [] [(4, .bool false)] [] E (by kernel_rfl) trivial ?_
    clear E; intro a E
    refine wpList_nil ?_
    refine th_n ?_
    refine wp_ret ?_
    refine bl_ret ?_
    refine th_ret ?_
    refine th_ret ?_
    refine .inr ⟨rfl, ?_⟩
    refine bl_ret ?_
    refine th_ret ?_
    have hx_ := Option.some.inj hP; subst hx_
    have hP : some (false) = some r := hK44
    obtain rfl := Option.some.inj hP
    refine ret1 E rfl rfl ?_
    exact ⟨_, rfl, rfl, H.sel [] rfl⟩
   replace E := E_; clear E_
   have h60 : ((List.getD aa (Int.toNat i25) 0) : Int) = (List.getD b (Int.toNat i25) 0) := bne_eq_false_iff_eq.1 hb_
   clear hb_; replace hP := ite_t h60 hP
   refine c_false E rfl ?_
   refine wp_skip ?_
   refine bl_n ?_
   refine th_n ?_
   refine wp_region_lit ?_
   obtain ⟨g61, hP⟩ := ask_inv hP
   refine vr tbok 3 [.int .i64 (i25 + 1)] [(0, .slice (some ⟨b50, o51, none⟩) (List.length aa) c2), (1, .slice (some ⟨b53, o54, none⟩) (List.length b) c6), (5, .int .i64 (i25 + 1))] [IntKind.i64.wrap (i25 + 1) = i25 + 1] E (by kernel_rfl) (wrap_in g61) ?_
   clear E; intro a E
   refine wpList_nil ?_
   exact th_n ⟨m41, Nat.lt_succ_self _, i25 + 1, E.pick _ ⟨rfl, rfl, rfl, trivial⟩, H.sel [0, 1] rfl, hP⟩
  replace E := E_; clear E_
  have h62 : ¬ (i25 < (((List.length aa) : Nat) : Int)) := of_decide_eq_false hb_
  clear hb_; replace hP := ite_f h62 hP
  refine c_false E rfl ?_
  refine wp_exit ?_
  refine th_exit ?_
  have hx_ := Option.some.inj hP
  refine th_exit (.inl ⟨0, rfl, ?_⟩)
  exact ⟨rfl, (), E.pick _ trivial, H.sel [] rfl, hx_.symm⟩
 clear E H hL43; intro i_ a w45 hM_
 obtain ⟨rfl, x47, E, H, hx_⟩ := hM_
 subst hx_; have hP := elim_l hK44
 clear hK44
 refine bl_hit ?_
 refine th_n ?_
 refine wp_seq ?_
 refine wp_region_lit ?_
 refine vr tbok 1 [] [(4, .bool true)] [] E (by kernel_rfl) trivial ?_
 clear E; intro a E
 refine wpList_nil ?_
 refine th_n ?_
 refine wp_ret ?_
 obtain rfl := Option.some.inj hP
 refine ret1 E rfl rfl ?_
 exact ⟨_, rfl, rfl, H.sel [] rfl⟩

/-! rejoinder/rejoinderlaw21.awake -/
def law21_awake (N : Nat) : Option Bool :=
  Option.bind (watch_All N 1 ([false, true] : List Bool) ([0, -2] : List Int) ([(⟨0, -1, -2⟩ : Nd)] : List Nd) ([0, 1, 0] : List Int)) fun r28 =>
  if (r28.2 : Int) = 0 then
    Option.bind (law21_same N r28.1 ([0, 0, 3, 3] : List Int)) fun r46 =>
    some r46
  else
    some false
set_option maxRecDepth 100000 in
set_option maxHeartbeats 4000000 in
theorem law21_awake_calls {N : Nat} {S Fa : Nat → Prop} {w0 : World} {r : Bool} (H : Hp S Fa w0 w0 []) (hP : law21_awake N  = some r) :
    Calls Try.prog 30 #[] w0 fun e w' => ∃ v, e = .returned v ∧ v = .bool r ∧ Hp S Fa w0 w' [] := by
 refine enterV (n := 22) Try.func30 rfl rfl rfl ?_
 intro a E
 replace E := E.pick [] trivial
 rw [law21_awake] at hP
 refine wp_seq ?_
 refine wp_region_lit ?_
 refine vr tbok 1 [] [] [] E (by kernel_rfl) trivial ?_
 clear E; intro a E
 refine wpList_nil ?_
 refine th_n ?_
 refine wp_seq ?_
 refine wp_region_lit ?_
 refine h_buildSlice (ps := [(0, .bool false), (1, .bool true)]) (cs := [.bool false, .bool true]) H E rfl rfl tbok rfl rfl (by kernel_rfl) ?_
 intro w2 g1 a hc3 hg5 H_ E_
 replace E := E_ _ rfl; clear E_
 replace H := H_; clear H_; try dsimp only [setn, addE, goneL] at H
 refine h_buildSlice (ps := [(0, .int .i64 0), (1, .int .i64 (-2))]) (cs := [.int .i64 0, .int .i64 (-2)]) H E rfl rfl tbok rfl rfl (by kernel_rfl) ?_
 intro w7 g6 a hc8 hg10 H_ E_
 replace E := E_ _ rfl; clear E_
 replace H := H_; clear H_; try dsimp only [setn, addE, goneL] at H
 refine e_build (ps := [(1, .int .i64 (-1)), (2, .int .i64 (-2))]) (v := .agg #[.int .i64 0, .int .i64 (-1), .int .i64 (-2)]) E rfl rfl tbok rfl (by kernel_rfl) rfl ?_
 clear E; intro a E
 refine h_buildSlice (ps := [(0, .agg #[.int .i64 0, .int .i64 (-1), .int .i64 (-2)])]) (cs := [.int .i64 0, .int .i64 (-1), .int .i64 (-2)]) H E rfl rfl tbok rfl rfl (by kernel_rfl) ?_
 intro w12 g11 a hc13 hg15 H_ E_
 replace E := E_ _ rfl; clear E_
 replace H := H_; clear H_; try dsimp only [setn, addE, goneL] at H
 refine e_build (ps := [(0, .int .i64 1), (1, .slice (some ⟨g1, 0, none⟩) 2 2), (2, .slice (some ⟨g6, 0, none⟩) 2 2), (3, .slice (some ⟨g11, 0, none⟩) 1 1)]) (v := .agg #[.int .i64 1, .slice (some ⟨g1, 0, none⟩) 2 2, .slice (some ⟨g6, 0, none⟩) 2 2, .slice (some ⟨g11, 0, none⟩) 1 1]) E rfl rfl tbok rfl (by kernel_rfl) rfl ?_
 clear E; intro a E
 refine h_alloc H E rfl rfl tbok rfl ?_
 intro w17 g16 a hc18 hg20 H_ E_
 replace E := E_ _ rfl; clear E_
 replace H := H_; clear H_; try dsimp only [setn, addE, goneL] at H
 refine h_store (g := g16) (off := 0) H 3 rfl E rfl rfl rfl rfl tbok rfl rfl rfl rfl rfl ?_
 clear E; intro w21 a hc22 H_ E
 replace H := H_; clear H_; try dsimp only [setn, addE, goneL] at H
 refine wpList_nil ?_
 refine th_n ?_
 refine wp_seq ?_
 refine wp_region_lit ?_
 refine vr tbok 1 [.agg #[.int .i64 1, .slice (some ⟨g1, 0, none⟩) 2 2, .slice (some ⟨g6, 0, none⟩) 2 2, .slice (some ⟨g11, 0, none⟩) 1 1]] [(10, .agg #[.int .i64 1, .slice (some ⟨g1, 0, none⟩) 2 2, .slice (some ⟨g6, 0, none⟩) 2 2, .slice (some ⟨g11, 0, none⟩) 1 1])] [cellsAt w21 g16 (0) [.int .i64 1, .slice (some ⟨g1, 0, none⟩) 2 2, .slice (some ⟨g6, 0, none⟩) 2 2, .slice (some ⟨g11, 0, none⟩) 1 1]] E (by kernel_rfl) ((H.box 3 rfl).sub 0 _ rfl) ?_
 clear E; intro a E
 refine h_buildSlice (ps := [(0, .int .u8 0), (1, .int .u8 1), (2, .int .u8 0)]) (cs := [.int .u8 0, .int .u8 1, .int .u8 0]) H E rfl rfl tbok rfl rfl (by kernel_rfl) ?_
 intro w24 g23 a hc25 hg27 H_ E_
 replace E := E_ _ rfl; clear E_
 replace H := H_; clear H_; try dsimp only [setn, addE, goneL] at H
 replace H := H.boxRow cBool true ([false, true] : List Bool) 0 rfl (fun _ _ => ⟨_, _, rfl, rfl, ⟨_, _, rfl, rfl, rfl⟩⟩) (Nat.le_of_ble_eq_true rfl); try dsimp only [setn, addE, goneL] at H
 replace H := H.boxRow (cInt .i64) true ([0, -2] : List Int) 1 rfl (fun _ _ => ⟨_, _, rfl, rfl, ⟨_, _, rfl, rfl, rfl⟩⟩) (Nat.le_of_ble_eq_true rfl); try dsimp only [setn, addE, goneL] at H
 replace H := H.boxRow cNode true ([(⟨0, -1, -2⟩ : Nd)] : List Nd) 2 rfl (fun _ _ => ⟨_, _, rfl, rfl, rfl⟩) (Nat.le_of_ble_eq_true rfl); try dsimp only [setn, addE, goneL] at H
 replace H := H.boxRow (cInt .u8) true ([0, 1, 0] : List Int) 4 rfl (fun _ _ => ⟨_, _, rfl, rfl, ⟨_, _, rfl, rfl, ⟨_, _, rfl, rfl, rfl⟩⟩⟩) (Nat.le_of_ble_eq_true rfl); try dsimp only [setn, addE, goneL] at H
 obtain ⟨r28, h29, hP⟩ := bind_inv hP
 obtain ⟨Fa30, Hc31, hb32⟩ := H.call [] [(0, false), (1, false), (2, false), (4, false)] rfl rfl trivial
 refine e_call E rfl rfl Try.func19 rfl rfl rfl (watch_All_calls (some ⟨g1, 0, none⟩) 2 (some ⟨g6, 0, none⟩) 2 (some ⟨g11, 0, none⟩) 1 (some ⟨g23, 0, none⟩) 3 1 ([false, true] : List Bool) ([0, -2] : List Int) ([(⟨0, -1, -2⟩ : Nd)] : List Nd) ([0, 1, 0] : List Int) (H.rcapx 0 rfl) (H.rcapx 1 rfl) (H.rcapx 2 rfl) (H.rcapx 4 rfl) Hc31 h29) ?_
 rintro v33 w34 a ⟨A37, c38, rfl, HR35⟩ E_
 replace E := E_ _ rfl; clear E_
 obtain ⟨H_, hc36⟩ := hb32 _ _ HR35 rfl
 replace H := H_; clear H_; try dsimp only [setn, addE, goneL] at H
 refine vr tbok 5 [] [(2, .slice A37 (List.length r28.1) c38), (3, .int .i64 r28.2)] [] E (by kernel_rfl) trivial ?_
 clear E; intro a E
 refine wpList_nil ?_
 refine th_n ?_
 refine wp_seq ?_
 refine wp_region_lit ?_
 refine vr tbok 3 [] [(2, .slice A37 (List.length r28.1) c38), (17, .bool ((r28.2 : Int) == 0))] [] E (by kernel_rfl) trivial ?_
 clear E; intro a E
 refine E.cases (t := 17) rfl (fun hb_ E_ => ?_) (fun hb_ E_ => ?_)
 ·
  replace E := E_; clear E_
  have h40 : (r28.2 : Int) = 0 := eq_of_beq hb_
  clear hb_; replace hP := ite_t h40 hP
  refine vr tbok 1 [] [(17, .bool true), (18, .slice A37 (List.length r28.1) c38)] [] E (by kernel_rfl) trivial ?_
  clear E; intro a E
  refine h_buildSlice (ps := [(0, .int .u8 0), (1, .int .u8 0), (2, .int .u8 3), (3, .int .u8 3)]) (cs := [.int .u8 0, .int .u8 0, .int .u8 3, .int .u8 3]) H E rfl rfl tbok rfl rfl (by kernel_rfl) ?_
  intro w42 g41 a hc43 hg45 H_ E_
  replace E := E_ _ rfl; clear E_
  replace H := H_; clear H_; try dsimp only [setn, addE, goneL] at H
  replace H := H.boxRow (cInt .u8) true ([0, 0, 3, 3] : List Int) 6 rfl (fun _ _ => ⟨_, _, rfl, rfl, ⟨_, _, rfl, rfl, ⟨_, _, rfl, rfl, ⟨_, _, rfl, rfl, rfl⟩⟩⟩⟩) (Nat.le_of_ble_eq_true rfl); try dsimp only [setn, addE, goneL] at H
  obtain ⟨r46, h47, hP⟩ := bind_inv hP
  obtain ⟨Fa48, Hc49, hb50⟩ := H.call [] [(5, false), (6, false)] rfl rfl trivial
  refine e_call E rfl rfl Try.func23 rfl rfl rfl (law21_same_calls A37 c38 (some ⟨g41, 0, none⟩) 4 r28.1 ([0, 0, 3, 3] : List Int) (H.rcap 5 rfl) (H.rcapx 6 rfl) Hc49 h47) ?_
  rintro v51 w52 a ⟨rfl, HR53⟩ E_
  replace E := E_ _ rfl; clear E_
  obtain ⟨H_, hc54⟩ := hb50 _ _ HR53 rfl
  replace H := H_; clear H_; try dsimp only [setn, addE, goneL] at H
  refine vr tbok 2 [] [(0, .bool r46)] [] E (by kernel_rfl) trivial ?_
  clear E; intro a E
  refine wpList_nil ?_
  refine th_n ?_
  refine wp_ret ?_
  obtain rfl := Option.some.inj hP
  refine ret1 E rfl rfl ?_
  exact ⟨_, rfl, rfl, H.sel [] rfl⟩
 replace E := E_; clear E_
 have h55 : ¬ ((r28.2 : Int) = 0) := ne_of_beq_false hb_
 clear hb_; replace hP := ite_f h55 hP
 refine vr tbok 5 [] [(0, .bool false)] [] E (by kernel_rfl) trivial ?_
 clear E; intro a E
 refine wpList_nil ?_
 refine th_n ?_
 refine wp_ret ?_
 obtain rfl := Option.some.inj hP
 refine ret1 E rfl rfl ?_
 exact ⟨_, rfl, rfl, H.sel [] rfl⟩

/-! rejoinder/watch.New -/
def watch_New (N : Nat) (aProps : Int) (aAccept : List Bool) (aGuard : List Int) (aNodes : List Nd) : Option (Int ⊕ (((Int × (List Bool) × (List Int) × (List Nd)) × (List Int) × (List Int)) × Int)) :=
  Option.bind (guard_Check N aProps aAccept aGuard aNodes) fun r125 =>
  if (r125 : Int) = 0 then
    Option.bind (watch_made N aProps aAccept aGuard aNodes) fun r136 =>
    some (Sum.inr (r136, 0))
  else
    some (Sum.inl r125)
set_option maxRecDepth 100000 in
set_option maxHeartbeats 4000000 in
theorem watch_New_calls {N : Nat} {S Fa : Nat → Prop} {w0 : World} {r : Int ⊕ (((Int × (List Bool) × (List Int) × (List Nd)) × (List Int) × (List Int)) × Int)} (A1 : Option Addr) (c2 : Nat) (A5 : Option Addr) (c6 : Nat) (A9 : Option Addr) (c10 : Nat) (aProps : Int) (aAccept : List Bool) (aGuard : List Int) (aNodes : List Nd) (hk3 : List.length aAccept ≤ c2) (hk7 : List.length aGuard ≤ c6) (hk11 : List.length aNodes ≤ c10) (H : Hp S Fa w0 w0 [.ro false cBool A1 aAccept, .ro false (cInt .i64) A5 aGuard, .ro false cNode A9 aNodes]) (hP : watch_New N aProps aAccept aGuard aNodes = some r) :
    Calls Try.prog 26 #[.agg #[.int .i64 aProps, .slice A1 (List.length aAccept) c2, .slice A5 (List.length aGuard) c6, .slice A9 (List.length aNodes) c10]] w0 fun e w' => ∃ v, e = .returned v ∧ ((∃ (x_ : Int), r = Sum.inl x_ ∧ v = .tuple #[.pointer none, .int .i64 x_] ∧ Hp S Fa w0 w' []) ∨ (∃ (x_ : ((Int × (List Bool) × (List Int) × (List Nd)) × (List Int) × (List Int)) × Int) (g15 : Nat) (b17 : Nat), r = Sum.inr x_ ∧ v = .tuple #[.pointer (some ⟨g15, 0, none⟩), .int .i64 x_.2] ∧ Hp S Fa w0 w' [.box g15 27 [.pointer (some ⟨b17, 0, none⟩), .slice none 0 0], .ro true cS78 (some ⟨b17, 0, none⟩) ([x_.1])])) := by
 refine enterV (n := 14) Try.func26 rfl rfl rfl ?_
 intro a E
 replace E := E.pick [(0, .agg #[.int .i64 aProps, .slice A1 (List.length aAccept) c2, .slice A5 (List.length aGuard) c6, .slice A9 (List.length aNodes) c10])] ⟨rfl, trivial⟩
 rw [watch_New] at hP
 refine wp_seq ?_
 refine wp_region_lit ?_
 refine h_box H E rfl rfl rfl ?_
 intro w121 g120 a hc122 hg124 H_ E_
 replace E := E_ _ rfl; clear E_
 replace H := H_; clear H_; try dsimp only [setn, addE, goneL] at H
 refine vr tbok 2 [] [(1, .pointer (some ⟨g120, 0, none⟩))] [] E (by kernel_rfl) trivial ?_
 clear E; intro a E
 refine wpList_nil ?_
 refine th_n ?_
 refine wp_seq ?_
 refine wp_seq ?_
 refine wp_region_lit ?_
 refine vr tbok 1 [.agg #[.int .i64 aProps, .slice A1 (List.length aAccept) c2, .slice A5 (List.length aGuard) c6, .slice A9 (List.length aNodes) c10]] [(1, .pointer (some ⟨g120, 0, none⟩)), (5, .agg #[.int .i64 aProps, .slice A1 (List.length aAccept) c2, .slice A5 (List.length aGuard) c6, .slice A9 (List.length aNodes) c10])] [cellsAt w121 g120 (0) [.int .i64 aProps, .slice A1 (List.length aAccept) c2, .slice A5 (List.length aGuard) c6, .slice A9 (List.length aNodes) c10]] E (by kernel_rfl) ((H.box 3 rfl).sub 0 _ rfl) ?_
 clear E; intro a E
 obtain ⟨r125, h126, hP⟩ := bind_inv hP
 obtain ⟨Fa127, Hc128, hb129⟩ := H.call [] [(0, false), (1, false), (2, false)] rfl rfl trivial
 refine e_call E rfl rfl Try.func36 rfl rfl rfl (guard_Check_calls A1 c2 A5 c6 A9 c10 aProps aAccept aGuard aNodes hk3 hk7 hk11 Hc128 h126) ?_
 rintro v130 w131 a ⟨rfl, HR132⟩ E_
 replace E := E_ _ rfl; clear E_
 obtain ⟨H_, hc133⟩ := hb129 _ _ HR132 rfl
 replace H := H_; clear H_; try dsimp only [setn, addE, goneL] at H
 refine vr tbok 1 [] [(1, .pointer (some ⟨g120, 0, none⟩)), (4, .int .i64 r125)] [] E (by kernel_rfl) trivial ?_
 clear E; intro a E
 refine wpList_nil ?_
 refine th_n ?_
 refine wp_seq ?_
 refine wp_region_lit ?_
 refine vr tbok 2 [] [(1, .pointer (some ⟨g120, 0, none⟩)), (4, .int .i64 r125), (8, .bool ((r125 : Int) != 0))] [] E (by kernel_rfl) trivial ?_
 clear E; intro a E
 refine wpList_nil ?_
 refine th_n ?_
 refine E.cases (t := 8) rfl (fun hb_ E_ => ?_) (fun hb_ E_ => ?_)
 ·
  replace E := E_; clear E_
  have h134 : ¬ ((r125 : Int) = 0) := bne_iff_ne.1 hb_
  clear hb_; replace hP := ite_f h134 hP
  refine c_true E rfl ?_
  refine wp_seq ?_
  refine wp_region_lit ?_
  refine vr tbok 3 [] [(2, .pointer none), (3, .int .i64 r125)] [] E (by kernel_rfl) trivial ?_
  clear E; intro a E
  refine wpList_nil ?_
  refine th_n ?_
  refine wp_ret ?_
  refine th_ret ?_
  obtain rfl := Option.some.inj hP
  refine ret2 E rfl rfl rfl ?_
  exact ⟨_, rfl, .inl ⟨r125, rfl, rfl, H.sel [] rfl⟩⟩
 replace E := E_; clear E_
 have h135 : (r125 : Int) = 0 := bne_eq_false_iff_eq.1 hb_
 clear hb_; replace hP := ite_t h135 hP
 refine c_false E rfl ?_
 refine wp_skip ?_
 refine th_n ?_
 refine wp_seq ?_
 refine wp_region_lit ?_
 refine vr tbok 1 [.agg #[.int .i64 aProps, .slice A1 (List.length aAccept) c2, .slice A5 (List.length aGuard) c6, .slice A9 (List.length aNodes) c10]] [(10, .agg #[.int .i64 aProps, .slice A1 (List.length aAccept) c2, .slice A5 (List.length aGuard) c6, .slice A9 (List.length aNodes) c10])] [cellsAt w131 g120 (0) [.int .i64 aProps, .slice A1 (List.length aAccept) c2, .slice A5 (List.length aGuard) c6, .slice A9 (List.length aNodes) c10]] E (by kernel_rfl) ((H.box 3 rfl).sub 0 _ rfl) ?_
 clear E; intro a E
 obtain ⟨r136, h137, hP⟩ := bind_inv hP
 obtain ⟨Fa138, Hc139, hb140⟩ := H.call [] [(0, false), (1, false), (2, false)] rfl rfl trivial
 refine e_call E rfl rfl Try.func38 rfl rfl rfl (watch_made_calls A1 c2 A5 c6 A9 c10 aProps aAccept aGuard aNodes hk3 hk7 hk11 Hc139 h137) ?_
 intro v146 w145 a hR147 E_
 obtain ⟨x_, b150, hr_, rfl, HR149⟩ := hR147
 subst hr_
 replace E := E_ _ rfl; clear E_
 obtain ⟨H_, hc148⟩ := hb140 _ _ HR149 rfl
 replace H := H_; clear H_; try dsimp only [setn, addE, goneL] at H
 refine e_build (ps := [(0, .pointer (some ⟨b150, 0, none⟩))]) (v := .agg #[.pointer (some ⟨b150, 0, none⟩), .slice none 0 0]) E rfl rfl tbok rfl (by kernel_rfl) rfl ?_
 clear E; intro a E
 refine h_box H E rfl rfl rfl ?_
 intro w153 g152 a hc154 hg156 H_ E_
 replace E := E_ _ rfl; clear E_
 replace H := H_; clear H_; try dsimp only [setn, addE, goneL] at H
 refine vr tbok 2 [] [(2, .pointer (some ⟨g152, 0, none⟩)), (3, .int .i64 0)] [] E (by kernel_rfl) trivial ?_
 clear E; intro a E
 refine wpList_nil ?_
 refine th_n ?_
 refine wp_ret ?_
 obtain rfl := Option.some.inj hP
 refine ret2 E rfl rfl rfl ?_
 exact ⟨_, rfl, .inr (⟨(r136, 0), g152, b150, rfl, rfl, H.sel [5, 4] rfl⟩)⟩

/-! rejoinder/rejoinderlaw16.Small -/
def law16_Small (N : Nat) (aProps : Int) (aAccept : List Bool) (aGuard : List Int) (aNodes : List Nd) : Option Bool :=
  if (((List.length aAccept) : Nat) : Int) ≤ 24 then
    if aProps ≤ 4 then
      if (((List.length aNodes) : Nat) : Int) ≤ 400 then
        some (decide ((((List.length aGuard) : Nat) : Int) ≤ 300))
      else
        some false
    else
      some false
  else
    some false
set_option maxRecDepth 100000 in
set_option maxHeartbeats 4000000 in
theorem law16_Small_calls {N : Nat} {S Fa : Nat → Prop} {w0 : World} {r : Bool} (A1 : Option Addr) (c2 : Nat) (A5 : Option Addr) (c6 : Nat) (A9 : Option Addr) (c10 : Nat) (aProps : Int) (aAccept : List Bool) (aGuard : List Int) (aNodes : List Nd) (hk3 : List.length aAccept ≤ c2) (hk7 : List.length aGuard ≤ c6) (hk11 : List.length aNodes ≤ c10) (H : Hp S Fa w0 w0 [.ro false cBool A1 aAccept, .ro false (cInt .i64) A5 aGuard, .ro false cNode A9 aNodes]) (hP : law16_Small N aProps aAccept aGuard aNodes = some r) :
    Calls Try.prog 16 #[.agg #[.int .i64 aProps, .slice A1 (List.length aAccept) c2, .slice A5 (List.length aGuard) c6, .slice A9 (List.length aNodes) c10]] w0 fun e w' => ∃ v, e = .returned v ∧ v = .bool r ∧ Hp S Fa w0 w' [] := by
 refine enterV (n := 24) Try.func16 rfl rfl rfl ?_
 intro a E
 replace E := E.pick [(0, .agg #[.int .i64 aProps, .slice A1 (List.length aAccept) c2, .slice A5 (List.length aGuard) c6, .slice A9 (List.length aNodes) c10])] ⟨rfl, trivial⟩
 rw [law16_Small] at hP
 refine wp_seq ?_
 refine wp_region_lit ?_
 refine h_box H E rfl rfl rfl ?_
 intro w14 g13 a hc15 hg17 H_ E_
 replace E := E_ _ rfl; clear E_
 replace H := H_; clear H_; try dsimp only [setn, addE, goneL] at H
 refine vr tbok 1 [] [(1, .pointer (some ⟨g13, 0, none⟩))] [] E (by kernel_rfl) trivial ?_
 clear E; intro a E
 refine wpList_nil ?_
 refine th_n ?_
 refine wp_seq ?_
 refine wp_region_lit ?_
 refine vr tbok 5 [.slice A1 (List.length aAccept) c2] [(1, .pointer (some ⟨g13, 0, none⟩)), (7, .bool (decide ((((List.length aAccept) : Nat) : Int) ≤ 24)))] [World.cell? w14 ⟨g13, 1, none⟩ = some (.slice A1 (List.length aAccept) c2)] E (by kernel_rfl) ((H.box 3 rfl).cell (j := 1) rfl) ?_
 clear E; intro a E
 refine E.cases (t := 7) rfl (fun hb_ E_ => ?_) (fun hb_ E_ => ?_)
 ·
  replace E := E_; clear E_
  have h18 : (((List.length aAccept) : Nat) : Int) ≤ 24 := of_decide_eq_true hb_
  clear hb_; replace hP := ite_t h18 hP
  refine vr tbok 5 [.int .i64 aProps] [(1, .pointer (some ⟨g13, 0, none⟩)), (12, .bool (decide (aProps ≤ 4)))] [World.cell? w14 ⟨g13, 0, none⟩ = some (.int .i64 aProps)] E (by kernel_rfl) ((H.box 3 rfl).cell (j := 0) rfl) ?_
  clear E; intro a E
  refine E.cases (t := 12) rfl (fun hb_ E_ => ?_) (fun hb_ E_ => ?_)
  ·
   replace E := E_; clear E_
   have h19 : aProps ≤ 4 := of_decide_eq_true hb_
   clear hb_; replace hP := ite_t h19 hP
   refine vr tbok 6 [.slice A9 (List.length aNodes) c10] [(1, .pointer (some ⟨g13, 0, none⟩)), (18, .bool (decide ((((List.length aNodes) : Nat) : Int) ≤ 400)))] [World.cell? w14 ⟨g13, 3, none⟩ = some (.slice A9 (List.length aNodes) c10)] E (by kernel_rfl) ((H.box 3 rfl).cell (j := 3) rfl) ?_
   clear E; intro a E
   refine E.cases (t := 18) rfl (fun hb_ E_ => ?_) (fun hb_ E_ => ?_)
   ·
    replace E := E_; clear E_
    have h20 : (((List.length aNodes) : Nat) : Int) ≤ 400 := of_decide_eq_true hb_
    clear hb_; replace hP := ite_t h20 hP
    refine vr tbok 6 [.slice A5 (List.length aGuard) c6] [(2, .bool (decide ((((List.length aGuard) : Nat) : Int) ≤ 300)))] [World.cell? w14 ⟨g13, 2, none⟩ = some (.slice A5 (List.length aGuard) c6)] E (by kernel_rfl) ((H.box 3 rfl).cell (j := 2) rfl) ?_
    clear E; intro a E
    refine wpList_nil ?_
    refine th_n ?_
    refine wp_ret ?_
    obtain rfl := Option.some.inj hP
    refine ret1 E rfl rfl ?_
    exact ⟨_, rfl, rfl, H.sel [] rfl⟩
   replace E := E_; clear E_
   have h21 : ¬ ((((List.length aNodes) : Nat) : Int) ≤ 400) := of_decide_eq_false hb_
   clear hb_; replace hP := ite_f h21 hP
   refine vr tbok 6 [] [(2, .bool false)] [] E (by kernel_rfl) trivial ?_
   clear E; intro a E
   refine wpList_nil ?_
   refine th_n ?_
   refine wp_ret ?_
   obtain rfl := Option.some.inj hP
   refine ret1 E rfl rfl ?_
   exact ⟨_, rfl, rfl, H.sel [] rfl⟩
  replace E := E_; clear E_
  have h22 : ¬ (aProps ≤ 4) := of_decide_eq_false hb_
  clear hb_; replace hP := ite_f h22 hP
  refine vr tbok 12 [] [(2, .bool false)] [] E (by kernel_rfl) trivial ?_
  clear E; intro a E
  refine wpList_nil ?_
  refine th_n ?_
  refine wp_ret ?_
  obtain rfl := Option.some.inj hP
  refine ret1 E rfl rfl ?_
  exact ⟨_, rfl, rfl, H.sel [] rfl⟩
 replace E := E_; clear E_
 have h23 : ¬ ((((List.length aAccept) : Nat) : Int) ≤ 24) := of_decide_eq_false hb_
 clear hb_; replace hP := ite_f h23 hP
 refine vr tbok 17 [] [(2, .bool false)] [] E (by kernel_rfl) trivial ?_
 clear E; intro a E
 refine wpList_nil ?_
 refine th_n ?_
 refine wp_ret ?_
 obtain rfl := Option.some.inj hP
 refine ret1 E rfl rfl ?_
 exact ⟨_, rfl, rfl, H.sel [] rfl⟩

/-! (*rejoinder/watch.Watch).Len -/
def watch_Watch_Len (N : Nat) (wboard : (Int × (List Bool) × (List Int) × (List Nd)) × (List Int) × (List Int)) (wcame : List Int) : Option Int :=
  Option.bind (watch_Watch_none N wboard wcame) fun r110 =>
  if r110 = true then
    some 0
  else
    some (((List.length wcame) : Nat) : Int)
set_option maxRecDepth 100000 in
set_option maxHeartbeats 4000000 in
theorem watch_Watch_Len_calls {N : Nat} {S Fa : Nat → Prop} {w0 : World} {r : Int} (g1 : Nat) (b3 : Nat) (o4 : Nat) (A6 : Option Addr) (c7 : Nat) (wboard : (Int × (List Bool) × (List Int) × (List Nd)) × (List Int) × (List Int)) (wcame : List Int) (H : Hp S Fa w0 w0 [.box g1 27 [.pointer (some ⟨b3, o4, none⟩), .slice A6 (List.length wcame) c7], .row true (cInt .i64) 3 A6 c7 wcame, .ro false cS78 (some ⟨b3, o4, none⟩) ([wboard])]) (hP : watch_Watch_Len N wboard wcame = some r) :
    Calls Try.prog 14 #[.pointer (some ⟨g1, 0, none⟩)] w0 fun e w' => ∃ v, e = .returned v ∧ (∃ (x_ : Int), r = x_ ∧ v = .int .i64 x_ ∧ Hp S Fa w0 w' [.row true (cInt .i64) 3 A6 c7 wcame, .box g1 27 [.pointer (some ⟨b3, o4, none⟩), .slice A6 (List.length wcame) c7]]) := by
 refine enterV (n := 10) Try.func14 rfl rfl rfl ?_
 intro a E
 replace E := E.pick [(0, .pointer (some ⟨g1, 0, none⟩))] ⟨rfl, trivial⟩
 rw [watch_Watch_Len] at hP
 refine wp_seq ?_
 refine wp_region_lit ?_
 refine vr tbok 1 [] [(0, .pointer (some ⟨g1, 0, none⟩))] [] E (by kernel_rfl) trivial ?_
 clear E; intro a E
 refine wpList_nil ?_
 refine th_n ?_
 refine wp_seq ?_
 refine wp_seq ?_
 refine wp_region_lit ?_
 refine vr tbok 1 [] [(0, .pointer (some ⟨g1, 0, none⟩)), (3, .pointer (some ⟨g1, 0, none⟩))] [] E (by kernel_rfl) trivial ?_
 clear E; intro a E
 obtain ⟨r110, h111, hP⟩ := bind_inv hP
 obtain ⟨Fa112, Hc113, hb114⟩ := H.call [0, 1] [(2, false)] rfl rfl ⟨flat_plain, trivial⟩
 refine e_call E rfl rfl Try.func32 rfl rfl rfl (watch_Watch_none_calls g1 b3 o4 A6 c7 wboard wcame  Hc113 h111) ?_
 intro v120 w119 a hR121 E_
 obtain ⟨x_, hr_, rfl, HR123⟩ := hR121
 subst hr_
 replace E := E_ _ rfl; clear E_
 obtain ⟨H_, hc122⟩ := hb114 _ _ HR123 rfl
 replace H := H_; clear H_; try dsimp only [setn, addE, goneL] at H
 refine wpList_nil ?_
 refine th_n ?_
 refine E.cases (t := 4) rfl (fun hb_ E_ => ?_) (fun hb_ E_ => ?_)
 ·
  replace E := E_; clear E_
  have h126 : r110 = true := hb_
  clear hb_; replace hP := ite_t h126 hP
  refine c_true E rfl ?_
  refine wp_seq ?_
  refine wp_region_lit ?_
  refine vr tbok 1 [] [(2, .int .i64 0)] [] E (by kernel_rfl) trivial ?_
  clear E; intro a E
  refine wpList_nil ?_
  refine th_n ?_
  refine wp_ret ?_
  refine th_ret ?_
  obtain rfl := Option.some.inj hP
  refine ret1 E rfl rfl ?_
  exact ⟨_, rfl, ⟨0, rfl, rfl, H.sel [3, 4] rfl⟩⟩
 replace E := E_; clear E_
 have h127 : ¬ (r110 = true) := (ne_true_of_eq_false hb_)
 clear hb_; replace hP := ite_f h127 hP
 refine c_false E rfl ?_
 refine wp_skip ?_
 refine th_n ?_
 refine wp_seq ?_
 refine wp_region_lit ?_
 refine vr tbok 6 [.slice A6 (List.length wcame) c7] [(2, .int .i64 (((List.length wcame) : Nat) : Int))] [World.cell? w119 ⟨g1, 1, none⟩ = some (.slice A6 (List.length wcame) c7)] E (by kernel_rfl) ((H.box 4 rfl).cell (j := 1) rfl) ?_
 clear E; intro a E
 refine wpList_nil ?_
 refine th_n ?_
 refine wp_ret ?_
 obtain rfl := Option.some.inj hP
 refine ret1 E rfl rfl ?_
 exact ⟨_, rfl, ⟨(((List.length wcame) : Nat) : Int), rfl, rfl, H.sel [3, 4] rfl⟩⟩

/-! (*rejoinder/watch.Watch).Off -/
def watch_Watch_Off (N : Nat) (wboard : (Int × (List Bool) × (List Int) × (List Nd)) × (List Int) × (List Int)) (wcame : List Int) : Option (Int × Int) :=
  Option.bind (watch_Watch_none N wboard wcame) fun r111 =>
  if r111 = true then
    some (0, 1)
  else
    Option.bind (watch_Watch_State N wboard wcame) fun r170 =>
    ask (idx r170 (List.length wboard.2.1)) <|
    if (List.getD wboard.2.1 (Int.toNat r170) 0) < 0 then
      some (0, 6)
    else
      some ((List.getD wboard.2.1 (Int.toNat r170) 0), 0)
set_option maxRecDepth 100000 in
set_option maxHeartbeats 4000000 in
theorem watch_Watch_Off_calls {N : Nat} {S Fa : Nat → Prop} {w0 : World} {r : Int × Int} (g1 : Nat) (b3 : Nat) (o4 : Nat) (A6 : Option Addr) (c7 : Nat) (wboard : (Int × (List Bool) × (List Int) × (List Nd)) × (List Int) × (List Int)) (wcame : List Int) (H : Hp S Fa w0 w0 [.box g1 27 [.pointer (some ⟨b3, o4, none⟩), .slice A6 (List.length wcame) c7], .row true (cInt .i64) 3 A6 c7 wcame, .ro false cS78 (some ⟨b3, o4, none⟩) ([wboard])]) (hP : watch_Watch_Off N wboard wcame = some r) :
    Calls Try.prog 11 #[.pointer (some ⟨g1, 0, none⟩)] w0 fun e w' => ∃ v, e = .returned v ∧ (∃ (x_ : Int × Int), r = x_ ∧ v = .tuple #[.int .i64 x_.1, .int .i64 x_.2] ∧ Hp S Fa w0 w' [.row true (cInt .i64) 3 A6 c7 wcame, .box g1 27 [.pointer (some ⟨b3, o4, none⟩), .slice A6 (List.length wcame) c7]]) := by
 refine enterV (n := 21) Try.func11 rfl rfl rfl ?_
 intro a E
 replace E := E.pick [(0, .pointer (some ⟨g1, 0, none⟩))] ⟨rfl, trivial⟩
 rw [watch_Watch_Off] at hP
 refine wp_seq ?_
 refine wp_region_lit ?_
 refine vr tbok 2 [] [(0, .pointer (some ⟨g1, 0, none⟩))] [] E (by kernel_rfl) trivial ?_
 clear E; intro a E
 refine wpList_nil ?_
 refine th_n ?_
 refine wp_seq ?_
 refine wp_seq ?_
 refine wp_region_lit ?_
 refine vr tbok 1 [] [(0, .pointer (some ⟨g1, 0, none⟩)), (5, .pointer (some ⟨g1, 0, none⟩))] [] E (by kernel_rfl) trivial ?_
 clear E; intro a E
 obtain ⟨r111, h112, hP⟩ := bind_inv hP
 obtain ⟨Fa113, Hc114, hb115⟩ := H.call [0, 1] [(2, false)] rfl rfl ⟨flat_plain, trivial⟩
 refine e_call E rfl rfl Try.func32 rfl rfl rfl (watch_Watch_none_calls g1 b3 o4 A6 c7 wboard wcame  Hc114 h112) ?_
 intro v121 w120 a hR122 E_
 obtain ⟨x_, hr_, rfl, HR124⟩ := hR122
 subst hr_
 replace E := E_ _ rfl; clear E_
 obtain ⟨H_, hc123⟩ := hb115 _ _ HR124 rfl
 replace H := H_; clear H_; try dsimp only [setn, addE, goneL] at H
 refine wpList_nil ?_
 refine th_n ?_
 refine E.cases (t := 6) rfl (fun hb_ E_ => ?_) (fun hb_ E_ => ?_)
 ·
  replace E := E_; clear E_
  have h127 : r111 = true := hb_
  clear hb_; replace hP := ite_t h127 hP
  refine c_true E rfl ?_
  refine wp_seq ?_
  refine wp_region_lit ?_
  refine vr tbok 2 [] [(2, .int .i64 0), (3, .int .i64 1)] [] E (by kernel_rfl) trivial ?_
  clear E; intro a E
  refine wpList_nil ?_
  refine th_n ?_
  refine wp_ret ?_
  refine th_ret ?_
  obtain rfl := Option.some.inj hP
  refine ret2 E rfl rfl rfl ?_
  exact ⟨_, rfl, ⟨(0, 1), rfl, rfl, H.sel [3, 4] rfl⟩⟩
 replace E := E_; clear E_
 have h128 : ¬ (r111 = true) := (ne_true_of_eq_false hb_)
 clear hb_; replace hP := ite_f h128 hP
 refine c_false E rfl ?_
 refine wp_skip ?_
 refine th_n ?_
 refine wp_seq ?_
 obtain ⟨Fz129, cs131, HF130, hK132, hc133⟩ := H.elem 2 false (el_ro rfl) wboard (idx_one _)
 obtain ⟨_, _, rfl, hK134, hK135⟩ := hK132
 obtain ⟨_, _, rfl, hK136, hK137⟩ := hK134
 obtain rfl := hK136
 obtain ⟨_, _, rfl, hK138, hK139⟩ := hK137
 obtain ⟨A140, c141, rfl, hk142, hC143⟩ := hK138
 obtain ⟨_, _, rfl, hK145, hK146⟩ := hK139
 obtain ⟨A147, c148, rfl, hk149, hC150⟩ := hK145
 obtain ⟨A152, c153, rfl, hk154, hC155⟩ := hK146
 obtain ⟨_, _, rfl, hK157, hK158⟩ := hK135
 obtain ⟨A159, c160, rfl, hk161, hC162⟩ := hK157
 obtain ⟨A164, c165, rfl, hk166, hC167⟩ := hK158
 replace HF130 := HF130.ins hC143
 replace HF130 := HF130.ins hC150
 replace HF130 := HF130.ins hC155
 replace HF130 := HF130.ins hC162
 replace HF130 := HF130.ins hC167
 replace H := HF130.hp; try dsimp only [addE] at H
 have hc169 : cellsAt w120 b3 (o4) [.int .i64 wboard.1.1, .slice A140 (List.length wboard.1.2.1) c141, .slice A147 (List.length wboard.1.2.2.1) c148, .slice A152 (List.length wboard.1.2.2.2) c153, .slice A159 (List.length wboard.2.1) c160, .slice A164 (List.length wboard.2.2) c165] := hc133
 obtain ⟨r170, h171, hP⟩ := bind_inv hP
 obtain ⟨g186, hP⟩ := ask_inv hP
 obtain ⟨b187, o188, e_b187⟩ := (H.rd 8 rds_ro).addr (idx_pos g186)
 subst e_b187
 refine meet_cut (fun a w189 => Fr a 21 [(4, .int .i64 (List.getD wboard.2.1 (Int.toNat r170) 0))] ∧ Hp S Fa w0 w189 [.ro false cS78 (some ⟨b3, o4, none⟩) ([wboard]), .row true (cInt .i64) 3 A6 c7 wcame, .box g1 27 [.pointer (some ⟨b3, o4, none⟩), .slice A6 (List.length wcame) c7]]) ?_ ?_
 ·
  have HR193 := H
  refine dr_start (S := fun w_ => Chg (atL [.row true (cInt .i64) 3 A6 c7 wcame, .box g1 27 [.pointer (some ⟨b3, o4, none⟩), .slice A6 (List.length wcame) c7]]) w120 w_) (by kernel_rfl) ?_
  intro w190 hc191
  have HS192 : Chg (atL [.row true (cInt .i64) 3 A6 c7 wcame, .box g1 27 [.pointer (some ⟨b3, o4, none⟩), .slice A6 (List.length wcame) c7]]) w120 w190 := hc191.mono (fun _ _ h_ => h_.elim)
  replace H := H.ext hc191
  refine dr tbok (by kernel_rfl) [0, 1, 2, 7] [] [(9, .pointer (some ⟨g1, 0, none⟩)), (14, .pointer (some ⟨g1, 0, none⟩))] (fun w_ => []) 8 E (fun _ _ => by kernel_rfl) (fun w_ hS_ => trivial) (by kernel_rfl) HS192 ?_
  clear E; intro a E
  refine wpAnyH_all (rs := [3, 8]) (by kernel_rfl) (by simp) ?_
  refine all2 ?_ ?_
  ·
   refine wpOp_of_list rfl ?_
   refine vr tbok 1 [.pointer (some ⟨b3, o4, none⟩)] [(9, .pointer (some ⟨g1, 0, none⟩)), (10, .pointer (some ⟨b3, o4, none⟩)), (14, .pointer (some ⟨g1, 0, none⟩))] [World.cell? w190 ⟨g1, 0, none⟩ = some (.pointer (some ⟨b3, o4, none⟩))] E (by kernel_rfl) ((H.box 4 rfl).cell (j := 0) rfl) ?_
   clear E; intro a E
   refine wpList_nil ?_
   refine th_n ⟨HS192, ?_⟩
   refine dr tbok (by kernel_rfl) [4, 5, 6] [.slice (some ⟨b187, o188, none⟩) (List.length wboard.2.1) c160] [(13, .slice (some ⟨b187, o188, none⟩) (List.length wboard.2.1) c160), (14, .pointer (some ⟨g1, 0, none⟩))] (fun w_ => [World.cell? w_ ⟨b3, o4 + 4, none⟩ = some (.slice (some ⟨b187, o188, none⟩) (List.length wboard.2.1) c160)]) 4 E (fun _ _ => by kernel_rfl) (fun w_ hS_ => (hS_.cell (hc169.get 4 _ rfl) (HR193.blk [3, 4] 2 rds_ro (idx_pos (idx_one _)) rfl))) (by kernel_rfl) HS192 ?_
   clear E; intro a E
   refine wpAnyH_all (rs := [8]) (by kernel_rfl) (by simp) ?_
   refine all1 ?_
   refine wpOp_of_list rfl ?_
   obtain ⟨Fa194, Hc195, hb196⟩ := H.call [4, 3] [(2, false)] rfl rfl ⟨flat_plain, trivial⟩
   refine e_call E rfl rfl Try.func13 rfl rfl rfl (watch_Watch_State_calls g1 b3 o4 A6 c7 wboard wcame  Hc195 h171) ?_
   intro v202 w201 a hR203 E_
   obtain ⟨x_, hr_, rfl, HR205⟩ := hR203
   subst hr_
   replace E := E_ _ rfl; clear E_
   obtain ⟨H_, hc204⟩ := hb196 _ _ HR205 rfl
   replace HS192 := HS192.trans hc204 (fun k_ hk_ h_ => h_.elim (fun h_ => by have hs_ := HS192.size; exfalso; omega) (fun h_ => h_.elim (fun h_ => (fun _ _ h_ => Or.inr (Or.inl h_)) k_ hk_ h_) (fun h_ => h_.elim (fun h_ => (fun _ _ h_ => Or.inl h_) k_ hk_ h_) (fun h_ => h_.elim))))
   replace H := H_; clear H_; try dsimp only [setn, addE, goneL] at H
   refine wpList_nil ?_
   refine th_n ⟨HS192, ?_⟩
   refine dr tbok (by kernel_rfl) [9, 10, 11] [.int .i64 (List.getD wboard.2.1 (Int.toNat r170) 0)] [(4, .int .i64 (List.getD wboard.2.1 (Int.toNat r170) 0))] (fun w_ => [0 ≤ r170 ∧ r170 < (((List.length wboard.2.1) : Nat) : Int), World.cell? w_ ⟨b187, o188 + (Int.toNat r170) * 1, none⟩ = some (.int .i64 (List.getD wboard.2.1 (Int.toNat r170) 0))]) 0 E (fun _ _ => by kernel_rfl) (fun w_ hS_ => ⟨g186, Rds.at1 (HR193.rdk [3, 4] hS_ 8 rds_ro rfl) 0 g186⟩) (by kernel_rfl) HS192 ?_
   clear E; intro a E
   refine dr_done (by kernel_rfl) ?_
   exact .inl ⟨rfl, E.pick _ ⟨rfl, trivial⟩, H.sel [2, 10, 11] rfl⟩
  refine wpOp_of_list rfl ?_
  obtain ⟨Fa208, Hc209, hb210⟩ := H.call [4, 3] [(2, false)] rfl rfl ⟨flat_plain, trivial⟩
  refine e_call E rfl rfl Try.func13 rfl rfl rfl (watch_Watch_State_calls g1 b3 o4 A6 c7 wboard wcame  Hc209 h171) ?_
  intro v216 w215 a hR217 E_
  obtain ⟨x_, hr_, rfl, HR219⟩ := hR217
  subst hr_
  replace E := E_ _ rfl; clear E_
  obtain ⟨H_, hc218⟩ := hb210 _ _ HR219 rfl
  replace HS192 := HS192.trans hc218 (fun k_ hk_ h_ => h_.elim (fun h_ => by have hs_ := HS192.size; exfalso; omega) (fun h_ => h_.elim (fun h_ => (fun _ _ h_ => Or.inr (Or.inl h_)) k_ hk_ h_) (fun h_ => h_.elim (fun h_ => (fun _ _ h_ => Or.inl h_) k_ hk_ h_) (fun h_ => h_.elim))))
  replace H := H_; clear H_; try dsimp only [setn, addE, goneL] at H
  refine wpList_nil ?_
  refine th_n ⟨HS192, ?_⟩
  refine wpAnyH_all (rs := [3]) (by kernel_rfl) (by simp) ?_
  refine all1 ?_
  refine wpOp_of_list rfl ?_
  refine vr tbok 1 [.pointer (some ⟨b3, o4, none⟩)] [(9, .pointer (some ⟨g1, 0, none⟩)), (10, .pointer (some ⟨b3, o4, none⟩)), (15, .int .i64 r170)] [World.cell? w215 ⟨g1, 0, none⟩ = some (.pointer (some ⟨b3, o4, none⟩))] E (by kernel_rfl) ((H.box 11 rfl).cell (j := 0) rfl) ?_
  clear E; intro a E
  refine wpList_nil ?_
  refine th_n ⟨HS192, ?_⟩
  refine dr tbok (by kernel_rfl) [4, 5, 6, 9, 10, 11] [.slice (some ⟨b187, o188, none⟩) (List.length wboard.2.1) c160, .int .i64 (List.getD wboard.2.1 (Int.toNat r170) 0)] [(4, .int .i64 (List.getD wboard.2.1 (Int.toNat r170) 0))] (fun w_ => [World.cell? w_ ⟨b3, o4 + 4, none⟩ = some (.slice (some ⟨b187, o188, none⟩) (List.length wboard.2.1) c160), 0 ≤ r170 ∧ r170 < (((List.length wboard.2.1) : Nat) : Int), World.cell? w_ ⟨b187, o188 + (Int.toNat r170) * 1, none⟩ = some (.int .i64 (List.getD wboard.2.1 (Int.toNat r170) 0))]) 0 E (fun _ _ => by kernel_rfl) (fun w_ hS_ => ⟨hS_.cell (hc169.get 4 _ rfl) (HR193.blk [3, 4] 2 rds_ro (idx_pos (idx_one _)) rfl), g186, Rds.at1 (HR193.rdk [3, 4] hS_ 8 rds_ro rfl) 0 g186⟩) (by kernel_rfl) HS192 ?_
  clear E; intro a E
  refine dr_done (by kernel_rfl) ?_
  exact .inl ⟨rfl, E.pick _ ⟨rfl, trivial⟩, H.sel [2, 10, 11] rfl⟩
 clear E H; rintro a w189 ⟨E, H⟩
 refine th_n ?_
 refine wp_seq ?_
 refine wp_seq ?_
 refine wp_region_lit ?_
 refine vr tbok 2 [] [(4, .int .i64 (List.getD wboard.2.1 (Int.toNat r170) 0)), (19, .bool (decide ((List.getD wboard.2.1 (Int.toNat r170) 0) < 0)))] [] E (by kernel_rfl) trivial ?_
 clear E; intro a E
 refine wpList_nil ?_
 refine th_n ?_
 refine E.cases (t := 19) rfl (fun hb_ E_ => ?_) (fun hb_ E_ => ?_)
 ·
  replace E := E_; clear E_
  have h222 : (List.getD wboard.2.1 (Int.toNat r170) 0) < 0 := of_decide_eq_true hb_
  clear hb_; replace hP := ite_t h222 hP
  refine c_true E rfl ?_
  refine wp_seq ?_
  refine wp_region_lit ?_
  refine vr tbok 2 [] [(2, .int .i64 0), (3, .int .i64 6)] [] E (by kernel_rfl) trivial ?_
  clear E; intro a E
  refine wpList_nil ?_
  refine th_n ?_
  refine wp_ret ?_
  refine th_ret ?_
  obtain rfl := Option.some.inj hP
  refine ret2 E rfl rfl rfl ?_
  exact ⟨_, rfl, ⟨(0, 6), rfl, rfl, H.sel [1, 2] rfl⟩⟩
 replace E := E_; clear E_
 have h223 : ¬ ((List.getD wboard.2.1 (Int.toNat r170) 0) < 0) := of_decide_eq_false hb_
 clear hb_; replace hP := ite_f h223 hP
 refine c_false E rfl ?_
 refine wp_skip ?_
 refine th_n ?_
 refine wp_seq ?_
 refine wp_region_lit ?_
 refine vr tbok 3 [] [(2, .int .i64 (List.getD wboard.2.1 (Int.toNat r170) 0)), (3, .int .i64 0)] [] E (by kernel_rfl) trivial ?_
 clear E; intro a E
 refine wpList_nil ?_
 refine th_n ?_
 refine wp_ret ?_
 obtain rfl := Option.some.inj hP
 refine ret2 E rfl rfl rfl ?_
 exact ⟨_, rfl, ⟨((List.getD wboard.2.1 (Int.toNat r170) 0), 0), rfl, rfl, H.sel [1, 2] rfl⟩⟩

/-! (*rejoinder/watch.Watch).Back -/
def watch_Watch_Back (N : Nat) (wboard : (Int × (List Bool) × (List Int) × (List Nd)) × (List Int) × (List Int)) (wcame : List Int) : Option (Int × Int × (List Int)) :=
  Option.bind (watch_Watch_none N wboard wcame) fun r114 =>
  if r114 = true then
    some (0, 1, wcame)
  else
    if ((((List.length wcame) : Nat) : Int) : Int) = 0 then
      some (0, 6, wcame)
    else
      ask (in64 ((((List.length wcame) : Nat) : Int) - 1)) <|
      ask (0 ≤ ((((List.length wcame) : Nat) : Int) - 1) ∧ ((((List.length wcame) : Nat) : Int) - 1) ≤ (((List.length wcame) : Nat) : Int)) <|
      Option.bind (watch_Watch_Verdict N wboard (List.take (Int.toNat ((((List.length wcame) : Nat) : Int) - 1)) wcame)) fun r147 =>
      some (r147, 0, (List.take (Int.toNat ((((List.length wcame) : Nat) : Int) - 1)) wcame))
set_option maxRecDepth 100000 in
set_option maxHeartbeats 4000000 in
theorem watch_Watch_Back_calls {N : Nat} {S Fa : Nat → Prop} {w0 : World} {r : Int × Int × (List Int)} (g1 : Nat) (b3 : Nat) (o4 : Nat) (A6 : Option Addr) (c7 : Nat) (wboard : (Int × (List Bool) × (List Int) × (List Nd)) × (List Int) × (List Int)) (wcame : List Int) (H : Hp S Fa w0 w0 [.box g1 27 [.pointer (some ⟨b3, o4, none⟩), .slice A6 (List.length wcame) c7], .row true (cInt .i64) 3 A6 c7 wcame, .ro false cS78 (some ⟨b3, o4, none⟩) ([wboard])]) (hP : watch_Watch_Back N wboard wcame = some r) :
    Calls Try.prog 10 #[.pointer (some ⟨g1, 0, none⟩)] w0 fun e w' => ∃ v, e = .returned v ∧ (∃ (x_ : Int × Int × (List Int)) (A12 : Option Addr) (c13 : Nat), r = x_ ∧ v = .tuple #[.int .u8 x_.1, .int .i64 x_.2.1] ∧ Hp S Fa w0 w' [.box g1 27 [.pointer (some ⟨b3, o4, none⟩), .slice A12 (List.length x_.2.2) c13], .row true (cInt .i64) 3 A12 c13 x_.2.2]) := by
 refine enterV (n := 30) Try.func10 rfl rfl rfl ?_
 intro a E
 replace E := E.pick [(0, .pointer (some ⟨g1, 0, none⟩))] ⟨rfl, trivial⟩
 rw [watch_Watch_Back] at hP
 refine wp_seq ?_
 refine wp_region_lit ?_
 refine vr tbok 2 [] [(0, .pointer (some ⟨g1, 0, none⟩))] [] E (by kernel_rfl) trivial ?_
 clear E; intro a E
 refine wpList_nil ?_
 refine th_n ?_
 refine wp_seq ?_
 refine wp_block ?_
 refine wp_seq ?_
 refine wp_region_lit ?_
 refine vr tbok 1 [] [(0, .pointer (some ⟨g1, 0, none⟩)), (5, .pointer (some ⟨g1, 0, none⟩))] [] E (by kernel_rfl) trivial ?_
 clear E; intro a E
 obtain ⟨r114, h115, hP⟩ := bind_inv hP
 obtain ⟨Fa116, Hc117, hb118⟩ := H.call [0, 1] [(2, false)] rfl rfl ⟨flat_plain, trivial⟩
 refine e_call E rfl rfl Try.func32 rfl rfl rfl (watch_Watch_none_calls g1 b3 o4 A6 c7 wboard wcame  Hc117 h115) ?_
 intro v124 w123 a hR125 E_
 obtain ⟨x_, hr_, rfl, HR127⟩ := hR125
 subst hr_
 replace E := E_ _ rfl; clear E_
 obtain ⟨H_, hc126⟩ := hb118 _ _ HR127 rfl
 replace H := H_; clear H_; try dsimp only [setn, addE, goneL] at H
 refine vr tbok 1 [] [(0, .pointer (some ⟨g1, 0, none⟩)), (4, .bool r114)] [] E (by kernel_rfl) trivial ?_
 clear E; intro a E
 refine wpList_nil ?_
 refine th_n ?_
 refine E.cases (t := 4) rfl (fun hb_ E_ => ?_) (fun hb_ E_ => ?_)
 ·
  replace E := E_; clear E_
  have h130 : r114 = true := hb_
  clear hb_; replace hP := ite_t h130 hP
  refine c_true E rfl ?_
  refine wp_seq ?_
  refine wp_region_lit ?_
  refine vr tbok 2 [] [(2, .int .u8 0), (3, .int .i64 1)] [] E (by kernel_rfl) trivial ?_
  clear E; intro a E
  refine wpList_nil ?_
  refine th_n ?_
  refine wp_ret ?_
  refine bl_ret ?_
  refine th_ret ?_
  obtain rfl := Option.some.inj hP
  refine ret2 E rfl rfl rfl ?_
  exact ⟨_, rfl, ⟨(0, 1, wcame), A6, c7, rfl, rfl, H.sel [4, 3] rfl⟩⟩
 replace E := E_; clear E_
 have h131 : ¬ (r114 = true) := (ne_true_of_eq_false hb_)
 clear hb_; replace hP := ite_f h131 hP
 refine c_false E rfl ?_
 refine wp_seq ?_
 refine wp_region_lit ?_
 refine vr tbok 7 [.slice A6 (List.length wcame) c7] [(0, .pointer (some ⟨g1, 0, none⟩)), (7, .bool (((((List.length wcame) : Nat) : Int) : Int) == 0))] [World.cell? w123 ⟨g1, 1, none⟩ = some (.slice A6 (List.length wcame) c7)] E (by kernel_rfl) ((H.box 4 rfl).cell (j := 1) rfl) ?_
 clear E; intro a E
 refine wpList_nil ?_
 refine th_n ?_
 refine E.cases (t := 7) rfl (fun hb_ E_ => ?_) (fun hb_ E_ => ?_)
 ·
  replace E := E_; clear E_
  have h132 : ((((List.length wcame) : Nat) : Int) : Int) = 0 := eq_of_beq hb_
  clear hb_; replace hP := ite_t h132 hP
  refine c_true E rfl ?_
  refine wp_seq ?_
  refine wp_region_lit ?_
  refine vr tbok 2 [] [(2, .int .u8 0), (3, .int .i64 6)] [] E (by kernel_rfl) trivial ?_
  clear E; intro a E
  refine wpList_nil ?_
  refine th_n ?_
  refine wp_ret ?_
  refine bl_ret ?_
  refine th_ret ?_
  obtain rfl := Option.some.inj hP
  refine ret2 E rfl rfl rfl ?_
  exact ⟨_, rfl, ⟨(0, 6, wcame), A6, c7, rfl, rfl, H.sel [4, 3] rfl⟩⟩
 replace E := E_; clear E_
 have h133 : ¬ (((((List.length wcame) : Nat) : Int) : Int) = 0) := ne_of_beq_false hb_
 clear hb_; replace hP := ite_f h133 hP
 refine c_false E rfl ?_
 refine wp_skip ?_
 refine bl_n ?_
 refine th_n ?_
 refine wp_seq ?_
 obtain ⟨g134, hP⟩ := ask_inv hP
 obtain ⟨g135, hP⟩ := ask_inv hP
 refine meet_cut (fun a w138 => Fr a 30 [(0, .pointer (some ⟨g1, 0, none⟩))] ∧ Hp S Fa w0 w138 [.ro false cS78 (some ⟨b3, o4, none⟩) ([wboard]), .row true (cInt .i64) 3 A6 c7 (List.take (Int.toNat ((((List.length wcame) : Nat) : Int) - 1)) wcame), .box g1 27 [.pointer (some ⟨b3, o4, none⟩), .slice A6 (List.length (List.take (Int.toNat ((((List.length wcame) : Nat) : Int) - 1)) wcame)) c7]]) ?_ ?_
 ·
  have HR142 := H
  refine dr_start (S := fun w_ => Chg (atL [.box g1 27 [.pointer (some ⟨b3, o4, none⟩), .slice A6 (List.length wcame) c7]]) w123 w_) (by kernel_rfl) ?_
  intro w139 hc140
  have HS141 : Chg (atL [.box g1 27 [.pointer (some ⟨b3, o4, none⟩), .slice A6 (List.length wcame) c7]]) w123 w139 := hc140.mono (fun _ _ h_ => h_.elim)
  replace H := H.ext hc140
  refine dr tbok (by kernel_rfl) [0, 1, 2, 3, 5, 6, 7] [] [(0, .pointer (some ⟨g1, 0, none⟩)), (14, .pointer (some ⟨g1, 0, none⟩)), (17, .pointer (some ⟨g1, 1, none⟩)), (21, .pointer (some ⟨g1, 1, none⟩))] (fun w_ => []) 8 E (fun _ _ => by kernel_rfl) (fun w_ hS_ => trivial) (by kernel_rfl) HS141 ?_
  clear E; intro a E
  refine wpAnyH_all (rs := [4, 8]) (by kernel_rfl) (by simp) ?_
  refine all2 ?_ ?_
  ·
   refine wpOp_of_list rfl ?_
   refine vr tbok 1 [.slice A6 (List.length wcame) c7] [(0, .pointer (some ⟨g1, 0, none⟩)), (14, .pointer (some ⟨g1, 0, none⟩)), (17, .pointer (some ⟨g1, 1, none⟩)), (18, .slice A6 (List.length wcame) c7), (21, .pointer (some ⟨g1, 1, none⟩))] [World.cell? w139 ⟨g1, 1, none⟩ = some (.slice A6 (List.length wcame) c7)] E (by kernel_rfl) ((H.box 4 rfl).cell (j := 1) rfl) ?_
   clear E; intro a E
   refine wpList_nil ?_
   refine th_n ⟨HS141, ?_⟩
   refine wpAnyH_all (rs := [8]) (by kernel_rfl) (by simp) ?_
   refine all1 ?_
   refine wpOp_of_list rfl ?_
   refine vr tbok 1 [.slice A6 (List.length wcame) c7] [(0, .pointer (some ⟨g1, 0, none⟩)), (14, .pointer (some ⟨g1, 0, none⟩)), (18, .slice A6 (List.length wcame) c7), (21, .pointer (some ⟨g1, 1, none⟩)), (22, .slice A6 (List.length wcame) c7)] [World.cell? w139 ⟨g1, 1, none⟩ = some (.slice A6 (List.length wcame) c7)] E (by kernel_rfl) ((H.box 4 rfl).cell (j := 1) rfl) ?_
   clear E; intro a E
   refine wpList_nil ?_
   refine th_n ⟨HS141, ?_⟩
   refine dr tbok (by kernel_rfl) [9, 10] [.int .i64 ((((List.length wcame) : Nat) : Int) - 1)] [(0, .pointer (some ⟨g1, 0, none⟩)), (14, .pointer (some ⟨g1, 0, none⟩)), (18, .slice A6 (List.length wcame) c7), (24, .int .i64 ((((List.length wcame) : Nat) : Int) - 1))] (fun w_ => [IntKind.i64.wrap ((((List.length wcame) : Nat) : Int) - 1) = (((List.length wcame) : Nat) : Int) - 1]) 4 E (fun _ _ => by kernel_rfl) (fun w_ hS_ => (wrap_in g134)) (by kernel_rfl) HS141 ?_
   clear E; intro a E
   refine wpAnyH_all (rs := [11]) (by kernel_rfl) (by simp) ?_
   refine all1 ?_
   refine wpOp_of_list rfl ?_
   refine vr tbok 1 [] [(0, .pointer (some ⟨g1, 0, none⟩)), (14, .pointer (some ⟨g1, 0, none⟩)), (18, .slice A6 (List.length wcame) c7), (24, .int .i64 ((((List.length wcame) : Nat) : Int) - 1)), (25, .slice A6 (Int.toNat ((((List.length wcame) : Nat) : Int) - 1)) c7)] [0 ≤ ((((List.length wcame) : Nat) : Int) - 1) ∧ ((((List.length wcame) : Nat) : Int) - 1) ≤ ((c7 : Nat) : Int)] E (by kernel_rfl) (cut_le g135 (H.rcap 3 rfl)) ?_
   clear E; intro a E
   replace H := H.cutRow 3 rfl (Int.toNat ((((List.length wcame) : Nat) : Int) - 1)); try dsimp only [setn, addE, goneL] at H
   replace E := E.same (t := 25) (u := .slice A6 (List.length (List.take (Int.toNat ((((List.length wcame) : Nat) : Int) - 1)) wcame)) c7) rfl (congrArg (fun n_ => Value.slice A6 n_ c7) (take_len g135))
   refine wpList_nil ?_
   refine th_n ⟨HS141, ?_⟩
   refine dr tbok (by kernel_rfl) [12, 13] [] [(0, .pointer (some ⟨g1, 0, none⟩)), (25, .slice A6 (List.length (List.take (Int.toNat ((((List.length wcame) : Nat) : Int) - 1)) wcame)) c7), (27, .pointer (some ⟨g1, 1, none⟩))] (fun w_ => []) 1 E (fun _ _ => by kernel_rfl) (fun w_ hS_ => trivial) (by kernel_rfl) HS141 ?_
   clear E; intro a E
   refine wpAnyH_all (rs := [14]) (by kernel_rfl) (by simp) ?_
   refine all1 ?_
   refine wpOp_of_list rfl ?_
   refine h_store (g := g1) (off := 1) H 4 rfl E rfl rfl rfl rfl tbok rfl rfl rfl rfl rfl ?_
   clear E; intro w143 a hc144 H_ E
   replace HS141 := HS141.trans hc144 (fun k_ hk_ h_ => (fun _ _ h_ => Or.inl h_) k_ hk_ h_)
   replace H := H_; clear H_; try dsimp only [setn, addE, goneL] at H
   refine wpList_nil ?_
   refine th_n ⟨HS141, ?_⟩
   refine dr_done (by kernel_rfl) ?_
   exact .inl ⟨rfl, E.pick _ ⟨rfl, trivial⟩, H.sel [2, 3, 4] rfl⟩
  refine wpOp_of_list rfl ?_
  refine vr tbok 1 [.slice A6 (List.length wcame) c7] [(0, .pointer (some ⟨g1, 0, none⟩)), (14, .pointer (some ⟨g1, 0, none⟩)), (17, .pointer (some ⟨g1, 1, none⟩)), (21, .pointer (some ⟨g1, 1, none⟩)), (22, .slice A6 (List.length wcame) c7)] [World.cell? w139 ⟨g1, 1, none⟩ = some (.slice A6 (List.length wcame) c7)] E (by kernel_rfl) ((H.box 4 rfl).cell (j := 1) rfl) ?_
  clear E; intro a E
  refine wpList_nil ?_
  refine th_n ⟨HS141, ?_⟩
  refine dr tbok (by kernel_rfl) [9, 10] [.int .i64 ((((List.length wcame) : Nat) : Int) - 1)] [(0, .pointer (some ⟨g1, 0, none⟩)), (14, .pointer (some ⟨g1, 0, none⟩)), (17, .pointer (some ⟨g1, 1, none⟩)), (24, .int .i64 ((((List.length wcame) : Nat) : Int) - 1))] (fun w_ => [IntKind.i64.wrap ((((List.length wcame) : Nat) : Int) - 1) = (((List.length wcame) : Nat) : Int) - 1]) 5 E (fun _ _ => by kernel_rfl) (fun w_ hS_ => (wrap_in g134)) (by kernel_rfl) HS141 ?_
  clear E; intro a E
  refine wpAnyH_all (rs := [4]) (by kernel_rfl) (by simp) ?_
  refine all1 ?_
  refine wpOp_of_list rfl ?_
  refine vr tbok 1 [.slice A6 (List.length wcame) c7] [(0, .pointer (some ⟨g1, 0, none⟩)), (14, .pointer (some ⟨g1, 0, none⟩)), (17, .pointer (some ⟨g1, 1, none⟩)), (18, .slice A6 (List.length wcame) c7), (24, .int .i64 ((((List.length wcame) : Nat) : Int) - 1))] [World.cell? w139 ⟨g1, 1, none⟩ = some (.slice A6 (List.length wcame) c7)] E (by kernel_rfl) ((H.box 4 rfl).cell (j := 1) rfl) ?_
  clear E; intro a E
  refine wpList_nil ?_
  refine th_n ⟨HS141, ?_⟩
  refine wpAnyH_all (rs := [11]) (by kernel_rfl) (by simp) ?_
  refine all1 ?_
  refine wpOp_of_list rfl ?_
  refine vr tbok 1 [] [(0, .pointer (some ⟨g1, 0, none⟩)), (14, .pointer (some ⟨g1, 0, none⟩)), (17, .pointer (some ⟨g1, 1, none⟩)), (18, .slice A6 (List.length wcame) c7), (24, .int .i64 ((((List.length wcame) : Nat) : Int) - 1)), (25, .slice A6 (Int.toNat ((((List.length wcame) : Nat) : Int) - 1)) c7)] [0 ≤ ((((List.length wcame) : Nat) : Int) - 1) ∧ ((((List.length wcame) : Nat) : Int) - 1) ≤ ((c7 : Nat) : Int)] E (by kernel_rfl) (cut_le g135 (H.rcap 3 rfl)) ?_
  clear E; intro a E
  replace H := H.cutRow 3 rfl (Int.toNat ((((List.length wcame) : Nat) : Int) - 1)); try dsimp only [setn, addE, goneL] at H
  replace E := E.same (t := 25) (u := .slice A6 (List.length (List.take (Int.toNat ((((List.length wcame) : Nat) : Int) - 1)) wcame)) c7) rfl (congrArg (fun n_ => Value.slice A6 n_ c7) (take_len g135))
  refine wpList_nil ?_
  refine th_n ⟨HS141, ?_⟩
  refine dr tbok (by kernel_rfl) [12, 13] [] [(0, .pointer (some ⟨g1, 0, none⟩)), (25, .slice A6 (List.length (List.take (Int.toNat ((((List.length wcame) : Nat) : Int) - 1)) wcame)) c7), (27, .pointer (some ⟨g1, 1, none⟩))] (fun w_ => []) 1 E (fun _ _ => by kernel_rfl) (fun w_ hS_ => trivial) (by kernel_rfl) HS141 ?_
  clear E; intro a E
  refine wpAnyH_all (rs := [14]) (by kernel_rfl) (by simp) ?_
  refine all1 ?_
  refine wpOp_of_list rfl ?_
  refine h_store (g := g1) (off := 1) H 4 rfl E rfl rfl rfl rfl tbok rfl rfl rfl rfl rfl ?_
  clear E; intro w145 a hc146 H_ E
  replace HS141 := HS141.trans hc146 (fun k_ hk_ h_ => (fun _ _ h_ => Or.inl h_) k_ hk_ h_)
  replace H := H_; clear H_; try dsimp only [setn, addE, goneL] at H
  refine wpList_nil ?_
  refine th_n ⟨HS141, ?_⟩
  refine dr_done (by kernel_rfl) ?_
  exact .inl ⟨rfl, E.pick _ ⟨rfl, trivial⟩, H.sel [2, 3, 4] rfl⟩
 clear E H; rintro a w138 ⟨E, H⟩
 refine th_n ?_
 refine wp_seq ?_
 refine wp_region_lit ?_
 refine vr tbok 1 [] [(28, .pointer (some ⟨g1, 0, none⟩))] [] E (by kernel_rfl) trivial ?_
 clear E; intro a E
 obtain ⟨r147, h148, hP⟩ := bind_inv hP
 obtain ⟨Fa149, Hc150, hb151⟩ := H.call [2, 1] [(0, false)] rfl rfl ⟨flat_plain, trivial⟩
 refine e_call E rfl rfl Try.func12 rfl rfl rfl (watch_Watch_Verdict_calls g1 b3 o4 A6 c7 wboard (List.take (Int.toNat ((((List.length wcame) : Nat) : Int) - 1)) wcame)  Hc150 h148) ?_
 intro v157 w156 a hR158 E_
 obtain ⟨x_, hr_, rfl, HR160⟩ := hR158
 subst hr_
 replace E := E_ _ rfl; clear E_
 obtain ⟨H_, hc159⟩ := hb151 _ _ HR160 rfl
 replace H := H_; clear H_; try dsimp only [setn, addE, goneL] at H
 refine vr tbok 2 [] [(2, .int .u8 r147), (3, .int .i64 0)] [] E (by kernel_rfl) trivial ?_
 clear E; intro a E
 refine wpList_nil ?_
 refine th_n ?_
 refine wp_ret ?_
 obtain rfl := Option.some.inj hP
 refine ret2 E rfl rfl rfl ?_
 exact ⟨_, rfl, ⟨(r147, 0, (List.take (Int.toNat ((((List.length wcame) : Nat) : Int) - 1)) wcame)), A6, c7, rfl, rfl, H.sel [4, 3] rfl⟩⟩

/-! rejoinder/canon.Run -/
def canon_Run_l0 (N : Nat) (aGuard : List Int) (aNodes : List Nd) (t : List Int) : Nat → Int → Int → Option Int
  | 0, _, _ => none
  | m104 + 1, q72, x73 =>
    if x73 < (((List.length t) : Nat) : Int) then
      ask (idx x73 (List.length t)) <|
      ask (idx q72 (List.length aGuard)) <|
      Option.bind (guard_Go N aNodes (List.getD aGuard (Int.toNat q72) 0) (List.getD t (Int.toNat x73) 0)) fun r118 =>
      ask (in64 (x73 + 1)) <|
      canon_Run_l0 N aGuard aNodes t m104 r118.1 (x73 + 1)
    else
      some q72
def canon_Run (N : Nat) (aProps : Int) (aAccept : List Bool) (aGuard : List Int) (aNodes : List Nd) (t : List Int) : Option (Int × Int) :=
  Option.bind (guard_Check N aProps aAccept aGuard aNodes) fun r22 =>
  if (r22 : Int) = 0 then
    Option.bind (letter_Trace N aProps t) fun r33 =>
    if (r33 : Int) = 0 then
      Option.bind (canon_Run_l0 N aGuard aNodes t N 0 0) fun x105 =>
      some (x105, 0)
    else
      some (0, r33)
  else
    some (0, r22)
set_option maxRecDepth 100000 in
set_option maxHeartbeats 4000000 in
theorem canon_Run_calls {N : Nat} {S Fa : Nat → Prop} {w0 : World} {r : Int × Int} (A1 : Option Addr) (c2 : Nat) (A5 : Option Addr) (c6 : Nat) (A9 : Option Addr) (c10 : Nat) (A13 : Option Addr) (c14 : Nat) (aProps : Int) (aAccept : List Bool) (aGuard : List Int) (aNodes : List Nd) (t : List Int) (hk3 : List.length aAccept ≤ c2) (hk7 : List.length aGuard ≤ c6) (hk11 : List.length aNodes ≤ c10) (hk15 : List.length t ≤ c14) (H : Hp S Fa w0 w0 [.ro false cBool A1 aAccept, .ro false (cInt .i64) A5 aGuard, .ro false cNode A9 aNodes, .ro false (cInt .u8) A13 t]) (hP : canon_Run N aProps aAccept aGuard aNodes t = some r) :
    Calls Try.prog 31 #[.agg #[.int .i64 aProps, .slice A1 (List.length aAccept) c2, .slice A5 (List.length aGuard) c6, .slice A9 (List.length aNodes) c10], .slice A13 (List.length t) c14] w0 fun e w' => ∃ v, e = .returned v ∧ v = .tuple #[.int .i64 r.1, .int .i64 r.2] ∧ Hp S Fa w0 w' [] := by
 refine enterV (n := 43) Try.func31 rfl rfl rfl ?_
 intro a E
 replace E := E.pick [(0, .agg #[.int .i64 aProps, .slice A1 (List.length aAccept) c2, .slice A5 (List.length aGuard) c6, .slice A9 (List.length aNodes) c10]), (1, .slice A13 (List.length t) c14)] ⟨rfl, rfl, trivial⟩
 rw [canon_Run] at hP
 refine wp_seq ?_
 refine wp_region_lit ?_
 refine h_box H E rfl rfl rfl ?_
 intro w18 g17 a hc19 hg21 H_ E_
 replace E := E_ _ rfl; clear E_
 replace H := H_; clear H_; try dsimp only [setn, addE, goneL] at H
 refine vr tbok 2 [] [(1, .slice A13 (List.length t) c14), (2, .pointer (some ⟨g17, 0, none⟩))] [] E (by kernel_rfl) trivial ?_
 clear E; intro a E
 refine wpList_nil ?_
 refine th_n ?_
 refine wp_seq ?_
 refine wp_seq ?_
 refine wp_region_lit ?_
 refine vr tbok 1 [.agg #[.int .i64 aProps, .slice A1 (List.length aAccept) c2, .slice A5 (List.length aGuard) c6, .slice A9 (List.length aNodes) c10]] [(1, .slice A13 (List.length t) c14), (2, .pointer (some ⟨g17, 0, none⟩)), (11, .agg #[.int .i64 aProps, .slice A1 (List.length aAccept) c2, .slice A5 (List.length aGuard) c6, .slice A9 (List.length aNodes) c10])] [cellsAt w18 g17 (0) [.int .i64 aProps, .slice A1 (List.length aAccept) c2, .slice A5 (List.length aGuard) c6, .slice A9 (List.length aNodes) c10]] E (by kernel_rfl) ((H.box 4 rfl).sub 0 _ rfl) ?_
 clear E; intro a E
 obtain ⟨r22, h23, hP⟩ := bind_inv hP
 obtain ⟨Fa24, Hc25, hb26⟩ := H.call [] [(0, false), (1, false), (2, false)] rfl rfl trivial
 refine e_call E rfl rfl Try.func36 rfl rfl rfl (guard_Check_calls A1 c2 A5 c6 A9 c10 aProps aAccept aGuard aNodes hk3 hk7 hk11 Hc25 h23) ?_
 rintro v27 w28 a ⟨rfl, HR29⟩ E_
 replace E := E_ _ rfl; clear E_
 obtain ⟨H_, hc30⟩ := hb26 _ _ HR29 rfl
 replace H := H_; clear H_; try dsimp only [setn, addE, goneL] at H
 refine vr tbok 1 [] [(1, .slice A13 (List.length t) c14), (2, .pointer (some ⟨g17, 0, none⟩)), (6, .int .i64 r22)] [] E (by kernel_rfl) trivial ?_
 clear E; intro a E
 refine wpList_nil ?_
 refine th_n ?_
 refine wp_seq ?_
 refine wp_region_lit ?_
 refine vr tbok 2 [] [(1, .slice A13 (List.length t) c14), (2, .pointer (some ⟨g17, 0, none⟩)), (6, .int .i64 r22), (14, .bool ((r22 : Int) != 0))] [] E (by kernel_rfl) trivial ?_
 clear E; intro a E
 refine wpList_nil ?_
 refine th_n ?_
 refine E.cases (t := 14) rfl (fun hb_ E_ => ?_) (fun hb_ E_ => ?_)
 ·
  replace E := E_; clear E_
  have h31 : ¬ ((r22 : Int) = 0) := bne_iff_ne.1 hb_
  clear hb_; replace hP := ite_f h31 hP
  refine c_true E rfl ?_
  refine wp_seq ?_
  refine wp_region_lit ?_
  refine vr tbok 3 [] [(4, .int .i64 0), (5, .int .i64 r22)] [] E (by kernel_rfl) trivial ?_
  clear E; intro a E
  refine wpList_nil ?_
  refine th_n ?_
  refine wp_ret ?_
  refine th_ret ?_
  obtain rfl := Option.some.inj hP
  refine ret2 E rfl rfl rfl ?_
  exact ⟨_, rfl, rfl, H.sel [] rfl⟩
 replace E := E_; clear E_
 have h32 : (r22 : Int) = 0 := bne_eq_false_iff_eq.1 hb_
 clear hb_; replace hP := ite_t h32 hP
 refine c_false E rfl ?_
 refine wp_skip ?_
 refine th_n ?_
 refine wp_seq ?_
 refine wp_seq ?_
 refine wp_region_lit ?_
 refine vr tbok 3 [.int .i64 aProps] [(1, .slice A13 (List.length t) c14), (2, .pointer (some ⟨g17, 0, none⟩)), (17, .int .i64 aProps), (18, .slice A13 (List.length t) c14)] [World.cell? w28 ⟨g17, 0, none⟩ = some (.int .i64 aProps)] E (by kernel_rfl) ((H.box 4 rfl).cell (j := 0) rfl) ?_
 clear E; intro a E
 obtain ⟨r33, h34, hP⟩ := bind_inv hP
 obtain ⟨Fa35, Hc36, hb37⟩ := H.call [] [(3, false)] rfl rfl trivial
 refine e_call E rfl rfl Try.func37 rfl rfl rfl (letter_Trace_calls A13 c14 aProps t hk15 Hc36 h34) ?_
 rintro v38 w39 a ⟨rfl, HR40⟩ E_
 replace E := E_ _ rfl; clear E_
 obtain ⟨H_, hc41⟩ := hb37 _ _ HR40 rfl
 replace H := H_; clear H_; try dsimp only [setn, addE, goneL] at H
 refine vr tbok 1 [] [(1, .slice A13 (List.length t) c14), (2, .pointer (some ⟨g17, 0, none⟩)), (7, .int .i64 r33)] [] E (by kernel_rfl) trivial ?_
 clear E; intro a E
 refine wpList_nil ?_
 refine th_n ?_
 refine wp_seq ?_
 refine wp_region_lit ?_
 refine vr tbok 2 [] [(1, .slice A13 (List.length t) c14), (2, .pointer (some ⟨g17, 0, none⟩)), (7, .int .i64 r33), (21, .bool ((r33 : Int) != 0))] [] E (by kernel_rfl) trivial ?_
 clear E; intro a E
 refine wpList_nil ?_
 refine th_n ?_
 refine E.cases (t := 21) rfl (fun hb_ E_ => ?_) (fun hb_ E_ => ?_)
 ·
  replace E := E_; clear E_
  have h42 : ¬ ((r33 : Int) = 0) := bne_iff_ne.1 hb_
  clear hb_; replace hP := ite_f h42 hP
  refine c_true E rfl ?_
  refine wp_seq ?_
  refine wp_region_lit ?_
  refine vr tbok 3 [] [(4, .int .i64 0), (5, .int .i64 r33)] [] E (by kernel_rfl) trivial ?_
  clear E; intro a E
  refine wpList_nil ?_
  refine th_n ?_
  refine wp_ret ?_
  refine th_ret ?_
  obtain rfl := Option.some.inj hP
  refine ret2 E rfl rfl rfl ?_
  exact ⟨_, rfl, rfl, H.sel [] rfl⟩
 replace E := E_; clear E_
 have h43 : (r33 : Int) = 0 := bne_eq_false_iff_eq.1 hb_
 clear hb_; replace hP := ite_t h43 hP
 refine c_false E rfl ?_
 refine wp_skip ?_
 refine th_n ?_
 refine wp_seq ?_
 refine wp_region_lit ?_
 refine vr tbok 1 [] [(1, .slice A13 (List.length t) c14), (2, .pointer (some ⟨g17, 0, none⟩)), (8, .int .i64 0)] [] E (by kernel_rfl) trivial ?_
 clear E; intro a E
 refine wpList_nil ?_
 refine th_n ?_
 refine wp_seq ?_
 refine wp_seq ?_
 refine wp_region_lit ?_
 refine vr tbok 3 [] [(2, .pointer (some ⟨g17, 0, none⟩)), (8, .int .i64 0), (23, .slice A13 (List.length t) c14), (24, .int .i64 (((List.length t) : Nat) : Int)), (25, .int .i64 0)] [] E (by kernel_rfl) trivial ?_
 clear E; intro a E
 refine wpList_nil ?_
 refine th_n ?_
 refine wp_block ?_
 obtain ⟨x105, hL106, hK107⟩ := bind_inv hP
 clear hP
 refine loop_cut (fun i_ a w_ => (i_ = 0 ∧ ∃ (x110 : Int), Fr a 43 [(8, .int .i64 x110)] ∧ Hp S Fa w0 w_ [] ∧ x105 = x110)) ?_ ?_
 ·
  refine loopV (fun m109 a w108 => ∃ (q72 : Int) (x73 : Int), Fr a 43 [(2, .pointer (some ⟨g17, 0, none⟩)), (8, .int .i64 q72), (23, .slice A13 (List.length t) c14), (24, .int .i64 (((List.length t) : Nat) : Int)), (25, .int .i64 x73)] ∧ Hp S Fa w0 w108 [.ro false cBool A1 aAccept, .ro false (cInt .i64) A5 aGuard, .ro false cNode A9 aNodes, .box g17 43 [.int .i64 aProps, .slice A1 (List.length aAccept) c2, .slice A5 (List.length aGuard) c6, .slice A9 (List.length aNodes) c10], .ro false (cInt .u8) A13 t] ∧ canon_Run_l0 N aGuard aNodes t m109 q72 x73 = some x105) N ?_ ?_
  ·
   exact ⟨0, 0, E.pick _ ⟨rfl, rfl, rfl, rfl, rfl, trivial⟩, H.sel [0, 1, 2, 4, 3] rfl, hL106⟩
  clear E H hL106; intro m109 a w108 hI_
  obtain ⟨q72, x73, E, H, hP⟩ := hI_
  obtain ⟨m104, rfl⟩ : ∃ q_, m109 = q_ + 1 := by cases m109 with | zero => rw [canon_Run_l0] at hP; cases hP | succ q_ => exact ⟨q_, rfl⟩
  rw [canon_Run_l0] at hP
  refine wp_seq ?_
  refine wp_region_lit ?_
  refine vr tbok 1 [] [(2, .pointer (some ⟨g17, 0, none⟩)), (8, .int .i64 q72), (23, .slice A13 (List.length t) c14), (24, .int .i64 (((List.length t) : Nat) : Int)), (25, .int .i64 x73), (26, .bool (decide (x73 < (((List.length t) : Nat) : Int))))] [] E (by kernel_rfl) trivial ?_
  clear E; intro a E
  refine wpList_nil ?_
  refine th_n ?_
  refine wp_seq ?_
  refine E.cases (t := 26) rfl (fun hb_ E_ => ?_) (fun hb_ E_ => ?_)
  ·
   replace E := E_; clear E_
   have h111 : x73 < (((List.length t) : Nat) : Int) := of_decide_eq_true hb_
   clear hb_; replace hP := ite_t h111 hP
   refine c_true E rfl ?_
   refine wp_skip ?_
   refine th_n ?_
   refine wp_seq ?_
   refine wp_block ?_
   refine wp_seq ?_
   refine wp_region_lit ?_
   obtain ⟨g112, hP⟩ := ask_inv hP
   obtain ⟨b113, o114, e_b113⟩ := (H.rd 4 rds_ro).addr (idx_pos g112)
   subst e_b113
   refine vr tbok 3 [.int .u8 (List.getD t (Int.toNat x73) 0)] [(2, .pointer (some ⟨g17, 0, none⟩)), (8, .int .i64 q72), (10, .int .u8 (List.getD t (Int.toNat x73) 0)), (23, .slice (some ⟨b113, o114, none⟩) (List.length t) c14), (24, .int .i64 (((List.length t) : Nat) : Int)), (25, .int .i64 x73)] [0 ≤ x73 ∧ x73 < (((List.length t) : Nat) : Int), World.cell? w108 ⟨b113, o114 + (Int.toNat x73) * 1, none⟩ = some (.int .u8 (List.getD t (Int.toNat x73) 0))] E (by kernel_rfl) ⟨g112, Rds.at1 (H.rd 4 rds_ro) 0 g112⟩ ?_
   clear E; intro a E
   refine wpList_nil ?_
   refine th_n ?_
   obtain ⟨g115, hP⟩ := ask_inv hP
   obtain ⟨b116, o117, e_b116⟩ := (H.rd 1 rds_ro).addr (idx_pos g115)
   subst e_b116
   obtain ⟨r118, h119, hP⟩ := bind_inv hP
   have HR130 := H
   refine dr_start (S := fun w_ => Chg (atL []) w108 w_) (by kernel_rfl) ?_
   intro w127 hc128
   have HS129 : Chg (atL []) w108 w127 := hc128.mono (fun _ _ h_ => h_.elim)
   replace H := H.ext hc128
   refine dr tbok (by kernel_rfl) [0, 1, 2, 3, 4, 5, 6, 7] [.slice A9 (List.length aNodes) c10, .slice (some ⟨b116, o117, none⟩) (List.length aGuard) c6, .int .i64 (List.getD aGuard (Int.toNat q72) 0)] [(2, .pointer (some ⟨g17, 0, none⟩)), (8, .int .i64 q72), (23, .slice (some ⟨b113, o114, none⟩) (List.length t) c14), (24, .int .i64 (((List.length t) : Nat) : Int)), (25, .int .i64 x73), (31, .slice A9 (List.length aNodes) c10), (36, .int .i64 (List.getD aGuard (Int.toNat q72) 0)), (37, .int .u8 (List.getD t (Int.toNat x73) 0))] (fun w_ => [World.cell? w_ ⟨g17, 3, none⟩ = some (.slice A9 (List.length aNodes) c10), World.cell? w_ ⟨g17, 2, none⟩ = some (.slice (some ⟨b116, o117, none⟩) (List.length aGuard) c6), 0 ≤ q72 ∧ q72 < (((List.length aGuard) : Nat) : Int), World.cell? w_ ⟨b116, o117 + (Int.toNat q72) * 1, none⟩ = some (.int .i64 (List.getD aGuard (Int.toNat q72) 0))]) 5 E (fun _ _ => by kernel_rfl) (fun w_ hS_ => ⟨(HR130.boxk [] hS_ 3 rfl rfl).cell (j := 3) rfl, (HR130.boxk [] hS_ 3 rfl rfl).cell (j := 2) rfl, g115, Rds.at1 (HR130.rdk [] hS_ 1 rds_ro rfl) 0 g115⟩) (by kernel_rfl) HS129 ?_
   clear E; intro a E
   refine wpAnyH_all (rs := [8]) (by kernel_rfl) (by simp) ?_
   refine all1 ?_
   refine wpOp_of_list rfl ?_
   obtain ⟨Fa131, Hc132, hb133⟩ := H.call [] [(2, false)] rfl rfl trivial
   refine e_call E rfl rfl Try.func34 rfl rfl rfl (guard_Go_calls A9 c10 aNodes (List.getD aGuard (Int.toNat q72) 0) (List.getD t (Int.toNat x73) 0) hk11 Hc132 h119) ?_
   rintro v134 w135 a ⟨rfl, HR136⟩ E_
   replace E := E_ _ rfl; clear E_
   obtain ⟨H_, hc137⟩ := hb133 _ _ HR136 rfl
   replace HS129 := HS129.ext (callS_ext hc137)
   replace H := H_; clear H_; try dsimp only [setn, addE, goneL] at H
   refine wpList_nil ?_
   refine th_n ⟨HS129, ?_⟩
   refine dr tbok (by kernel_rfl) [9, 10, 11, 12] [] [(2, .pointer (some ⟨g17, 0, none⟩)), (8, .int .i64 r118.1), (23, .slice (some ⟨b113, o114, none⟩) (List.length t) c14), (24, .int .i64 (((List.length t) : Nat) : Int)), (25, .int .i64 x73)] (fun w_ => []) 0 E (fun _ _ => by kernel_rfl) (fun w_ hS_ => trivial) (by kernel_rfl) HS129 ?_
   clear E; intro a E
   refine dr_done (by kernel_rfl) ?_
   clear HS129 HR130
   refine bl_n ?_
   refine th_n ?_
   refine wp_region_lit ?_
   obtain ⟨g138, hP⟩ := ask_inv hP
   refine vr tbok 2 [.int .i64 (x73 + 1)] [(2, .pointer (some ⟨g17, 0, none⟩)), (8, .int .i64 r118.1), (23, .slice (some ⟨b113, o114, none⟩) (List.length t) c14), (24, .int .i64 (((List.length t) : Nat) : Int)), (25, .int .i64 (x73 + 1))] [IntKind.i64.wrap (x73 + 1) = x73 + 1] E (by kernel_rfl) (wrap_in g138) ?_
   clear E; intro a E
   refine wpList_nil ?_
   exact th_n ⟨m104, Nat.lt_succ_self _, r118.1, x73 + 1, E.pick _ ⟨rfl, rfl, rfl, rfl, rfl, trivial⟩, H.sel [0, 1, 2, 3, 4] rfl, hP⟩
  replace E := E_; clear E_
  have h139 : ¬ (x73 < (((List.length t) : Nat) : Int)) := of_decide_eq_false hb_
  clear hb_; replace hP := ite_f h139 hP
  refine c_false E rfl ?_
  refine wp_exit ?_
  refine th_exit ?_
  have hx_ := Option.some.inj hP
  refine th_exit (.inl ⟨0, rfl, ?_⟩)
  exact ⟨rfl, q72, E.pick _ ⟨rfl, trivial⟩, H.sel [] rfl, hx_.symm⟩
 clear E H hL106; intro i_ a w108 hM_
 obtain ⟨rfl, x110, E, H, hx_⟩ := hM_
 subst hx_; have hP := hK107; clear hK107
 refine bl_hit ?_
 refine th_n ?_
 refine wp_seq ?_
 refine wp_region_lit ?_
 refine vr tbok 3 [] [(4, .int .i64 x105), (5, .int .i64 0)] [] E (by kernel_rfl) trivial ?_
 clear E; intro a E
 refine wpList_nil ?_
 refine th_n ?_
 refine wp_ret ?_
 obtain rfl := Option.some.inj hP
 refine ret2 E rfl rfl rfl ?_
 exact ⟨_, rfl, rfl, H.sel [] rfl⟩

end Go.V
