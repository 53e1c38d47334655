/- Plain functions, and the calls that give them. -/
import Derived.Test.YteemfefeaphfdaaA3
set_option linter.all false
set_option linter.unusedVariables false
set_option linter.unnecessarySimpa false
set_option linter.unusedSimpArgs false
namespace Go.V
open Go Go.Proofs
/-! rejoinder/rejoinderkit.SameLetters -/
def kit_SameLetters_l0 (N : Nat) (aa : List Int) (b : List Int) : Nat → Int → Option (Unit ⊕ Bool)
  | 0, _ => none
  | m41 + 1, i25 =>
    if i25 < (((List.length aa) : Nat) : Int) then
      ask (idx i25 (List.length aa)) <|
      ask (idx i25 (List.length b)) <|
      if ((List.getD aa (Int.toNat i25) 0) : Int) = (List.getD b (Int.toNat i25) 0) then
        ask (in64 (i25 + 1)) <|
        kit_SameLetters_l0 N aa b m41 (i25 + 1)
      else
        some (Sum.inr false)
    else
      some (Sum.inl ())
def kit_SameLetters (N : Nat) (aa : List Int) (b : List Int) : Option Bool :=
  if ((((List.length aa) : Nat) : Int) : Int) = (((List.length b) : Nat) : Int) then
    Option.bind (kit_SameLetters_l0 N aa b N 0) fun x42 =>
    Sum.elim (fun x47 =>
      some true)
     (fun x63 =>
      some x63) x42
  else
    some false
set_option maxRecDepth 100000 in
set_option maxHeartbeats 4000000 in
theorem kit_SameLetters_calls {N : Nat} {S Fa : Nat → Prop} {w0 : World} {r : Bool} (A1 : Option Addr) (c2 : Nat) (A5 : Option Addr) (c6 : Nat) (aa : List Int) (b : List Int) (hk3 : List.length aa ≤ c2) (hk7 : List.length b ≤ c6) (H : Hp S Fa w0 w0 [.ro false (cInt .u8) A1 aa, .ro false (cInt .u8) A5 b]) (hP : kit_SameLetters N aa b = some r) :
    Calls Try.prog 28 #[.slice A1 (List.length aa) c2, .slice A5 (List.length b) c6] w0 fun e w' => ∃ v, e = .returned v ∧ v = .bool r ∧ Hp S Fa w0 w' [] := by
 refine enterV (n := 26) Try.func28 rfl rfl rfl ?_
 intro a E
 replace E := E.pick [(0, .slice A1 (List.length aa) c2), (1, .slice A5 (List.length b) c6)] ⟨rfl, rfl, trivial⟩
 rw [kit_SameLetters] at hP
 refine wp_seq ?_
 refine wp_region_lit ?_
 refine vr tbok 1 [] [(0, .slice A1 (List.length aa) c2), (1, .slice A5 (List.length b) c6)] [] E (by kernel_rfl) trivial ?_
 clear E; intro a E
 refine wpList_nil ?_
 refine th_n ?_
 refine wp_seq ?_
 refine wp_seq ?_
 refine wp_region_lit ?_
 refine vr tbok 5 [] [(0, .slice A1 (List.length aa) c2), (1, .slice A5 (List.length b) c6), (10, .bool (((((List.length aa) : Nat) : Int) : Int) != (((List.length b) : Nat) : Int)))] [] E (by kernel_rfl) trivial ?_
 clear E; intro a E
 refine wpList_nil ?_
 refine th_n ?_
 refine E.cases (t := 10) rfl (fun hb_ E_ => ?_) (fun hb_ E_ => ?_)
 ·
  replace E := E_; clear E_
  have h9 : ¬ (((((List.length aa) : Nat) : Int) : Int) = (((List.length b) : Nat) : Int)) := bne_iff_ne.1 hb_
  clear hb_; replace hP := ite_f h9 hP
  refine c_true E rfl ?_
  refine wp_seq ?_
  refine wp_region_lit ?_
  refine vr tbok 1 [] [(4, .bool false)] [] E (by kernel_rfl) trivial ?_
  clear E; intro a E
  refine wpList_nil ?_
  refine th_n ?_
  refine wp_ret ?_
  refine th_ret ?_
  obtain rfl := Option.some.inj hP
  refine ret1 E rfl rfl ?_
  exact ⟨_, rfl, rfl, H.sel [] rfl⟩
 replace E := E_; clear E_
 have h10 : ((((List.length aa) : Nat) : Int) : Int) = (((List.length b) : Nat) : Int) := bne_eq_false_iff_eq.1 hb_
 clear hb_; replace hP := ite_t h10 hP
 refine c_false E rfl ?_
 refine wp_skip ?_
 refine th_n ?_
 refine wp_seq ?_
 refine wp_seq ?_
 refine wp_region_lit ?_
 refine vr tbok 1 [] [(0, .slice A1 (List.length aa) c2), (1, .slice A5 (List.length b) c6), (5, .int .i64 0)] [] E (by kernel_rfl) trivial ?_
 clear E; intro a E
 refine wpList_nil ?_
 refine th_n ?_
 refine wp_block ?_
 obtain ⟨x42, hL43, hK44⟩ := bind_inv hP
 clear hP
 refine loop_cut (fun i_ a w_ => (i_ = 0 ∧ ∃ (x47 : Unit), Fr a 26 [] ∧ Hp S Fa w0 w_ [] ∧ x42 = Sum.inl x47)) ?_ ?_
 ·
  refine loopV (fun m46 a w45 => ∃ (i25 : Int), Fr a 26 [(0, .slice A1 (List.length aa) c2), (1, .slice A5 (List.length b) c6), (5, .int .i64 i25)] ∧ Hp S Fa w0 w45 [.ro false (cInt .u8) A1 aa, .ro false (cInt .u8) A5 b] ∧ kit_SameLetters_l0 N aa b m46 i25 = some x42) N ?_ ?_
  ·
   exact ⟨0, E.pick _ ⟨rfl, rfl, rfl, trivial⟩, H.sel [0, 1] rfl, hL43⟩
  clear E H hL43; intro m46 a w45 hI_
  obtain ⟨i25, E, H, hP⟩ := hI_
  obtain ⟨m41, rfl⟩ : ∃ q_, m46 = q_ + 1 := by cases m46 with | zero => rw [kit_SameLetters_l0] at hP; cases hP | succ q_ => exact ⟨q_, rfl⟩
  rw [kit_SameLetters_l0] at hP
  refine wp_seq ?_
  refine wp_seq ?_
  refine wp_region_lit ?_
  refine vr tbok 4 [] [(0, .slice A1 (List.length aa) c2), (1, .slice A5 (List.length b) c6), (5, .int .i64 i25), (14, .bool (decide (i25 < (((List.length aa) : Nat) : Int))))] [] E (by kernel_rfl) trivial ?_
  clear E; intro a E
  refine wpList_nil ?_
  refine th_n ?_
  refine E.cases (t := 14) rfl (fun hb_ E_ => ?_) (fun hb_ E_ => ?_)
  ·
   replace E := E_; clear E_
   have h48 : i25 < (((List.length aa) : Nat) : Int) := of_decide_eq_true hb_
   clear hb_; replace hP := ite_t h48 hP
   refine c_true E rfl ?_
   refine wp_skip ?_
   refine th_n ?_
   refine wp_seq ?_
   refine wp_block ?_
   refine wp_seq ?_
   obtain ⟨g49, hP⟩ := ask_inv hP
   obtain ⟨b50, o51, e_b50⟩ := (H.rd 0 rds_ro).addr (idx_pos g49)
   subst e_b50
   obtain ⟨g52, hP⟩ := ask_inv hP
   obtain ⟨b53, o54, e_b53⟩ := (H.rd 1 rds_ro).addr (idx_pos g52)
   subst e_b53
   have HR58 := H
   refine dr_start (S := fun w_ => Chg (atL []) w45 w_) (by kernel_rfl) ?_
   intro w55 hc56
   have HS57 : Chg (atL []) w45 w55 := hc56.mono (fun _ _ h_ => h_.elim)
   replace H := H.ext hc56
   refine dr tbok (by kernel_rfl) [0, 1, 2, 3, 4, 5, 6, 7, 8] [.int .u8 (List.getD aa (Int.toNat i25) 0), .int .u8 (List.getD b (Int.toNat i25) 0)] [(0, .slice (some ⟨b50, o51, none⟩) (List.length aa) c2), (1, .slice (some ⟨b53, o54, none⟩) (List.length b) c6), (5, .int .i64 i25), (25, .bool (((List.getD aa (Int.toNat i25) 0) : Int) != (List.getD b (Int.toNat i25) 0)))] (fun w_ => [0 ≤ i25 ∧ i25 < (((List.length aa) : Nat) : Int), World.cell? w_ ⟨b50, o51 + (Int.toNat i25) * 1, none⟩ = some (.int .u8 (List.getD aa (Int.toNat i25) 0)), 0 ≤ i25 ∧ i25 < (((List.length b) : Nat) : Int), World.cell? w_ ⟨b53, o54 + (Int.toNat i25) * 1, none⟩ = some (.int .u8 (List.getD b (Int.toNat i25) 0))]) 0 E (fun _ _ => by kernel_rfl) (fun w_ hS_ => ⟨g49, Rds.at1 (HR58.rdk [] hS_ 0 rds_ro rfl) 0 g49, g52, Rds.at1 (HR58.rdk [] hS_ 1 rds_ro rfl) 0 g52⟩) (by kernel_rfl) HS57 ?_
   clear E; intro a E
   refine dr_done (by kernel_rfl) ?_
   clear HS57 HR58
   refine th_n ?_
   refine E.cases (t := 25) rfl (fun hb_ E_ => ?_) (fun hb_ E_ => ?_)
   ·
    replace E := E_; clear E_
    have h59 : ¬ (((List.getD aa (Int.toNat i25) 0) : Int) = (List.getD b (Int.toNat i25) 0)) := bne_iff_ne.1 hb_
    clear hb_; replace hP := ite_f h59 hP
    refine c_true E rfl ?_
    refine wp_seq ?_
    refine wp_region_lit ?_
    refine vr tbok 1 [] [(4, .bool false)] [] E (by kernel_rfl) trivial ?_
    clear E; intro a E
    refine wpList_nil ?_
    refine th_n ?_
    refine wp_ret ?_
    refine bl_ret ?_
    refine th_ret ?_
    refine th_ret ?_
    refine .inr ⟨rfl, ?_⟩
    refine bl_ret ?_
    refine th_ret ?_
    have hx_ := Option.some.inj hP; subst hx_
    have hP : some (false) = some r := hK44
    obtain rfl := Option.some.inj hP
    refine ret1 E rfl rfl ?_
    exact ⟨_, rfl, rfl, H.sel [] rfl⟩
   replace E := E_; clear E_
   have h60 : ((List.getD aa (Int.toNat i25) 0) : Int) = (List.getD b (Int.toNat i25) 0) := bne_eq_false_iff_eq.1 hb_
   clear hb_; replace hP := ite_t h60 hP
   refine c_false E rfl ?_
   refine wp_skip ?_
   refine bl_n ?_
   refine th_n ?_
   refine wp_region_lit ?_
   obtain ⟨g61, hP⟩ := ask_inv hP
   refine vr tbok 3 [.int .i64 (i25 + 1)] [(0, .slice (some ⟨b50, o51, none⟩) (List.length aa) c2), (1, .slice (some ⟨b53, o54, none⟩) (List.length b) c6), (5, .int .i64 (i25 + 1))] [IntKind.i64.wrap (i25 + 1) = i25 + 1] E (by kernel_rfl) (wrap_in g61) ?_
   clear E; intro a E
   refine wpList_nil ?_
   exact th_n ⟨m41, Nat.lt_succ_self _, i25 + 1, E.pick _ ⟨rfl, rfl, rfl, trivial⟩, H.sel [0, 1] rfl, hP⟩
  replace E := E_; clear E_
  have h62 : ¬ (i25 < (((List.length aa) : Nat) : Int)) := of_decide_eq_false hb_
  clear hb_; replace hP := ite_f h62 hP
  refine c_false E rfl ?_
  refine wp_exit ?_
  refine th_exit ?_
  have hx_ := Option.some.inj hP
  refine th_exit (.inl ⟨0, rfl, ?_⟩)
  exact ⟨rfl, (), E.pick _ trivial, H.sel [] rfl, hx_.symm⟩
 clear E H hL43; intro i_ a w45 hM_
 obtain ⟨rfl, x47, E, H, hx_⟩ := hM_
 subst hx_; have hP := elim_l hK44
 clear hK44
 refine bl_hit ?_
 refine th_n ?_
 refine wp_seq ?_
 refine wp_region_lit ?_
 refine vr tbok 1 [] [(4, .bool true)] [] E (by kernel_rfl) trivial ?_
 clear E; intro a E
 refine wpList_nil ?_
 refine th_n ?_
 refine wp_ret ?_
 obtain rfl := Option.some.inj hP
 refine ret1 E rfl rfl ?_
 exact ⟨_, rfl, rfl, H.sel [] rfl⟩

/-! rejoinder/rejoinderlaw19.awake -/
def law19_awake (N : Nat) : Option Bool :=
  Option.bind (law19_Finally N) fun r1 =>
  Option.bind (lang_Accepts N r1.1 r1.2.1 r1.2.2.1 r1.2.2.2 ([0, 1] : List Int)) fun r24 =>
  Option.bind (law19_Finally N) fun r33 =>
  Option.bind (lang_Shortest N r33.1 r33.2.1 r33.2.2.1 r33.2.2.2) fun r51 =>
  Option.bind (law19_Finally N) fun r63 =>
  Option.bind (lang_Count N r63.1 r63.2.1 r63.2.2.1 r63.2.2.2 3) fun r81 =>
  if r24.1 = true then
    if (r24.2 : Int) = 0 then
      Option.bind (kit_SameLetters N r51.1 ([1] : List Int)) fun r97 =>
      if r97 = true then
        if r51.2.1 = true then
          if (r51.2.2 : Int) = 0 then
            if (r81.1 : Int) = 7 then
              some ((r81.2 : Int) == 0)
            else
              some false
          else
            some false
        else
          some false
      else
        some false
    else
      some false
  else
    some false
set_option maxRecDepth 100000 in
set_option maxHeartbeats 4000000 in
theorem law19_awake_calls {N : Nat} {S Fa : Nat → Prop} {w0 : World} {r : Bool} (H : Hp S Fa w0 w0 []) (hP : law19_awake N  = some r) :
    Calls Try.prog 7 #[] w0 fun e w' => ∃ v, e = .returned v ∧ v = .bool r ∧ Hp S Fa w0 w' [] := by
 refine enterV (n := 50) Try.func7 rfl rfl rfl ?_
 intro a E
 replace E := E.pick [] trivial
 rw [law19_awake] at hP
 refine wp_seq ?_
 refine wp_region_lit ?_
 refine vr tbok 1 [] [] [] E (by kernel_rfl) trivial ?_
 clear E; intro a E
 refine wpList_nil ?_
 refine th_n ?_
 refine wp_seq ?_
 refine wp_region_lit ?_
 obtain ⟨r1, h2, hP⟩ := bind_inv hP
 obtain ⟨Fa3, Hc4, hb5⟩ := H.call [] [] rfl rfl trivial
 refine e_call E rfl rfl Try.func34 rfl rfl rfl (law19_Finally_calls    Hc4 h2) ?_
 rintro v6 w7 a ⟨A10, c11, A13, c14, A16, c17, rfl, HR8⟩ E_
 replace E := E_ _ rfl; clear E_
 obtain ⟨H_, hc9⟩ := hb5 _ _ HR8 rfl
 replace H := H_; clear H_; try dsimp only [setn, addE, goneL] at H
 refine h_buildSlice (ps := [(0, .int .u8 0), (1, .int .u8 1)]) (cs := [.int .u8 0, .int .u8 1]) H E rfl rfl tbok rfl rfl (by kernel_rfl) ?_
 intro w20 g19 a hc21 hg23 H_ E_
 replace E := E_ _ rfl; clear E_
 replace H := H_; clear H_; try dsimp only [setn, addE, goneL] at H
 replace H := H.boxRow (cInt .u8) true ([0, 1] : List Int) 3 rfl (fun _ _ => ⟨_, _, rfl, rfl, ⟨_, _, rfl, rfl, rfl⟩⟩) (Nat.le_of_ble_eq_true rfl); try dsimp only [setn, addE, goneL] at H
 obtain ⟨r24, h25, hP⟩ := bind_inv hP
 obtain ⟨Fa26, Hc27, hb28⟩ := H.call [] [(0, false), (1, false), (2, false), (3, false)] rfl rfl trivial
 refine e_call E rfl rfl Try.func12 rfl rfl rfl (lang_Accepts_calls A10 c11 A13 c14 A16 c17 (some ⟨g19, 0, none⟩) 2 r1.1 r1.2.1 r1.2.2.1 r1.2.2.2 ([0, 1] : List Int) (H.rcap 0 rfl) (H.rcap 1 rfl) (H.rcap 2 rfl) (H.rcapx 3 rfl) Hc27 h25) ?_
 rintro v29 w30 a ⟨rfl, HR31⟩ E_
 replace E := E_ _ rfl; clear E_
 obtain ⟨H_, hc32⟩ := hb28 _ _ HR31 rfl
 replace H := H_; clear H_; try dsimp only [setn, addE, goneL] at H
 refine vr tbok 5 [] [(1, .bool r24.1), (2, .int .i64 r24.2)] [] E (by kernel_rfl) trivial ?_
 clear E; intro a E
 refine wpList_nil ?_
 refine th_n ?_
 refine wp_seq ?_
 refine wp_region_lit ?_
 obtain ⟨r33, h34, hP⟩ := bind_inv hP
 obtain ⟨Fa35, Hc36, hb37⟩ := H.call [] [] rfl rfl trivial
 refine e_call E rfl rfl Try.func34 rfl rfl rfl (law19_Finally_calls    Hc36 h34) ?_
 rintro v38 w39 a ⟨A42, c43, A45, c46, A48, c49, rfl, HR40⟩ E_
 replace E := E_ _ rfl; clear E_
 obtain ⟨H_, hc41⟩ := hb37 _ _ HR40 rfl
 replace H := H_; clear H_; try dsimp only [setn, addE, goneL] at H
 obtain ⟨r51, h52, hP⟩ := bind_inv hP
 obtain ⟨Fa53, Hc54, hb55⟩ := H.call [] [(4, false), (5, false), (6, false)] rfl rfl trivial
 refine e_call E rfl rfl Try.func13 rfl rfl rfl (lang_Shortest_calls A42 c43 A45 c46 A48 c49 r33.1 r33.2.1 r33.2.2.1 r33.2.2.2 (H.rcap 4 rfl) (H.rcap 5 rfl) (H.rcap 6 rfl) Hc54 h52) ?_
 rintro v56 w57 a ⟨A60, c61, rfl, HR58⟩ E_
 replace E := E_ _ rfl; clear E_
 obtain ⟨H_, hc59⟩ := hb55 _ _ HR58 rfl
 replace H := H_; clear H_; try dsimp only [setn, addE, goneL] at H
 refine vr tbok 7 [] [(1, .bool r24.1), (2, .int .i64 r24.2), (3, .slice A60 (List.length r51.1) c61), (4, .bool r51.2.1), (5, .int .i64 r51.2.2)] [] E (by kernel_rfl) trivial ?_
 clear E; intro a E
 refine wpList_nil ?_
 refine th_n ?_
 refine wp_seq ?_
 refine wp_region_lit ?_
 obtain ⟨r63, h64, hP⟩ := bind_inv hP
 obtain ⟨Fa65, Hc66, hb67⟩ := H.call [] [] rfl rfl trivial
 refine e_call E rfl rfl Try.func34 rfl rfl rfl (law19_Finally_calls    Hc66 h64) ?_
 rintro v68 w69 a ⟨A72, c73, A75, c76, A78, c79, rfl, HR70⟩ E_
 replace E := E_ _ rfl; clear E_
 obtain ⟨H_, hc71⟩ := hb67 _ _ HR70 rfl
 replace H := H_; clear H_; try dsimp only [setn, addE, goneL] at H
 obtain ⟨r81, h82, hP⟩ := bind_inv hP
 obtain ⟨Fa83, Hc84, hb85⟩ := H.call [] [(8, false), (9, false), (10, false)] rfl rfl trivial
 refine e_call E rfl rfl Try.func17 rfl rfl rfl (lang_Count_calls A72 c73 A75 c76 A78 c79 r63.1 r63.2.1 r63.2.2.1 r63.2.2.2 3 (H.rcap 8 rfl) (H.rcap 9 rfl) (H.rcap 10 rfl) Hc84 h82) ?_
 rintro v86 w87 a ⟨rfl, HR88⟩ E_
 replace E := E_ _ rfl; clear E_
 obtain ⟨H_, hc89⟩ := hb85 _ _ HR88 rfl
 replace H := H_; clear H_; try dsimp only [setn, addE, goneL] at H
 refine vr tbok 5 [] [(1, .bool r24.1), (2, .int .i64 r24.2), (3, .slice A60 (List.length r51.1) c61), (4, .bool r51.2.1), (5, .int .i64 r51.2.2), (6, .int .u64 r81.1), (7, .int .i64 r81.2)] [] E (by kernel_rfl) trivial ?_
 clear E; intro a E
 refine wpList_nil ?_
 refine th_n ?_
 refine wp_seq ?_
 refine wp_region_lit ?_
 refine vr tbok 2 [] [(2, .int .i64 r24.2), (3, .slice A60 (List.length r51.1) c61), (4, .bool r51.2.1), (5, .int .i64 r51.2.2), (6, .int .u64 r81.1), (7, .int .i64 r81.2), (26, .bool r24.1)] [] E (by kernel_rfl) trivial ?_
 clear E; intro a E
 refine E.cases (t := 26) rfl (fun hb_ E_ => ?_) (fun hb_ E_ => ?_)
 ·
  replace E := E_; clear E_
  have h90 : r24.1 = true := hb_
  clear hb_; replace hP := ite_t h90 hP
  refine vr tbok 4 [] [(3, .slice A60 (List.length r51.1) c61), (4, .bool r51.2.1), (5, .int .i64 r51.2.2), (6, .int .u64 r81.1), (7, .int .i64 r81.2), (30, .bool ((r24.2 : Int) == 0))] [] E (by kernel_rfl) trivial ?_
  clear E; intro a E
  refine E.cases (t := 30) rfl (fun hb_ E_ => ?_) (fun hb_ E_ => ?_)
  ·
   replace E := E_; clear E_
   have h91 : (r24.2 : Int) = 0 := eq_of_beq hb_
   clear hb_; replace hP := ite_t h91 hP
   refine vr tbok 1 [] [(4, .bool r51.2.1), (5, .int .i64 r51.2.2), (6, .int .u64 r81.1), (7, .int .i64 r81.2), (30, .bool true), (31, .slice A60 (List.length r51.1) c61)] [] E (by kernel_rfl) trivial ?_
   clear E; intro a E
   refine h_buildSlice (ps := [(0, .int .u8 1)]) (cs := [.int .u8 1]) H E rfl rfl tbok rfl rfl (by kernel_rfl) ?_
   intro w93 g92 a hc94 hg96 H_ E_
   replace E := E_ _ rfl; clear E_
   replace H := H_; clear H_; try dsimp only [setn, addE, goneL] at H
   replace H := H.boxRow (cInt .u8) true ([1] : List Int) 11 rfl (fun _ _ => ⟨_, _, rfl, rfl, rfl⟩) (Nat.le_of_ble_eq_true rfl); try dsimp only [setn, addE, goneL] at H
   obtain ⟨r97, h98, hP⟩ := bind_inv hP
   obtain ⟨Fa99, Hc100, hb101⟩ := H.call [] [(7, false), (11, false)] rfl rfl trivial
   refine e_call E rfl rfl Try.func28 rfl rfl rfl (kit_SameLetters_calls A60 c61 (some ⟨g92, 0, none⟩) 1 r51.1 ([1] : List Int) (H.rcap 7 rfl) (H.rcapx 11 rfl) Hc100 h98) ?_
   rintro v102 w103 a ⟨rfl, HR104⟩ E_
   replace E := E_ _ rfl; clear E_
   obtain ⟨H_, hc105⟩ := hb101 _ _ HR104 rfl
   replace H := H_; clear H_; try dsimp only [setn, addE, goneL] at H
   refine vr tbok 2 [] [(4, .bool r51.2.1), (5, .int .i64 r51.2.2), (6, .int .u64 r81.1), (7, .int .i64 r81.2), (35, .bool r97)] [] E (by kernel_rfl) trivial ?_
   clear E; intro a E
   refine E.cases (t := 35) rfl (fun hb_ E_ => ?_) (fun hb_ E_ => ?_)
   ·
    replace E := E_; clear E_
    have h106 : r97 = true := hb_
    clear hb_; replace hP := ite_t h106 hP
    refine vr tbok 3 [] [(5, .int .i64 r51.2.2), (6, .int .u64 r81.1), (7, .int .i64 r81.2), (38, .bool r51.2.1)] [] E (by kernel_rfl) trivial ?_
    clear E; intro a E
    refine E.cases (t := 38) rfl (fun hb_ E_ => ?_) (fun hb_ E_ => ?_)
    ·
     replace E := E_; clear E_
     have h107 : r51.2.1 = true := hb_
     clear hb_; replace hP := ite_t h107 hP
     refine vr tbok 4 [] [(6, .int .u64 r81.1), (7, .int .i64 r81.2), (42, .bool ((r51.2.2 : Int) == 0))] [] E (by kernel_rfl) trivial ?_
     clear E; intro a E
     refine E.cases (t := 42) rfl (fun hb_ E_ => ?_) (fun hb_ E_ => ?_)
     ·
      replace E := E_; clear E_
      have h108 : (r51.2.2 : Int) = 0 := eq_of_beq hb_
      clear hb_; replace hP := ite_t h108 hP
      refine vr tbok 4 [] [(7, .int .i64 r81.2), (46, .bool ((r81.1 : Int) == 7))] [] E (by kernel_rfl) trivial ?_
      clear E; intro a E
      refine E.cases (t := 46) rfl (fun hb_ E_ => ?_) (fun hb_ E_ => ?_)
      ·
       replace E := E_; clear E_
       have h109 : (r81.1 : Int) = 7 := eq_of_beq hb_
       clear hb_; replace hP := ite_t h109 hP
       refine vr tbok 4 [] [(0, .bool ((r81.2 : Int) == 0))] [] E (by kernel_rfl) trivial ?_
       clear E; intro a E
       refine wpList_nil ?_
       refine th_n ?_
       refine wp_ret ?_
       obtain rfl := Option.some.inj hP
       refine ret1 E rfl rfl ?_
       exact ⟨_, rfl, rfl, H.sel [] rfl⟩
      replace E := E_; clear E_
      have h110 : ¬ ((r81.1 : Int) = 7) := ne_of_beq_false hb_
      clear hb_; replace hP := ite_f h110 hP
      refine vr tbok 4 [] [(0, .bool false)] [] E (by kernel_rfl) trivial ?_
      clear E; intro a E
      refine wpList_nil ?_
      refine th_n ?_
      refine wp_ret ?_
      obtain rfl := Option.some.inj hP
      refine ret1 E rfl rfl ?_
      exact ⟨_, rfl, rfl, H.sel [] rfl⟩
     replace E := E_; clear E_
     have h111 : ¬ ((r51.2.2 : Int) = 0) := ne_of_beq_false hb_
     clear hb_; replace hP := ite_f h111 hP
     refine vr tbok 8 [] [(0, .bool false)] [] E (by kernel_rfl) trivial ?_
     clear E; intro a E
     refine wpList_nil ?_
     refine th_n ?_
     refine wp_ret ?_
     obtain rfl := Option.some.inj hP
     refine ret1 E rfl rfl ?_
     exact ⟨_, rfl, rfl, H.sel [] rfl⟩
    replace E := E_; clear E_
    have h112 : ¬ (r51.2.1 = true) := (ne_true_of_eq_false hb_)
    clear hb_; replace hP := ite_f h112 hP
    refine vr tbok 12 [] [(0, .bool false)] [] E (by kernel_rfl) trivial ?_
    clear E; intro a E
    refine wpList_nil ?_
    refine th_n ?_
    refine wp_ret ?_
    obtain rfl := Option.some.inj hP
    refine ret1 E rfl rfl ?_
    exact ⟨_, rfl, rfl, H.sel [] rfl⟩
   replace E := E_; clear E_
   have h113 : ¬ (r97 = true) := (ne_true_of_eq_false hb_)
   clear hb_; replace hP := ite_f h113 hP
   refine vr tbok 15 [] [(0, .bool false)] [] E (by kernel_rfl) trivial ?_
   clear E; intro a E
   refine wpList_nil ?_
   refine th_n ?_
   refine wp_ret ?_
   obtain rfl := Option.some.inj hP
   refine ret1 E rfl rfl ?_
   exact ⟨_, rfl, rfl, H.sel [] rfl⟩
  replace E := E_; clear E_
  have h114 : ¬ ((r24.2 : Int) = 0) := ne_of_beq_false hb_
  clear hb_; replace hP := ite_f h114 hP
  refine vr tbok 20 [] [(0, .bool false)] [] E (by kernel_rfl) trivial ?_
  clear E; intro a E
  refine wpList_nil ?_
  refine th_n ?_
  refine wp_ret ?_
  obtain rfl := Option.some.inj hP
  refine ret1 E rfl rfl ?_
  exact ⟨_, rfl, rfl, H.sel [] rfl⟩
 replace E := E_; clear E_
 have h115 : ¬ (r24.1 = true) := (ne_true_of_eq_false hb_)
 clear hb_; replace hP := ite_f h115 hP
 refine vr tbok 24 [] [(0, .bool false)] [] E (by kernel_rfl) trivial ?_
 clear E; intro a E
 refine wpList_nil ?_
 refine th_n ?_
 refine wp_ret ?_
 obtain rfl := Option.some.inj hP
 refine ret1 E rfl rfl ?_
 exact ⟨_, rfl, rfl, H.sel [] rfl⟩

/-! rejoinder/rejoinderlaw19.Large -/
def law19_Large (N : Nat) (aProps : Int) (aAccept : List Bool) (aGuard : List Int) (aNodes : List Nd) : Option Bool :=
  if 3 < aProps then
    if aProps ≤ 8 then
      some true
    else
      if 10 < (((List.length aAccept) : Nat) : Int) then
        if (((List.length aAccept) : Nat) : Int) ≤ 256 then
          some true
        else
          if 259 < (((List.length aAccept) : Nat) : Int) then
            some true
          else
            if 40 < (((List.length aNodes) : Nat) : Int) then
              some true
            else
              some (decide (300 < (((List.length aGuard) : Nat) : Int)))
      else
        if 259 < (((List.length aAccept) : Nat) : Int) then
          some true
        else
          if 40 < (((List.length aNodes) : Nat) : Int) then
            some true
          else
            some (decide (300 < (((List.length aGuard) : Nat) : Int)))
  else
    if 10 < (((List.length aAccept) : Nat) : Int) then
      if (((List.length aAccept) : Nat) : Int) ≤ 256 then
        some true
      else
        if 259 < (((List.length aAccept) : Nat) : Int) then
          some true
        else
          if 40 < (((List.length aNodes) : Nat) : Int) then
            some true
          else
            some (decide (300 < (((List.length aGuard) : Nat) : Int)))
    else
      if 259 < (((List.length aAccept) : Nat) : Int) then
        some true
      else
        if 40 < (((List.length aNodes) : Nat) : Int) then
          some true
        else
          some (decide (300 < (((List.length aGuard) : Nat) : Int)))
set_option maxRecDepth 100000 in
set_option maxHeartbeats 4000000 in
theorem law19_Large_calls {N : Nat} {S Fa : Nat → Prop} {w0 : World} {r : Bool} (A1 : Option Addr) (c2 : Nat) (A5 : Option Addr) (c6 : Nat) (A9 : Option Addr) (c10 : Nat) (aProps : Int) (aAccept : List Bool) (aGuard : List Int) (aNodes : List Nd) (hk3 : List.length aAccept ≤ c2) (hk7 : List.length aGuard ≤ c6) (hk11 : List.length aNodes ≤ c10) (H : Hp S Fa w0 w0 [.ro false cBool A1 aAccept, .ro false (cInt .i64) A5 aGuard, .ro false cNode A9 aNodes]) (hP : law19_Large N aProps aAccept aGuard aNodes = some r) :
    Calls Try.prog 8 #[.agg #[.int .i64 aProps, .slice A1 (List.length aAccept) c2, .slice A5 (List.length aGuard) c6, .slice A9 (List.length aNodes) c10]] w0 fun e w' => ∃ v, e = .returned v ∧ v = .bool r ∧ Hp S Fa w0 w' [] := by
 refine enterV (n := 41) Try.func8 rfl rfl rfl ?_
 intro a E
 replace E := E.pick [(0, .agg #[.int .i64 aProps, .slice A1 (List.length aAccept) c2, .slice A5 (List.length aGuard) c6, .slice A9 (List.length aNodes) c10])] ⟨rfl, trivial⟩
 rw [law19_Large] at hP
 refine wp_seq ?_
 refine wp_region_lit ?_
 refine h_box H E rfl rfl rfl ?_
 intro w14 g13 a hc15 hg17 H_ E_
 replace E := E_ _ rfl; clear E_
 replace H := H_; clear H_; try dsimp only [setn, addE, goneL] at H
 refine vr tbok 1 [] [(1, .pointer (some ⟨g13, 0, none⟩))] [] E (by kernel_rfl) trivial ?_
 clear E; intro a E
 refine wpList_nil ?_
 refine th_n ?_
 refine wp_seq ?_
 refine wp_region_lit ?_
 refine vr tbok 4 [.int .i64 aProps] [(1, .pointer (some ⟨g13, 0, none⟩)), (6, .bool (decide (3 < aProps)))] [World.cell? w14 ⟨g13, 0, none⟩ = some (.int .i64 aProps)] E (by kernel_rfl) ((H.box 3 rfl).cell (j := 0) rfl) ?_
 clear E; intro a E
 refine E.cases (t := 6) rfl (fun hb_ E_ => ?_) (fun hb_ E_ => ?_)
 ·
  replace E := E_; clear E_
  have h18 : 3 < aProps := of_decide_eq_true hb_
  clear hb_; replace hP := ite_t h18 hP
  refine vr tbok 5 [.int .i64 aProps] [(1, .pointer (some ⟨g13, 0, none⟩)), (11, .bool (decide (aProps ≤ 8)))] [World.cell? w14 ⟨g13, 0, none⟩ = some (.int .i64 aProps)] E (by kernel_rfl) ((H.box 3 rfl).cell (j := 0) rfl) ?_
  clear E; intro a E
  refine E.cases (t := 11) rfl (fun hb_ E_ => ?_) (fun hb_ E_ => ?_)
  ·
   replace E := E_; clear E_
   have h19 : aProps ≤ 8 := of_decide_eq_true hb_
   clear hb_; replace hP := ite_t h19 hP
   refine vr tbok 30 [] [(2, .bool true)] [] E (by kernel_rfl) trivial ?_
   clear E; intro a E
   refine wpList_nil ?_
   refine th_n ?_
   refine wp_ret ?_
   obtain rfl := Option.some.inj hP
   refine ret1 E rfl rfl ?_
   exact ⟨_, rfl, rfl, H.sel [] rfl⟩
  replace E := E_; clear E_
  have h20 : ¬ (aProps ≤ 8) := of_decide_eq_false hb_
  clear hb_; replace hP := ite_f h20 hP
  refine vr tbok 5 [.slice A1 (List.length aAccept) c2] [(1, .pointer (some ⟨g13, 0, none⟩)), (11, .bool false), (16, .bool (decide (10 < (((List.length aAccept) : Nat) : Int))))] [World.cell? w14 ⟨g13, 1, none⟩ = some (.slice A1 (List.length aAccept) c2)] E (by kernel_rfl) ((H.box 3 rfl).cell (j := 1) rfl) ?_
  clear E; intro a E
  refine E.cases (t := 16) rfl (fun hb_ E_ => ?_) (fun hb_ E_ => ?_)
  ·
   replace E := E_; clear E_
   have h21 : 10 < (((List.length aAccept) : Nat) : Int) := of_decide_eq_true hb_
   clear hb_; replace hP := ite_t h21 hP
   refine vr tbok 7 [.slice A1 (List.length aAccept) c2] [(1, .pointer (some ⟨g13, 0, none⟩)), (23, .bool (decide ((((List.length aAccept) : Nat) : Int) ≤ 256)))] [World.cell? w14 ⟨g13, 1, none⟩ = some (.slice A1 (List.length aAccept) c2)] E (by kernel_rfl) ((H.box 3 rfl).cell (j := 1) rfl) ?_
   clear E; intro a E
   refine E.cases (t := 23) rfl (fun hb_ E_ => ?_) (fun hb_ E_ => ?_)
   ·
    replace E := E_; clear E_
    have h22 : (((List.length aAccept) : Nat) : Int) ≤ 256 := of_decide_eq_true hb_
    clear hb_; replace hP := ite_t h22 hP
    refine vr tbok 18 [] [(2, .bool true)] [] E (by kernel_rfl) trivial ?_
    clear E; intro a E
    refine wpList_nil ?_
    refine th_n ?_
    refine wp_ret ?_
    obtain rfl := Option.some.inj hP
    refine ret1 E rfl rfl ?_
    exact ⟨_, rfl, rfl, H.sel [] rfl⟩
   replace E := E_; clear E_
   have h23 : ¬ ((((List.length aAccept) : Nat) : Int) ≤ 256) := of_decide_eq_false hb_
   clear hb_; replace hP := ite_f h23 hP
   refine vr tbok 6 [.slice A1 (List.length aAccept) c2] [(1, .pointer (some ⟨g13, 0, none⟩)), (29, .bool (decide (259 < (((List.length aAccept) : Nat) : Int))))] [World.cell? w14 ⟨g13, 1, none⟩ = some (.slice A1 (List.length aAccept) c2)] E (by kernel_rfl) ((H.box 3 rfl).cell (j := 1) rfl) ?_
   clear E; intro a E
   refine E.cases (t := 29) rfl (fun hb_ E_ => ?_) (fun hb_ E_ => ?_)
   ·
    replace E := E_; clear E_
    have h24 : 259 < (((List.length aAccept) : Nat) : Int) := of_decide_eq_true hb_
    clear hb_; replace hP := ite_t h24 hP
    refine vr tbok 12 [] [(2, .bool true)] [] E (by kernel_rfl) trivial ?_
    clear E; intro a E
    refine wpList_nil ?_
    refine th_n ?_
    refine wp_ret ?_
    obtain rfl := Option.some.inj hP
    refine ret1 E rfl rfl ?_
    exact ⟨_, rfl, rfl, H.sel [] rfl⟩
   replace E := E_; clear E_
   have h25 : ¬ (259 < (((List.length aAccept) : Nat) : Int)) := of_decide_eq_false hb_
   clear hb_; replace hP := ite_f h25 hP
   refine vr tbok 6 [.slice A9 (List.length aNodes) c10] [(1, .pointer (some ⟨g13, 0, none⟩)), (35, .bool (decide (40 < (((List.length aNodes) : Nat) : Int))))] [World.cell? w14 ⟨g13, 3, none⟩ = some (.slice A9 (List.length aNodes) c10)] E (by kernel_rfl) ((H.box 3 rfl).cell (j := 3) rfl) ?_
   clear E; intro a E
   refine E.cases (t := 35) rfl (fun hb_ E_ => ?_) (fun hb_ E_ => ?_)
   ·
    replace E := E_; clear E_
    have h26 : 40 < (((List.length aNodes) : Nat) : Int) := of_decide_eq_true hb_
    clear hb_; replace hP := ite_t h26 hP
    refine vr tbok 6 [] [(2, .bool true)] [] E (by kernel_rfl) trivial ?_
    clear E; intro a E
    refine wpList_nil ?_
    refine th_n ?_
    refine wp_ret ?_
    obtain rfl := Option.some.inj hP
    refine ret1 E rfl rfl ?_
    exact ⟨_, rfl, rfl, H.sel [] rfl⟩
   replace E := E_; clear E_
   have h27 : ¬ (40 < (((List.length aNodes) : Nat) : Int)) := of_decide_eq_false hb_
   clear hb_; replace hP := ite_f h27 hP
   refine vr tbok 6 [.slice A5 (List.length aGuard) c6] [(2, .bool (decide (300 < (((List.length aGuard) : Nat) : Int))))] [World.cell? w14 ⟨g13, 2, none⟩ = some (.slice A5 (List.length aGuard) c6)] E (by kernel_rfl) ((H.box 3 rfl).cell (j := 2) rfl) ?_
   clear E; intro a E
   refine wpList_nil ?_
   refine th_n ?_
   refine wp_ret ?_
   obtain rfl := Option.some.inj hP
   refine ret1 E rfl rfl ?_
   exact ⟨_, rfl, rfl, H.sel [] rfl⟩
  replace E := E_; clear E_
  have h28 : ¬ (10 < (((List.length aAccept) : Nat) : Int)) := of_decide_eq_false hb_
  clear hb_; replace hP := ite_f h28 hP
  refine vr tbok 13 [.slice A1 (List.length aAccept) c2] [(1, .pointer (some ⟨g13, 0, none⟩)), (29, .bool (decide (259 < (((List.length aAccept) : Nat) : Int))))] [World.cell? w14 ⟨g13, 1, none⟩ = some (.slice A1 (List.length aAccept) c2)] E (by kernel_rfl) ((H.box 3 rfl).cell (j := 1) rfl) ?_
  clear E; intro a E
  refine E.cases (t := 29) rfl (fun hb_ E_ => ?_) (fun hb_ E_ => ?_)
  ·
   replace E := E_; clear E_
   have h29 : 259 < (((List.length aAccept) : Nat) : Int) := of_decide_eq_true hb_
   clear hb_; replace hP := ite_t h29 hP
   refine vr tbok 12 [] [(2, .bool true)] [] E (by kernel_rfl) trivial ?_
   clear E; intro a E
   refine wpList_nil ?_
   refine th_n ?_
   refine wp_ret ?_
   obtain rfl := Option.some.inj hP
   refine ret1 E rfl rfl ?_
   exact ⟨_, rfl, rfl, H.sel [] rfl⟩
  replace E := E_; clear E_
  have h30 : ¬ (259 < (((List.length aAccept) : Nat) : Int)) := of_decide_eq_false hb_
  clear hb_; replace hP := ite_f h30 hP
  refine vr tbok 6 [.slice A9 (List.length aNodes) c10] [(1, .pointer (some ⟨g13, 0, none⟩)), (35, .bool (decide (40 < (((List.length aNodes) : Nat) : Int))))] [World.cell? w14 ⟨g13, 3, none⟩ = some (.slice A9 (List.length aNodes) c10)] E (by kernel_rfl) ((H.box 3 rfl).cell (j := 3) rfl) ?_
  clear E; intro a E
  refine E.cases (t := 35) rfl (fun hb_ E_ => ?_) (fun hb_ E_ => ?_)
  ·
   replace E := E_; clear E_
   have h31 : 40 < (((List.length aNodes) : Nat) : Int) := of_decide_eq_true hb_
   clear hb_; replace hP := ite_t h31 hP
   refine vr tbok 6 [] [(2, .bool true)] [] E (by kernel_rfl) trivial ?_
   clear E; intro a E
   refine wpList_nil ?_
   refine th_n ?_
   refine wp_ret ?_
   obtain rfl := Option.some.inj hP
   refine ret1 E rfl rfl ?_
   exact ⟨_, rfl, rfl, H.sel [] rfl⟩
  replace E := E_; clear E_
  have h32 : ¬ (40 < (((List.length aNodes) : Nat) : Int)) := of_decide_eq_false hb_
  clear hb_; replace hP := ite_f h32 hP
  refine vr tbok 6 [.slice A5 (List.length aGuard) c6] [(2, .bool (decide (300 < (((List.length aGuard) : Nat) : Int))))] [World.cell? w14 ⟨g13, 2, none⟩ = some (.slice A5 (List.length aGuard) c6)] E (by kernel_rfl) ((H.box 3 rfl).cell (j := 2) rfl) ?_
  clear E; intro a E
  refine wpList_nil ?_
  refine th_n ?_
  refine wp_ret ?_
  obtain rfl := Option.some.inj hP
  refine ret1 E rfl rfl ?_
  exact ⟨_, rfl, rfl, H.sel [] rfl⟩
 replace E := E_; clear E_
 have h33 : ¬ (3 < aProps) := of_decide_eq_false hb_
 clear hb_; replace hP := ite_f h33 hP
 refine vr tbok 10 [.slice A1 (List.length aAccept) c2] [(1, .pointer (some ⟨g13, 0, none⟩)), (11, .bool false), (16, .bool (decide (10 < (((List.length aAccept) : Nat) : Int))))] [World.cell? w14 ⟨g13, 1, none⟩ = some (.slice A1 (List.length aAccept) c2)] E (by kernel_rfl) ((H.box 3 rfl).cell (j := 1) rfl) ?_
 clear E; intro a E
 refine E.cases (t := 16) rfl (fun hb_ E_ => ?_) (fun hb_ E_ => ?_)
 ·
  replace E := E_; clear E_
  have h34 : 10 < (((List.length aAccept) : Nat) : Int) := of_decide_eq_true hb_
  clear hb_; replace hP := ite_t h34 hP
  refine vr tbok 7 [.slice A1 (List.length aAccept) c2] [(1, .pointer (some ⟨g13, 0, none⟩)), (23, .bool (decide ((((List.length aAccept) : Nat) : Int) ≤ 256)))] [World.cell? w14 ⟨g13, 1, none⟩ = some (.slice A1 (List.length aAccept) c2)] E (by kernel_rfl) ((H.box 3 rfl).cell (j := 1) rfl) ?_
  clear E; intro a E
  refine E.cases (t := 23) rfl (fun hb_ E_ => ?_) (fun hb_ E_ => ?_)
  ·
   replace E := E_; clear E_
   have h35 : (((List.length aAccept) : Nat) : Int) ≤ 256 := of_decide_eq_true hb_
   clear hb_; replace hP := ite_t h35 hP
   refine vr tbok 18 [] [(2, .bool true)] [] E (by kernel_rfl) trivial ?_
   clear E; intro a E
   refine wpList_nil ?_
   refine th_n ?_
   refine wp_ret ?_
   obtain rfl := Option.some.inj hP
   refine ret1 E rfl rfl ?_
   exact ⟨_, rfl, rfl, H.sel [] rfl⟩
  replace E := E_; clear E_
  have h36 : ¬ ((((List.length aAccept) : Nat) : Int) ≤ 256) := of_decide_eq_false hb_
  clear hb_; replace hP := ite_f h36 hP
  refine vr tbok 6 [.slice A1 (List.length aAccept) c2] [(1, .pointer (some ⟨g13, 0, none⟩)), (29, .bool (decide (259 < (((List.length aAccept) : Nat) : Int))))] [World.cell? w14 ⟨g13, 1, none⟩ = some (.slice A1 (List.length aAccept) c2)] E (by kernel_rfl) ((H.box 3 rfl).cell (j := 1) rfl) ?_
  clear E; intro a E
  refine E.cases (t := 29) rfl (fun hb_ E_ => ?_) (fun hb_ E_ => ?_)
  ·
   replace E := E_; clear E_
   have h37 : 259 < (((List.length aAccept) : Nat) : Int) := of_decide_eq_true hb_
   clear hb_; replace hP := ite_t h37 hP
   refine vr tbok 12 [] [(2, .bool true)] [] E (by kernel_rfl) trivial ?_
   clear E; intro a E
   refine wpList_nil ?_
   refine th_n ?_
   refine wp_ret ?_
   obtain rfl := Option.some.inj hP
   refine ret1 E rfl rfl ?_
   exact ⟨_, rfl, rfl, H.sel [] rfl⟩
  replace E := E_; clear E_
  have h38 : ¬ (259 < (((List.length aAccept) : Nat) : Int)) := of_decide_eq_false hb_
  clear hb_; replace hP := ite_f h38 hP
  refine vr tbok 6 [.slice A9 (List.length aNodes) c10] [(1, .pointer (some ⟨g13, 0, none⟩)), (35, .bool (decide (40 < (((List.length aNodes) : Nat) : Int))))] [World.cell? w14 ⟨g13, 3, none⟩ = some (.slice A9 (List.length aNodes) c10)] E (by kernel_rfl) ((H.box 3 rfl).cell (j := 3) rfl) ?_
  clear E; intro a E
  refine E.cases (t := 35) rfl (fun hb_ E_ => ?_) (fun hb_ E_ => ?_)
  ·
   replace E := E_; clear E_
   have h39 : 40 < (((List.length aNodes) : Nat) : Int) := of_decide_eq_true hb_
   clear hb_; replace hP := ite_t h39 hP
   refine vr tbok 6 [] [(2, .bool true)] [] E (by kernel_rfl) trivial ?_
   clear E; intro a E
   refine wpList_nil ?_
   refine th_n ?_
   refine wp_ret ?_
   obtain rfl := Option.some.inj hP
   refine ret1 E rfl rfl ?_
   exact ⟨_, rfl, rfl, H.sel [] rfl⟩
  replace E := E_; clear E_
  have h40 : ¬ (40 < (((List.length aNodes) : Nat) : Int)) := of_decide_eq_false hb_
  clear hb_; replace hP := ite_f h40 hP
  refine vr tbok 6 [.slice A5 (List.length aGuard) c6] [(2, .bool (decide (300 < (((List.length aGuard) : Nat) : Int))))] [World.cell? w14 ⟨g13, 2, none⟩ = some (.slice A5 (List.length aGuard) c6)] E (by kernel_rfl) ((H.box 3 rfl).cell (j := 2) rfl) ?_
  clear E; intro a E
  refine wpList_nil ?_
  refine th_n ?_
  refine wp_ret ?_
  obtain rfl := Option.some.inj hP
  refine ret1 E rfl rfl ?_
  exact ⟨_, rfl, rfl, H.sel [] rfl⟩
 replace E := E_; clear E_
 have h41 : ¬ (10 < (((List.length aAccept) : Nat) : Int)) := of_decide_eq_false hb_
 clear hb_; replace hP := ite_f h41 hP
 refine vr tbok 13 [.slice A1 (List.length aAccept) c2] [(1, .pointer (some ⟨g13, 0, none⟩)), (29, .bool (decide (259 < (((List.length aAccept) : Nat) : Int))))] [World.cell? w14 ⟨g13, 1, none⟩ = some (.slice A1 (List.length aAccept) c2)] E (by kernel_rfl) ((H.box 3 rfl).cell (j := 1) rfl) ?_
 clear E; intro a E
 refine E.cases (t := 29) rfl (fun hb_ E_ => ?_) (fun hb_ E_ => ?_)
 ·
  replace E := E_; clear E_
  have h42 : 259 < (((List.length aAccept) : Nat) : Int) := of_decide_eq_true hb_
  clear hb_; replace hP := ite_t h42 hP
  refine vr tbok 12 [] [(2, .bool true)] [] E (by kernel_rfl) trivial ?_
  clear E; intro a E
  refine wpList_nil ?_
  refine th_n ?_
  refine wp_ret ?_
  obtain rfl := Option.some.inj hP
  refine ret1 E rfl rfl ?_
  exact ⟨_, rfl, rfl, H.sel [] rfl⟩
 replace E := E_; clear E_
 have h43 : ¬ (259 < (((List.length aAccept) : Nat) : Int)) := of_decide_eq_false hb_
 clear hb_; replace hP := ite_f h43 hP
 refine vr tbok 6 [.slice A9 (List.length aNodes) c10] [(1, .pointer (some ⟨g13, 0, none⟩)), (35, .bool (decide (40 < (((List.length aNodes) : Nat) : Int))))] [World.cell? w14 ⟨g13, 3, none⟩ = some (.slice A9 (List.length aNodes) c10)] E (by kernel_rfl) ((H.box 3 rfl).cell (j := 3) rfl) ?_
 clear E; intro a E
 refine E.cases (t := 35) rfl (fun hb_ E_ => ?_) (fun hb_ E_ => ?_)
 ·
  replace E := E_; clear E_
  have h44 : 40 < (((List.length aNodes) : Nat) : Int) := of_decide_eq_true hb_
  clear hb_; replace hP := ite_t h44 hP
  refine vr tbok 6 [] [(2, .bool true)] [] E (by kernel_rfl) trivial ?_
  clear E; intro a E
  refine wpList_nil ?_
  refine th_n ?_
  refine wp_ret ?_
  obtain rfl := Option.some.inj hP
  refine ret1 E rfl rfl ?_
  exact ⟨_, rfl, rfl, H.sel [] rfl⟩
 replace E := E_; clear E_
 have h45 : ¬ (40 < (((List.length aNodes) : Nat) : Int)) := of_decide_eq_false hb_
 clear hb_; replace hP := ite_f h45 hP
 refine vr tbok 6 [.slice A5 (List.length aGuard) c6] [(2, .bool (decide (300 < (((List.length aGuard) : Nat) : Int))))] [World.cell? w14 ⟨g13, 2, none⟩ = some (.slice A5 (List.length aGuard) c6)] E (by kernel_rfl) ((H.box 3 rfl).cell (j := 2) rfl) ?_
 clear E; intro a E
 refine wpList_nil ?_
 refine th_n ?_
 refine wp_ret ?_
 obtain rfl := Option.some.inj hP
 refine ret1 E rfl rfl ?_
 exact ⟨_, rfl, rfl, H.sel [] rfl⟩

/-! rejoinder/rejoinderlaw19.Real -/
def law19_Real (N : Nat) (aProps : Int) (aAccept : List Bool) (aGuard : List Int) (aNodes : List Nd) : Option Bool :=
  if 0 < (((List.length aAccept) : Nat) : Int) then
    some (((((List.length aGuard) : Nat) : Int) : Int) == (((List.length aAccept) : Nat) : Int))
  else
    some false
set_option maxRecDepth 100000 in
set_option maxHeartbeats 4000000 in
theorem law19_Real_calls {N : Nat} {S Fa : Nat → Prop} {w0 : World} {r : Bool} (A1 : Option Addr) (c2 : Nat) (A5 : Option Addr) (c6 : Nat) (A9 : Option Addr) (c10 : Nat) (aProps : Int) (aAccept : List Bool) (aGuard : List Int) (aNodes : List Nd) (hk3 : List.length aAccept ≤ c2) (hk7 : List.length aGuard ≤ c6) (hk11 : List.length aNodes ≤ c10) (H : Hp S Fa w0 w0 [.ro false cBool A1 aAccept, .ro false (cInt .i64) A5 aGuard, .ro false cNode A9 aNodes]) (hP : law19_Real N aProps aAccept aGuard aNodes = some r) :
    Calls Try.prog 11 #[.agg #[.int .i64 aProps, .slice A1 (List.length aAccept) c2, .slice A5 (List.length aGuard) c6, .slice A9 (List.length aNodes) c10]] w0 fun e w' => ∃ v, e = .returned v ∧ v = .bool r ∧ Hp S Fa w0 w' [] := by
 refine enterV (n := 16) Try.func11 rfl rfl rfl ?_
 intro a E
 replace E := E.pick [(0, .agg #[.int .i64 aProps, .slice A1 (List.length aAccept) c2, .slice A5 (List.length aGuard) c6, .slice A9 (List.length aNodes) c10])] ⟨rfl, trivial⟩
 rw [law19_Real] at hP
 refine wp_seq ?_
 refine wp_region_lit ?_
 refine h_box H E rfl rfl rfl ?_
 intro w14 g13 a hc15 hg17 H_ E_
 replace E := E_ _ rfl; clear E_
 replace H := H_; clear H_; try dsimp only [setn, addE, goneL] at H
 refine vr tbok 1 [] [(1, .pointer (some ⟨g13, 0, none⟩))] [] E (by kernel_rfl) trivial ?_
 clear E; intro a E
 refine wpList_nil ?_
 refine th_n ?_
 refine wp_seq ?_
 refine wp_region_lit ?_
 refine vr tbok 5 [.slice A1 (List.length aAccept) c2] [(1, .pointer (some ⟨g13, 0, none⟩)), (7, .bool (decide (0 < (((List.length aAccept) : Nat) : Int))))] [World.cell? w14 ⟨g13, 1, none⟩ = some (.slice A1 (List.length aAccept) c2)] E (by kernel_rfl) ((H.box 3 rfl).cell (j := 1) rfl) ?_
 clear E; intro a E
 refine E.cases (t := 7) rfl (fun hb_ E_ => ?_) (fun hb_ E_ => ?_)
 ·
  replace E := E_; clear E_
  have h18 : 0 < (((List.length aAccept) : Nat) : Int) := of_decide_eq_true hb_
  clear hb_; replace hP := ite_t h18 hP
  refine vr tbok 9 [.slice A5 (List.length aGuard) c6, .slice A1 (List.length aAccept) c2] [(2, .bool (((((List.length aGuard) : Nat) : Int) : Int) == (((List.length aAccept) : Nat) : Int)))] [World.cell? w14 ⟨g13, 2, none⟩ = some (.slice A5 (List.length aGuard) c6), World.cell? w14 ⟨g13, 1, none⟩ = some (.slice A1 (List.length aAccept) c2)] E (by kernel_rfl) ⟨(H.box 3 rfl).cell (j := 2) rfl, (H.box 3 rfl).cell (j := 1) rfl⟩ ?_
  clear E; intro a E
  refine wpList_nil ?_
  refine th_n ?_
  refine wp_ret ?_
  obtain rfl := Option.some.inj hP
  refine ret1 E rfl rfl ?_
  exact ⟨_, rfl, rfl, H.sel [] rfl⟩
 replace E := E_; clear E_
 have h19 : ¬ (0 < (((List.length aAccept) : Nat) : Int)) := of_decide_eq_false hb_
 clear hb_; replace hP := ite_f h19 hP
 refine vr tbok 9 [] [(2, .bool false)] [] E (by kernel_rfl) trivial ?_
 clear E; intro a E
 refine wpList_nil ?_
 refine th_n ?_
 refine wp_ret ?_
 obtain rfl := Option.some.inj hP
 refine ret1 E rfl rfl ?_
 exact ⟨_, rfl, rfl, H.sel [] rfl⟩

/-! rejoinder/lang.Missing -/
def lang_Missing (N : Nat) (aProps : Int) (aAccept : List Bool) (aGuard : List Int) (aNodes : List Nd) : Option ((List Int) × Bool × Int) :=
  Option.bind (lang_search N aProps aAccept aGuard aNodes false false) fun r18 =>
  some (r18.1, r18.2.1, r18.2.2)
set_option maxRecDepth 100000 in
set_option maxHeartbeats 4000000 in
theorem lang_Missing_calls {N : Nat} {S Fa : Nat → Prop} {w0 : World} {r : (List Int) × Bool × Int} (A1 : Option Addr) (c2 : Nat) (A5 : Option Addr) (c6 : Nat) (A9 : Option Addr) (c10 : Nat) (aProps : Int) (aAccept : List Bool) (aGuard : List Int) (aNodes : List Nd) (hk3 : List.length aAccept ≤ c2) (hk7 : List.length aGuard ≤ c6) (hk11 : List.length aNodes ≤ c10) (H : Hp S Fa w0 w0 [.ro false cBool A1 aAccept, .ro false (cInt .i64) A5 aGuard, .ro false cNode A9 aNodes]) (hP : lang_Missing N aProps aAccept aGuard aNodes = some r) :
    Calls Try.prog 14 #[.agg #[.int .i64 aProps, .slice A1 (List.length aAccept) c2, .slice A5 (List.length aGuard) c6, .slice A9 (List.length aNodes) c10]] w0 fun e w' => ∃ v, e = .returned v ∧ ∃ (A30 : Option Addr) (c31 : Nat), v = .tuple #[.slice A30 (List.length r.1) c31, .bool r.2.1, .int .i64 r.2.2] ∧ Hp S Fa w0 w' [.row true (cInt .u8) 52 A30 c31 r.1] := by
 refine enterV (n := 10) Try.func14 rfl rfl rfl ?_
 intro a E
 replace E := E.pick [(0, .agg #[.int .i64 aProps, .slice A1 (List.length aAccept) c2, .slice A5 (List.length aGuard) c6, .slice A9 (List.length aNodes) c10])] ⟨rfl, trivial⟩
 rw [lang_Missing] at hP
 refine wp_seq ?_
 refine wp_region_lit ?_
 refine h_box H E rfl rfl rfl ?_
 intro w14 g13 a hc15 hg17 H_ E_
 replace E := E_ _ rfl; clear E_
 replace H := H_; clear H_; try dsimp only [setn, addE, goneL] at H
 refine vr tbok 3 [] [(1, .pointer (some ⟨g13, 0, none⟩))] [] E (by kernel_rfl) trivial ?_
 clear E; intro a E
 refine wpList_nil ?_
 refine th_n ?_
 refine wp_seq ?_
 refine wp_region_lit ?_
 refine vr tbok 1 [.agg #[.int .i64 aProps, .slice A1 (List.length aAccept) c2, .slice A5 (List.length aGuard) c6, .slice A9 (List.length aNodes) c10]] [(5, .agg #[.int .i64 aProps, .slice A1 (List.length aAccept) c2, .slice A5 (List.length aGuard) c6, .slice A9 (List.length aNodes) c10])] [cellsAt w14 g13 (0) [.int .i64 aProps, .slice A1 (List.length aAccept) c2, .slice A5 (List.length aGuard) c6, .slice A9 (List.length aNodes) c10]] E (by kernel_rfl) ((H.box 3 rfl).sub 0 _ rfl) ?_
 clear E; intro a E
 obtain ⟨r18, h19, hP⟩ := bind_inv hP
 obtain ⟨Fa20, Hc21, hb22⟩ := H.call [] [(0, false), (1, false), (2, false)] rfl rfl trivial
 refine e_call E rfl rfl Try.func42 rfl rfl rfl (lang_search_calls A1 c2 A5 c6 A9 c10 aProps aAccept aGuard aNodes false false hk3 hk7 hk11 Hc21 h19) ?_
 rintro v23 w24 a ⟨A27, c28, rfl, HR25⟩ E_
 replace E := E_ _ rfl; clear E_
 obtain ⟨H_, hc26⟩ := hb22 _ _ HR25 rfl
 replace H := H_; clear H_; try dsimp only [setn, addE, goneL] at H
 refine vr tbok 6 [] [(2, .slice A27 (List.length r18.1) c28), (3, .bool r18.2.1), (4, .int .i64 r18.2.2)] [] E (by kernel_rfl) trivial ?_
 clear E; intro a E
 refine wpList_nil ?_
 refine th_n ?_
 refine wp_ret ?_
 obtain rfl := Option.some.inj hP
 refine ret3 E rfl rfl rfl rfl ?_
 exact ⟨_, rfl, A27, c28, rfl, H.sel [4] rfl⟩

/-! rejoinder/rejoinderlaw19.ahead -/
def law19_ahead_l0 (N : Nat) (aa : List Int) (b : List Int) : Nat → Int → Option (Unit ⊕ Bool)
  | 0, _ => none
  | m49 + 1, i29 =>
    if i29 < (((List.length aa) : Nat) : Int) then
      ask (idx i29 (List.length aa)) <|
      ask (idx i29 (List.length b)) <|
      if ((List.getD aa (Int.toNat i29) 0) : Int) = (List.getD b (Int.toNat i29) 0) then
        ask (in64 (i29 + 1)) <|
        law19_ahead_l0 N aa b m49 (i29 + 1)
      else
        some (Sum.inr (decide ((List.getD aa (Int.toNat i29) 0) < (List.getD b (Int.toNat i29) 0))))
    else
      some (Sum.inl ())
def law19_ahead (N : Nat) (aa : List Int) (b : List Int) : Option Bool :=
  if ((((List.length aa) : Nat) : Int) : Int) = (((List.length b) : Nat) : Int) then
    Option.bind (law19_ahead_l0 N aa b N 0) fun x50 =>
    Sum.elim (fun x55 =>
      some false)
     (fun x75 =>
      some x75) x50
  else
    some (decide ((((List.length aa) : Nat) : Int) < (((List.length b) : Nat) : Int)))
set_option maxRecDepth 100000 in
set_option maxHeartbeats 4000000 in
theorem law19_ahead_calls {N : Nat} {S Fa : Nat → Prop} {w0 : World} {r : Bool} (A1 : Option Addr) (c2 : Nat) (A5 : Option Addr) (c6 : Nat) (aa : List Int) (b : List Int) (hk3 : List.length aa ≤ c2) (hk7 : List.length b ≤ c6) (H : Hp S Fa w0 w0 [.ro false (cInt .u8) A1 aa, .ro false (cInt .u8) A5 b]) (hP : law19_ahead N aa b = some r) :
    Calls Try.prog 15 #[.slice A1 (List.length aa) c2, .slice A5 (List.length b) c6] w0 fun e w' => ∃ v, e = .returned v ∧ v = .bool r ∧ Hp S Fa w0 w' [] := by
 refine enterV (n := 40) Try.func15 rfl rfl rfl ?_
 intro a E
 replace E := E.pick [(0, .slice A1 (List.length aa) c2), (1, .slice A5 (List.length b) c6)] ⟨rfl, rfl, trivial⟩
 rw [law19_ahead] at hP
 refine wp_seq ?_
 refine wp_region_lit ?_
 refine vr tbok 1 [] [(0, .slice A1 (List.length aa) c2), (1, .slice A5 (List.length b) c6)] [] E (by kernel_rfl) trivial ?_
 clear E; intro a E
 refine wpList_nil ?_
 refine th_n ?_
 refine wp_seq ?_
 refine wp_seq ?_
 refine wp_region_lit ?_
 refine vr tbok 5 [] [(0, .slice A1 (List.length aa) c2), (1, .slice A5 (List.length b) c6), (10, .bool (((((List.length aa) : Nat) : Int) : Int) != (((List.length b) : Nat) : Int)))] [] E (by kernel_rfl) trivial ?_
 clear E; intro a E
 refine wpList_nil ?_
 refine th_n ?_
 refine E.cases (t := 10) rfl (fun hb_ E_ => ?_) (fun hb_ E_ => ?_)
 ·
  replace E := E_; clear E_
  have h9 : ¬ (((((List.length aa) : Nat) : Int) : Int) = (((List.length b) : Nat) : Int)) := bne_iff_ne.1 hb_
  clear hb_; replace hP := ite_f h9 hP
  refine c_true E rfl ?_
  refine wp_seq ?_
  refine wp_region_lit ?_
  refine vr tbok 6 [] [(4, .bool (decide ((((List.length aa) : Nat) : Int) < (((List.length b) : Nat) : Int))))] [] E (by kernel_rfl) trivial ?_
  clear E; intro a E
  refine wpList_nil ?_
  refine th_n ?_
  refine wp_ret ?_
  refine th_ret ?_
  obtain rfl := Option.some.inj hP
  refine ret1 E rfl rfl ?_
  exact ⟨_, rfl, rfl, H.sel [] rfl⟩
 replace E := E_; clear E_
 have h10 : ((((List.length aa) : Nat) : Int) : Int) = (((List.length b) : Nat) : Int) := bne_eq_false_iff_eq.1 hb_
 clear hb_; replace hP := ite_t h10 hP
 refine c_false E rfl ?_
 refine wp_skip ?_
 refine th_n ?_
 refine wp_seq ?_
 refine wp_seq ?_
 refine wp_region_lit ?_
 refine vr tbok 1 [] [(0, .slice A1 (List.length aa) c2), (1, .slice A5 (List.length b) c6), (5, .int .i64 0)] [] E (by kernel_rfl) trivial ?_
 clear E; intro a E
 refine wpList_nil ?_
 refine th_n ?_
 refine wp_block ?_
 obtain ⟨x50, hL51, hK52⟩ := bind_inv hP
 clear hP
 refine loop_cut (fun i_ a w_ => (i_ = 0 ∧ ∃ (x55 : Unit), Fr a 40 [] ∧ Hp S Fa w0 w_ [] ∧ x50 = Sum.inl x55)) ?_ ?_
 ·
  refine loopV (fun m54 a w53 => ∃ (i29 : Int), Fr a 40 [(0, .slice A1 (List.length aa) c2), (1, .slice A5 (List.length b) c6), (5, .int .i64 i29)] ∧ Hp S Fa w0 w53 [.ro false (cInt .u8) A1 aa, .ro false (cInt .u8) A5 b] ∧ law19_ahead_l0 N aa b m54 i29 = some x50) N ?_ ?_
  ·
   exact ⟨0, E.pick _ ⟨rfl, rfl, rfl, trivial⟩, H.sel [0, 1] rfl, hL51⟩
  clear E H hL51; intro m54 a w53 hI_
  obtain ⟨i29, E, H, hP⟩ := hI_
  obtain ⟨m49, rfl⟩ : ∃ q_, m54 = q_ + 1 := by cases m54 with | zero => rw [law19_ahead_l0] at hP; cases hP | succ q_ => exact ⟨q_, rfl⟩
  rw [law19_ahead_l0] at hP
  refine wp_seq ?_
  refine wp_seq ?_
  refine wp_region_lit ?_
  refine vr tbok 4 [] [(0, .slice A1 (List.length aa) c2), (1, .slice A5 (List.length b) c6), (5, .int .i64 i29), (19, .bool (decide (i29 < (((List.length aa) : Nat) : Int))))] [] E (by kernel_rfl) trivial ?_
  clear E; intro a E
  refine wpList_nil ?_
  refine th_n ?_
  refine E.cases (t := 19) rfl (fun hb_ E_ => ?_) (fun hb_ E_ => ?_)
  ·
   replace E := E_; clear E_
   have h56 : i29 < (((List.length aa) : Nat) : Int) := of_decide_eq_true hb_
   clear hb_; replace hP := ite_t h56 hP
   refine c_true E rfl ?_
   refine wp_skip ?_
   refine th_n ?_
   refine wp_seq ?_
   refine wp_block ?_
   refine wp_seq ?_
   obtain ⟨g57, hP⟩ := ask_inv hP
   obtain ⟨b58, o59, e_b58⟩ := (H.rd 0 rds_ro).addr (idx_pos g57)
   subst e_b58
   obtain ⟨g60, hP⟩ := ask_inv hP
   obtain ⟨b61, o62, e_b61⟩ := (H.rd 1 rds_ro).addr (idx_pos g60)
   subst e_b61
   have HR66 := H
   refine dr_start (S := fun w_ => Chg (atL []) w53 w_) (by kernel_rfl) ?_
   intro w63 hc64
   have HS65 : Chg (atL []) w53 w63 := hc64.mono (fun _ _ h_ => h_.elim)
   replace H := H.ext hc64
   refine dr tbok (by kernel_rfl) [0, 1, 2, 3, 4, 5, 6, 7, 8] [.int .u8 (List.getD aa (Int.toNat i29) 0), .int .u8 (List.getD b (Int.toNat i29) 0)] [(0, .slice (some ⟨b58, o59, none⟩) (List.length aa) c2), (1, .slice (some ⟨b61, o62, none⟩) (List.length b) c6), (5, .int .i64 i29), (30, .bool (((List.getD aa (Int.toNat i29) 0) : Int) != (List.getD b (Int.toNat i29) 0)))] (fun w_ => [0 ≤ i29 ∧ i29 < (((List.length aa) : Nat) : Int), World.cell? w_ ⟨b58, o59 + (Int.toNat i29) * 1, none⟩ = some (.int .u8 (List.getD aa (Int.toNat i29) 0)), 0 ≤ i29 ∧ i29 < (((List.length b) : Nat) : Int), World.cell? w_ ⟨b61, o62 + (Int.toNat i29) * 1, none⟩ = some (.int .u8 (List.getD b (Int.toNat i29) 0))]) 0 E (fun _ _ => by kernel_rfl) (fun w_ hS_ => ⟨g57, Rds.at1 (HR66.rdk [] hS_ 0 rds_ro rfl) 0 g57, g60, Rds.at1 (HR66.rdk [] hS_ 1 rds_ro rfl) 0 g60⟩) (by kernel_rfl) HS65 ?_
   clear E; intro a E
   refine dr_done (by kernel_rfl) ?_
   clear HS65 HR66
   refine th_n ?_
   refine E.cases (t := 30) rfl (fun hb_ E_ => ?_) (fun hb_ E_ => ?_)
   ·
    replace E := E_; clear E_
    have h67 : ¬ (((List.getD aa (Int.toNat i29) 0) : Int) = (List.getD b (Int.toNat i29) 0)) := bne_iff_ne.1 hb_
    clear hb_; replace hP := ite_f h67 hP
    refine c_true E rfl ?_
    refine wp_seq ?_
    have HR71 := H
    refine dr_start (S := fun w_ => Chg (atL []) w63 w_) (by kernel_rfl) ?_
    intro w68 hc69
    have HS70 : Chg (atL []) w63 w68 := hc69.mono (fun _ _ h_ => h_.elim)
    replace H := H.ext hc69
    refine dr tbok (by kernel_rfl) [0, 1, 2, 3, 4, 5, 6, 7, 8, 9] [.int .u8 (List.getD aa (Int.toNat i29) 0), .int .u8 (List.getD b (Int.toNat i29) 0)] [(4, .bool (decide ((List.getD aa (Int.toNat i29) 0) < (List.getD b (Int.toNat i29) 0))))] (fun w_ => [0 ≤ i29 ∧ i29 < (((List.length aa) : Nat) : Int), World.cell? w_ ⟨b58, o59 + (Int.toNat i29) * 1, none⟩ = some (.int .u8 (List.getD aa (Int.toNat i29) 0)), 0 ≤ i29 ∧ i29 < (((List.length b) : Nat) : Int), World.cell? w_ ⟨b61, o62 + (Int.toNat i29) * 1, none⟩ = some (.int .u8 (List.getD b (Int.toNat i29) 0))]) 0 E (fun _ _ => by kernel_rfl) (fun w_ hS_ => ⟨g57, Rds.at1 (HR71.rdk [] hS_ 0 rds_ro rfl) 0 g57, g60, Rds.at1 (HR71.rdk [] hS_ 1 rds_ro rfl) 0 g60⟩) (by kernel_rfl) HS70 ?_
    clear E; intro a E
    refine dr_done (by kernel_rfl) ?_
    clear HS70 HR71
    refine th_n ?_
    refine wp_ret ?_
    refine bl_ret ?_
    refine th_ret ?_
    refine th_ret ?_
    refine .inr ⟨rfl, ?_⟩
    refine bl_ret ?_
    refine th_ret ?_
    have hx_ := Option.some.inj hP; subst hx_
    have hP : some (decide ((List.getD aa (Int.toNat i29) 0) < (List.getD b (Int.toNat i29) 0))) = some r := hK52
    obtain rfl := Option.some.inj hP
    refine ret1 E rfl rfl ?_
    exact ⟨_, rfl, rfl, H.sel [] rfl⟩
   replace E := E_; clear E_
   have h72 : ((List.getD aa (Int.toNat i29) 0) : Int) = (List.getD b (Int.toNat i29) 0) := bne_eq_false_iff_eq.1 hb_
   clear hb_; replace hP := ite_t h72 hP
   refine c_false E rfl ?_
   refine wp_skip ?_
   refine bl_n ?_
   refine th_n ?_
   refine wp_region_lit ?_
   obtain ⟨g73, hP⟩ := ask_inv hP
   refine vr tbok 3 [.int .i64 (i29 + 1)] [(0, .slice (some ⟨b58, o59, none⟩) (List.length aa) c2), (1, .slice (some ⟨b61, o62, none⟩) (List.length b) c6), (5, .int .i64 (i29 + 1))] [IntKind.i64.wrap (i29 + 1) = i29 + 1] E (by kernel_rfl) (wrap_in g73) ?_
   clear E; intro a E
   refine wpList_nil ?_
   exact th_n ⟨m49, Nat.lt_succ_self _, i29 + 1, E.pick _ ⟨rfl, rfl, rfl, trivial⟩, H.sel [0, 1] rfl, hP⟩
  replace E := E_; clear E_
  have h74 : ¬ (i29 < (((List.length aa) : Nat) : Int)) := of_decide_eq_false hb_
  clear hb_; replace hP := ite_f h74 hP
  refine c_false E rfl ?_
  refine wp_exit ?_
  refine th_exit ?_
  have hx_ := Option.some.inj hP
  refine th_exit (.inl ⟨0, rfl, ?_⟩)
  exact ⟨rfl, (), E.pick _ trivial, H.sel [] rfl, hx_.symm⟩
 clear E H hL51; intro i_ a w53 hM_
 obtain ⟨rfl, x55, E, H, hx_⟩ := hM_
 subst hx_; have hP := elim_l hK52
 clear hK52
 refine bl_hit ?_
 refine th_n ?_
 refine wp_seq ?_
 refine wp_region_lit ?_
 refine vr tbok 1 [] [(4, .bool false)] [] E (by kernel_rfl) trivial ?_
 clear E; intro a E
 refine wpList_nil ?_
 refine th_n ?_
 refine wp_ret ?_
 obtain rfl := Option.some.inj hP
 refine ret1 E rfl rfl ?_
 exact ⟨_, rfl, rfl, H.sel [] rfl⟩

end Go.V
