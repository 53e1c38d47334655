/- Plain functions, and the calls that give them. -/
import Derived.Test.YteiemajlkgdhaaaA4
set_option linter.all false
set_option linter.unusedVariables false
set_option linter.unnecessarySimpa false
set_option linter.unusedSimpArgs false
namespace Go.V
open Go Go.Proofs
/-! rejoinder/part.Reached -/
def part_Reached_l1 (N : Nat) (r31 : List (List Int)) (out166 : List Int) (x169 : Int) : Nat → (List Bool) → (List Int) → Int → Option ((List Bool) × (List Int))
  | 0, _, _, _ => none
  | m316 + 1, met283, out284, x287 =>
    if x287 < (((List.length (List.getD r31 (Int.toNat (List.getD out166 (Int.toNat x169) 0)) [])) : Nat) : Int) then
      ask (idx x287 (List.length (List.getD r31 (Int.toNat (List.getD out166 (Int.toNat x169) 0)) []))) <|
      ask (idx (List.getD (List.getD r31 (Int.toNat (List.getD out166 (Int.toNat x169) 0)) []) (Int.toNat x287) 0) (List.length met283)) <|
      if (List.getD met283 (Int.toNat (List.getD (List.getD r31 (Int.toNat (List.getD out166 (Int.toNat x169) 0)) []) (Int.toNat x287) 0)) false) = true then
        ask (in64 (x287 + 1)) <|
        part_Reached_l1 N r31 out166 x169 m316 met283 out284 (x287 + 1)
      else
        ask (List.length out284 + List.length ([(List.getD (List.getD r31 (Int.toNat (List.getD out166 (Int.toNat x169) 0)) []) (Int.toNat x287) 0)] : List Int) ≤ 1000000000) <|
        ask (in64 (x287 + 1)) <|
        part_Reached_l1 N r31 out166 x169 m316 (List.set met283 (Int.toNat (List.getD (List.getD r31 (Int.toNat (List.getD out166 (Int.toNat x169) 0)) []) (Int.toNat x287) 0)) true) (out284 ++ ([(List.getD (List.getD r31 (Int.toNat (List.getD out166 (Int.toNat x169) 0)) []) (Int.toNat x287) 0)] : List Int)) (x287 + 1)
    else
      some (met283, out284)
def part_Reached_l0 (N : Nat) (r31 : List (List Int)) : Nat → (List Bool) → (List Int) → Int → Option (List Int)
  | 0, _, _, _ => none
  | m242 + 1, met165, out166, x169 =>
    if x169 < (((List.length out166) : Nat) : Int) then
      ask (idx x169 (List.length out166)) <|
      ask (idx (List.getD out166 (Int.toNat x169) 0) (List.length r31)) <|
      Option.bind (part_Reached_l1 N r31 out166 x169 N met165 out166 0) fun x317 =>
      ask (in64 (x169 + 1)) <|
      part_Reached_l0 N r31 m242 x317.1 x317.2 (x169 + 1)
    else
      some out166
def part_Reached (N : Nat) (aProps : Int) (aAccept : List Bool) (aGuard : List Int) (aNodes : List Nd) : Option ((List Int) × Int) :=
  Option.bind (part_asked N aProps aAccept aGuard aNodes []) fun r19 =>
  if (r19 : Int) = 0 then
    Option.bind (part_rows N aProps aAccept aGuard aNodes) fun r31 =>
    ask (0 ≤ (((List.length aAccept) : Nat) : Int) ∧ (((List.length aAccept) : Nat) : Int) ≤ 1000000000) <|
    ask (idx (0 : Int) (List.length (List.replicate (Int.toNat (((List.length aAccept) : Nat) : Int)) (false : Bool)))) <|
    Option.bind (part_Reached_l0 N r31 N (List.set (List.replicate (Int.toNat (((List.length aAccept) : Nat) : Int)) (false : Bool)) (Int.toNat (0 : Int)) true) ([0] : List Int) 0) fun x243 =>
    some (x243, 0)
  else
    some ([], r19)
set_option maxRecDepth 100000 in
set_option maxHeartbeats 4000000 in
theorem part_Reached_calls {N : Nat} {S Fa : Nat → Prop} {w0 : World} {r : (List Int) × Int} (A1 : Option Addr) (c2 : Nat) (A5 : Option Addr) (c6 : Nat) (A9 : Option Addr) (c10 : Nat) (aProps : Int) (aAccept : List Bool) (aGuard : List Int) (aNodes : List Nd) (hk3 : List.length aAccept ≤ c2) (hk7 : List.length aGuard ≤ c6) (hk11 : List.length aNodes ≤ c10) (H : Hp S Fa w0 w0 [.ro false cBool A1 aAccept, .ro false (cInt .i64) A5 aGuard, .ro false cNode A9 aNodes]) (hP : part_Reached N aProps aAccept aGuard aNodes = some r) :
    Calls Try.prog 14 #[.agg #[.int .i64 aProps, .slice A1 (List.length aAccept) c2, .slice A5 (List.length aGuard) c6, .slice A9 (List.length aNodes) c10]] w0 fun e w' => ∃ v, e = .returned v ∧ ∃ (A349 : Option Addr) (c350 : Nat), v = .tuple #[.slice A349 (List.length r.1) c350, .int .i64 r.2] ∧ Hp S Fa w0 w' [.row true (cInt .i64) 3 A349 c350 r.1] := by
 refine enterV (n := 57) Try.func14 rfl rfl rfl ?_
 intro a E
 replace E := E.pick [(0, .agg #[.int .i64 aProps, .slice A1 (List.length aAccept) c2, .slice A5 (List.length aGuard) c6, .slice A9 (List.length aNodes) c10])] ⟨rfl, trivial⟩
 rw [part_Reached] at hP
 refine wp_seq ?_
 refine wp_region_lit ?_
 refine h_box H E rfl rfl rfl ?_
 intro w14 g13 a hc15 hg17 H_ E_
 replace E := E_ _ rfl; clear E_
 replace H := H_; clear H_; try dsimp only [setn, addE, goneL] at H
 refine vr tbok 2 [] [(1, .pointer (some ⟨g13, 0, none⟩))] [] E (by kernel_rfl) trivial ?_
 clear E; intro a E
 refine wpList_nil ?_
 refine th_n ?_
 refine wp_seq ?_
 refine wp_seq ?_
 refine wp_region_lit ?_
 refine vr tbok 1 [.agg #[.int .i64 aProps, .slice A1 (List.length aAccept) c2, .slice A5 (List.length aGuard) c6, .slice A9 (List.length aNodes) c10]] [(1, .pointer (some ⟨g13, 0, none⟩)), (11, .agg #[.int .i64 aProps, .slice A1 (List.length aAccept) c2, .slice A5 (List.length aGuard) c6, .slice A9 (List.length aNodes) c10])] [cellsAt w14 g13 (0) [.int .i64 aProps, .slice A1 (List.length aAccept) c2, .slice A5 (List.length aGuard) c6, .slice A9 (List.length aNodes) c10]] E (by kernel_rfl) ((H.box 3 rfl).sub 0 _ rfl) ?_
 clear E; intro a E
 replace H := H.nilrow (cInt .i64) 3; try dsimp only [setn, addE, goneL] at H
 obtain ⟨r19, h20, hP⟩ := bind_inv hP
 obtain ⟨Fa21, Hc22, hb23⟩ := H.call [] [(0, false), (1, false), (2, false), (4, false)] rfl rfl trivial
 refine e_call E rfl rfl Try.func24 rfl rfl rfl (part_asked_calls A1 c2 A5 c6 A9 c10 none 0 aProps aAccept aGuard aNodes [] hk3 hk7 hk11 (Nat.le_refl _) Hc22 h20) ?_
 rintro v24 w25 a ⟨rfl, HR26⟩ E_
 replace E := E_ _ rfl; clear E_
 obtain ⟨H_, hc27⟩ := hb23 _ _ HR26 rfl
 replace H := H_; clear H_; try dsimp only [setn, addE, goneL] at H
 refine vr tbok 1 [] [(1, .pointer (some ⟨g13, 0, none⟩)), (4, .int .i64 r19)] [] E (by kernel_rfl) trivial ?_
 clear E; intro a E
 refine wpList_nil ?_
 refine th_n ?_
 refine wp_seq ?_
 refine wp_region_lit ?_
 refine vr tbok 2 [] [(1, .pointer (some ⟨g13, 0, none⟩)), (4, .int .i64 r19), (14, .bool ((r19 : Int) != 0))] [] E (by kernel_rfl) trivial ?_
 clear E; intro a E
 refine wpList_nil ?_
 refine th_n ?_
 refine E.cases (t := 14) rfl (fun hb_ E_ => ?_) (fun hb_ E_ => ?_)
 ·
  replace E := E_; clear E_
  have h28 : ¬ ((r19 : Int) = 0) := bne_iff_ne.1 hb_
  clear hb_; replace hP := ite_f h28 hP
  refine c_true E rfl ?_
  refine wp_seq ?_
  refine wp_region_lit ?_
  refine vr tbok 3 [] [(2, .slice none 0 0), (3, .int .i64 r19)] [] E (by kernel_rfl) trivial ?_
  clear E; intro a E
  refine wpList_nil ?_
  refine th_n ?_
  refine wp_ret ?_
  refine th_ret ?_
  replace H := H.nilrow (cInt .i64) 3; try dsimp only [setn, addE, goneL] at H
  obtain rfl := Option.some.inj hP
  refine ret2 E rfl rfl rfl ?_
  exact ⟨_, rfl, none, 0, rfl, H.sel [5] rfl⟩
 ·
  replace E := E_; clear E_
  have h30 : (r19 : Int) = 0 := bne_eq_false_iff_eq.1 hb_
  clear hb_; replace hP := ite_t h30 hP
  refine c_false E rfl ?_
  refine wp_skip ?_
  refine th_n ?_
  refine wp_seq ?_
  obtain ⟨r31, h32, hP⟩ := bind_inv hP
  obtain ⟨g43, hP⟩ := ask_inv hP
  refine meet_cut (fun a w54 => ∃ (A50 : Option Addr) (c51 : Nat) (A53 : Option Addr), Fr a 57 [(5, .slice A50 (List.length r31) c51), (6, .slice A53 (List.length (List.replicate (Int.toNat (((List.length aAccept) : Nat) : Int)) (false : Bool))) (Int.toNat (((List.length aAccept) : Nat) : Int)))] ∧ Hp S Fa w0 w54 [.row true (cSl (cInt .i64)) 23 A50 c51 r31, .rowx true cBool 4 A53 (Int.toNat (((List.length aAccept) : Nat) : Int)) (List.replicate (Int.toNat (((List.length aAccept) : Nat) : Int)) (false : Bool)) (List.replicate (Int.toNat (((List.length aAccept) : Nat) : Int) - Int.toNat (((List.length aAccept) : Nat) : Int)) (false : Bool))]) ?_ ?_
  ·
   have HR58 := H
   refine dr_start (S := fun w_ => Chg (atL []) w25 w_) (by kernel_rfl) ?_
   intro w55 hc56
   have HS57 : Chg (atL []) w25 w55 := hc56.mono (fun _ _ h_ => h_.elim)
   replace H := H.ext hc56
   refine dr tbok (by kernel_rfl) [0, 2, 3, 4] [.agg #[.int .i64 aProps, .slice A1 (List.length aAccept) c2, .slice A5 (List.length aGuard) c6, .slice A9 (List.length aNodes) c10], .slice A1 (List.length aAccept) c2] [(16, .agg #[.int .i64 aProps, .slice A1 (List.length aAccept) c2, .slice A5 (List.length aGuard) c6, .slice A9 (List.length aNodes) c10]), (20, .int .i64 (((List.length aAccept) : Nat) : Int))] (fun w_ => [cellsAt w_ g13 (0) [.int .i64 aProps, .slice A1 (List.length aAccept) c2, .slice A5 (List.length aGuard) c6, .slice A9 (List.length aNodes) c10], World.cell? w_ ⟨g13, 1, none⟩ = some (.slice A1 (List.length aAccept) c2)]) 4 E (fun _ _ => by kernel_rfl) (fun w_ hS_ => ⟨(HR58.boxk [] hS_ 3 rfl rfl).sub 0 _ rfl, (HR58.boxk [] hS_ 3 rfl rfl).cell (j := 1) rfl⟩) (by kernel_rfl) HS57 ?_
   clear E; intro a E
   refine wpAnyH_all (rs := [1, 5]) (by kernel_rfl) (by simp) ?_
   refine all2 ?_ ?_
   ·
    refine wpOp_of_list rfl ?_
    obtain ⟨Fa59, Hc60, hb61⟩ := H.call [] [(0, false), (1, false), (2, false)] rfl rfl trivial
    refine e_call E rfl rfl Try.func26 rfl rfl rfl (part_rows_calls A1 c2 A5 c6 A9 c10 aProps aAccept aGuard aNodes hk3 hk7 hk11 Hc60 h32) ?_
    rintro v62 w63 a ⟨A66, c67, rfl, HR64⟩ E_
    replace E := E_ _ rfl; clear E_
    obtain ⟨H_, hc65⟩ := hb61 _ _ HR64 rfl
    replace HS57 := HS57.ext (callS_ext hc65)
    replace H := H_; clear H_; try dsimp only [setn, addE, goneL] at H
    refine wpList_nil ?_
    refine th_n ⟨HS57, ?_⟩
    refine dr tbok (by kernel_rfl) [6] [] [(5, .slice A66 (List.length r31) c67), (20, .int .i64 (((List.length aAccept) : Nat) : Int))] (fun w_ => []) 2 E (fun _ _ => by kernel_rfl) (fun w_ hS_ => trivial) (by kernel_rfl) HS57 ?_
    clear E; intro a E
    refine wpAnyH_all (rs := [5]) (by kernel_rfl) (by simp) ?_
    refine all1 ?_
    ·
     refine wpOp_of_list rfl ?_
     refine h_make cBool (false : Bool) H E rfl rfl tbok rfl rfl rfl rfl ⟨g43.1, Int.le_refl _, g43.2⟩ rfl rfl rfl (fun _ _ => rfl) ?_
     intro w70 g69 a hc71 hg73 H_ E_
     replace E := E_ _ rfl; clear E_
     have hin74 : ∀ q_, q_ < w25.heap.size → At (some ⟨g69, 0, none⟩) q_ → (atL []) q_ := fun q_ h1_ h2_ => by have hs_ := HS57.size; have h4_ : q_ = g69 := At.of_g h2_; exfalso; omega
     replace HS57 := HS57.ext hc71
     replace H := H_; clear H_; try dsimp only [setn, addE, goneL] at H
     refine wpList_nil ?_
     refine th_n ⟨HS57, ?_⟩
     refine dr tbok (by kernel_rfl) [7] [] [(5, .slice A66 (List.length r31) c67), (6, .slice (some ⟨g69, 0, none⟩) (List.length (List.replicate (Int.toNat (((List.length aAccept) : Nat) : Int)) (false : Bool))) (Int.toNat (((List.length aAccept) : Nat) : Int)))] (fun w_ => []) 0 E (fun _ _ => by kernel_rfl) (fun w_ hS_ => trivial) (by kernel_rfl) HS57 ?_
     clear E; intro a E
     refine dr_done (by kernel_rfl) ?_
     exact .inl ⟨rfl, A66, c67, (some ⟨g69, 0, none⟩), E.pick _ ⟨rfl, rfl, trivial⟩, H.sel [5, 6] rfl⟩
   ·
    refine wpOp_of_list rfl ?_
    refine h_make cBool (false : Bool) H E rfl rfl tbok rfl rfl rfl rfl ⟨g43.1, Int.le_refl _, g43.2⟩ rfl rfl rfl (fun _ _ => rfl) ?_
    intro w76 g75 a hc77 hg79 H_ E_
    replace E := E_ _ rfl; clear E_
    have hin80 : ∀ q_, q_ < w25.heap.size → At (some ⟨g75, 0, none⟩) q_ → (atL []) q_ := fun q_ h1_ h2_ => by have hs_ := HS57.size; have h4_ : q_ = g75 := At.of_g h2_; exfalso; omega
    replace HS57 := HS57.ext hc77
    replace H := H_; clear H_; try dsimp only [setn, addE, goneL] at H
    refine wpList_nil ?_
    refine th_n ⟨HS57, ?_⟩
    refine wpAnyH_all (rs := [1]) (by kernel_rfl) (by simp) ?_
    refine all1 ?_
    ·
     refine wpOp_of_list rfl ?_
     obtain ⟨Fa81, Hc82, hb83⟩ := H.call [] [(0, false), (1, false), (2, false)] rfl rfl trivial
     refine e_call E rfl rfl Try.func26 rfl rfl rfl (part_rows_calls A1 c2 A5 c6 A9 c10 aProps aAccept aGuard aNodes hk3 hk7 hk11 Hc82 h32) ?_
     rintro v84 w85 a ⟨A88, c89, rfl, HR86⟩ E_
     replace E := E_ _ rfl; clear E_
     obtain ⟨H_, hc87⟩ := hb83 _ _ HR86 rfl
     replace HS57 := HS57.ext (callS_ext hc87)
     replace H := H_; clear H_; try dsimp only [setn, addE, goneL] at H
     refine wpList_nil ?_
     refine th_n ⟨HS57, ?_⟩
     refine dr tbok (by kernel_rfl) [6, 7] [] [(5, .slice A88 (List.length r31) c89), (6, .slice (some ⟨g75, 0, none⟩) (List.length (List.replicate (Int.toNat (((List.length aAccept) : Nat) : Int)) (false : Bool))) (Int.toNat (((List.length aAccept) : Nat) : Int)))] (fun w_ => []) 0 E (fun _ _ => by kernel_rfl) (fun w_ hS_ => trivial) (by kernel_rfl) HS57 ?_
     clear E; intro a E
     refine dr_done (by kernel_rfl) ?_
     exact .inl ⟨rfl, A88, c89, (some ⟨g75, 0, none⟩), E.pick _ ⟨rfl, rfl, trivial⟩, H.sel [6, 5] rfl⟩
  ·
   clear E H; rintro a w54 ⟨A50, c51, A53, E, H⟩
   refine th_n ?_
   refine wp_seq ?_
   refine wp_region_lit ?_
   refine h_buildSlice (ps := [(0, .int .i64 0)]) (cs := [.int .i64 0]) H E rfl rfl tbok rfl rfl (by kernel_rfl) ?_
   intro w92 g91 a hc93 hg95 H_ E_
   replace E := E_ _ rfl; clear E_
   replace H := H_; clear H_; try dsimp only [setn, addE, goneL] at H
   refine vr tbok 1 [] [(5, .slice A50 (List.length r31) c51), (6, .slice A53 (List.length (List.replicate (Int.toNat (((List.length aAccept) : Nat) : Int)) (false : Bool))) (Int.toNat (((List.length aAccept) : Nat) : Int))), (7, .slice (some ⟨g91, 0, none⟩) 1 1)] [] E (by kernel_rfl) trivial ?_
   clear E; intro a E
   refine wpList_nil ?_
   refine th_n ?_
   refine wp_seq ?_
   refine wp_region_lit ?_
   obtain ⟨g96, hP⟩ := ask_inv hP
   obtain ⟨b97, e_b97⟩ := H.raddrx 1 rfl (idx_pos g96)
   subst e_b97
   refine vr tbok 2 [] [(5, .slice A50 (List.length r31) c51), (6, .slice (some ⟨b97, 0, none⟩) (List.length (List.replicate (Int.toNat (((List.length aAccept) : Nat) : Int)) (false : Bool))) (Int.toNat (((List.length aAccept) : Nat) : Int))), (7, .slice (some ⟨g91, 0, none⟩) 1 1), (24, .pointer (some ⟨b97, 0 + (Int.toNat (0 : Int)) * 1, none⟩))] [0 ≤ (0 : Int) ∧ (0 : Int) < (((List.length (List.replicate (Int.toNat (((List.length aAccept) : Nat) : Int)) (false : Bool))) : Nat) : Int)] E (by kernel_rfl) (g96) ?_
   clear E; intro a E
   refine h_setx (g := b97) (i := (0 : Int)) true H 1 rfl E rfl rfl rfl rfl tbok rfl (fun _ HF_ => rfl) rfl g96 rfl ?_
   clear E; intro w99 a hc100 H_ E
   replace H := H_; clear H_; try dsimp only [setn, addE, goneL] at H
   have hn101 : (List.length (List.replicate (Int.toNat (((List.length aAccept) : Nat) : Int)) (false : Bool))) = (List.length (List.set (List.replicate (Int.toNat (((List.length aAccept) : Nat) : Int)) (false : Bool)) (Int.toNat (0 : Int)) true)) := by simp only [List.length_set]
   replace E := E.same (t := 6) (u := .slice (some ⟨b97, 0, none⟩) (List.length (List.set (List.replicate (Int.toNat (((List.length aAccept) : Nat) : Int)) (false : Bool)) (Int.toNat (0 : Int)) true)) (Int.toNat (((List.length aAccept) : Nat) : Int))) rfl (congrArg (fun n_ => Value.slice (some ⟨b97, 0, none⟩) n_ (Int.toNat (((List.length aAccept) : Nat) : Int))) hn101)
   refine wpList_nil ?_
   refine th_n ?_
   refine wp_seq ?_
   refine wp_seq ?_
   refine wp_region_lit ?_
   refine vr tbok 1 [] [(5, .slice A50 (List.length r31) c51), (6, .slice (some ⟨b97, 0, none⟩) (List.length (List.set (List.replicate (Int.toNat (((List.length aAccept) : Nat) : Int)) (false : Bool)) (Int.toNat (0 : Int)) true)) (Int.toNat (((List.length aAccept) : Nat) : Int))), (7, .slice (some ⟨g91, 0, none⟩) 1 1), (8, .int .i64 0)] [] E (by kernel_rfl) trivial ?_
   clear E; intro a E
   refine wpList_nil ?_
   refine th_n ?_
   refine wp_block ?_
   obtain ⟨x243, hL244, hK245⟩ := bind_inv hP
   clear hP
   replace H := H.boxRow (cInt .i64) true ([0] : List Int) 2 rfl (fun _ _ => ⟨_, _, rfl, rfl, rfl⟩) (Nat.le_of_ble_eq_true rfl); try dsimp only [setn, addE, goneL] at H
   replace H := H.rowx 2 rfl; try dsimp only [setn, addE, goneL] at H
   refine loop_cut (fun i_ a w_ => (i_ = 0 ∧ ∃ (x248 : List Int), ∃ (A240 : Option Addr) (c241 : Nat), Fr a 57 [(7, .slice A240 (List.length x248) c241)] ∧ Hp S Fa w0 w_ [.row true (cInt .i64) 3 A240 c241 x248] ∧ x243 = x248)) ?_ ?_
   ·
    refine loopV (fun m247 a w246 => ∃ (met165 : List Bool) (out166 : List Int) (x169 : Int), ∃ (A167 : Option Addr) (c168 : Nat), Fr a 57 [(5, .slice A50 (List.length r31) c51), (6, .slice (some ⟨b97, 0, none⟩) (List.length met165) (Int.toNat (((List.length aAccept) : Nat) : Int))), (7, .slice A167 (List.length out166) c168), (8, .int .i64 x169)] ∧ Hp S Fa w0 w246 [.row true (cSl (cInt .i64)) 23 A50 c51 r31, .rowx true cBool 4 (some ⟨b97, 0, none⟩) (Int.toNat (((List.length aAccept) : Nat) : Int)) met165 (List.replicate (Int.toNat (((List.length aAccept) : Nat) : Int) - Int.toNat (((List.length aAccept) : Nat) : Int)) (false : Bool)), .row true (cInt .i64) 3 A167 c168 out166] ∧ part_Reached_l0 N r31 m247 met165 out166 x169 = some x243) N ?_ ?_
    ·
     exact ⟨List.set (List.replicate (Int.toNat (((List.length aAccept) : Nat) : Int)) (false : Bool)) (Int.toNat (0 : Int)) true, ([0] : List Int), 0, (some ⟨g91, 0, none⟩), (List.length ([0] : List Int)), E.pick _ ⟨rfl, rfl, rfl, rfl, trivial⟩, H.sel [0, 1, 2] rfl, hL244⟩
    ·
     clear E H hL244; intro m247 a w246 hI_
     obtain ⟨met165, out166, x169, A167, c168, E, H, hP⟩ := hI_
     obtain ⟨m242, rfl⟩ : ∃ q_, m247 = q_ + 1 := by cases m247 with | zero => rw [part_Reached_l0] at hP; cases hP | succ q_ => exact ⟨q_, rfl⟩
     rw [part_Reached_l0] at hP
     refine wp_seq ?_
     refine wp_seq ?_
     refine wp_region_lit ?_
     refine vr tbok 4 [] [(5, .slice A50 (List.length r31) c51), (6, .slice (some ⟨b97, 0, none⟩) (List.length met165) (Int.toNat (((List.length aAccept) : Nat) : Int))), (7, .slice A167 (List.length out166) c168), (8, .int .i64 x169), (28, .bool (decide (x169 < (((List.length out166) : Nat) : Int))))] [] E (by kernel_rfl) trivial ?_
     clear E; intro a E
     refine wpList_nil ?_
     refine th_n ?_
     refine E.cases (t := 28) rfl (fun hb_ E_ => ?_) (fun hb_ E_ => ?_)
     ·
      replace E := E_; clear E_
      have h249 : x169 < (((List.length out166) : Nat) : Int) := of_decide_eq_true hb_
      clear hb_; replace hP := ite_t h249 hP
      refine c_true E rfl ?_
      refine wp_skip ?_
      refine th_n ?_
      refine wp_seq ?_
      refine wp_block ?_
      refine wp_seq ?_
      refine wp_region_lit ?_
      obtain ⟨g250, hP⟩ := ask_inv hP
      obtain ⟨b251, e_b251⟩ := H.raddr 2 rfl (idx_pos g250)
      subst e_b251
      obtain ⟨g253, hP⟩ := ask_inv hP
      obtain ⟨b254, e_b254⟩ := H.raddr 0 rfl (idx_pos g253)
      subst e_b254
      obtain ⟨A256, c257, hl258, hk259, H⟩ := H.subSl 0 true (el_row rfl) g253
      try dsimp only [addE] at H
      refine vr tbok 9 [.int .i64 (List.getD out166 (Int.toNat x169) 0), .slice A256 (List.length (List.getD r31 (Int.toNat (List.getD out166 (Int.toNat x169) 0)) [])) c257] [(5, .slice (some ⟨b254, 0, none⟩) (List.length r31) c51), (6, .slice (some ⟨b97, 0, none⟩) (List.length met165) (Int.toNat (((List.length aAccept) : Nat) : Int))), (7, .slice (some ⟨b251, 0, none⟩) (List.length out166) c168), (8, .int .i64 x169), (37, .slice A256 (List.length (List.getD r31 (Int.toNat (List.getD out166 (Int.toNat x169) 0)) [])) c257), (38, .int .i64 (((List.length (List.getD r31 (Int.toNat (List.getD out166 (Int.toNat x169) 0)) [])) : Nat) : Int)), (39, .int .i64 0)] [0 ≤ x169 ∧ x169 < (((List.length out166) : Nat) : Int), World.cell? w246 ⟨b251, 0 + (Int.toNat x169) * 1, none⟩ = some (.int .i64 (List.getD out166 (Int.toNat x169) 0)), 0 ≤ (List.getD out166 (Int.toNat x169) 0) ∧ (List.getD out166 (Int.toNat x169) 0) < (((List.length r31) : Nat) : Int), World.cell? w246 ⟨b254, 0 + (Int.toNat (List.getD out166 (Int.toNat x169) 0)) * 1, none⟩ = some (.slice A256 (List.length (List.getD r31 (Int.toNat (List.getD out166 (Int.toNat x169) 0)) [])) c257)] E (by kernel_rfl) ⟨g250, Rds.at1 (H.rd 2 rds_row) 0 g250, g253, hl258⟩ ?_
      clear E; intro a E
      refine wpList_nil ?_
      refine th_n ?_
      refine wp_block ?_
      obtain ⟨x317, hL318, hK319⟩ := bind_inv hP
      clear hP
      refine loop_cut (fun i_ a w_ => (i_ = 2 ∧ ∃ (x322 : (List Bool) × (List Int)), ∃ (A314 : Option Addr) (c315 : Nat), Fr a 57 [(5, .slice (some ⟨b254, 0, none⟩) (List.length r31) c51), (6, .slice (some ⟨b97, 0, none⟩) (List.length x322.1) (Int.toNat (((List.length aAccept) : Nat) : Int))), (7, .slice A314 (List.length x322.2) c315), (8, .int .i64 x169)] ∧ Hp S Fa w0 w_ [.row true (cSl (cInt .i64)) 23 (some ⟨b254, 0, none⟩) c51 r31, .rowx true cBool 4 (some ⟨b97, 0, none⟩) (Int.toNat (((List.length aAccept) : Nat) : Int)) x322.1 (List.replicate (Int.toNat (((List.length aAccept) : Nat) : Int) - Int.toNat (((List.length aAccept) : Nat) : Int)) (false : Bool)), .row true (cInt .i64) 3 A314 c315 x322.2] ∧ x317 = x322)) ?_ ?_
      ·
       refine loopV (fun m321 a w320 => ∃ (met283 : List Bool) (out284 : List Int) (x287 : Int), ∃ (A285 : Option Addr) (c286 : Nat), Fr a 57 [(5, .slice (some ⟨b254, 0, none⟩) (List.length r31) c51), (6, .slice (some ⟨b97, 0, none⟩) (List.length met283) (Int.toNat (((List.length aAccept) : Nat) : Int))), (7, .slice A285 (List.length out284) c286), (8, .int .i64 x169), (37, .slice A256 (List.length (List.getD r31 (Int.toNat (List.getD out166 (Int.toNat x169) 0)) [])) c257), (38, .int .i64 (((List.length (List.getD r31 (Int.toNat (List.getD out166 (Int.toNat x169) 0)) [])) : Nat) : Int)), (39, .int .i64 x287)] ∧ Hp S Fa w0 w320 [.row true (cSl (cInt .i64)) 23 (some ⟨b254, 0, none⟩) c51 r31, .rowx true cBool 4 (some ⟨b97, 0, none⟩) (Int.toNat (((List.length aAccept) : Nat) : Int)) met283 (List.replicate (Int.toNat (((List.length aAccept) : Nat) : Int) - Int.toNat (((List.length aAccept) : Nat) : Int)) (false : Bool)), .row true (cInt .i64) 3 A285 c286 out284, .ro true (cInt .i64) A256 (List.getD r31 (Int.toNat (List.getD out166 (Int.toNat x169) 0)) [])] ∧ part_Reached_l1 N r31 out166 x169 m321 met283 out284 x287 = some x317) N ?_ ?_
       ·
        exact ⟨met165, out166, 0, (some ⟨b251, 0, none⟩), c168, E.pick _ ⟨rfl, rfl, rfl, rfl, rfl, rfl, rfl, trivial⟩, H.sel [0, 1, 2, 3] rfl, hL318⟩
       ·
        clear E H hL318; intro m321 a w320 hI_
        obtain ⟨met283, out284, x287, A285, c286, E, H, hP⟩ := hI_
        obtain ⟨m316, rfl⟩ : ∃ q_, m321 = q_ + 1 := by cases m321 with | zero => rw [part_Reached_l1] at hP; cases hP | succ q_ => exact ⟨q_, rfl⟩
        rw [part_Reached_l1] at hP
        refine wp_seq ?_
        refine wp_region_lit ?_
        refine vr tbok 1 [] [(5, .slice (some ⟨b254, 0, none⟩) (List.length r31) c51), (6, .slice (some ⟨b97, 0, none⟩) (List.length met283) (Int.toNat (((List.length aAccept) : Nat) : Int))), (7, .slice A285 (List.length out284) c286), (8, .int .i64 x169), (37, .slice A256 (List.length (List.getD r31 (Int.toNat (List.getD out166 (Int.toNat x169) 0)) [])) c257), (38, .int .i64 (((List.length (List.getD r31 (Int.toNat (List.getD out166 (Int.toNat x169) 0)) [])) : Nat) : Int)), (39, .int .i64 x287), (40, .bool (decide (x287 < (((List.length (List.getD r31 (Int.toNat (List.getD out166 (Int.toNat x169) 0)) [])) : Nat) : Int))))] [] E (by kernel_rfl) trivial ?_
        clear E; intro a E
        refine wpList_nil ?_
        refine th_n ?_
        refine wp_seq ?_
        refine E.cases (t := 40) rfl (fun hb_ E_ => ?_) (fun hb_ E_ => ?_)
        ·
         replace E := E_; clear E_
         have h323 : x287 < (((List.length (List.getD r31 (Int.toNat (List.getD out166 (Int.toNat x169) 0)) [])) : Nat) : Int) := of_decide_eq_true hb_
         clear hb_; replace hP := ite_t h323 hP
         refine c_true E rfl ?_
         refine wp_skip ?_
         refine th_n ?_
         refine wp_seq ?_
         refine wp_block ?_
         refine wp_seq ?_
         refine wp_region_lit ?_
         obtain ⟨g324, hP⟩ := ask_inv hP
         obtain ⟨b325, o326, e_b325⟩ := (H.rd 3 rds_ro).addr (idx_pos g324)
         subst e_b325
         refine vr tbok 3 [.int .i64 (List.getD (List.getD r31 (Int.toNat (List.getD out166 (Int.toNat x169) 0)) []) (Int.toNat x287) 0)] [(5, .slice (some ⟨b254, 0, none⟩) (List.length r31) c51), (6, .slice (some ⟨b97, 0, none⟩) (List.length met283) (Int.toNat (((List.length aAccept) : Nat) : Int))), (7, .slice A285 (List.length out284) c286), (8, .int .i64 x169), (10, .int .i64 (List.getD (List.getD r31 (Int.toNat (List.getD out166 (Int.toNat x169) 0)) []) (Int.toNat x287) 0)), (37, .slice (some ⟨b325, o326, none⟩) (List.length (List.getD r31 (Int.toNat (List.getD out166 (Int.toNat x169) 0)) [])) c257), (38, .int .i64 (((List.length (List.getD r31 (Int.toNat (List.getD out166 (Int.toNat x169) 0)) [])) : Nat) : Int)), (39, .int .i64 x287)] [0 ≤ x287 ∧ x287 < (((List.length (List.getD r31 (Int.toNat (List.getD out166 (Int.toNat x169) 0)) [])) : Nat) : Int), World.cell? w320 ⟨b325, o326 + (Int.toNat x287) * 1, none⟩ = some (.int .i64 (List.getD (List.getD r31 (Int.toNat (List.getD out166 (Int.toNat x169) 0)) []) (Int.toNat x287) 0))] E (by kernel_rfl) ⟨g324, Rds.at1 (H.rd 3 rds_ro) 0 g324⟩ ?_
         clear E; intro a E
         refine wpList_nil ?_
         refine th_n ?_
         refine wp_seq ?_
         refine wp_region_lit ?_
         obtain ⟨g327, hP⟩ := ask_inv hP
         refine vr tbok 5 [.bool (List.getD met283 (Int.toNat (List.getD (List.getD r31 (Int.toNat (List.getD out166 (Int.toNat x169) 0)) []) (Int.toNat x287) 0)) false)] [(5, .slice (some ⟨b254, 0, none⟩) (List.length r31) c51), (6, .slice (some ⟨b97, 0, none⟩) (List.length met283) (Int.toNat (((List.length aAccept) : Nat) : Int))), (7, .slice A285 (List.length out284) c286), (8, .int .i64 x169), (10, .int .i64 (List.getD (List.getD r31 (Int.toNat (List.getD out166 (Int.toNat x169) 0)) []) (Int.toNat x287) 0)), (37, .slice (some ⟨b325, o326, none⟩) (List.length (List.getD r31 (Int.toNat (List.getD out166 (Int.toNat x169) 0)) [])) c257), (38, .int .i64 (((List.length (List.getD r31 (Int.toNat (List.getD out166 (Int.toNat x169) 0)) [])) : Nat) : Int)), (39, .int .i64 x287), (47, .bool (!(List.getD met283 (Int.toNat (List.getD (List.getD r31 (Int.toNat (List.getD out166 (Int.toNat x169) 0)) []) (Int.toNat x287) 0)) false)))] [0 ≤ (List.getD (List.getD r31 (Int.toNat (List.getD out166 (Int.toNat x169) 0)) []) (Int.toNat x287) 0) ∧ (List.getD (List.getD r31 (Int.toNat (List.getD out166 (Int.toNat x169) 0)) []) (Int.toNat x287) 0) < (((List.length met283) : Nat) : Int), World.cell? w320 ⟨b97, 0 + (Int.toNat (List.getD (List.getD r31 (Int.toNat (List.getD out166 (Int.toNat x169) 0)) []) (Int.toNat x287) 0)) * 1, none⟩ = some (.bool (List.getD met283 (Int.toNat (List.getD (List.getD r31 (Int.toNat (List.getD out166 (Int.toNat x169) 0)) []) (Int.toNat x287) 0)) false))] E (by kernel_rfl) ⟨g327, Rds.at1 (H.rd 1 rds_rowx) false g327⟩ ?_
         clear E; intro a E
         refine wpList_nil ?_
         refine th_n ?_
         refine E.cases (t := 47) rfl (fun hb_ E_ => ?_) (fun hb_ E_ => ?_)
         ·
          replace E := E_; clear E_
          have h328 : ¬ ((List.getD met283 (Int.toNat (List.getD (List.getD r31 (Int.toNat (List.getD out166 (Int.toNat x169) 0)) []) (Int.toNat x287) 0)) false) = true) := (ne_true_of_eq_false (not_t hb_))
          clear hb_; replace hP := ite_f h328 hP
          refine c_true E rfl ?_
          refine wp_seq ?_
          refine wp_region_lit ?_
          refine vr tbok 3 [] [(5, .slice (some ⟨b254, 0, none⟩) (List.length r31) c51), (6, .slice (some ⟨b97, 0, none⟩) (List.length met283) (Int.toNat (((List.length aAccept) : Nat) : Int))), (7, .slice A285 (List.length out284) c286), (8, .int .i64 x169), (10, .int .i64 (List.getD (List.getD r31 (Int.toNat (List.getD out166 (Int.toNat x169) 0)) []) (Int.toNat x287) 0)), (37, .slice (some ⟨b325, o326, none⟩) (List.length (List.getD r31 (Int.toNat (List.getD out166 (Int.toNat x169) 0)) [])) c257), (38, .int .i64 (((List.length (List.getD r31 (Int.toNat (List.getD out166 (Int.toNat x169) 0)) [])) : Nat) : Int)), (39, .int .i64 x287), (50, .pointer (some ⟨b97, 0 + (Int.toNat (List.getD (List.getD r31 (Int.toNat (List.getD out166 (Int.toNat x169) 0)) []) (Int.toNat x287) 0)) * 1, none⟩))] [0 ≤ (List.getD (List.getD r31 (Int.toNat (List.getD out166 (Int.toNat x169) 0)) []) (Int.toNat x287) 0) ∧ (List.getD (List.getD r31 (Int.toNat (List.getD out166 (Int.toNat x169) 0)) []) (Int.toNat x287) 0) < (((List.length met283) : Nat) : Int)] E (by kernel_rfl) (g327) ?_
          clear E; intro a E
          refine h_setx (g := b97) (i := (List.getD (List.getD r31 (Int.toNat (List.getD out166 (Int.toNat x169) 0)) []) (Int.toNat x287) 0)) true H 1 rfl E rfl rfl rfl rfl tbok rfl (fun _ HF_ => rfl) rfl g327 rfl ?_
          clear E; intro w329 a hc330 H_ E
          replace H := H_; clear H_; try dsimp only [setn, addE, goneL] at H
          have hn331 : (List.length met283) = (List.length (List.set met283 (Int.toNat (List.getD (List.getD r31 (Int.toNat (List.getD out166 (Int.toNat x169) 0)) []) (Int.toNat x287) 0)) true)) := by simp only [List.length_set]
          replace E := E.same (t := 6) (u := .slice (some ⟨b97, 0, none⟩) (List.length (List.set met283 (Int.toNat (List.getD (List.getD r31 (Int.toNat (List.getD out166 (Int.toNat x169) 0)) []) (Int.toNat x287) 0)) true)) (Int.toNat (((List.length aAccept) : Nat) : Int))) rfl (congrArg (fun n_ => Value.slice (some ⟨b97, 0, none⟩) n_ (Int.toNat (((List.length aAccept) : Nat) : Int))) hn331)
          refine wpList_nil ?_
          refine th_n ?_
          refine wp_region_lit ?_
          refine vr tbok 2 [] [(5, .slice (some ⟨b254, 0, none⟩) (List.length r31) c51), (6, .slice (some ⟨b97, 0, none⟩) (List.length (List.set met283 (Int.toNat (List.getD (List.getD r31 (Int.toNat (List.getD out166 (Int.toNat x169) 0)) []) (Int.toNat x287) 0)) true)) (Int.toNat (((List.length aAccept) : Nat) : Int))), (8, .int .i64 x169), (37, .slice (some ⟨b325, o326, none⟩) (List.length (List.getD r31 (Int.toNat (List.getD out166 (Int.toNat x169) 0)) [])) c257), (38, .int .i64 (((List.length (List.getD r31 (Int.toNat (List.getD out166 (Int.toNat x169) 0)) [])) : Nat) : Int)), (39, .int .i64 x287), (51, .slice A285 (List.length out284) c286), (52, .int .i64 (List.getD (List.getD r31 (Int.toNat (List.getD out166 (Int.toNat x169) 0)) []) (Int.toNat x287) 0))] [] E (by kernel_rfl) trivial ?_
          clear E; intro a E
          refine h_buildSlice (ps := [(0, .int .i64 (List.getD (List.getD r31 (Int.toNat (List.getD out166 (Int.toNat x169) 0)) []) (Int.toNat x287) 0))]) (cs := [.int .i64 (List.getD (List.getD r31 (Int.toNat (List.getD out166 (Int.toNat x169) 0)) []) (Int.toNat x287) 0)]) H E rfl rfl tbok rfl rfl (by kernel_rfl) ?_
          intro w333 g332 a hc334 hg336 H_ E_
          replace E := E_ _ rfl; clear E_
          replace H := H_; clear H_; try dsimp only [setn, addE, goneL] at H
          obtain ⟨g337, hP⟩ := ask_inv hP
          refine h_append (cInt .i64) (xs := out284) (ys := ([(List.getD (List.getD r31 (Int.toNat (List.getD out166 (Int.toNat x169) 0)) []) (Int.toNat x287) 0)] : List Int)) (0 : Int) H 2 rfl E rfl rfl tbok rfl rfl rfl rfl rfl (fun _ _ => rfl) rfl rfl (fun _ HF_ => HF_.srcB 4 rfl (⟨_, _, rfl, rfl, rfl⟩)) g337 ?_
          intro w338 A339 c340 a hc341 hA342 H_ E_
          replace E := E_ _ rfl; clear E_
          replace H := H_; clear H_; try dsimp only [setn, addE, goneL] at H
          refine vr tbok 1 [] [(5, .slice (some ⟨b254, 0, none⟩) (List.length r31) c51), (6, .slice (some ⟨b97, 0, none⟩) (List.length (List.set met283 (Int.toNat (List.getD (List.getD r31 (Int.toNat (List.getD out166 (Int.toNat x169) 0)) []) (Int.toNat x287) 0)) true)) (Int.toNat (((List.length aAccept) : Nat) : Int))), (7, .slice A339 (List.length (out284 ++ ([(List.getD (List.getD r31 (Int.toNat (List.getD out166 (Int.toNat x169) 0)) []) (Int.toNat x287) 0)] : List Int))) c340), (8, .int .i64 x169), (37, .slice (some ⟨b325, o326, none⟩) (List.length (List.getD r31 (Int.toNat (List.getD out166 (Int.toNat x169) 0)) [])) c257), (38, .int .i64 (((List.length (List.getD r31 (Int.toNat (List.getD out166 (Int.toNat x169) 0)) [])) : Nat) : Int)), (39, .int .i64 x287)] [] E (by kernel_rfl) trivial ?_
          clear E; intro a E
          refine wpList_nil ?_
          refine bl_n ?_
          refine th_n ?_
          refine wp_region_lit ?_
          obtain ⟨g343, hP⟩ := ask_inv hP
          refine vr tbok 2 [.int .i64 (x287 + 1)] [(5, .slice (some ⟨b254, 0, none⟩) (List.length r31) c51), (6, .slice (some ⟨b97, 0, none⟩) (List.length (List.set met283 (Int.toNat (List.getD (List.getD r31 (Int.toNat (List.getD out166 (Int.toNat x169) 0)) []) (Int.toNat x287) 0)) true)) (Int.toNat (((List.length aAccept) : Nat) : Int))), (7, .slice A339 (List.length (out284 ++ ([(List.getD (List.getD r31 (Int.toNat (List.getD out166 (Int.toNat x169) 0)) []) (Int.toNat x287) 0)] : List Int))) c340), (8, .int .i64 x169), (37, .slice (some ⟨b325, o326, none⟩) (List.length (List.getD r31 (Int.toNat (List.getD out166 (Int.toNat x169) 0)) [])) c257), (38, .int .i64 (((List.length (List.getD r31 (Int.toNat (List.getD out166 (Int.toNat x169) 0)) [])) : Nat) : Int)), (39, .int .i64 (x287 + 1))] [IntKind.i64.wrap (x287 + 1) = x287 + 1] E (by kernel_rfl) (wrap_in g343) ?_
          clear E; intro a E
          refine wpList_nil ?_
          exact th_n ⟨m316, Nat.lt_succ_self _, List.set met283 (Int.toNat (List.getD (List.getD r31 (Int.toNat (List.getD out166 (Int.toNat x169) 0)) []) (Int.toNat x287) 0)) true, out284 ++ ([(List.getD (List.getD r31 (Int.toNat (List.getD out166 (Int.toNat x169) 0)) []) (Int.toNat x287) 0)] : List Int), x287 + 1, A339, c340, E.pick _ ⟨rfl, rfl, rfl, rfl, rfl, rfl, rfl, trivial⟩, H.sel [0, 1, 2, 3] rfl, hP⟩
         ·
          replace E := E_; clear E_
          have h344 : (List.getD met283 (Int.toNat (List.getD (List.getD r31 (Int.toNat (List.getD out166 (Int.toNat x169) 0)) []) (Int.toNat x287) 0)) false) = true := (not_f hb_)
          clear hb_; replace hP := ite_t h344 hP
          refine c_false E rfl ?_
          refine wp_skip ?_
          refine bl_n ?_
          refine th_n ?_
          refine wp_region_lit ?_
          obtain ⟨g345, hP⟩ := ask_inv hP
          refine vr tbok 2 [.int .i64 (x287 + 1)] [(5, .slice (some ⟨b254, 0, none⟩) (List.length r31) c51), (6, .slice (some ⟨b97, 0, none⟩) (List.length met283) (Int.toNat (((List.length aAccept) : Nat) : Int))), (7, .slice A285 (List.length out284) c286), (8, .int .i64 x169), (37, .slice (some ⟨b325, o326, none⟩) (List.length (List.getD r31 (Int.toNat (List.getD out166 (Int.toNat x169) 0)) [])) c257), (38, .int .i64 (((List.length (List.getD r31 (Int.toNat (List.getD out166 (Int.toNat x169) 0)) [])) : Nat) : Int)), (39, .int .i64 (x287 + 1))] [IntKind.i64.wrap (x287 + 1) = x287 + 1] E (by kernel_rfl) (wrap_in g345) ?_
          clear E; intro a E
          refine wpList_nil ?_
          exact th_n ⟨m316, Nat.lt_succ_self _, met283, out284, x287 + 1, A285, c286, E.pick _ ⟨rfl, rfl, rfl, rfl, rfl, rfl, rfl, trivial⟩, H.sel [0, 1, 2, 3] rfl, hP⟩
        ·
         replace E := E_; clear E_
         have h346 : ¬ (x287 < (((List.length (List.getD r31 (Int.toNat (List.getD out166 (Int.toNat x169) 0)) [])) : Nat) : Int)) := of_decide_eq_false hb_
         clear hb_; replace hP := ite_f h346 hP
         refine c_false E rfl ?_
         refine wp_exit ?_
         refine th_exit ?_
         have hx_ := Option.some.inj hP
         refine th_exit (.inl ⟨2, rfl, ?_⟩)
         exact ⟨rfl, (met283, out284), A285, c286, E.pick _ ⟨rfl, rfl, rfl, rfl, trivial⟩, H.sel [0, 1, 2] rfl, hx_.symm⟩
      ·
       clear E H hL318; intro i_ a w320 hM_
       obtain ⟨rfl, x322, A314, c315, E, H, hx_⟩ := hM_
       subst hx_; have hP := hK319; clear hK319
       refine bl_hit ?_
       refine bl_n ?_
       refine th_n ?_
       refine wp_region_lit ?_
       obtain ⟨g347, hP⟩ := ask_inv hP
       refine vr tbok 3 [.int .i64 (x169 + 1)] [(5, .slice (some ⟨b254, 0, none⟩) (List.length r31) c51), (6, .slice (some ⟨b97, 0, none⟩) (List.length x317.1) (Int.toNat (((List.length aAccept) : Nat) : Int))), (7, .slice A314 (List.length x317.2) c315), (8, .int .i64 (x169 + 1))] [IntKind.i64.wrap (x169 + 1) = x169 + 1] E (by kernel_rfl) (wrap_in g347) ?_
       clear E; intro a E
       refine wpList_nil ?_
       exact th_n ⟨m242, Nat.lt_succ_self _, x317.1, x317.2, x169 + 1, A314, c315, E.pick _ ⟨rfl, rfl, rfl, rfl, trivial⟩, H.sel [0, 1, 2] rfl, hP⟩
     ·
      replace E := E_; clear E_
      have h348 : ¬ (x169 < (((List.length out166) : Nat) : Int)) := of_decide_eq_false hb_
      clear hb_; replace hP := ite_f h348 hP
      refine c_false E rfl ?_
      refine wp_exit ?_
      refine th_exit ?_
      have hx_ := Option.some.inj hP
      refine th_exit (.inl ⟨0, rfl, ?_⟩)
      exact ⟨rfl, out166, A167, c168, E.pick _ ⟨rfl, trivial⟩, H.sel [2] rfl, hx_.symm⟩
   ·
    clear E H hL244; intro i_ a w246 hM_
    obtain ⟨rfl, x248, A240, c241, E, H, hx_⟩ := hM_
    subst hx_; have hP := hK245; clear hK245
    refine bl_hit ?_
    refine th_n ?_
    refine wp_seq ?_
    refine wp_region_lit ?_
    refine vr tbok 3 [] [(2, .slice A240 (List.length x243) c241), (3, .int .i64 0)] [] E (by kernel_rfl) trivial ?_
    clear E; intro a E
    refine wpList_nil ?_
    refine th_n ?_
    refine wp_ret ?_
    obtain rfl := Option.some.inj hP
    refine ret2 E rfl rfl rfl ?_
    exact ⟨_, rfl, A240, c241, rfl, H.sel [0] rfl⟩

/-! rejoinder/part.Classes -/
def part_Classes (N : Nat) (aProps : Int) (aAccept : List Bool) (aGuard : List Int) (aNodes : List Nd) : Option ((List Int) × Int) :=
  Option.bind (part_asked N aProps aAccept aGuard aNodes []) fun r19 =>
  if (r19 : Int) = 0 then
    Option.bind (part_classes N aProps aAccept aGuard aNodes) fun r31 =>
    some (r31, 0)
  else
    some ([], r19)
set_option maxRecDepth 100000 in
set_option maxHeartbeats 4000000 in
theorem part_Classes_calls {N : Nat} {S Fa : Nat → Prop} {w0 : World} {r : (List Int) × Int} (A1 : Option Addr) (c2 : Nat) (A5 : Option Addr) (c6 : Nat) (A9 : Option Addr) (c10 : Nat) (aProps : Int) (aAccept : List Bool) (aGuard : List Int) (aNodes : List Nd) (hk3 : List.length aAccept ≤ c2) (hk7 : List.length aGuard ≤ c6) (hk11 : List.length aNodes ≤ c10) (H : Hp S Fa w0 w0 [.ro false cBool A1 aAccept, .ro false (cInt .i64) A5 aGuard, .ro false cNode A9 aNodes]) (hP : part_Classes N aProps aAccept aGuard aNodes = some r) :
    Calls Try.prog 7 #[.agg #[.int .i64 aProps, .slice A1 (List.length aAccept) c2, .slice A5 (List.length aGuard) c6, .slice A9 (List.length aNodes) c10]] w0 fun e w' => ∃ v, e = .returned v ∧ ∃ (A43 : Option Addr) (c44 : Nat), v = .tuple #[.slice A43 (List.length r.1) c44, .int .i64 r.2] ∧ Hp S Fa w0 w' [.row true (cInt .i64) 3 A43 c44 r.1] := by
 refine enterV (n := 12) Try.func7 rfl rfl rfl ?_
 intro a E
 replace E := E.pick [(0, .agg #[.int .i64 aProps, .slice A1 (List.length aAccept) c2, .slice A5 (List.length aGuard) c6, .slice A9 (List.length aNodes) c10])] ⟨rfl, trivial⟩
 rw [part_Classes] at hP
 refine wp_seq ?_
 refine wp_region_lit ?_
 refine h_box H E rfl rfl rfl ?_
 intro w14 g13 a hc15 hg17 H_ E_
 replace E := E_ _ rfl; clear E_
 replace H := H_; clear H_; try dsimp only [setn, addE, goneL] at H
 refine vr tbok 2 [] [(1, .pointer (some ⟨g13, 0, none⟩))] [] E (by kernel_rfl) trivial ?_
 clear E; intro a E
 refine wpList_nil ?_
 refine th_n ?_
 refine wp_seq ?_
 refine wp_seq ?_
 refine wp_region_lit ?_
 refine vr tbok 1 [.agg #[.int .i64 aProps, .slice A1 (List.length aAccept) c2, .slice A5 (List.length aGuard) c6, .slice A9 (List.length aNodes) c10]] [(1, .pointer (some ⟨g13, 0, none⟩)), (5, .agg #[.int .i64 aProps, .slice A1 (List.length aAccept) c2, .slice A5 (List.length aGuard) c6, .slice A9 (List.length aNodes) c10])] [cellsAt w14 g13 (0) [.int .i64 aProps, .slice A1 (List.length aAccept) c2, .slice A5 (List.length aGuard) c6, .slice A9 (List.length aNodes) c10]] E (by kernel_rfl) ((H.box 3 rfl).sub 0 _ rfl) ?_
 clear E; intro a E
 replace H := H.nilrow (cInt .i64) 3; try dsimp only [setn, addE, goneL] at H
 obtain ⟨r19, h20, hP⟩ := bind_inv hP
 obtain ⟨Fa21, Hc22, hb23⟩ := H.call [] [(0, false), (1, false), (2, false), (4, false)] rfl rfl trivial
 refine e_call E rfl rfl Try.func24 rfl rfl rfl (part_asked_calls A1 c2 A5 c6 A9 c10 none 0 aProps aAccept aGuard aNodes [] hk3 hk7 hk11 (Nat.le_refl _) Hc22 h20) ?_
 rintro v24 w25 a ⟨rfl, HR26⟩ E_
 replace E := E_ _ rfl; clear E_
 obtain ⟨H_, hc27⟩ := hb23 _ _ HR26 rfl
 replace H := H_; clear H_; try dsimp only [setn, addE, goneL] at H
 refine vr tbok 1 [] [(1, .pointer (some ⟨g13, 0, none⟩)), (4, .int .i64 r19)] [] E (by kernel_rfl) trivial ?_
 clear E; intro a E
 refine wpList_nil ?_
 refine th_n ?_
 refine wp_seq ?_
 refine wp_region_lit ?_
 refine vr tbok 2 [] [(1, .pointer (some ⟨g13, 0, none⟩)), (4, .int .i64 r19), (8, .bool ((r19 : Int) != 0))] [] E (by kernel_rfl) trivial ?_
 clear E; intro a E
 refine wpList_nil ?_
 refine th_n ?_
 refine E.cases (t := 8) rfl (fun hb_ E_ => ?_) (fun hb_ E_ => ?_)
 ·
  replace E := E_; clear E_
  have h28 : ¬ ((r19 : Int) = 0) := bne_iff_ne.1 hb_
  clear hb_; replace hP := ite_f h28 hP
  refine c_true E rfl ?_
  refine wp_seq ?_
  refine wp_region_lit ?_
  refine vr tbok 3 [] [(2, .slice none 0 0), (3, .int .i64 r19)] [] E (by kernel_rfl) trivial ?_
  clear E; intro a E
  refine wpList_nil ?_
  refine th_n ?_
  refine wp_ret ?_
  refine th_ret ?_
  replace H := H.nilrow (cInt .i64) 3; try dsimp only [setn, addE, goneL] at H
  obtain rfl := Option.some.inj hP
  refine ret2 E rfl rfl rfl ?_
  exact ⟨_, rfl, none, 0, rfl, H.sel [5] rfl⟩
 ·
  replace E := E_; clear E_
  have h30 : (r19 : Int) = 0 := bne_eq_false_iff_eq.1 hb_
  clear hb_; replace hP := ite_t h30 hP
  refine c_false E rfl ?_
  refine wp_skip ?_
  refine th_n ?_
  refine wp_seq ?_
  refine wp_region_lit ?_
  refine vr tbok 1 [.agg #[.int .i64 aProps, .slice A1 (List.length aAccept) c2, .slice A5 (List.length aGuard) c6, .slice A9 (List.length aNodes) c10]] [(10, .agg #[.int .i64 aProps, .slice A1 (List.length aAccept) c2, .slice A5 (List.length aGuard) c6, .slice A9 (List.length aNodes) c10])] [cellsAt w25 g13 (0) [.int .i64 aProps, .slice A1 (List.length aAccept) c2, .slice A5 (List.length aGuard) c6, .slice A9 (List.length aNodes) c10]] E (by kernel_rfl) ((H.box 3 rfl).sub 0 _ rfl) ?_
  clear E; intro a E
  obtain ⟨r31, h32, hP⟩ := bind_inv hP
  obtain ⟨Fa33, Hc34, hb35⟩ := H.call [] [(0, false), (1, false), (2, false)] rfl rfl trivial
  refine e_call E rfl rfl Try.func25 rfl rfl rfl (part_classes_calls A1 c2 A5 c6 A9 c10 aProps aAccept aGuard aNodes hk3 hk7 hk11 Hc34 h32) ?_
  rintro v36 w37 a ⟨A40, c41, rfl, HR38⟩ E_
  replace E := E_ _ rfl; clear E_
  obtain ⟨H_, hc39⟩ := hb35 _ _ HR38 rfl
  replace H := H_; clear H_; try dsimp only [setn, addE, goneL] at H
  refine vr tbok 2 [] [(2, .slice A40 (List.length r31) c41), (3, .int .i64 0)] [] E (by kernel_rfl) trivial ?_
  clear E; intro a E
  refine wpList_nil ?_
  refine th_n ?_
  refine wp_ret ?_
  obtain rfl := Option.some.inj hP
  refine ret2 E rfl rfl rfl ?_
  exact ⟨_, rfl, A40, c41, rfl, H.sel [5] rfl⟩

/-! rejoinder/rejoinderkit.SameInts -/
def kit_SameInts_l0 (N : Nat) (aa : List Int) (b : List Int) : Nat → Int → Option (Unit ⊕ Bool)
  | 0, _ => none
  | m41 + 1, i25 =>
    if i25 < (((List.length aa) : Nat) : Int) then
      ask (idx i25 (List.length aa)) <|
      ask (idx i25 (List.length b)) <|
      if ((List.getD aa (Int.toNat i25) 0) : Int) = (List.getD b (Int.toNat i25) 0) then
        ask (in64 (i25 + 1)) <|
        kit_SameInts_l0 N aa b m41 (i25 + 1)
      else
        some (Sum.inr false)
    else
      some (Sum.inl ())
def kit_SameInts (N : Nat) (aa : List Int) (b : List Int) : Option Bool :=
  if ((((List.length aa) : Nat) : Int) : Int) = (((List.length b) : Nat) : Int) then
    Option.bind (kit_SameInts_l0 N aa b N 0) fun x42 =>
    Sum.elim (fun x47 =>
      some true)
     (fun x63 =>
      some x63) x42
  else
    some false
set_option maxRecDepth 100000 in
set_option maxHeartbeats 4000000 in
theorem kit_SameInts_calls {N : Nat} {S Fa : Nat → Prop} {w0 : World} {r : Bool} (A1 : Option Addr) (c2 : Nat) (A5 : Option Addr) (c6 : Nat) (aa : List Int) (b : List Int) (hk3 : List.length aa ≤ c2) (hk7 : List.length b ≤ c6) (H : Hp S Fa w0 w0 [.ro false (cInt .i64) A1 aa, .ro false (cInt .i64) A5 b]) (hP : kit_SameInts N aa b = some r) :
    Calls Try.prog 16 #[.slice A1 (List.length aa) c2, .slice A5 (List.length b) c6] w0 fun e w' => ∃ v, e = .returned v ∧ v = .bool r ∧ Hp S Fa w0 w' [] := by
 refine enterV (n := 26) Try.func16 rfl rfl rfl ?_
 intro a E
 replace E := E.pick [(0, .slice A1 (List.length aa) c2), (1, .slice A5 (List.length b) c6)] ⟨rfl, rfl, trivial⟩
 rw [kit_SameInts] at hP
 refine wp_seq ?_
 refine wp_region_lit ?_
 refine vr tbok 1 [] [(0, .slice A1 (List.length aa) c2), (1, .slice A5 (List.length b) c6)] [] E (by kernel_rfl) trivial ?_
 clear E; intro a E
 refine wpList_nil ?_
 refine th_n ?_
 refine wp_seq ?_
 refine wp_seq ?_
 refine wp_region_lit ?_
 refine vr tbok 5 [] [(0, .slice A1 (List.length aa) c2), (1, .slice A5 (List.length b) c6), (10, .bool (((((List.length aa) : Nat) : Int) : Int) != (((List.length b) : Nat) : Int)))] [] E (by kernel_rfl) trivial ?_
 clear E; intro a E
 refine wpList_nil ?_
 refine th_n ?_
 refine E.cases (t := 10) rfl (fun hb_ E_ => ?_) (fun hb_ E_ => ?_)
 ·
  replace E := E_; clear E_
  have h9 : ¬ (((((List.length aa) : Nat) : Int) : Int) = (((List.length b) : Nat) : Int)) := bne_iff_ne.1 hb_
  clear hb_; replace hP := ite_f h9 hP
  refine c_true E rfl ?_
  refine wp_seq ?_
  refine wp_region_lit ?_
  refine vr tbok 1 [] [(4, .bool false)] [] E (by kernel_rfl) trivial ?_
  clear E; intro a E
  refine wpList_nil ?_
  refine th_n ?_
  refine wp_ret ?_
  refine th_ret ?_
  obtain rfl := Option.some.inj hP
  refine ret1 E rfl rfl ?_
  exact ⟨_, rfl, rfl, H.sel [] rfl⟩
 ·
  replace E := E_; clear E_
  have h10 : ((((List.length aa) : Nat) : Int) : Int) = (((List.length b) : Nat) : Int) := bne_eq_false_iff_eq.1 hb_
  clear hb_; replace hP := ite_t h10 hP
  refine c_false E rfl ?_
  refine wp_skip ?_
  refine th_n ?_
  refine wp_seq ?_
  refine wp_seq ?_
  refine wp_region_lit ?_
  refine vr tbok 1 [] [(0, .slice A1 (List.length aa) c2), (1, .slice A5 (List.length b) c6), (5, .int .i64 0)] [] E (by kernel_rfl) trivial ?_
  clear E; intro a E
  refine wpList_nil ?_
  refine th_n ?_
  refine wp_block ?_
  obtain ⟨x42, hL43, hK44⟩ := bind_inv hP
  clear hP
  refine loop_cut (fun i_ a w_ => (i_ = 0 ∧ ∃ (x47 : Unit), Fr a 26 [] ∧ Hp S Fa w0 w_ [] ∧ x42 = Sum.inl x47)) ?_ ?_
  ·
   refine loopV (fun m46 a w45 => ∃ (i25 : Int), Fr a 26 [(0, .slice A1 (List.length aa) c2), (1, .slice A5 (List.length b) c6), (5, .int .i64 i25)] ∧ Hp S Fa w0 w45 [.ro false (cInt .i64) A1 aa, .ro false (cInt .i64) A5 b] ∧ kit_SameInts_l0 N aa b m46 i25 = some x42) N ?_ ?_
   ·
    exact ⟨0, E.pick _ ⟨rfl, rfl, rfl, trivial⟩, H.sel [0, 1] rfl, hL43⟩
   ·
    clear E H hL43; intro m46 a w45 hI_
    obtain ⟨i25, E, H, hP⟩ := hI_
    obtain ⟨m41, rfl⟩ : ∃ q_, m46 = q_ + 1 := by cases m46 with | zero => rw [kit_SameInts_l0] at hP; cases hP | succ q_ => exact ⟨q_, rfl⟩
    rw [kit_SameInts_l0] at hP
    refine wp_seq ?_
    refine wp_seq ?_
    refine wp_region_lit ?_
    refine vr tbok 4 [] [(0, .slice A1 (List.length aa) c2), (1, .slice A5 (List.length b) c6), (5, .int .i64 i25), (14, .bool (decide (i25 < (((List.length aa) : Nat) : Int))))] [] E (by kernel_rfl) trivial ?_
    clear E; intro a E
    refine wpList_nil ?_
    refine th_n ?_
    refine E.cases (t := 14) rfl (fun hb_ E_ => ?_) (fun hb_ E_ => ?_)
    ·
     replace E := E_; clear E_
     have h48 : i25 < (((List.length aa) : Nat) : Int) := of_decide_eq_true hb_
     clear hb_; replace hP := ite_t h48 hP
     refine c_true E rfl ?_
     refine wp_skip ?_
     refine th_n ?_
     refine wp_seq ?_
     refine wp_block ?_
     refine wp_seq ?_
     obtain ⟨g49, hP⟩ := ask_inv hP
     obtain ⟨b50, o51, e_b50⟩ := (H.rd 0 rds_ro).addr (idx_pos g49)
     subst e_b50
     obtain ⟨g52, hP⟩ := ask_inv hP
     obtain ⟨b53, o54, e_b53⟩ := (H.rd 1 rds_ro).addr (idx_pos g52)
     subst e_b53
     have HR58 := H
     refine dr_start (S := fun w_ => Chg (atL []) w45 w_) (by kernel_rfl) ?_
     intro w55 hc56
     have HS57 : Chg (atL []) w45 w55 := hc56.mono (fun _ _ h_ => h_.elim)
     replace H := H.ext hc56
     refine dr tbok (by kernel_rfl) [0, 1, 2, 3, 4, 5, 6, 7, 8] [.int .i64 (List.getD aa (Int.toNat i25) 0), .int .i64 (List.getD b (Int.toNat i25) 0)] [(0, .slice (some ⟨b50, o51, none⟩) (List.length aa) c2), (1, .slice (some ⟨b53, o54, none⟩) (List.length b) c6), (5, .int .i64 i25), (25, .bool (((List.getD aa (Int.toNat i25) 0) : Int) != (List.getD b (Int.toNat i25) 0)))] (fun w_ => [0 ≤ i25 ∧ i25 < (((List.length aa) : Nat) : Int), World.cell? w_ ⟨b50, o51 + (Int.toNat i25) * 1, none⟩ = some (.int .i64 (List.getD aa (Int.toNat i25) 0)), 0 ≤ i25 ∧ i25 < (((List.length b) : Nat) : Int), World.cell? w_ ⟨b53, o54 + (Int.toNat i25) * 1, none⟩ = some (.int .i64 (List.getD b (Int.toNat i25) 0))]) 0 E (fun _ _ => by kernel_rfl) (fun w_ hS_ => ⟨g49, Rds.at1 (HR58.rdk [] hS_ 0 rds_ro rfl) 0 g49, g52, Rds.at1 (HR58.rdk [] hS_ 1 rds_ro rfl) 0 g52⟩) (by kernel_rfl) HS57 ?_
     clear E; intro a E
     refine dr_done (by kernel_rfl) ?_
     clear HS57 HR58
     refine th_n ?_
     refine E.cases (t := 25) rfl (fun hb_ E_ => ?_) (fun hb_ E_ => ?_)
     ·
      replace E := E_; clear E_
      have h59 : ¬ (((List.getD aa (Int.toNat i25) 0) : Int) = (List.getD b (Int.toNat i25) 0)) := bne_iff_ne.1 hb_
      clear hb_; replace hP := ite_f h59 hP
      refine c_true E rfl ?_
      refine wp_seq ?_
      refine wp_region_lit ?_
      refine vr tbok 1 [] [(4, .bool false)] [] E (by kernel_rfl) trivial ?_
      clear E; intro a E
      refine wpList_nil ?_
      refine th_n ?_
      refine wp_ret ?_
      refine bl_ret ?_
      refine th_ret ?_
      refine th_ret ?_
      refine .inr ⟨rfl, ?_⟩
      refine bl_ret ?_
      refine th_ret ?_
      have hx_ := Option.some.inj hP; subst hx_
      have hP : some (false) = some r := hK44
      obtain rfl := Option.some.inj hP
      refine ret1 E rfl rfl ?_
      exact ⟨_, rfl, rfl, H.sel [] rfl⟩
     ·
      replace E := E_; clear E_
      have h60 : ((List.getD aa (Int.toNat i25) 0) : Int) = (List.getD b (Int.toNat i25) 0) := bne_eq_false_iff_eq.1 hb_
      clear hb_; replace hP := ite_t h60 hP
      refine c_false E rfl ?_
      refine wp_skip ?_
      refine bl_n ?_
      refine th_n ?_
      refine wp_region_lit ?_
      obtain ⟨g61, hP⟩ := ask_inv hP
      refine vr tbok 3 [.int .i64 (i25 + 1)] [(0, .slice (some ⟨b50, o51, none⟩) (List.length aa) c2), (1, .slice (some ⟨b53, o54, none⟩) (List.length b) c6), (5, .int .i64 (i25 + 1))] [IntKind.i64.wrap (i25 + 1) = i25 + 1] E (by kernel_rfl) (wrap_in g61) ?_
      clear E; intro a E
      refine wpList_nil ?_
      exact th_n ⟨m41, Nat.lt_succ_self _, i25 + 1, E.pick _ ⟨rfl, rfl, rfl, trivial⟩, H.sel [0, 1] rfl, hP⟩
    ·
     replace E := E_; clear E_
     have h62 : ¬ (i25 < (((List.length aa) : Nat) : Int)) := of_decide_eq_false hb_
     clear hb_; replace hP := ite_f h62 hP
     refine c_false E rfl ?_
     refine wp_exit ?_
     refine th_exit ?_
     have hx_ := Option.some.inj hP
     refine th_exit (.inl ⟨0, rfl, ?_⟩)
     exact ⟨rfl, (), E.pick _ trivial, H.sel [] rfl, hx_.symm⟩
  ·
   clear E H hL43; intro i_ a w45 hM_
   obtain ⟨rfl, x47, E, H, hx_⟩ := hM_
   subst hx_; have hP := elim_l hK44
   clear hK44
   refine bl_hit ?_
   refine th_n ?_
   refine wp_seq ?_
   refine wp_region_lit ?_
   refine vr tbok 1 [] [(4, .bool true)] [] E (by kernel_rfl) trivial ?_
   clear E; intro a E
   refine wpList_nil ?_
   refine th_n ?_
   refine wp_ret ?_
   obtain rfl := Option.some.inj hP
   refine ret1 E rfl rfl ?_
   exact ⟨_, rfl, rfl, H.sel [] rfl⟩

/-! rejoinder/rejoinderlaw16.awake -/
def law16_awake (N : Nat) : Option Bool :=
  Option.bind (part_Classes N 1 ([false, true, true] : List Bool) ([0, 1, 0] : List Int) ([(⟨0, -1, -2⟩ : Nd), (⟨0, -1, -3⟩ : Nd)] : List Nd)) fun r23 =>
  if (r23.2 : Int) = 0 then
    Option.bind (kit_SameInts N r23.1 ([0, 1, 1] : List Int)) fun r41 =>
    some r41
  else
    some false
set_option maxRecDepth 100000 in
set_option maxHeartbeats 4000000 in
theorem law16_awake_calls {N : Nat} {S Fa : Nat → Prop} {w0 : World} {r : Bool} (H : Hp S Fa w0 w0 []) (hP : law16_awake N  = some r) :
    Calls Try.prog 6 #[] w0 fun e w' => ∃ v, e = .returned v ∧ v = .bool r ∧ Hp S Fa w0 w' [] := by
 refine enterV (n := 22) Try.func6 rfl rfl rfl ?_
 intro a E
 replace E := E.pick [] trivial
 rw [law16_awake] at hP
 refine wp_seq ?_
 refine wp_region_lit ?_
 refine vr tbok 1 [] [] [] E (by kernel_rfl) trivial ?_
 clear E; intro a E
 refine wpList_nil ?_
 refine th_n ?_
 refine wp_seq ?_
 refine wp_region_lit ?_
 refine h_buildSlice (ps := [(0, .bool false), (1, .bool true), (2, .bool true)]) (cs := [.bool false, .bool true, .bool true]) H E rfl rfl tbok rfl rfl (by kernel_rfl) ?_
 intro w2 g1 a hc3 hg5 H_ E_
 replace E := E_ _ rfl; clear E_
 replace H := H_; clear H_; try dsimp only [setn, addE, goneL] at H
 refine h_buildSlice (ps := [(0, .int .i64 0), (1, .int .i64 1), (2, .int .i64 0)]) (cs := [.int .i64 0, .int .i64 1, .int .i64 0]) H E rfl rfl tbok rfl rfl (by kernel_rfl) ?_
 intro w7 g6 a hc8 hg10 H_ E_
 replace E := E_ _ rfl; clear E_
 replace H := H_; clear H_; try dsimp only [setn, addE, goneL] at H
 refine e_build (ps := [(1, .int .i64 (-1)), (2, .int .i64 (-2))]) (v := .agg #[.int .i64 0, .int .i64 (-1), .int .i64 (-2)]) E rfl rfl tbok rfl (by kernel_rfl) rfl ?_
 clear E; intro a E
 refine e_build (ps := [(1, .int .i64 (-1)), (2, .int .i64 (-3))]) (v := .agg #[.int .i64 0, .int .i64 (-1), .int .i64 (-3)]) E rfl rfl tbok rfl (by kernel_rfl) rfl ?_
 clear E; intro a E
 refine h_buildSlice (ps := [(0, .agg #[.int .i64 0, .int .i64 (-1), .int .i64 (-2)]), (1, .agg #[.int .i64 0, .int .i64 (-1), .int .i64 (-3)])]) (cs := [.int .i64 0, .int .i64 (-1), .int .i64 (-2), .int .i64 0, .int .i64 (-1), .int .i64 (-3)]) H E rfl rfl tbok rfl rfl (by kernel_rfl) ?_
 intro w12 g11 a hc13 hg15 H_ E_
 replace E := E_ _ rfl; clear E_
 replace H := H_; clear H_; try dsimp only [setn, addE, goneL] at H
 refine e_build (ps := [(0, .int .i64 1), (1, .slice (some ⟨g1, 0, none⟩) 3 3), (2, .slice (some ⟨g6, 0, none⟩) 3 3), (3, .slice (some ⟨g11, 0, none⟩) 2 2)]) (v := .agg #[.int .i64 1, .slice (some ⟨g1, 0, none⟩) 3 3, .slice (some ⟨g6, 0, none⟩) 3 3, .slice (some ⟨g11, 0, none⟩) 2 2]) E rfl rfl tbok rfl (by kernel_rfl) rfl ?_
 clear E; intro a E
 refine h_alloc H E rfl rfl tbok rfl ?_
 intro w17 g16 a hc18 hg20 H_ E_
 replace E := E_ _ rfl; clear E_
 replace H := H_; clear H_; try dsimp only [setn, addE, goneL] at H
 refine h_store (g := g16) (off := 0) H 3 rfl E rfl rfl rfl rfl tbok rfl rfl rfl rfl rfl ?_
 clear E; intro w21 a hc22 H_ E
 replace H := H_; clear H_; try dsimp only [setn, addE, goneL] at H
 refine wpList_nil ?_
 refine th_n ?_
 refine wp_seq ?_
 refine wp_region_lit ?_
 refine vr tbok 1 [.agg #[.int .i64 1, .slice (some ⟨g1, 0, none⟩) 3 3, .slice (some ⟨g6, 0, none⟩) 3 3, .slice (some ⟨g11, 0, none⟩) 2 2]] [(11, .agg #[.int .i64 1, .slice (some ⟨g1, 0, none⟩) 3 3, .slice (some ⟨g6, 0, none⟩) 3 3, .slice (some ⟨g11, 0, none⟩) 2 2])] [cellsAt w21 g16 (0) [.int .i64 1, .slice (some ⟨g1, 0, none⟩) 3 3, .slice (some ⟨g6, 0, none⟩) 3 3, .slice (some ⟨g11, 0, none⟩) 2 2]] E (by kernel_rfl) ((H.box 3 rfl).sub 0 _ rfl) ?_
 clear E; intro a E
 replace H := H.boxRow cBool true ([false, true, true] : List Bool) 0 rfl (fun _ _ => ⟨_, _, rfl, rfl, ⟨_, _, rfl, rfl, ⟨_, _, rfl, rfl, rfl⟩⟩⟩) (Nat.le_of_ble_eq_true rfl); try dsimp only [setn, addE, goneL] at H
 replace H := H.boxRow (cInt .i64) true ([0, 1, 0] : List Int) 1 rfl (fun _ _ => ⟨_, _, rfl, rfl, ⟨_, _, rfl, rfl, ⟨_, _, rfl, rfl, rfl⟩⟩⟩) (Nat.le_of_ble_eq_true rfl); try dsimp only [setn, addE, goneL] at H
 replace H := H.boxRow cNode true ([(⟨0, -1, -2⟩ : Nd), (⟨0, -1, -3⟩ : Nd)] : List Nd) 2 rfl (fun _ _ => ⟨_, _, rfl, rfl, ⟨_, _, rfl, rfl, rfl⟩⟩) (Nat.le_of_ble_eq_true rfl); try dsimp only [setn, addE, goneL] at H
 obtain ⟨r23, h24, hP⟩ := bind_inv hP
 obtain ⟨Fa25, Hc26, hb27⟩ := H.call [] [(0, false), (1, false), (2, false)] rfl rfl trivial
 refine e_call E rfl rfl Try.func7 rfl rfl rfl (part_Classes_calls (some ⟨g1, 0, none⟩) 3 (some ⟨g6, 0, none⟩) 3 (some ⟨g11, 0, none⟩) 2 1 ([false, true, true] : List Bool) ([0, 1, 0] : List Int) ([(⟨0, -1, -2⟩ : Nd), (⟨0, -1, -3⟩ : Nd)] : List Nd) (H.rcapx 0 rfl) (H.rcapx 1 rfl) (H.rcapx 2 rfl) Hc26 h24) ?_
 rintro v28 w29 a ⟨A32, c33, rfl, HR30⟩ E_
 replace E := E_ _ rfl; clear E_
 obtain ⟨H_, hc31⟩ := hb27 _ _ HR30 rfl
 replace H := H_; clear H_; try dsimp only [setn, addE, goneL] at H
 refine vr tbok 5 [] [(2, .slice A32 (List.length r23.1) c33), (3, .int .i64 r23.2)] [] E (by kernel_rfl) trivial ?_
 clear E; intro a E
 refine wpList_nil ?_
 refine th_n ?_
 refine wp_seq ?_
 refine wp_region_lit ?_
 refine vr tbok 3 [] [(2, .slice A32 (List.length r23.1) c33), (17, .bool ((r23.2 : Int) == 0))] [] E (by kernel_rfl) trivial ?_
 clear E; intro a E
 refine E.cases (t := 17) rfl (fun hb_ E_ => ?_) (fun hb_ E_ => ?_)
 ·
  replace E := E_; clear E_
  have h35 : (r23.2 : Int) = 0 := eq_of_beq hb_
  clear hb_; replace hP := ite_t h35 hP
  refine vr tbok 1 [] [(17, .bool true), (18, .slice A32 (List.length r23.1) c33)] [] E (by kernel_rfl) trivial ?_
  clear E; intro a E
  refine h_buildSlice (ps := [(0, .int .i64 0), (1, .int .i64 1), (2, .int .i64 1)]) (cs := [.int .i64 0, .int .i64 1, .int .i64 1]) H E rfl rfl tbok rfl rfl (by kernel_rfl) ?_
  intro w37 g36 a hc38 hg40 H_ E_
  replace E := E_ _ rfl; clear E_
  replace H := H_; clear H_; try dsimp only [setn, addE, goneL] at H
  replace H := H.boxRow (cInt .i64) true ([0, 1, 1] : List Int) 5 rfl (fun _ _ => ⟨_, _, rfl, rfl, ⟨_, _, rfl, rfl, ⟨_, _, rfl, rfl, rfl⟩⟩⟩) (Nat.le_of_ble_eq_true rfl); try dsimp only [setn, addE, goneL] at H
  obtain ⟨r41, h42, hP⟩ := bind_inv hP
  obtain ⟨Fa43, Hc44, hb45⟩ := H.call [] [(4, false), (5, false)] rfl rfl trivial
  refine e_call E rfl rfl Try.func16 rfl rfl rfl (kit_SameInts_calls A32 c33 (some ⟨g36, 0, none⟩) 3 r23.1 ([0, 1, 1] : List Int) (H.rcap 4 rfl) (H.rcapx 5 rfl) Hc44 h42) ?_
  rintro v46 w47 a ⟨rfl, HR48⟩ E_
  replace E := E_ _ rfl; clear E_
  obtain ⟨H_, hc49⟩ := hb45 _ _ HR48 rfl
  replace H := H_; clear H_; try dsimp only [setn, addE, goneL] at H
  refine vr tbok 2 [] [(0, .bool r41)] [] E (by kernel_rfl) trivial ?_
  clear E; intro a E
  refine wpList_nil ?_
  refine th_n ?_
  refine wp_ret ?_
  obtain rfl := Option.some.inj hP
  refine ret1 E rfl rfl ?_
  exact ⟨_, rfl, rfl, H.sel [] rfl⟩
 ·
  replace E := E_; clear E_
  have h50 : ¬ ((r23.2 : Int) = 0) := ne_of_beq_false hb_
  clear hb_; replace hP := ite_f h50 hP
  refine vr tbok 5 [] [(0, .bool false)] [] E (by kernel_rfl) trivial ?_
  clear E; intro a E
  refine wpList_nil ?_
  refine th_n ?_
  refine wp_ret ?_
  obtain rfl := Option.some.inj hP
  refine ret1 E rfl rfl ?_
  exact ⟨_, rfl, rfl, H.sel [] rfl⟩

/-! rejoinder/rejoinderlaw16.PartKnown -/
def law16_PartKnown (N : Nat) : Option Bool :=
  Option.bind (part_Alike N 1 ([false, true, true] : List Bool) ([0, 1, 0] : List Int) ([(⟨0, -1, -2⟩ : Nd), (⟨0, -1, -3⟩ : Nd)] : List Nd) 1 2) fun r23 =>
  Option.bind (part_Alike N 1 ([false, true, true] : List Bool) ([0, 1, 0] : List Int) ([(⟨0, -1, -2⟩ : Nd), (⟨0, -1, -3⟩ : Nd)] : List Nd) 0 1) fun r32 =>
  Option.bind (part_Parts N 1 ([false, true, true] : List Bool) ([0, 1, 0] : List Int) ([(⟨0, -1, -2⟩ : Nd), (⟨0, -1, -3⟩ : Nd)] : List Nd) 0 1) fun r41 =>
  Option.bind (part_Parts N 1 ([false, true, true] : List Bool) ([0, 1, 0] : List Int) ([(⟨0, -1, -2⟩ : Nd), (⟨0, -1, -3⟩ : Nd)] : List Nd) 1 2) fun r53 =>
  Option.bind (part_Parts N 1 ([false, true, true] : List Bool) ([0, 1, 0] : List Int) ([(⟨0, -1, -2⟩ : Nd), (⟨0, -1, -3⟩ : Nd)] : List Nd) 1 3) fun r65 =>
  Option.bind (part_Reached N 1 ([false, true, true] : List Bool) ([0, 1, 0] : List Int) ([(⟨0, -1, -2⟩ : Nd), (⟨0, -1, -3⟩ : Nd)] : List Nd)) fun r77 =>
  Option.bind (law16_awake N) fun r89 =>
  if r89 = true then
    if r23.1 = true then
      if (r23.2 : Int) = 0 then
        if r32.1 = true then
          some false
        else
          if (r32.2 : Int) = 0 then
            if r41.2.1 = true then
              if ((((List.length r41.1) : Nat) : Int) : Int) = 0 then
                if (r41.2.2 : Int) = 0 then
                  if r53.2.1 = true then
                    some false
                  else
                    if (r53.2.2 : Int) = 0 then
                      if (r65.2.2 : Int) = 2 then
                        if (r77.2 : Int) = 0 then
                          Option.bind (kit_SameInts N r77.1 ([0, 1, 2] : List Int)) fun r115 =>
                          some r115
                        else
                          some false
                      else
                        some false
                    else
                      some false
                else
                  some false
              else
                some false
            else
              some false
          else
            some false
      else
        some false
    else
      some false
  else
    some false
set_option maxRecDepth 100000 in
set_option maxHeartbeats 4000000 in
theorem law16_PartKnown_calls {N : Nat} {S Fa : Nat → Prop} {w0 : World} {r : Bool} (H : Hp S Fa w0 w0 []) (hP : law16_PartKnown N  = some r) :
    Calls Try.prog 5 #[] w0 fun e w' => ∃ v, e = .returned v ∧ v = .bool r ∧ Hp S Fa w0 w' [] := by
 refine enterV (n := 105) Try.func5 rfl rfl rfl ?_
 intro a E
 replace E := E.pick [] trivial
 rw [law16_PartKnown] at hP
 refine wp_seq ?_
 refine wp_region_lit ?_
 refine vr tbok 1 [] [] [] E (by kernel_rfl) trivial ?_
 clear E; intro a E
 refine wpList_nil ?_
 refine th_n ?_
 refine wp_seq ?_
 refine wp_region_lit ?_
 refine h_buildSlice (ps := [(0, .bool false), (1, .bool true), (2, .bool true)]) (cs := [.bool false, .bool true, .bool true]) H E rfl rfl tbok rfl rfl (by kernel_rfl) ?_
 intro w2 g1 a hc3 hg5 H_ E_
 replace E := E_ _ rfl; clear E_
 replace H := H_; clear H_; try dsimp only [setn, addE, goneL] at H
 refine h_buildSlice (ps := [(0, .int .i64 0), (1, .int .i64 1), (2, .int .i64 0)]) (cs := [.int .i64 0, .int .i64 1, .int .i64 0]) H E rfl rfl tbok rfl rfl (by kernel_rfl) ?_
 intro w7 g6 a hc8 hg10 H_ E_
 replace E := E_ _ rfl; clear E_
 replace H := H_; clear H_; try dsimp only [setn, addE, goneL] at H
 refine e_build (ps := [(1, .int .i64 (-1)), (2, .int .i64 (-2))]) (v := .agg #[.int .i64 0, .int .i64 (-1), .int .i64 (-2)]) E rfl rfl tbok rfl (by kernel_rfl) rfl ?_
 clear E; intro a E
 refine e_build (ps := [(1, .int .i64 (-1)), (2, .int .i64 (-3))]) (v := .agg #[.int .i64 0, .int .i64 (-1), .int .i64 (-3)]) E rfl rfl tbok rfl (by kernel_rfl) rfl ?_
 clear E; intro a E
 refine h_buildSlice (ps := [(0, .agg #[.int .i64 0, .int .i64 (-1), .int .i64 (-2)]), (1, .agg #[.int .i64 0, .int .i64 (-1), .int .i64 (-3)])]) (cs := [.int .i64 0, .int .i64 (-1), .int .i64 (-2), .int .i64 0, .int .i64 (-1), .int .i64 (-3)]) H E rfl rfl tbok rfl rfl (by kernel_rfl) ?_
 intro w12 g11 a hc13 hg15 H_ E_
 replace E := E_ _ rfl; clear E_
 replace H := H_; clear H_; try dsimp only [setn, addE, goneL] at H
 refine e_build (ps := [(0, .int .i64 1), (1, .slice (some ⟨g1, 0, none⟩) 3 3), (2, .slice (some ⟨g6, 0, none⟩) 3 3), (3, .slice (some ⟨g11, 0, none⟩) 2 2)]) (v := .agg #[.int .i64 1, .slice (some ⟨g1, 0, none⟩) 3 3, .slice (some ⟨g6, 0, none⟩) 3 3, .slice (some ⟨g11, 0, none⟩) 2 2]) E rfl rfl tbok rfl (by kernel_rfl) rfl ?_
 clear E; intro a E
 refine h_alloc H E rfl rfl tbok rfl ?_
 intro w17 g16 a hc18 hg20 H_ E_
 replace E := E_ _ rfl; clear E_
 replace H := H_; clear H_; try dsimp only [setn, addE, goneL] at H
 refine h_store (g := g16) (off := 0) H 3 rfl E rfl rfl rfl rfl tbok rfl rfl rfl rfl rfl ?_
 clear E; intro w21 a hc22 H_ E
 replace H := H_; clear H_; try dsimp only [setn, addE, goneL] at H
 refine wpList_nil ?_
 refine th_n ?_
 refine wp_seq ?_
 refine wp_region_lit ?_
 refine vr tbok 1 [.agg #[.int .i64 1, .slice (some ⟨g1, 0, none⟩) 3 3, .slice (some ⟨g6, 0, none⟩) 3 3, .slice (some ⟨g11, 0, none⟩) 2 2]] [(1, .pointer (some ⟨g16, 0, none⟩)), (24, .agg #[.int .i64 1, .slice (some ⟨g1, 0, none⟩) 3 3, .slice (some ⟨g6, 0, none⟩) 3 3, .slice (some ⟨g11, 0, none⟩) 2 2])] [cellsAt w21 g16 (0) [.int .i64 1, .slice (some ⟨g1, 0, none⟩) 3 3, .slice (some ⟨g6, 0, none⟩) 3 3, .slice (some ⟨g11, 0, none⟩) 2 2]] E (by kernel_rfl) ((H.box 3 rfl).sub 0 _ rfl) ?_
 clear E; intro a E
 replace H := H.boxRow cBool true ([false, true, true] : List Bool) 0 rfl (fun _ _ => ⟨_, _, rfl, rfl, ⟨_, _, rfl, rfl, ⟨_, _, rfl, rfl, rfl⟩⟩⟩) (Nat.le_of_ble_eq_true rfl); try dsimp only [setn, addE, goneL] at H
 replace H := H.boxRow (cInt .i64) true ([0, 1, 0] : List Int) 1 rfl (fun _ _ => ⟨_, _, rfl, rfl, ⟨_, _, rfl, rfl, ⟨_, _, rfl, rfl, rfl⟩⟩⟩) (Nat.le_of_ble_eq_true rfl); try dsimp only [setn, addE, goneL] at H
 replace H := H.boxRow cNode true ([(⟨0, -1, -2⟩ : Nd), (⟨0, -1, -3⟩ : Nd)] : List Nd) 2 rfl (fun _ _ => ⟨_, _, rfl, rfl, ⟨_, _, rfl, rfl, rfl⟩⟩) (Nat.le_of_ble_eq_true rfl); try dsimp only [setn, addE, goneL] at H
 obtain ⟨r23, h24, hP⟩ := bind_inv hP
 obtain ⟨Fa25, Hc26, hb27⟩ := H.call [] [(0, false), (1, false), (2, false)] rfl rfl trivial
 refine e_call E rfl rfl Try.func18 rfl rfl rfl (part_Alike_calls (some ⟨g1, 0, none⟩) 3 (some ⟨g6, 0, none⟩) 3 (some ⟨g11, 0, none⟩) 2 1 ([false, true, true] : List Bool) ([0, 1, 0] : List Int) ([(⟨0, -1, -2⟩ : Nd), (⟨0, -1, -3⟩ : Nd)] : List Nd) 1 2 (H.rcapx 0 rfl) (H.rcapx 1 rfl) (H.rcapx 2 rfl) Hc26 h24) ?_
 rintro v28 w29 a ⟨rfl, HR30⟩ E_
 replace E := E_ _ rfl; clear E_
 obtain ⟨H_, hc31⟩ := hb27 _ _ HR30 rfl
 replace H := H_; clear H_; try dsimp only [setn, addE, goneL] at H
 refine vr tbok 5 [] [(1, .pointer (some ⟨g16, 0, none⟩)), (2, .bool r23.1), (3, .int .i64 r23.2)] [] E (by kernel_rfl) trivial ?_
 clear E; intro a E
 refine wpList_nil ?_
 refine th_n ?_
 refine wp_seq ?_
 refine wp_region_lit ?_
 refine vr tbok 1 [.agg #[.int .i64 1, .slice (some ⟨g1, 0, none⟩) 3 3, .slice (some ⟨g6, 0, none⟩) 3 3, .slice (some ⟨g11, 0, none⟩) 2 2]] [(1, .pointer (some ⟨g16, 0, none⟩)), (2, .bool r23.1), (3, .int .i64 r23.2), (29, .agg #[.int .i64 1, .slice (some ⟨g1, 0, none⟩) 3 3, .slice (some ⟨g6, 0, none⟩) 3 3, .slice (some ⟨g11, 0, none⟩) 2 2])] [cellsAt w29 g16 (0) [.int .i64 1, .slice (some ⟨g1, 0, none⟩) 3 3, .slice (some ⟨g6, 0, none⟩) 3 3, .slice (some ⟨g11, 0, none⟩) 2 2]] E (by kernel_rfl) ((H.box 3 rfl).sub 0 _ rfl) ?_
 clear E; intro a E
 obtain ⟨r32, h33, hP⟩ := bind_inv hP
 obtain ⟨Fa34, Hc35, hb36⟩ := H.call [] [(0, false), (1, false), (2, false)] rfl rfl trivial
 refine e_call E rfl rfl Try.func18 rfl rfl rfl (part_Alike_calls (some ⟨g1, 0, none⟩) 3 (some ⟨g6, 0, none⟩) 3 (some ⟨g11, 0, none⟩) 2 1 ([false, true, true] : List Bool) ([0, 1, 0] : List Int) ([(⟨0, -1, -2⟩ : Nd), (⟨0, -1, -3⟩ : Nd)] : List Nd) 0 1 (H.rcapx 0 rfl) (H.rcapx 1 rfl) (H.rcapx 2 rfl) Hc35 h33) ?_
 rintro v37 w38 a ⟨rfl, HR39⟩ E_
 replace E := E_ _ rfl; clear E_
 obtain ⟨H_, hc40⟩ := hb36 _ _ HR39 rfl
 replace H := H_; clear H_; try dsimp only [setn, addE, goneL] at H
 refine vr tbok 5 [] [(1, .pointer (some ⟨g16, 0, none⟩)), (2, .bool r23.1), (3, .int .i64 r23.2), (4, .bool r32.1), (5, .int .i64 r32.2)] [] E (by kernel_rfl) trivial ?_
 clear E; intro a E
 refine wpList_nil ?_
 refine th_n ?_
 refine wp_seq ?_
 refine wp_region_lit ?_
 refine vr tbok 1 [.agg #[.int .i64 1, .slice (some ⟨g1, 0, none⟩) 3 3, .slice (some ⟨g6, 0, none⟩) 3 3, .slice (some ⟨g11, 0, none⟩) 2 2]] [(1, .pointer (some ⟨g16, 0, none⟩)), (2, .bool r23.1), (3, .int .i64 r23.2), (4, .bool r32.1), (5, .int .i64 r32.2), (34, .agg #[.int .i64 1, .slice (some ⟨g1, 0, none⟩) 3 3, .slice (some ⟨g6, 0, none⟩) 3 3, .slice (some ⟨g11, 0, none⟩) 2 2])] [cellsAt w38 g16 (0) [.int .i64 1, .slice (some ⟨g1, 0, none⟩) 3 3, .slice (some ⟨g6, 0, none⟩) 3 3, .slice (some ⟨g11, 0, none⟩) 2 2]] E (by kernel_rfl) ((H.box 3 rfl).sub 0 _ rfl) ?_
 clear E; intro a E
 obtain ⟨r41, h42, hP⟩ := bind_inv hP
 obtain ⟨Fa43, Hc44, hb45⟩ := H.call [] [(0, false), (1, false), (2, false)] rfl rfl trivial
 refine e_call E rfl rfl Try.func10 rfl rfl rfl (part_Parts_calls (some ⟨g1, 0, none⟩) 3 (some ⟨g6, 0, none⟩) 3 (some ⟨g11, 0, none⟩) 2 1 ([false, true, true] : List Bool) ([0, 1, 0] : List Int) ([(⟨0, -1, -2⟩ : Nd), (⟨0, -1, -3⟩ : Nd)] : List Nd) 0 1 (H.rcapx 0 rfl) (H.rcapx 1 rfl) (H.rcapx 2 rfl) Hc44 h42) ?_
 rintro v46 w47 a ⟨A50, c51, rfl, HR48⟩ E_
 replace E := E_ _ rfl; clear E_
 obtain ⟨H_, hc49⟩ := hb45 _ _ HR48 rfl
 replace H := H_; clear H_; try dsimp only [setn, addE, goneL] at H
 refine vr tbok 7 [] [(1, .pointer (some ⟨g16, 0, none⟩)), (2, .bool r23.1), (3, .int .i64 r23.2), (4, .bool r32.1), (5, .int .i64 r32.2), (6, .slice A50 (List.length r41.1) c51), (7, .bool r41.2.1), (8, .int .i64 r41.2.2)] [] E (by kernel_rfl) trivial ?_
 clear E; intro a E
 refine wpList_nil ?_
 refine th_n ?_
 refine wp_seq ?_
 refine wp_region_lit ?_
 refine vr tbok 1 [.agg #[.int .i64 1, .slice (some ⟨g1, 0, none⟩) 3 3, .slice (some ⟨g6, 0, none⟩) 3 3, .slice (some ⟨g11, 0, none⟩) 2 2]] [(1, .pointer (some ⟨g16, 0, none⟩)), (2, .bool r23.1), (3, .int .i64 r23.2), (4, .bool r32.1), (5, .int .i64 r32.2), (6, .slice A50 (List.length r41.1) c51), (7, .bool r41.2.1), (8, .int .i64 r41.2.2), (40, .agg #[.int .i64 1, .slice (some ⟨g1, 0, none⟩) 3 3, .slice (some ⟨g6, 0, none⟩) 3 3, .slice (some ⟨g11, 0, none⟩) 2 2])] [cellsAt w47 g16 (0) [.int .i64 1, .slice (some ⟨g1, 0, none⟩) 3 3, .slice (some ⟨g6, 0, none⟩) 3 3, .slice (some ⟨g11, 0, none⟩) 2 2]] E (by kernel_rfl) ((H.box 3 rfl).sub 0 _ rfl) ?_
 clear E; intro a E
 obtain ⟨r53, h54, hP⟩ := bind_inv hP
 obtain ⟨Fa55, Hc56, hb57⟩ := H.call [] [(0, false), (1, false), (2, false)] rfl rfl trivial
 refine e_call E rfl rfl Try.func10 rfl rfl rfl (part_Parts_calls (some ⟨g1, 0, none⟩) 3 (some ⟨g6, 0, none⟩) 3 (some ⟨g11, 0, none⟩) 2 1 ([false, true, true] : List Bool) ([0, 1, 0] : List Int) ([(⟨0, -1, -2⟩ : Nd), (⟨0, -1, -3⟩ : Nd)] : List Nd) 1 2 (H.rcapx 0 rfl) (H.rcapx 1 rfl) (H.rcapx 2 rfl) Hc56 h54) ?_
 rintro v58 w59 a ⟨A62, c63, rfl, HR60⟩ E_
 replace E := E_ _ rfl; clear E_
 obtain ⟨H_, hc61⟩ := hb57 _ _ HR60 rfl
 replace H := H_; clear H_; try dsimp only [setn, addE, goneL] at H
 refine vr tbok 7 [] [(1, .pointer (some ⟨g16, 0, none⟩)), (2, .bool r23.1), (3, .int .i64 r23.2), (4, .bool r32.1), (5, .int .i64 r32.2), (6, .slice A50 (List.length r41.1) c51), (7, .bool r41.2.1), (8, .int .i64 r41.2.2), (10, .bool r53.2.1), (11, .int .i64 r53.2.2)] [] E (by kernel_rfl) trivial ?_
 clear E; intro a E
 refine wpList_nil ?_
 refine th_n ?_
 refine wp_seq ?_
 refine wp_region_lit ?_
 refine vr tbok 1 [.agg #[.int .i64 1, .slice (some ⟨g1, 0, none⟩) 3 3, .slice (some ⟨g6, 0, none⟩) 3 3, .slice (some ⟨g11, 0, none⟩) 2 2]] [(1, .pointer (some ⟨g16, 0, none⟩)), (2, .bool r23.1), (3, .int .i64 r23.2), (4, .bool r32.1), (5, .int .i64 r32.2), (6, .slice A50 (List.length r41.1) c51), (7, .bool r41.2.1), (8, .int .i64 r41.2.2), (10, .bool r53.2.1), (11, .int .i64 r53.2.2), (46, .agg #[.int .i64 1, .slice (some ⟨g1, 0, none⟩) 3 3, .slice (some ⟨g6, 0, none⟩) 3 3, .slice (some ⟨g11, 0, none⟩) 2 2])] [cellsAt w59 g16 (0) [.int .i64 1, .slice (some ⟨g1, 0, none⟩) 3 3, .slice (some ⟨g6, 0, none⟩) 3 3, .slice (some ⟨g11, 0, none⟩) 2 2]] E (by kernel_rfl) ((H.box 3 rfl).sub 0 _ rfl) ?_
 clear E; intro a E
 obtain ⟨r65, h66, hP⟩ := bind_inv hP
 obtain ⟨Fa67, Hc68, hb69⟩ := H.call [] [(0, false), (1, false), (2, false)] rfl rfl trivial
 refine e_call E rfl rfl Try.func10 rfl rfl rfl (part_Parts_calls (some ⟨g1, 0, none⟩) 3 (some ⟨g6, 0, none⟩) 3 (some ⟨g11, 0, none⟩) 2 1 ([false, true, true] : List Bool) ([0, 1, 0] : List Int) ([(⟨0, -1, -2⟩ : Nd), (⟨0, -1, -3⟩ : Nd)] : List Nd) 1 3 (H.rcapx 0 rfl) (H.rcapx 1 rfl) (H.rcapx 2 rfl) Hc68 h66) ?_
 rintro v70 w71 a ⟨A74, c75, rfl, HR72⟩ E_
 replace E := E_ _ rfl; clear E_
 obtain ⟨H_, hc73⟩ := hb69 _ _ HR72 rfl
 replace H := H_; clear H_; try dsimp only [setn, addE, goneL] at H
 refine vr tbok 7 [] [(1, .pointer (some ⟨g16, 0, none⟩)), (2, .bool r23.1), (3, .int .i64 r23.2), (4, .bool r32.1), (5, .int .i64 r32.2), (6, .slice A50 (List.length r41.1) c51), (7, .bool r41.2.1), (8, .int .i64 r41.2.2), (10, .bool r53.2.1), (11, .int .i64 r53.2.2), (14, .int .i64 r65.2.2)] [] E (by kernel_rfl) trivial ?_
 clear E; intro a E
 refine wpList_nil ?_
 refine th_n ?_
 refine wp_seq ?_
 refine wp_region_lit ?_
 refine vr tbok 1 [.agg #[.int .i64 1, .slice (some ⟨g1, 0, none⟩) 3 3, .slice (some ⟨g6, 0, none⟩) 3 3, .slice (some ⟨g11, 0, none⟩) 2 2]] [(2, .bool r23.1), (3, .int .i64 r23.2), (4, .bool r32.1), (5, .int .i64 r32.2), (6, .slice A50 (List.length r41.1) c51), (7, .bool r41.2.1), (8, .int .i64 r41.2.2), (10, .bool r53.2.1), (11, .int .i64 r53.2.2), (14, .int .i64 r65.2.2), (52, .agg #[.int .i64 1, .slice (some ⟨g1, 0, none⟩) 3 3, .slice (some ⟨g6, 0, none⟩) 3 3, .slice (some ⟨g11, 0, none⟩) 2 2])] [cellsAt w71 g16 (0) [.int .i64 1, .slice (some ⟨g1, 0, none⟩) 3 3, .slice (some ⟨g6, 0, none⟩) 3 3, .slice (some ⟨g11, 0, none⟩) 2 2]] E (by kernel_rfl) ((H.box 3 rfl).sub 0 _ rfl) ?_
 clear E; intro a E
 obtain ⟨r77, h78, hP⟩ := bind_inv hP
 obtain ⟨Fa79, Hc80, hb81⟩ := H.call [] [(0, false), (1, false), (2, false)] rfl rfl trivial
 refine e_call E rfl rfl Try.func14 rfl rfl rfl (part_Reached_calls (some ⟨g1, 0, none⟩) 3 (some ⟨g6, 0, none⟩) 3 (some ⟨g11, 0, none⟩) 2 1 ([false, true, true] : List Bool) ([0, 1, 0] : List Int) ([(⟨0, -1, -2⟩ : Nd), (⟨0, -1, -3⟩ : Nd)] : List Nd) (H.rcapx 0 rfl) (H.rcapx 1 rfl) (H.rcapx 2 rfl) Hc80 h78) ?_
 rintro v82 w83 a ⟨A86, c87, rfl, HR84⟩ E_
 replace E := E_ _ rfl; clear E_
 obtain ⟨H_, hc85⟩ := hb81 _ _ HR84 rfl
 replace H := H_; clear H_; try dsimp only [setn, addE, goneL] at H
 refine vr tbok 5 [] [(2, .bool r23.1), (3, .int .i64 r23.2), (4, .bool r32.1), (5, .int .i64 r32.2), (6, .slice A50 (List.length r41.1) c51), (7, .bool r41.2.1), (8, .int .i64 r41.2.2), (10, .bool r53.2.1), (11, .int .i64 r53.2.2), (14, .int .i64 r65.2.2), (15, .slice A86 (List.length r77.1) c87), (16, .int .i64 r77.2)] [] E (by kernel_rfl) trivial ?_
 clear E; intro a E
 refine wpList_nil ?_
 refine th_n ?_
 refine wp_seq ?_
 refine wp_region_lit ?_
 obtain ⟨r89, h90, hP⟩ := bind_inv hP
 obtain ⟨Fa91, Hc92, hb93⟩ := H.call [] [] rfl rfl trivial
 refine e_call E rfl rfl Try.func6 rfl rfl rfl (law16_awake_calls    Hc92 h90) ?_
 rintro v94 w95 a ⟨rfl, HR96⟩ E_
 replace E := E_ _ rfl; clear E_
 obtain ⟨H_, hc97⟩ := hb93 _ _ HR96 rfl
 replace H := H_; clear H_; try dsimp only [setn, addE, goneL] at H
 refine vr tbok 1 [] [(2, .bool r23.1), (3, .int .i64 r23.2), (4, .bool r32.1), (5, .int .i64 r32.2), (6, .slice A50 (List.length r41.1) c51), (7, .bool r41.2.1), (8, .int .i64 r41.2.2), (10, .bool r53.2.1), (11, .int .i64 r53.2.2), (14, .int .i64 r65.2.2), (15, .slice A86 (List.length r77.1) c87), (16, .int .i64 r77.2), (57, .bool r89)] [] E (by kernel_rfl) trivial ?_
 clear E; intro a E
 refine E.cases (t := 57) rfl (fun hb_ E_ => ?_) (fun hb_ E_ => ?_)
 ·
  replace E := E_; clear E_
  have h98 : r89 = true := hb_
  clear hb_; replace hP := ite_t h98 hP
  refine vr tbok 3 [] [(3, .int .i64 r23.2), (4, .bool r32.1), (5, .int .i64 r32.2), (6, .slice A50 (List.length r41.1) c51), (7, .bool r41.2.1), (8, .int .i64 r41.2.2), (10, .bool r53.2.1), (11, .int .i64 r53.2.2), (14, .int .i64 r65.2.2), (15, .slice A86 (List.length r77.1) c87), (16, .int .i64 r77.2), (60, .bool r23.1)] [] E (by kernel_rfl) trivial ?_
  clear E; intro a E
  refine E.cases (t := 60) rfl (fun hb_ E_ => ?_) (fun hb_ E_ => ?_)
  ·
   replace E := E_; clear E_
   have h99 : r23.1 = true := hb_
   clear hb_; replace hP := ite_t h99 hP
   refine vr tbok 4 [] [(4, .bool r32.1), (5, .int .i64 r32.2), (6, .slice A50 (List.length r41.1) c51), (7, .bool r41.2.1), (8, .int .i64 r41.2.2), (10, .bool r53.2.1), (11, .int .i64 r53.2.2), (14, .int .i64 r65.2.2), (15, .slice A86 (List.length r77.1) c87), (16, .int .i64 r77.2), (64, .bool ((r23.2 : Int) == 0))] [] E (by kernel_rfl) trivial ?_
   clear E; intro a E
   refine E.cases (t := 64) rfl (fun hb_ E_ => ?_) (fun hb_ E_ => ?_)
   ·
    replace E := E_; clear E_
    have h100 : (r23.2 : Int) = 0 := eq_of_beq hb_
    clear hb_; replace hP := ite_t h100 hP
    refine vr tbok 4 [] [(5, .int .i64 r32.2), (6, .slice A50 (List.length r41.1) c51), (7, .bool r41.2.1), (8, .int .i64 r41.2.2), (10, .bool r53.2.1), (11, .int .i64 r53.2.2), (14, .int .i64 r65.2.2), (15, .slice A86 (List.length r77.1) c87), (16, .int .i64 r77.2), (68, .bool (!r32.1))] [] E (by kernel_rfl) trivial ?_
    clear E; intro a E
    refine E.cases (t := 68) rfl (fun hb_ E_ => ?_) (fun hb_ E_ => ?_)
    ·
     replace E := E_; clear E_
     have h101 : ¬ (r32.1 = true) := (ne_true_of_eq_false (not_t hb_))
     clear hb_; replace hP := ite_f h101 hP
     refine vr tbok 4 [] [(6, .slice A50 (List.length r41.1) c51), (7, .bool r41.2.1), (8, .int .i64 r41.2.2), (10, .bool r53.2.1), (11, .int .i64 r53.2.2), (14, .int .i64 r65.2.2), (15, .slice A86 (List.length r77.1) c87), (16, .int .i64 r77.2), (72, .bool ((r32.2 : Int) == 0))] [] E (by kernel_rfl) trivial ?_
     clear E; intro a E
     refine E.cases (t := 72) rfl (fun hb_ E_ => ?_) (fun hb_ E_ => ?_)
     ·
      replace E := E_; clear E_
      have h102 : (r32.2 : Int) = 0 := eq_of_beq hb_
      clear hb_; replace hP := ite_t h102 hP
      refine vr tbok 3 [] [(6, .slice A50 (List.length r41.1) c51), (8, .int .i64 r41.2.2), (10, .bool r53.2.1), (11, .int .i64 r53.2.2), (14, .int .i64 r65.2.2), (15, .slice A86 (List.length r77.1) c87), (16, .int .i64 r77.2), (75, .bool r41.2.1)] [] E (by kernel_rfl) trivial ?_
      clear E; intro a E
      refine E.cases (t := 75) rfl (fun hb_ E_ => ?_) (fun hb_ E_ => ?_)
      ·
       replace E := E_; clear E_
       have h103 : r41.2.1 = true := hb_
       clear hb_; replace hP := ite_t h103 hP
       refine vr tbok 5 [] [(8, .int .i64 r41.2.2), (10, .bool r53.2.1), (11, .int .i64 r53.2.2), (14, .int .i64 r65.2.2), (15, .slice A86 (List.length r77.1) c87), (16, .int .i64 r77.2), (80, .bool (((((List.length r41.1) : Nat) : Int) : Int) == 0))] [] E (by kernel_rfl) trivial ?_
       clear E; intro a E
       refine E.cases (t := 80) rfl (fun hb_ E_ => ?_) (fun hb_ E_ => ?_)
       ·
        replace E := E_; clear E_
        have h104 : ((((List.length r41.1) : Nat) : Int) : Int) = 0 := eq_of_beq hb_
        clear hb_; replace hP := ite_t h104 hP
        refine vr tbok 4 [] [(10, .bool r53.2.1), (11, .int .i64 r53.2.2), (14, .int .i64 r65.2.2), (15, .slice A86 (List.length r77.1) c87), (16, .int .i64 r77.2), (84, .bool ((r41.2.2 : Int) == 0))] [] E (by kernel_rfl) trivial ?_
        clear E; intro a E
        refine E.cases (t := 84) rfl (fun hb_ E_ => ?_) (fun hb_ E_ => ?_)
        ·
         replace E := E_; clear E_
         have h105 : (r41.2.2 : Int) = 0 := eq_of_beq hb_
         clear hb_; replace hP := ite_t h105 hP
         refine vr tbok 4 [] [(11, .int .i64 r53.2.2), (14, .int .i64 r65.2.2), (15, .slice A86 (List.length r77.1) c87), (16, .int .i64 r77.2), (88, .bool (!r53.2.1))] [] E (by kernel_rfl) trivial ?_
         clear E; intro a E
         refine E.cases (t := 88) rfl (fun hb_ E_ => ?_) (fun hb_ E_ => ?_)
         ·
          replace E := E_; clear E_
          have h106 : ¬ (r53.2.1 = true) := (ne_true_of_eq_false (not_t hb_))
          clear hb_; replace hP := ite_f h106 hP
          refine vr tbok 4 [] [(14, .int .i64 r65.2.2), (15, .slice A86 (List.length r77.1) c87), (16, .int .i64 r77.2), (92, .bool ((r53.2.2 : Int) == 0))] [] E (by kernel_rfl) trivial ?_
          clear E; intro a E
          refine E.cases (t := 92) rfl (fun hb_ E_ => ?_) (fun hb_ E_ => ?_)
          ·
           replace E := E_; clear E_
           have h107 : (r53.2.2 : Int) = 0 := eq_of_beq hb_
           clear hb_; replace hP := ite_t h107 hP
           refine vr tbok 4 [] [(15, .slice A86 (List.length r77.1) c87), (16, .int .i64 r77.2), (96, .bool ((r65.2.2 : Int) == 2))] [] E (by kernel_rfl) trivial ?_
           clear E; intro a E
           refine E.cases (t := 96) rfl (fun hb_ E_ => ?_) (fun hb_ E_ => ?_)
           ·
            replace E := E_; clear E_
            have h108 : (r65.2.2 : Int) = 2 := eq_of_beq hb_
            clear hb_; replace hP := ite_t h108 hP
            refine vr tbok 4 [] [(15, .slice A86 (List.length r77.1) c87), (100, .bool ((r77.2 : Int) == 0))] [] E (by kernel_rfl) trivial ?_
            clear E; intro a E
            refine E.cases (t := 100) rfl (fun hb_ E_ => ?_) (fun hb_ E_ => ?_)
            ·
             replace E := E_; clear E_
             have h109 : (r77.2 : Int) = 0 := eq_of_beq hb_
             clear hb_; replace hP := ite_t h109 hP
             refine vr tbok 1 [] [(100, .bool true), (101, .slice A86 (List.length r77.1) c87)] [] E (by kernel_rfl) trivial ?_
             clear E; intro a E
             refine h_buildSlice (ps := [(0, .int .i64 0), (1, .int .i64 1), (2, .int .i64 2)]) (cs := [.int .i64 0, .int .i64 1, .int .i64 2]) H E rfl rfl tbok rfl rfl (by kernel_rfl) ?_
             intro w111 g110 a hc112 hg114 H_ E_
             replace E := E_ _ rfl; clear E_
             replace H := H_; clear H_; try dsimp only [setn, addE, goneL] at H
             replace H := H.boxRow (cInt .i64) true ([0, 1, 2] : List Int) 8 rfl (fun _ _ => ⟨_, _, rfl, rfl, ⟨_, _, rfl, rfl, ⟨_, _, rfl, rfl, rfl⟩⟩⟩) (Nat.le_of_ble_eq_true rfl); try dsimp only [setn, addE, goneL] at H
             obtain ⟨r115, h116, hP⟩ := bind_inv hP
             obtain ⟨Fa117, Hc118, hb119⟩ := H.call [] [(7, false), (8, false)] rfl rfl trivial
             refine e_call E rfl rfl Try.func16 rfl rfl rfl (kit_SameInts_calls A86 c87 (some ⟨g110, 0, none⟩) 3 r77.1 ([0, 1, 2] : List Int) (H.rcap 7 rfl) (H.rcapx 8 rfl) Hc118 h116) ?_
             rintro v120 w121 a ⟨rfl, HR122⟩ E_
             replace E := E_ _ rfl; clear E_
             obtain ⟨H_, hc123⟩ := hb119 _ _ HR122 rfl
             replace H := H_; clear H_; try dsimp only [setn, addE, goneL] at H
             refine vr tbok 2 [] [(0, .bool r115)] [] E (by kernel_rfl) trivial ?_
             clear E; intro a E
             refine wpList_nil ?_
             refine th_n ?_
             refine wp_ret ?_
             obtain rfl := Option.some.inj hP
             refine ret1 E rfl rfl ?_
             exact ⟨_, rfl, rfl, H.sel [] rfl⟩
            ·
             replace E := E_; clear E_
             have h124 : ¬ ((r77.2 : Int) = 0) := ne_of_beq_false hb_
             clear hb_; replace hP := ite_f h124 hP
             refine vr tbok 5 [] [(0, .bool false)] [] E (by kernel_rfl) trivial ?_
             clear E; intro a E
             refine wpList_nil ?_
             refine th_n ?_
             refine wp_ret ?_
             obtain rfl := Option.some.inj hP
             refine ret1 E rfl rfl ?_
             exact ⟨_, rfl, rfl, H.sel [] rfl⟩
           ·
            replace E := E_; clear E_
            have h125 : ¬ ((r65.2.2 : Int) = 2) := ne_of_beq_false hb_
            clear hb_; replace hP := ite_f h125 hP
            refine vr tbok 9 [] [(0, .bool false)] [] E (by kernel_rfl) trivial ?_
            clear E; intro a E
            refine wpList_nil ?_
            refine th_n ?_
            refine wp_ret ?_
            obtain rfl := Option.some.inj hP
            refine ret1 E rfl rfl ?_
            exact ⟨_, rfl, rfl, H.sel [] rfl⟩
          ·
           replace E := E_; clear E_
           have h126 : ¬ ((r53.2.2 : Int) = 0) := ne_of_beq_false hb_
           clear hb_; replace hP := ite_f h126 hP
           refine vr tbok 13 [] [(0, .bool false)] [] E (by kernel_rfl) trivial ?_
           clear E; intro a E
           refine wpList_nil ?_
           refine th_n ?_
           refine wp_ret ?_
           obtain rfl := Option.some.inj hP
           refine ret1 E rfl rfl ?_
           exact ⟨_, rfl, rfl, H.sel [] rfl⟩
         ·
          replace E := E_; clear E_
          have h127 : r53.2.1 = true := (not_f hb_)
          clear hb_; replace hP := ite_t h127 hP
          refine vr tbok 17 [] [(0, .bool false)] [] E (by kernel_rfl) trivial ?_
          clear E; intro a E
          refine wpList_nil ?_
          refine th_n ?_
          refine wp_ret ?_
          obtain rfl := Option.some.inj hP
          refine ret1 E rfl rfl ?_
          exact ⟨_, rfl, rfl, H.sel [] rfl⟩
        ·
         replace E := E_; clear E_
         have h128 : ¬ ((r41.2.2 : Int) = 0) := ne_of_beq_false hb_
         clear hb_; replace hP := ite_f h128 hP
         refine vr tbok 21 [] [(0, .bool false)] [] E (by kernel_rfl) trivial ?_
         clear E; intro a E
         refine wpList_nil ?_
         refine th_n ?_
         refine wp_ret ?_
         obtain rfl := Option.some.inj hP
         refine ret1 E rfl rfl ?_
         exact ⟨_, rfl, rfl, H.sel [] rfl⟩
       ·
        replace E := E_; clear E_
        have h129 : ¬ (((((List.length r41.1) : Nat) : Int) : Int) = 0) := ne_of_beq_false hb_
        clear hb_; replace hP := ite_f h129 hP
        refine vr tbok 25 [] [(0, .bool false)] [] E (by kernel_rfl) trivial ?_
        clear E; intro a E
        refine wpList_nil ?_
        refine th_n ?_
        refine wp_ret ?_
        obtain rfl := Option.some.inj hP
        refine ret1 E rfl rfl ?_
        exact ⟨_, rfl, rfl, H.sel [] rfl⟩
      ·
       replace E := E_; clear E_
       have h130 : ¬ (r41.2.1 = true) := (ne_true_of_eq_false hb_)
       clear hb_; replace hP := ite_f h130 hP
       refine vr tbok 30 [] [(0, .bool false)] [] E (by kernel_rfl) trivial ?_
       clear E; intro a E
       refine wpList_nil ?_
       refine th_n ?_
       refine wp_ret ?_
       obtain rfl := Option.some.inj hP
       refine ret1 E rfl rfl ?_
       exact ⟨_, rfl, rfl, H.sel [] rfl⟩
     ·
      replace E := E_; clear E_
      have h131 : ¬ ((r32.2 : Int) = 0) := ne_of_beq_false hb_
      clear hb_; replace hP := ite_f h131 hP
      refine vr tbok 33 [] [(0, .bool false)] [] E (by kernel_rfl) trivial ?_
      clear E; intro a E
      refine wpList_nil ?_
      refine th_n ?_
      refine wp_ret ?_
      obtain rfl := Option.some.inj hP
      refine ret1 E rfl rfl ?_
      exact ⟨_, rfl, rfl, H.sel [] rfl⟩
    ·
     replace E := E_; clear E_
     have h132 : r32.1 = true := (not_f hb_)
     clear hb_; replace hP := ite_t h132 hP
     refine vr tbok 37 [] [(0, .bool false)] [] E (by kernel_rfl) trivial ?_
     clear E; intro a E
     refine wpList_nil ?_
     refine th_n ?_
     refine wp_ret ?_
     obtain rfl := Option.some.inj hP
     refine ret1 E rfl rfl ?_
     exact ⟨_, rfl, rfl, H.sel [] rfl⟩
   ·
    replace E := E_; clear E_
    have h133 : ¬ ((r23.2 : Int) = 0) := ne_of_beq_false hb_
    clear hb_; replace hP := ite_f h133 hP
    refine vr tbok 41 [] [(0, .bool false)] [] E (by kernel_rfl) trivial ?_
    clear E; intro a E
    refine wpList_nil ?_
    refine th_n ?_
    refine wp_ret ?_
    obtain rfl := Option.some.inj hP
    refine ret1 E rfl rfl ?_
    exact ⟨_, rfl, rfl, H.sel [] rfl⟩
  ·
   replace E := E_; clear E_
   have h134 : ¬ (r23.1 = true) := (ne_true_of_eq_false hb_)
   clear hb_; replace hP := ite_f h134 hP
   refine vr tbok 45 [] [(0, .bool false)] [] E (by kernel_rfl) trivial ?_
   clear E; intro a E
   refine wpList_nil ?_
   refine th_n ?_
   refine wp_ret ?_
   obtain rfl := Option.some.inj hP
   refine ret1 E rfl rfl ?_
   exact ⟨_, rfl, rfl, H.sel [] rfl⟩
 ·
  replace E := E_; clear E_
  have h135 : ¬ (r89 = true) := (ne_true_of_eq_false hb_)
  clear hb_; replace hP := ite_f h135 hP
  refine vr tbok 48 [] [(0, .bool false)] [] E (by kernel_rfl) trivial ?_
  clear E; intro a E
  refine wpList_nil ?_
  refine th_n ?_
  refine wp_ret ?_
  obtain rfl := Option.some.inj hP
  refine ret1 E rfl rfl ?_
  exact ⟨_, rfl, rfl, H.sel [] rfl⟩

end Go.V
