/- Plain functions, and the calls that give them. -/
import Derived.Test.YteemfefeaphfdaaA2
set_option linter.all false
set_option linter.unusedVariables false
set_option linter.unnecessarySimpa false
set_option linter.unusedSimpArgs false
namespace Go.V
open Go Go.Proofs
/-! rejoinder/lang.Shortest -/
def lang_Shortest (N : Nat) (aProps : Int) (aAccept : List Bool) (aGuard : List Int) (aNodes : List Nd) : Option ((List Int) × Bool × Int) :=
  Option.bind (lang_search N aProps aAccept aGuard aNodes true true) fun r18 =>
  some (r18.1, r18.2.1, r18.2.2)
set_option maxRecDepth 100000 in
set_option maxHeartbeats 4000000 in
theorem lang_Shortest_calls {N : Nat} {S Fa : Nat → Prop} {w0 : World} {r : (List Int) × Bool × Int} (A1 : Option Addr) (c2 : Nat) (A5 : Option Addr) (c6 : Nat) (A9 : Option Addr) (c10 : Nat) (aProps : Int) (aAccept : List Bool) (aGuard : List Int) (aNodes : List Nd) (hk3 : List.length aAccept ≤ c2) (hk7 : List.length aGuard ≤ c6) (hk11 : List.length aNodes ≤ c10) (H : Hp S Fa w0 w0 [.ro false cBool A1 aAccept, .ro false (cInt .i64) A5 aGuard, .ro false cNode A9 aNodes]) (hP : lang_Shortest N aProps aAccept aGuard aNodes = some r) :
    Calls Try.prog 13 #[.agg #[.int .i64 aProps, .slice A1 (List.length aAccept) c2, .slice A5 (List.length aGuard) c6, .slice A9 (List.length aNodes) c10]] w0 fun e w' => ∃ v, e = .returned v ∧ ∃ (A30 : Option Addr) (c31 : Nat), v = .tuple #[.slice A30 (List.length r.1) c31, .bool r.2.1, .int .i64 r.2.2] ∧ Hp S Fa w0 w' [.row true (cInt .u8) 52 A30 c31 r.1] := by
 refine enterV (n := 10) Try.func13 rfl rfl rfl ?_
 intro a E
 replace E := E.pick [(0, .agg #[.int .i64 aProps, .slice A1 (List.length aAccept) c2, .slice A5 (List.length aGuard) c6, .slice A9 (List.length aNodes) c10])] ⟨rfl, trivial⟩
 rw [lang_Shortest] at hP
 refine wp_seq ?_
 refine wp_region_lit ?_
 refine h_box H E rfl rfl rfl ?_
 intro w14 g13 a hc15 hg17 H_ E_
 replace E := E_ _ rfl; clear E_
 replace H := H_; clear H_; try dsimp only [setn, addE, goneL] at H
 refine vn tbok 3 [] [] [] E (by kernel_rfl) (by kernel_rfl) trivial ?_
 clear E; intro a E
 refine wpList_nil ?_
 refine th_n ?_
 refine wp_seq ?_
 refine wp_region_lit ?_
 refine vn tbok 1 [.agg #[.int .i64 aProps, .slice A1 (List.length aAccept) c2, .slice A5 (List.length aGuard) c6, .slice A9 (List.length aNodes) c10]] [(5, .agg #[.int .i64 aProps, .slice A1 (List.length aAccept) c2, .slice A5 (List.length aGuard) c6, .slice A9 (List.length aNodes) c10])] [cellsAt w14 g13 (0) [.int .i64 aProps, .slice A1 (List.length aAccept) c2, .slice A5 (List.length aGuard) c6, .slice A9 (List.length aNodes) c10]] E (by kernel_rfl) (by kernel_rfl) ((H.box 3 rfl).sub 0 _ rfl) ?_
 clear E; intro a E
 obtain ⟨r18, h19, hP⟩ := bind_inv hP
 obtain ⟨Fa20, Hc21, hb22⟩ := H.call [] [(0, false), (1, false), (2, false)] rfl rfl trivial
 refine e_call E rfl rfl Try.func42 rfl rfl rfl (lang_search_calls A1 c2 A5 c6 A9 c10 aProps aAccept aGuard aNodes true true hk3 hk7 hk11 Hc21 h19) ?_
 rintro v23 w24 a ⟨A27, c28, rfl, HR25⟩ E_
 replace E := E_ _ rfl; clear E_
 obtain ⟨H_, hc26⟩ := hb22 _ _ HR25 rfl
 replace H := H_; clear H_; try dsimp only [setn, addE, goneL] at H
 refine vn tbok 6 [] [(2, .slice A27 (List.length r18.1) c28), (3, .bool r18.2.1), (4, .int .i64 r18.2.2)] [] E (by kernel_rfl) (by kernel_rfl) trivial ?_
 clear E; intro a E
 refine wpList_nil ?_
 refine th_n ?_
 refine wp_ret ?_
 obtain rfl := Option.some.inj hP
 refine ret3 E rfl rfl rfl rfl ?_
 exact ⟨_, rfl, A27, c28, rfl, H.sel [4] rfl⟩

/-! (rejoinder/lang.count).add -/
def lang_count_add (N : Nat) (c : Int × Bool) (d : Int × Bool) : Option (Int × Bool) :=
  ask (0 ≤ c.1 ∧ 0 ≤ d.1 ∧ 0 ≤ (0 : Int) ∧ (0 : Int) ≤ 1) <|
  if c.2 = true then
    some ((c.1 + d.1 + (0 : Int)) % 18446744073709551616, true)
  else
    if d.2 = true then
      some ((c.1 + d.1 + (0 : Int)) % 18446744073709551616, true)
    else
      some ((c.1 + d.1 + (0 : Int)) % 18446744073709551616, ((c.1 + d.1 + (0 : Int)) / 18446744073709551616 : Int) == 1)
set_option maxRecDepth 100000 in
set_option maxHeartbeats 4000000 in
theorem lang_count_add_calls {N : Nat} {S Fa : Nat → Prop} {w0 : World} {r : Int × Bool} (c : Int × Bool) (d : Int × Bool) (H : Hp S Fa w0 w0 []) (hP : lang_count_add N c d = some r) :
    Calls Try.prog 44 #[.agg #[.int .u64 c.1, .bool c.2], .agg #[.int .u64 d.1, .bool d.2]] w0 fun e w' => ∃ v, e = .returned v ∧ v = .agg #[.int .u64 r.1, .bool r.2] ∧ Hp S Fa w0 w' [] := by
 refine enterV (n := 27) Try.func44 rfl rfl rfl ?_
 intro a E
 replace E := E.pick [(0, .agg #[.int .u64 c.1, .bool c.2]), (1, .agg #[.int .u64 d.1, .bool d.2])] ⟨rfl, rfl, trivial⟩
 rw [lang_count_add] at hP
 refine wp_seq ?_
 refine wp_region_lit ?_
 refine h_box H E rfl rfl rfl ?_
 intro w2 g1 a hc3 hg5 H_ E_
 replace E := E_ _ rfl; clear E_
 replace H := H_; clear H_; try dsimp only [setn, addE, goneL] at H
 refine h_box H E rfl rfl rfl ?_
 intro w7 g6 a hc8 hg10 H_ E_
 replace E := E_ _ rfl; clear E_
 replace H := H_; clear H_; try dsimp only [setn, addE, goneL] at H
 refine h_alloc H E rfl rfl tbok rfl ?_
 intro w12 g11 a hc13 hg15 H_ E_
 replace E := E_ _ rfl; clear E_
 replace H := H_; clear H_; try dsimp only [setn, addE, goneL] at H
 refine wpList_nil ?_
 refine th_n ?_
 refine wp_seq ?_
 refine wp_region_lit ?_
 refine vn tbok 4 [.int .u64 c.1, .int .u64 d.1] [(9, .int .u64 c.1), (11, .int .u64 d.1)] [World.cell? w12 ⟨g1, 0, none⟩ = some (.int .u64 c.1), World.cell? w12 ⟨g6, 0, none⟩ = some (.int .u64 d.1)] E (by kernel_rfl) (by kernel_rfl) ⟨(H.box 0 rfl).cell (j := 0) rfl, (H.box 1 rfl).cell (j := 0) rfl⟩ ?_
 clear E; intro a E
 obtain ⟨g16, hP⟩ := ask_inv hP
 refine e_add64 (x := c.1) (y := d.1) (c := (0 : Int)) E rfl rfl Try.func64 rfl rfl (by kernel_rfl) (by kernel_rfl) rfl g16 rfl ?_
 clear E; intro a E
 refine vn tbok 5 [] [(5, .int .u64 ((c.1 + d.1 + (0 : Int)) % 18446744073709551616)), (6, .int .u64 ((c.1 + d.1 + (0 : Int)) / 18446744073709551616))] [] E (by kernel_rfl) (by kernel_rfl) trivial ?_
 clear E; intro a E
 refine wpList_nil ?_
 refine th_n ?_
 refine wp_seq ?_
 refine wp_region_lit ?_
 refine vn tbok 4 [.bool c.2] [(15, .int .u64 ((c.1 + d.1 + (0 : Int)) % 18446744073709551616)), (18, .bool c.2)] [World.cell? w12 ⟨g1, 1, none⟩ = some (.bool c.2)] E (by kernel_rfl) (by kernel_rfl) ((H.box 0 rfl).cell (j := 1) rfl) ?_
 clear E; intro a E
 refine E.cases (t := 18) rfl (fun hb_ E_ => ?_) (fun hb_ E_ => ?_)
 ·
  replace E := E_; clear E_
  have h17 : c.2 = true := hb_
  clear hb_; replace hP := ite_t h17 hP
  refine vn tbok 7 [] [(25, .bool true)] [] E (by kernel_rfl) (by kernel_rfl) trivial ?_
  clear E; intro a E
  refine e_build (ps := [(0, .int .u64 ((c.1 + d.1 + (0 : Int)) % 18446744073709551616)), (1, .bool true)]) (v := .agg #[.int .u64 ((c.1 + d.1 + (0 : Int)) % 18446744073709551616), .bool true]) E rfl rfl tbok rfl (by kernel_rfl) rfl ?_
  clear E; intro a E
  refine h_store (g := g11) (off := 0) H 2 rfl E rfl rfl rfl rfl tbok rfl rfl rfl rfl rfl ?_
  clear E; intro w18 a hc19 H_ E
  replace H := H_; clear H_; try dsimp only [setn, addE, goneL] at H
  refine wpList_nil ?_
  refine th_n ?_
  refine wp_ret ?_
  obtain rfl := Option.some.inj hP
  refine retV E [.cell 4 75] [.agg #[.int .u64 ((c.1 + d.1 + (0 : Int)) % 18446744073709551616), .bool true]] rfl ⟨⟨_, rfl, run_loadBx tbok (H.box 2 rfl) rfl rfl rfl 0 rfl rfl⟩, trivial⟩ (.inl rfl) ?_
  exact ⟨_, rfl, rfl, H.sel [] rfl⟩
 replace E := E_; clear E_
 have h20 : ¬ (c.2 = true) := (ne_true_of_eq_false hb_)
 clear hb_; replace hP := ite_f h20 hP
 refine vn tbok 4 [.bool d.2] [(22, .bool d.2)] [World.cell? w12 ⟨g6, 1, none⟩ = some (.bool d.2)] E (by kernel_rfl) (by kernel_rfl) ((H.box 1 rfl).cell (j := 1) rfl) ?_
 clear E; intro a E
 refine E.cases (t := 22) rfl (fun hb_ E_ => ?_) (fun hb_ E_ => ?_)
 ·
  replace E := E_; clear E_
  have h21 : d.2 = true := hb_
  clear hb_; replace hP := ite_t h21 hP
  refine vn tbok 3 [] [(25, .bool true)] [] E (by kernel_rfl) (by kernel_rfl) trivial ?_
  clear E; intro a E
  refine e_build (ps := [(0, .int .u64 ((c.1 + d.1 + (0 : Int)) % 18446744073709551616)), (1, .bool true)]) (v := .agg #[.int .u64 ((c.1 + d.1 + (0 : Int)) % 18446744073709551616), .bool true]) E rfl rfl tbok rfl (by kernel_rfl) rfl ?_
  clear E; intro a E
  refine h_store (g := g11) (off := 0) H 2 rfl E rfl rfl rfl rfl tbok rfl rfl rfl rfl rfl ?_
  clear E; intro w22 a hc23 H_ E
  replace H := H_; clear H_; try dsimp only [setn, addE, goneL] at H
  refine wpList_nil ?_
  refine th_n ?_
  refine wp_ret ?_
  obtain rfl := Option.some.inj hP
  refine retV E [.cell 4 75] [.agg #[.int .u64 ((c.1 + d.1 + (0 : Int)) % 18446744073709551616), .bool true]] rfl ⟨⟨_, rfl, run_loadBx tbok (H.box 2 rfl) rfl rfl rfl 0 rfl rfl⟩, trivial⟩ (.inl rfl) ?_
  exact ⟨_, rfl, rfl, H.sel [] rfl⟩
 replace E := E_; clear E_
 have h24 : ¬ (d.2 = true) := (ne_true_of_eq_false hb_)
 clear hb_; replace hP := ite_f h24 hP
 refine vn tbok 3 [] [(25, .bool (((c.1 + d.1 + (0 : Int)) / 18446744073709551616 : Int) == 1))] [] E (by kernel_rfl) (by kernel_rfl) trivial ?_
 clear E; intro a E
 refine e_build (ps := [(0, .int .u64 ((c.1 + d.1 + (0 : Int)) % 18446744073709551616)), (1, .bool (((c.1 + d.1 + (0 : Int)) / 18446744073709551616 : Int) == 1))]) (v := .agg #[.int .u64 ((c.1 + d.1 + (0 : Int)) % 18446744073709551616), .bool (((c.1 + d.1 + (0 : Int)) / 18446744073709551616 : Int) == 1)]) E rfl rfl tbok rfl (by kernel_rfl) rfl ?_
 clear E; intro a E
 refine h_store (g := g11) (off := 0) H 2 rfl E rfl rfl rfl rfl tbok rfl rfl rfl rfl rfl ?_
 clear E; intro w25 a hc26 H_ E
 replace H := H_; clear H_; try dsimp only [setn, addE, goneL] at H
 refine wpList_nil ?_
 refine th_n ?_
 refine wp_ret ?_
 obtain rfl := Option.some.inj hP
 refine retV E [.cell 4 75] [.agg #[.int .u64 ((c.1 + d.1 + (0 : Int)) % 18446744073709551616), .bool (((c.1 + d.1 + (0 : Int)) / 18446744073709551616 : Int) == 1)]] rfl ⟨⟨_, rfl, run_loadBx tbok (H.box 2 rfl) rfl rfl rfl 0 rfl rfl⟩, trivial⟩ (.inl rfl) ?_
 exact ⟨_, rfl, rfl, H.sel [] rfl⟩

/-! rejoinder/lang.counts -/
def lang_counts_l0 (N : Nat) (aAccept : List Bool) : Nat → (List (Int × Bool)) → Int → Option (List (Int × Bool))
  | 0, _, _ => none
  | m55 + 1, v39, x40 =>
    if x40 < (((List.length aAccept) : Nat) : Int) then
      ask (idx x40 (List.length aAccept)) <|
      if (List.getD aAccept (Int.toNat x40) false) = true then
        ask (idx x40 (List.length v39)) <|
        ask (in64 (x40 + 1)) <|
        lang_counts_l0 N aAccept m55 (List.set v39 (Int.toNat x40) (1, (List.getD v39 (Int.toNat x40) (0, false)).2)) (x40 + 1)
      else
        ask (in64 (x40 + 1)) <|
        lang_counts_l0 N aAccept m55 v39 (x40 + 1)
    else
      some v39
def lang_counts_l3 (N : Nat) (to_ : List (List Int)) (v247 : List (Int × Bool)) (x532 : Int) : Nat → (List (Int × Bool)) → Int → Option (List (Int × Bool))
  | 0, _, _ => none
  | m709 + 1, w670, x671 =>
    if x671 < (((List.length (List.getD to_ (Int.toNat x532) [])) : Nat) : Int) then
      ask (idx x671 (List.length (List.getD to_ (Int.toNat x532) []))) <|
      ask (idx x532 (List.length w670)) <|
      ask (idx (List.getD (List.getD to_ (Int.toNat x532) []) (Int.toNat x671) 0) (List.length v247)) <|
      Option.bind (lang_count_add N (List.getD w670 (Int.toNat x532) (0, false)) (List.getD v247 (Int.toNat (List.getD (List.getD to_ (Int.toNat x532) []) (Int.toNat x671) 0)) (0, false))) fun r724 =>
      ask (in64 (x671 + 1)) <|
      lang_counts_l3 N to_ v247 x532 m709 (List.set w670 (Int.toNat x532) r724) (x671 + 1)
    else
      some w670
def lang_counts_l2 (N : Nat) (to_ : List (List Int)) (v247 : List (Int × Bool)) : Nat → (List (Int × Bool)) → Int → Option (List (Int × Bool))
  | 0, _, _ => none
  | m619 + 1, w531, x532 =>
    if x532 < (((List.length to_) : Nat) : Int) then
      ask (idx x532 (List.length to_)) <|
      Option.bind (lang_counts_l3 N to_ v247 x532 N w531 0) fun x710 =>
      ask (in64 (x532 + 1)) <|
      lang_counts_l2 N to_ v247 m619 x710 (x532 + 1)
    else
      some w531
def lang_counts_l1 (N : Nat) (to_ : List (List Int)) (length : Int) : Nat → (List (Int × Bool)) → Int → Option (List (Int × Bool))
  | 0, _, _ => none
  | m434 + 1, v247, x249 =>
    if x249 < length then
      Option.bind (lang_counts_l2 N to_ v247 N (List.replicate (Int.toNat (((List.length to_) : Nat) : Int)) ((0, false) : Int × Bool)) 0) fun x620 =>
      ask (in64 (x249 + 1)) <|
      lang_counts_l1 N to_ length m434 x620 (x249 + 1)
    else
      some v247
def lang_counts (N : Nat) (aProps : Int) (aAccept : List Bool) (aGuard : List Int) (aNodes : List Nd) (to_ : List (List Int)) (length : Int) : Option (List (Int × Bool)) :=
  ask (0 ≤ (((List.length to_) : Nat) : Int) ∧ (((List.length to_) : Nat) : Int) ≤ 1000000000) <|
  Option.bind (lang_counts_l0 N aAccept N (List.replicate (Int.toNat (((List.length to_) : Nat) : Int)) ((0, false) : Int × Bool)) 0) fun x56 =>
  Option.bind (lang_counts_l1 N to_ length N x56 0) fun x435 =>
  some x435
set_option maxRecDepth 100000 in
set_option maxHeartbeats 4000000 in
theorem lang_counts_calls {N : Nat} {S Fa : Nat → Prop} {w0 : World} {r : List (Int × Bool)} (A1 : Option Addr) (c2 : Nat) (A5 : Option Addr) (c6 : Nat) (A9 : Option Addr) (c10 : Nat) (A13 : Option Addr) (c14 : Nat) (aProps : Int) (aAccept : List Bool) (aGuard : List Int) (aNodes : List Nd) (to_ : List (List Int)) (length : Int) (hk3 : List.length aAccept ≤ c2) (hk7 : List.length aGuard ≤ c6) (hk11 : List.length aNodes ≤ c10) (hk15 : List.length to_ ≤ c14) (H : Hp S Fa w0 w0 [.ro false cBool A1 aAccept, .ro false (cInt .i64) A5 aGuard, .ro false cNode A9 aNodes, .ro false (cSl (cInt .i64)) A13 to_]) (hP : lang_counts N aProps aAccept aGuard aNodes to_ length = some r) :
    Calls Try.prog 43 #[.agg #[.int .i64 aProps, .slice A1 (List.length aAccept) c2, .slice A5 (List.length aGuard) c6, .slice A9 (List.length aNodes) c10], .slice A13 (List.length to_) c14, .int .i64 length] w0 fun e w' => ∃ v, e = .returned v ∧ ∃ (A756 : Option Addr) (c757 : Nat), v = .slice A756 (List.length r) c757 ∧ Hp S Fa w0 w' [.row true cS74 75 A756 c757 r] := by
 refine enterV (n := 68) Try.func43 rfl rfl rfl ?_
 intro a E
 replace E := E.pick [(0, .agg #[.int .i64 aProps, .slice A1 (List.length aAccept) c2, .slice A5 (List.length aGuard) c6, .slice A9 (List.length aNodes) c10]), (1, .slice A13 (List.length to_) c14), (2, .int .i64 length)] ⟨rfl, rfl, rfl, trivial⟩
 rw [lang_counts] at hP
 refine wp_seq ?_
 refine wp_region_lit ?_
 refine h_box H E rfl rfl rfl ?_
 intro w18 g17 a hc19 hg21 H_ E_
 replace E := E_ _ rfl; clear E_
 replace H := H_; clear H_; try dsimp only [setn, addE, goneL] at H
 refine vn tbok 1 [] [] [] E (by kernel_rfl) (by kernel_rfl) trivial ?_
 clear E; intro a E
 refine wpList_nil ?_
 refine th_n ?_
 refine wp_seq ?_
 refine wp_region_lit ?_
 refine vn tbok 2 [] [(16, .int .i64 (((List.length to_) : Nat) : Int))] [] E (by kernel_rfl) (by kernel_rfl) trivial ?_
 clear E; intro a E
 obtain ⟨g22, hP⟩ := ask_inv hP
 refine h_make cS74 ((0, false) : Int × Bool) H E rfl rfl tbok rfl rfl rfl rfl ⟨g22.1, Int.le_refl _, g22.2⟩ rfl rfl rfl (fun _ _ => rfl) ?_
 intro w24 g23 a hc25 hg27 H_ E_
 replace E := E_ _ rfl; clear E_
 replace H := H_; clear H_; try dsimp only [setn, addE, goneL] at H
 refine vn tbok 1 [] [(7, .slice (some ⟨g23, 0, none⟩) (List.length (List.replicate (Int.toNat (((List.length to_) : Nat) : Int)) ((0, false) : Int × Bool))) (Int.toNat (((List.length to_) : Nat) : Int)))] [] E (by kernel_rfl) (by kernel_rfl) trivial ?_
 clear E; intro a E
 refine wpList_nil ?_
 refine th_n ?_
 refine wp_seq ?_
 refine wp_seq ?_
 refine wp_region_lit ?_
 refine vn tbok 4 [.slice A1 (List.length aAccept) c2] [(19, .slice A1 (List.length aAccept) c2), (20, .int .i64 (((List.length aAccept) : Nat) : Int)), (21, .int .i64 0)] [World.cell? w24 ⟨g17, 1, none⟩ = some (.slice A1 (List.length aAccept) c2)] E (by kernel_rfl) (by kernel_rfl) ((H.box 4 rfl).cell (j := 1) rfl) ?_
 clear E; intro a E
 refine wpList_nil ?_
 refine th_n ?_
 refine wp_block ?_
 obtain ⟨x56, hL57, hK58⟩ := bind_inv hP
 clear hP
 refine loop_cut (fun i_ a w_ => (i_ = 0 ∧ ∃ (x61 : List (Int × Bool)), Fr a 68 [(1, .slice A13 (List.length to_) c14), (2, .int .i64 length), (7, .slice (some ⟨g23, 0, none⟩) (List.length x61) (Int.toNat (((List.length to_) : Nat) : Int)))] ∧ Hp S Fa w0 w_ [.ro false (cSl (cInt .i64)) A13 to_, .rowx true cS74 75 (some ⟨g23, 0, none⟩) (Int.toNat (((List.length to_) : Nat) : Int)) x61 (List.replicate (Int.toNat (((List.length to_) : Nat) : Int) - Int.toNat (((List.length to_) : Nat) : Int)) ((0, false) : Int × Bool))] ∧ x56 = x61)) ?_ ?_
 ·
  refine loopV (fun m60 a w59 => ∃ (v39 : List (Int × Bool)) (x40 : Int), Fr a 68 [(1, .slice A13 (List.length to_) c14), (2, .int .i64 length), (7, .slice (some ⟨g23, 0, none⟩) (List.length v39) (Int.toNat (((List.length to_) : Nat) : Int))), (19, .slice A1 (List.length aAccept) c2), (20, .int .i64 (((List.length aAccept) : Nat) : Int)), (21, .int .i64 x40)] ∧ Hp S Fa w0 w59 [.ro false (cSl (cInt .i64)) A13 to_, .rowx true cS74 75 (some ⟨g23, 0, none⟩) (Int.toNat (((List.length to_) : Nat) : Int)) v39 (List.replicate (Int.toNat (((List.length to_) : Nat) : Int) - Int.toNat (((List.length to_) : Nat) : Int)) ((0, false) : Int × Bool)), .ro false cBool A1 aAccept] ∧ lang_counts_l0 N aAccept m60 v39 x40 = some x56) N ?_ ?_
  ·
   exact ⟨List.replicate (Int.toNat (((List.length to_) : Nat) : Int)) ((0, false) : Int × Bool), 0, E.pick _ ⟨rfl, rfl, rfl, rfl, rfl, rfl, trivial⟩, H.sel [3, 5, 0] rfl, hL57⟩
  clear E H hL57; intro m60 a w59 hI_
  obtain ⟨v39, x40, E, H, hP⟩ := hI_
  obtain ⟨m55, rfl⟩ : ∃ q_, m60 = q_ + 1 := by cases m60 with | zero => rw [lang_counts_l0] at hP; cases hP | succ q_ => exact ⟨q_, rfl⟩
  rw [lang_counts_l0] at hP
  refine wp_seq ?_
  refine wp_region_lit ?_
  refine vn tbok 1 [] [(22, .bool (decide (x40 < (((List.length aAccept) : Nat) : Int))))] [] E (by kernel_rfl) (by kernel_rfl) trivial ?_
  clear E; intro a E
  refine wpList_nil ?_
  refine th_n ?_
  refine wp_seq ?_
  refine E.cases (t := 22) rfl (fun hb_ E_ => ?_) (fun hb_ E_ => ?_)
  ·
   replace E := E_; clear E_
   have h62 : x40 < (((List.length aAccept) : Nat) : Int) := of_decide_eq_true hb_
   clear hb_; replace hP := ite_t h62 hP
   refine c_true E rfl ?_
   refine wp_skip ?_
   refine th_n ?_
   refine wp_seq ?_
   refine wp_block ?_
   refine wp_seq ?_
   refine wp_region_lit ?_
   obtain ⟨g63, hP⟩ := ask_inv hP
   obtain ⟨b64, o65, e_b64⟩ := (H.rd 2 rds_ro).addr (idx_pos g63)
   subst e_b64
   refine vn tbok 5 [.bool (List.getD aAccept (Int.toNat x40) false)] [(8, .int .i64 x40), (9, .bool (List.getD aAccept (Int.toNat x40) false))] [0 ≤ x40 ∧ x40 < (((List.length aAccept) : Nat) : Int), World.cell? w59 ⟨b64, o65 + (Int.toNat x40) * 1, none⟩ = some (.bool (List.getD aAccept (Int.toNat x40) false))] E (by kernel_rfl) (by kernel_rfl) ⟨g63, Rds.at1 (H.rd 2 rds_ro) false g63⟩ ?_
   clear E; intro a E
   refine wpList_nil ?_
   refine th_n ?_
   refine wp_seq ?_
   refine wp_region_lit ?_
   refine vn tbok 1 [] [(26, .bool (List.getD aAccept (Int.toNat x40) false))] [] E (by kernel_rfl) (by kernel_rfl) trivial ?_
   clear E; intro a E
   refine wpList_nil ?_
   refine th_n ?_
   refine E.cases (t := 26) rfl (fun hb_ E_ => ?_) (fun hb_ E_ => ?_)
   ·
    replace E := E_; clear E_
    have h66 : (List.getD aAccept (Int.toNat x40) false) = true := hb_
    clear hb_; replace hP := ite_t h66 hP
    refine c_true E rfl ?_
    refine wp_region_lit ?_
    obtain ⟨g67, hP⟩ := ask_inv hP
    refine vn tbok 4 [] [(30, .pointer (some ⟨g23, 0 + (Int.toNat x40) * 2, none⟩))] [0 ≤ x40 ∧ x40 < (((List.length v39) : Nat) : Int)] E (by kernel_rfl) (by kernel_rfl) (g67) ?_
    clear E; intro a E
    refine h_setpx (g := g23) (i := x40) (off := 0) (fun y_ => (1, y_.2)) (0, false) (1, (List.getD v39 (Int.toNat x40) (0, false)).2) H 1 rfl E rfl rfl rfl rfl tbok rfl rfl (fun _ y_ c_ h_ => (congrArg (fun c => splice c 0 [.int .u64 1]) (h_ : c_ = _)).trans rfl) rfl rfl rfl g67 rfl ?_
    clear E; intro w68 a hc69 H_ E
    replace H := H_; clear H_; try dsimp only [setn, addE, goneL] at H
    have hn70 : (List.length v39) = (List.length (List.set v39 (Int.toNat x40) (1, (List.getD v39 (Int.toNat x40) (0, false)).2))) := by simp only [List.length_set]
    replace E := E.same (t := 7) (u := .slice (some ⟨g23, 0, none⟩) (List.length (List.set v39 (Int.toNat x40) (1, (List.getD v39 (Int.toNat x40) (0, false)).2))) (Int.toNat (((List.length to_) : Nat) : Int))) rfl (congrArg (fun n_ => Value.slice (some ⟨g23, 0, none⟩) n_ (Int.toNat (((List.length to_) : Nat) : Int))) hn70)
    refine wpList_nil ?_
    refine bl_n ?_
    refine th_n ?_
    refine wp_region_lit ?_
    obtain ⟨g71, hP⟩ := ask_inv hP
    refine vn tbok 2 [.int .i64 (x40 + 1)] [(21, .int .i64 (x40 + 1))] [IntKind.i64.wrap (x40 + 1) = x40 + 1] E (by kernel_rfl) (by kernel_rfl) (wrap_in g71) ?_
    clear E; intro a E
    refine wpList_nil ?_
    exact th_n ⟨m55, Nat.lt_succ_self _, List.set v39 (Int.toNat x40) (1, (List.getD v39 (Int.toNat x40) (0, false)).2), x40 + 1, E.pick _ ⟨rfl, rfl, rfl, rfl, rfl, rfl, trivial⟩, H.sel [0, 1, 2] rfl, hP⟩
   replace E := E_; clear E_
   have h72 : ¬ ((List.getD aAccept (Int.toNat x40) false) = true) := (ne_true_of_eq_false hb_)
   clear hb_; replace hP := ite_f h72 hP
   refine c_false E rfl ?_
   refine wp_skip ?_
   refine bl_n ?_
   refine th_n ?_
   refine wp_region_lit ?_
   obtain ⟨g73, hP⟩ := ask_inv hP
   refine vn tbok 2 [.int .i64 (x40 + 1)] [(21, .int .i64 (x40 + 1))] [IntKind.i64.wrap (x40 + 1) = x40 + 1] E (by kernel_rfl) (by kernel_rfl) (wrap_in g73) ?_
   clear E; intro a E
   refine wpList_nil ?_
   exact th_n ⟨m55, Nat.lt_succ_self _, v39, x40 + 1, E.pick _ ⟨rfl, rfl, rfl, rfl, rfl, rfl, trivial⟩, H.sel [0, 1, 2] rfl, hP⟩
  replace E := E_; clear E_
  have h74 : ¬ (x40 < (((List.length aAccept) : Nat) : Int)) := of_decide_eq_false hb_
  clear hb_; replace hP := ite_f h74 hP
  refine c_false E rfl ?_
  refine wp_exit ?_
  refine th_exit ?_
  have hx_ := Option.some.inj hP
  refine th_exit (.inl ⟨0, rfl, ?_⟩)
  exact ⟨rfl, v39, E.pick _ ⟨rfl, rfl, rfl, trivial⟩, H.sel [0, 1] rfl, hx_.symm⟩
 clear E H hL57; intro i_ a w59 hM_
 obtain ⟨rfl, x61, E, H, hx_⟩ := hM_
 subst hx_; have hP := hK58; clear hK58
 refine bl_hit ?_
 refine th_n ?_
 refine wp_seq ?_
 refine wp_seq ?_
 refine wp_region_lit ?_
 refine vn tbok 2 [] [(32, .int .i64 length), (33, .int .i64 0)] [] E (by kernel_rfl) (by kernel_rfl) trivial ?_
 clear E; intro a E
 refine wpList_nil ?_
 refine th_n ?_
 refine wp_block ?_
 obtain ⟨x435, hL436, hK437⟩ := bind_inv hP
 clear hP
 refine loop_cut (fun i_ a w_ => (i_ = 2 ∧ ∃ (x440 : List (Int × Bool)), ∃ (A433 : Option Addr), Fr a 68 [(7, .slice A433 (List.length x440) (Int.toNat (((List.length to_) : Nat) : Int)))] ∧ Hp S Fa w0 w_ [.rowx true cS74 75 A433 (Int.toNat (((List.length to_) : Nat) : Int)) x440 (List.replicate (Int.toNat (((List.length to_) : Nat) : Int) - Int.toNat (((List.length to_) : Nat) : Int)) ((0, false) : Int × Bool))] ∧ x435 = x440)) ?_ ?_
 ·
  refine loopV (fun m439 a w438 => ∃ (v247 : List (Int × Bool)) (x249 : Int), ∃ (A248 : Option Addr), Fr a 68 [(1, .slice A13 (List.length to_) c14), (7, .slice A248 (List.length v247) (Int.toNat (((List.length to_) : Nat) : Int))), (32, .int .i64 length), (33, .int .i64 x249)] ∧ Hp S Fa w0 w438 [.ro false (cSl (cInt .i64)) A13 to_, .rowx true cS74 75 A248 (Int.toNat (((List.length to_) : Nat) : Int)) v247 (List.replicate (Int.toNat (((List.length to_) : Nat) : Int) - Int.toNat (((List.length to_) : Nat) : Int)) ((0, false) : Int × Bool))] ∧ lang_counts_l1 N to_ length m439 v247 x249 = some x435) N ?_ ?_
  ·
   exact ⟨x56, 0, (some ⟨g23, 0, none⟩), E.pick _ ⟨rfl, rfl, rfl, rfl, trivial⟩, H.sel [0, 1] rfl, hL436⟩
  clear E H hL436; intro m439 a w438 hI_
  obtain ⟨v247, x249, A248, E, H, hP⟩ := hI_
  obtain ⟨m434, rfl⟩ : ∃ q_, m439 = q_ + 1 := by cases m439 with | zero => rw [lang_counts_l1] at hP; cases hP | succ q_ => exact ⟨q_, rfl⟩
  rw [lang_counts_l1] at hP
  refine wp_seq ?_
  refine wp_region_lit ?_
  refine vn tbok 1 [] [(34, .bool (decide (x249 < length)))] [] E (by kernel_rfl) (by kernel_rfl) trivial ?_
  clear E; intro a E
  refine wpList_nil ?_
  refine th_n ?_
  refine wp_seq ?_
  refine E.cases (t := 34) rfl (fun hb_ E_ => ?_) (fun hb_ E_ => ?_)
  ·
   replace E := E_; clear E_
   have h441 : x249 < length := of_decide_eq_true hb_
   clear hb_; replace hP := ite_t h441 hP
   refine c_true E rfl ?_
   refine wp_skip ?_
   refine th_n ?_
   refine wp_seq ?_
   refine wp_block ?_
   refine wp_seq ?_
   refine wp_region_lit ?_
   refine vn tbok 2 [] [(36, .int .i64 (((List.length to_) : Nat) : Int))] [] E (by kernel_rfl) (by kernel_rfl) trivial ?_
   clear E; intro a E
   refine h_make cS74 ((0, false) : Int × Bool) H E rfl rfl tbok rfl rfl rfl rfl ⟨g22.1, Int.le_refl _, g22.2⟩ rfl rfl rfl (fun _ _ => rfl) ?_
   intro w443 g442 a hc444 hg446 H_ E_
   replace E := E_ _ rfl; clear E_
   replace H := H_; clear H_; try dsimp only [setn, addE, goneL] at H
   refine vn tbok 1 [] [(10, .slice (some ⟨g442, 0, none⟩) (List.length (List.replicate (Int.toNat (((List.length to_) : Nat) : Int)) ((0, false) : Int × Bool))) (Int.toNat (((List.length to_) : Nat) : Int)))] [] E (by kernel_rfl) (by kernel_rfl) trivial ?_
   clear E; intro a E
   refine wpList_nil ?_
   refine th_n ?_
   refine wp_seq ?_
   refine wp_seq ?_
   refine wp_region_lit ?_
   refine vn tbok 3 [] [(38, .slice A13 (List.length to_) c14), (39, .int .i64 (((List.length to_) : Nat) : Int)), (40, .int .i64 0)] [] E (by kernel_rfl) (by kernel_rfl) trivial ?_
   clear E; intro a E
   refine wpList_nil ?_
   refine th_n ?_
   refine wp_block ?_
   obtain ⟨x620, hL621, hK622⟩ := bind_inv hP
   clear hP
   refine loop_cut (fun i_ a w_ => (i_ = 4 ∧ ∃ (x625 : List (Int × Bool)), Fr a 68 [(1, .slice A13 (List.length to_) c14), (10, .slice (some ⟨g442, 0, none⟩) (List.length x625) (Int.toNat (((List.length to_) : Nat) : Int))), (32, .int .i64 length), (33, .int .i64 x249)] ∧ Hp S Fa w0 w_ [.ro false (cSl (cInt .i64)) A13 to_, .rowx true cS74 75 (some ⟨g442, 0, none⟩) (Int.toNat (((List.length to_) : Nat) : Int)) x625 (List.replicate (Int.toNat (((List.length to_) : Nat) : Int) - Int.toNat (((List.length to_) : Nat) : Int)) ((0, false) : Int × Bool))] ∧ x620 = x625)) ?_ ?_
   ·
    refine loopV (fun m624 a w623 => ∃ (w531 : List (Int × Bool)) (x532 : Int), Fr a 68 [(1, .slice A13 (List.length to_) c14), (7, .slice A248 (List.length v247) (Int.toNat (((List.length to_) : Nat) : Int))), (10, .slice (some ⟨g442, 0, none⟩) (List.length w531) (Int.toNat (((List.length to_) : Nat) : Int))), (32, .int .i64 length), (33, .int .i64 x249), (38, .slice A13 (List.length to_) c14), (39, .int .i64 (((List.length to_) : Nat) : Int)), (40, .int .i64 x532)] ∧ Hp S Fa w0 w623 [.ro false (cSl (cInt .i64)) A13 to_, .rowx true cS74 75 A248 (Int.toNat (((List.length to_) : Nat) : Int)) v247 (List.replicate (Int.toNat (((List.length to_) : Nat) : Int) - Int.toNat (((List.length to_) : Nat) : Int)) ((0, false) : Int × Bool)), .rowx true cS74 75 (some ⟨g442, 0, none⟩) (Int.toNat (((List.length to_) : Nat) : Int)) w531 (List.replicate (Int.toNat (((List.length to_) : Nat) : Int) - Int.toNat (((List.length to_) : Nat) : Int)) ((0, false) : Int × Bool))] ∧ lang_counts_l2 N to_ v247 m624 w531 x532 = some x620) N ?_ ?_
    ·
     exact ⟨List.replicate (Int.toNat (((List.length to_) : Nat) : Int)) ((0, false) : Int × Bool), 0, E.pick _ ⟨rfl, rfl, rfl, rfl, rfl, rfl, rfl, rfl, trivial⟩, H.sel [0, 1, 2] rfl, hL621⟩
    clear E H hL621; intro m624 a w623 hI_
    obtain ⟨w531, x532, E, H, hP⟩ := hI_
    obtain ⟨m619, rfl⟩ : ∃ q_, m624 = q_ + 1 := by cases m624 with | zero => rw [lang_counts_l2] at hP; cases hP | succ q_ => exact ⟨q_, rfl⟩
    rw [lang_counts_l2] at hP
    refine wp_seq ?_
    refine wp_region_lit ?_
    refine vn tbok 1 [] [(41, .bool (decide (x532 < (((List.length to_) : Nat) : Int))))] [] E (by kernel_rfl) (by kernel_rfl) trivial ?_
    clear E; intro a E
    refine wpList_nil ?_
    refine th_n ?_
    refine wp_seq ?_
    refine E.cases (t := 41) rfl (fun hb_ E_ => ?_) (fun hb_ E_ => ?_)
    ·
     replace E := E_; clear E_
     have h626 : x532 < (((List.length to_) : Nat) : Int) := of_decide_eq_true hb_
     clear hb_; replace hP := ite_t h626 hP
     refine c_true E rfl ?_
     refine wp_skip ?_
     refine th_n ?_
     refine wp_seq ?_
     refine wp_block ?_
     refine wp_seq ?_
     refine wp_region_lit ?_
     obtain ⟨g627, hP⟩ := ask_inv hP
     obtain ⟨b628, o629, e_b628⟩ := (H.rd 0 rds_ro).addr (idx_pos g627)
     subst e_b628
     obtain ⟨A630, c631, hl632, hk633, H⟩ := H.subSl 0 false (el_ro rfl) g627
     try dsimp only [addE] at H
     refine vn tbok 5 [.slice A630 (List.length (List.getD to_ (Int.toNat x532) [])) c631] [(11, .int .i64 x532), (12, .slice A630 (List.length (List.getD to_ (Int.toNat x532) [])) c631)] [0 ≤ x532 ∧ x532 < (((List.length to_) : Nat) : Int), World.cell? w623 ⟨b628, o629 + (Int.toNat x532) * 1, none⟩ = some (.slice A630 (List.length (List.getD to_ (Int.toNat x532) [])) c631)] E (by kernel_rfl) (by kernel_rfl) ⟨g627, hl632⟩ ?_
     clear E; intro a E
     refine wpList_nil ?_
     refine th_n ?_
     refine wp_seq ?_
     refine wp_region_lit ?_
     refine vn tbok 3 [] [(45, .slice A630 (List.length (List.getD to_ (Int.toNat x532) [])) c631), (46, .int .i64 (((List.length (List.getD to_ (Int.toNat x532) [])) : Nat) : Int)), (47, .int .i64 0)] [] E (by kernel_rfl) (by kernel_rfl) trivial ?_
     clear E; intro a E
     refine wpList_nil ?_
     refine th_n ?_
     refine wp_block ?_
     obtain ⟨x710, hL711, hK712⟩ := bind_inv hP
     clear hP
     refine loop_cut (fun i_ a w_ => (i_ = 6 ∧ ∃ (x715 : List (Int × Bool)), Fr a 68 [(1, .slice (some ⟨b628, o629, none⟩) (List.length to_) c14), (7, .slice A248 (List.length v247) (Int.toNat (((List.length to_) : Nat) : Int))), (10, .slice (some ⟨g442, 0, none⟩) (List.length x715) (Int.toNat (((List.length to_) : Nat) : Int))), (32, .int .i64 length), (33, .int .i64 x249), (38, .slice (some ⟨b628, o629, none⟩) (List.length to_) c14), (39, .int .i64 (((List.length to_) : Nat) : Int)), (40, .int .i64 x532)] ∧ Hp S Fa w0 w_ [.ro false (cSl (cInt .i64)) (some ⟨b628, o629, none⟩) to_, .rowx true cS74 75 A248 (Int.toNat (((List.length to_) : Nat) : Int)) v247 (List.replicate (Int.toNat (((List.length to_) : Nat) : Int) - Int.toNat (((List.length to_) : Nat) : Int)) ((0, false) : Int × Bool)), .rowx true cS74 75 (some ⟨g442, 0, none⟩) (Int.toNat (((List.length to_) : Nat) : Int)) x715 (List.replicate (Int.toNat (((List.length to_) : Nat) : Int) - Int.toNat (((List.length to_) : Nat) : Int)) ((0, false) : Int × Bool))] ∧ x710 = x715)) ?_ ?_
     ·
      refine loopV (fun m714 a w713 => ∃ (w670 : List (Int × Bool)) (x671 : Int), Fr a 68 [(1, .slice (some ⟨b628, o629, none⟩) (List.length to_) c14), (7, .slice A248 (List.length v247) (Int.toNat (((List.length to_) : Nat) : Int))), (10, .slice (some ⟨g442, 0, none⟩) (List.length w670) (Int.toNat (((List.length to_) : Nat) : Int))), (11, .int .i64 x532), (32, .int .i64 length), (33, .int .i64 x249), (38, .slice (some ⟨b628, o629, none⟩) (List.length to_) c14), (39, .int .i64 (((List.length to_) : Nat) : Int)), (40, .int .i64 x532), (45, .slice A630 (List.length (List.getD to_ (Int.toNat x532) [])) c631), (46, .int .i64 (((List.length (List.getD to_ (Int.toNat x532) [])) : Nat) : Int)), (47, .int .i64 x671)] ∧ Hp S Fa w0 w713 [.ro false (cSl (cInt .i64)) (some ⟨b628, o629, none⟩) to_, .rowx true cS74 75 A248 (Int.toNat (((List.length to_) : Nat) : Int)) v247 (List.replicate (Int.toNat (((List.length to_) : Nat) : Int) - Int.toNat (((List.length to_) : Nat) : Int)) ((0, false) : Int × Bool)), .rowx true cS74 75 (some ⟨g442, 0, none⟩) (Int.toNat (((List.length to_) : Nat) : Int)) w670 (List.replicate (Int.toNat (((List.length to_) : Nat) : Int) - Int.toNat (((List.length to_) : Nat) : Int)) ((0, false) : Int × Bool)), .ro false (cInt .i64) A630 (List.getD to_ (Int.toNat x532) [])] ∧ lang_counts_l3 N to_ v247 x532 m714 w670 x671 = some x710) N ?_ ?_
      ·
       exact ⟨w531, 0, E.pick _ ⟨rfl, rfl, rfl, rfl, rfl, rfl, rfl, rfl, rfl, rfl, rfl, rfl, trivial⟩, H.sel [0, 1, 2, 3] rfl, hL711⟩
      clear E H hL711; intro m714 a w713 hI_
      obtain ⟨w670, x671, E, H, hP⟩ := hI_
      obtain ⟨m709, rfl⟩ : ∃ q_, m714 = q_ + 1 := by cases m714 with | zero => rw [lang_counts_l3] at hP; cases hP | succ q_ => exact ⟨q_, rfl⟩
      rw [lang_counts_l3] at hP
      refine wp_seq ?_
      refine wp_region_lit ?_
      refine vn tbok 1 [] [(48, .bool (decide (x671 < (((List.length (List.getD to_ (Int.toNat x532) [])) : Nat) : Int))))] [] E (by kernel_rfl) (by kernel_rfl) trivial ?_
      clear E; intro a E
      refine wpList_nil ?_
      refine th_n ?_
      refine wp_seq ?_
      refine E.cases (t := 48) rfl (fun hb_ E_ => ?_) (fun hb_ E_ => ?_)
      ·
       replace E := E_; clear E_
       have h716 : x671 < (((List.length (List.getD to_ (Int.toNat x532) [])) : Nat) : Int) := of_decide_eq_true hb_
       clear hb_; replace hP := ite_t h716 hP
       refine c_true E rfl ?_
       refine wp_skip ?_
       refine th_n ?_
       refine wp_seq ?_
       refine wp_block ?_
       refine wp_seq ?_
       refine wp_region_lit ?_
       obtain ⟨g717, hP⟩ := ask_inv hP
       obtain ⟨b718, o719, e_b718⟩ := (H.rd 3 rds_ro).addr (idx_pos g717)
       subst e_b718
       refine vn tbok 3 [.int .i64 (List.getD (List.getD to_ (Int.toNat x532) []) (Int.toNat x671) 0)] [(14, .int .i64 (List.getD (List.getD to_ (Int.toNat x532) []) (Int.toNat x671) 0))] [0 ≤ x671 ∧ x671 < (((List.length (List.getD to_ (Int.toNat x532) [])) : Nat) : Int), World.cell? w713 ⟨b718, o719 + (Int.toNat x671) * 1, none⟩ = some (.int .i64 (List.getD (List.getD to_ (Int.toNat x532) []) (Int.toNat x671) 0))] E (by kernel_rfl) (by kernel_rfl) ⟨g717, Rds.at1 (H.rd 3 rds_ro) 0 g717⟩ ?_
       clear E; intro a E
       refine wpList_nil ?_
       refine th_n ?_
       obtain ⟨g720, hP⟩ := ask_inv hP
       obtain ⟨g721, hP⟩ := ask_inv hP
       obtain ⟨b722, e_b722⟩ := H.raddrx 1 rfl (idx_pos g721)
       subst e_b722
       obtain ⟨r724, h725, hP⟩ := bind_inv hP
       have HR739 := H
       refine dr_start (S := fun w_ => Chg (atL [.rowx true cS74 75 (some ⟨g442, 0, none⟩) (Int.toNat (((List.length to_) : Nat) : Int)) w670 (List.replicate (Int.toNat (((List.length to_) : Nat) : Int) - Int.toNat (((List.length to_) : Nat) : Int)) ((0, false) : Int × Bool))]) w713 w_) (by kernel_rfl) ?_
       intro w736 hc737
       have HS738 : Chg (atL [.rowx true cS74 75 (some ⟨g442, 0, none⟩) (Int.toNat (((List.length to_) : Nat) : Int)) w670 (List.replicate (Int.toNat (((List.length to_) : Nat) : Int) - Int.toNat (((List.length to_) : Nat) : Int)) ((0, false) : Int × Bool))]) w713 w736 := hc737.mono (fun _ _ h_ => h_.elim)
       replace H := H.ext hc737
       refine dn tbok (by kernel_rfl) [0, 1, 2, 3, 6, 7, 8, 9] [.agg #[.int .u64 ((List.getD v247 (Int.toNat (List.getD (List.getD to_ (Int.toNat x532) []) (Int.toNat x671) 0)) (0, false)).1), .bool ((List.getD v247 (Int.toNat (List.getD (List.getD to_ (Int.toNat x532) []) (Int.toNat x671) 0)) (0, false)).2)]] [(51, .slice (some ⟨g442, 0, none⟩) (List.length w670) (Int.toNat (((List.length to_) : Nat) : Int))), (52, .int .i64 x532), (53, .slice (some ⟨g442, 0, none⟩) (List.length w670) (Int.toNat (((List.length to_) : Nat) : Int))), (54, .int .i64 x532), (60, .agg #[.int .u64 ((List.getD v247 (Int.toNat (List.getD (List.getD to_ (Int.toNat x532) []) (Int.toNat x671) 0)) (0, false)).1), .bool ((List.getD v247 (Int.toNat (List.getD (List.getD to_ (Int.toNat x532) []) (Int.toNat x671) 0)) (0, false)).2)])] (fun w_ => [0 ≤ (List.getD (List.getD to_ (Int.toNat x532) []) (Int.toNat x671) 0) ∧ (List.getD (List.getD to_ (Int.toNat x532) []) (Int.toNat x671) 0) < (((List.length v247) : Nat) : Int), cellsAt w_ b722 (0 + (Int.toNat (List.getD (List.getD to_ (Int.toNat x532) []) (Int.toNat x671) 0)) * 2) [.int .u64 ((List.getD v247 (Int.toNat (List.getD (List.getD to_ (Int.toNat x532) []) (Int.toNat x671) 0)) (0, false)).1), .bool ((List.getD v247 (Int.toNat (List.getD (List.getD to_ (Int.toNat x532) []) (Int.toNat x671) 0)) (0, false)).2)]]) 5 E (fun _ _ => by kernel_rfl) (by kernel_rfl) (fun w_ hS_ => ⟨g721, Rds.atP (HR739.rdk [2] hS_ 1 rds_rowx rfl) (0, false) g721⟩) (by kernel_rfl) HS738 ?_
       clear E; intro a E
       refine wpAnyH_all (rs := [4]) (by kernel_rfl) (by simp) ?_
       refine all1 ?_
       refine wpOp_of_list rfl ?_
       refine vn tbok 1 [] [(55, .pointer (some ⟨g442, 0 + (Int.toNat x532) * 2, none⟩))] [0 ≤ x532 ∧ x532 < (((List.length w670) : Nat) : Int)] E (by kernel_rfl) (by kernel_rfl) (g720) ?_
       clear E; intro a E
       refine wpList_nil ?_
       refine th_n ⟨HS738, ?_⟩
       refine wpAnyH_all (rs := [5]) (by kernel_rfl) (by simp) ?_
       refine all1 ?_
       refine wpOp_of_list rfl ?_
       refine vn tbok 1 [.agg #[.int .u64 ((List.getD w670 (Int.toNat x532) (0, false)).1), .bool ((List.getD w670 (Int.toNat x532) (0, false)).2)]] [(56, .agg #[.int .u64 ((List.getD w670 (Int.toNat x532) (0, false)).1), .bool ((List.getD w670 (Int.toNat x532) (0, false)).2)])] [cellsAt w736 g442 (0 + (Int.toNat x532) * 2) [.int .u64 ((List.getD w670 (Int.toNat x532) (0, false)).1), .bool ((List.getD w670 (Int.toNat x532) (0, false)).2)]] E (by kernel_rfl) (by kernel_rfl) (Rds.atP (H.rd 2 rds_rowx) (0, false) g720) ?_
       clear E; intro a E
       refine wpList_nil ?_
       refine th_n ⟨HS738, ?_⟩
       refine wpAnyH_all (rs := [10]) (by kernel_rfl) (by simp) ?_
       refine all1 ?_
       refine wpOp_of_list rfl ?_
       obtain ⟨Fa740, Hc741, hb742⟩ := H.call [] [] rfl rfl trivial
       refine e_call E rfl rfl Try.func44 rfl rfl rfl (lang_count_add_calls  (List.getD w670 (Int.toNat x532) (0, false)) (List.getD v247 (Int.toNat (List.getD (List.getD to_ (Int.toNat x532) []) (Int.toNat x671) 0)) (0, false))  Hc741 h725) ?_
       rintro v743 w744 a ⟨rfl, HR745⟩ E_
       replace E := E_ _ rfl; clear E_
       obtain ⟨H_, hc746⟩ := hb742 _ _ HR745 rfl
       replace HS738 := HS738.ext (callS_ext hc746)
       replace H := H_; clear H_; try dsimp only [setn, addE, goneL] at H
       refine wpList_nil ?_
       refine th_n ⟨HS738, ?_⟩
       refine wpAnyH_all (rs := [11]) (by kernel_rfl) (by simp) ?_
       refine all1 ?_
       refine wpOp_of_list rfl ?_
       refine vn tbok 1 [] [(62, .pointer (some ⟨g442, 0 + (Int.toNat x532) * 2, none⟩))] [0 ≤ x532 ∧ x532 < (((List.length w670) : Nat) : Int)] E (by kernel_rfl) (by kernel_rfl) (g720) ?_
       clear E; intro a E
       refine wpList_nil ?_
       refine th_n ⟨HS738, ?_⟩
       refine wpAnyH_all (rs := [12]) (by kernel_rfl) (by simp) ?_
       refine all1 ?_
       refine wpOp_of_list rfl ?_
       refine h_setx (g := g442) (i := x532) r724 H 2 rfl E rfl rfl rfl rfl tbok rfl (fun _ HF_ => rfl) rfl g720 rfl ?_
       clear E; intro w747 a hc748 H_ E
       replace HS738 := HS738.trans hc748 (fun k_ hk_ h_ => (fun _ _ h_ => Or.inl h_) k_ hk_ h_)
       replace H := H_; clear H_; try dsimp only [setn, addE, goneL] at H
       have hn749 : (List.length w670) = (List.length (List.set w670 (Int.toNat x532) r724)) := by simp only [List.length_set]
       replace E := E.same (t := 10) (u := .slice (some ⟨g442, 0, none⟩) (List.length (List.set w670 (Int.toNat x532) r724)) (Int.toNat (((List.length to_) : Nat) : Int))) rfl (congrArg (fun n_ => Value.slice (some ⟨g442, 0, none⟩) n_ (Int.toNat (((List.length to_) : Nat) : Int))) hn749)
       replace E := E.same (t := 51) (u := .slice (some ⟨g442, 0, none⟩) (List.length (List.set w670 (Int.toNat x532) r724)) (Int.toNat (((List.length to_) : Nat) : Int))) rfl (congrArg (fun n_ => Value.slice (some ⟨g442, 0, none⟩) n_ (Int.toNat (((List.length to_) : Nat) : Int))) hn749)
       refine wpList_nil ?_
       refine th_n ⟨HS738, ?_⟩
       refine dr_done (by kernel_rfl) ?_
       clear HS738 HR739
       refine bl_n ?_
       refine th_n ?_
       refine wp_region_lit ?_
       obtain ⟨g750, hP⟩ := ask_inv hP
       refine vn tbok 2 [.int .i64 (x671 + 1)] [(47, .int .i64 (x671 + 1))] [IntKind.i64.wrap (x671 + 1) = x671 + 1] E (by kernel_rfl) (by kernel_rfl) (wrap_in g750) ?_
       clear E; intro a E
       refine wpList_nil ?_
       exact th_n ⟨m709, Nat.lt_succ_self _, List.set w670 (Int.toNat x532) r724, x671 + 1, E.pick _ ⟨rfl, rfl, rfl, rfl, rfl, rfl, rfl, rfl, rfl, rfl, rfl, rfl, trivial⟩, H.sel [0, 1, 2, 3] rfl, hP⟩
      replace E := E_; clear E_
      have h751 : ¬ (x671 < (((List.length (List.getD to_ (Int.toNat x532) [])) : Nat) : Int)) := of_decide_eq_false hb_
      clear hb_; replace hP := ite_f h751 hP
      refine c_false E rfl ?_
      refine wp_exit ?_
      refine th_exit ?_
      have hx_ := Option.some.inj hP
      refine th_exit (.inl ⟨6, rfl, ?_⟩)
      exact ⟨rfl, w670, E.pick _ ⟨rfl, rfl, rfl, rfl, rfl, rfl, rfl, rfl, trivial⟩, H.sel [0, 1, 2] rfl, hx_.symm⟩
     clear E H hL711; intro i_ a w713 hM_
     obtain ⟨rfl, x715, E, H, hx_⟩ := hM_
     subst hx_; have hP := hK712; clear hK712
     refine bl_hit ?_
     refine bl_n ?_
     refine th_n ?_
     refine wp_region_lit ?_
     obtain ⟨g752, hP⟩ := ask_inv hP
     refine vn tbok 2 [.int .i64 (x532 + 1)] [(40, .int .i64 (x532 + 1))] [IntKind.i64.wrap (x532 + 1) = x532 + 1] E (by kernel_rfl) (by kernel_rfl) (wrap_in g752) ?_
     clear E; intro a E
     refine wpList_nil ?_
     exact th_n ⟨m619, Nat.lt_succ_self _, x710, x532 + 1, E.pick _ ⟨rfl, rfl, rfl, rfl, rfl, rfl, rfl, rfl, trivial⟩, H.sel [0, 1, 2] rfl, hP⟩
    replace E := E_; clear E_
    have h753 : ¬ (x532 < (((List.length to_) : Nat) : Int)) := of_decide_eq_false hb_
    clear hb_; replace hP := ite_f h753 hP
    refine c_false E rfl ?_
    refine wp_exit ?_
    refine th_exit ?_
    have hx_ := Option.some.inj hP
    refine th_exit (.inl ⟨4, rfl, ?_⟩)
    exact ⟨rfl, w531, E.pick _ ⟨rfl, rfl, rfl, rfl, trivial⟩, H.sel [0, 2] rfl, hx_.symm⟩
   clear E H hL621; intro i_ a w623 hM_
   obtain ⟨rfl, x625, E, H, hx_⟩ := hM_
   subst hx_; have hP := hK622; clear hK622
   refine bl_hit ?_
   refine th_n ?_
   refine wp_region_lit ?_
   refine vn tbok 2 [] [(7, .slice (some ⟨g442, 0, none⟩) (List.length x620) (Int.toNat (((List.length to_) : Nat) : Int)))] [] E (by kernel_rfl) (by kernel_rfl) trivial ?_
   clear E; intro a E
   refine wpList_nil ?_
   refine bl_n ?_
   refine th_n ?_
   refine wp_region_lit ?_
   obtain ⟨g754, hP⟩ := ask_inv hP
   refine vn tbok 2 [.int .i64 (x249 + 1)] [(33, .int .i64 (x249 + 1))] [IntKind.i64.wrap (x249 + 1) = x249 + 1] E (by kernel_rfl) (by kernel_rfl) (wrap_in g754) ?_
   clear E; intro a E
   refine wpList_nil ?_
   exact th_n ⟨m434, Nat.lt_succ_self _, x620, x249 + 1, (some ⟨g442, 0, none⟩), E.pick _ ⟨rfl, rfl, rfl, rfl, trivial⟩, H.sel [0, 1] rfl, hP⟩
  replace E := E_; clear E_
  have h755 : ¬ (x249 < length) := of_decide_eq_false hb_
  clear hb_; replace hP := ite_f h755 hP
  refine c_false E rfl ?_
  refine wp_exit ?_
  refine th_exit ?_
  have hx_ := Option.some.inj hP
  refine th_exit (.inl ⟨2, rfl, ?_⟩)
  exact ⟨rfl, v247, A248, E.pick _ ⟨rfl, trivial⟩, H.sel [1] rfl, hx_.symm⟩
 clear E H hL436; intro i_ a w438 hM_
 obtain ⟨rfl, x440, A433, E, H, hx_⟩ := hM_
 subst hx_; have hP := hK437; clear hK437
 refine bl_hit ?_
 refine th_n ?_
 refine wp_seq ?_
 refine wp_region_lit ?_
 refine vn tbok 2 [] [(6, .slice A433 (List.length x435) (Int.toNat (((List.length to_) : Nat) : Int)))] [] E (by kernel_rfl) (by kernel_rfl) trivial ?_
 clear E; intro a E
 refine wpList_nil ?_
 refine th_n ?_
 refine wp_ret ?_
 replace H := H.rowx 0 rfl; try dsimp only [setn, addE, goneL] at H
 obtain rfl := Option.some.inj hP
 refine ret1 E rfl rfl ?_
 exact ⟨_, rfl, A433, (Int.toNat (((List.length to_) : Nat) : Int)), rfl, H.sel [0] rfl⟩

/-! rejoinder/lang.Count -/
def lang_Count (N : Nat) (aProps : Int) (aAccept : List Bool) (aGuard : List Int) (aNodes : List Nd) (length : Int) : Option (Int × Int) :=
  Option.bind (lang_table N aProps aAccept aGuard aNodes) fun r18 =>
  if (r18.2 : Int) = 0 then
    if length < 0 then
      some (0, 2)
    else
      if 1024 < length then
        some (0, 2)
      else
        Option.bind (lang_counts N aProps aAccept aGuard aNodes r18.1 length) fun r36 =>
        ask (idx (0 : Int) (List.length r36)) <|
        if ((List.getD r36 (Int.toNat (0 : Int)) (0, false)).2) = true then
          some (0, 15)
        else
          some ((List.getD r36 (Int.toNat (0 : Int)) (0, false)).1, 0)
  else
    some (0, r18.2)
set_option maxRecDepth 100000 in
set_option maxHeartbeats 4000000 in
theorem lang_Count_calls {N : Nat} {S Fa : Nat → Prop} {w0 : World} {r : Int × Int} (A1 : Option Addr) (c2 : Nat) (A5 : Option Addr) (c6 : Nat) (A9 : Option Addr) (c10 : Nat) (aProps : Int) (aAccept : List Bool) (aGuard : List Int) (aNodes : List Nd) (length : Int) (hk3 : List.length aAccept ≤ c2) (hk7 : List.length aGuard ≤ c6) (hk11 : List.length aNodes ≤ c10) (H : Hp S Fa w0 w0 [.ro false cBool A1 aAccept, .ro false (cInt .i64) A5 aGuard, .ro false cNode A9 aNodes]) (hP : lang_Count N aProps aAccept aGuard aNodes length = some r) :
    Calls Try.prog 17 #[.agg #[.int .i64 aProps, .slice A1 (List.length aAccept) c2, .slice A5 (List.length aGuard) c6, .slice A9 (List.length aNodes) c10], .int .i64 length] w0 fun e w' => ∃ v, e = .returned v ∧ v = .tuple #[.int .u64 r.1, .int .i64 r.2] ∧ Hp S Fa w0 w' [] := by
 refine enterV (n := 33) Try.func17 rfl rfl rfl ?_
 intro a E
 replace E := E.pick [(0, .agg #[.int .i64 aProps, .slice A1 (List.length aAccept) c2, .slice A5 (List.length aGuard) c6, .slice A9 (List.length aNodes) c10]), (1, .int .i64 length)] ⟨rfl, rfl, trivial⟩
 rw [lang_Count] at hP
 refine wp_seq ?_
 refine wp_region_lit ?_
 refine h_box H E rfl rfl rfl ?_
 intro w14 g13 a hc15 hg17 H_ E_
 replace E := E_ _ rfl; clear E_
 replace H := H_; clear H_; try dsimp only [setn, addE, goneL] at H
 refine vn tbok 2 [] [] [] E (by kernel_rfl) (by kernel_rfl) trivial ?_
 clear E; intro a E
 refine wpList_nil ?_
 refine th_n ?_
 refine wp_seq ?_
 refine wp_region_lit ?_
 refine vn tbok 1 [.agg #[.int .i64 aProps, .slice A1 (List.length aAccept) c2, .slice A5 (List.length aGuard) c6, .slice A9 (List.length aNodes) c10]] [(10, .agg #[.int .i64 aProps, .slice A1 (List.length aAccept) c2, .slice A5 (List.length aGuard) c6, .slice A9 (List.length aNodes) c10])] [cellsAt w14 g13 (0) [.int .i64 aProps, .slice A1 (List.length aAccept) c2, .slice A5 (List.length aGuard) c6, .slice A9 (List.length aNodes) c10]] E (by kernel_rfl) (by kernel_rfl) ((H.box 3 rfl).sub 0 _ rfl) ?_
 clear E; intro a E
 obtain ⟨r18, h19, hP⟩ := bind_inv hP
 obtain ⟨Fa20, Hc21, hb22⟩ := H.call [] [(0, false), (1, false), (2, false)] rfl rfl trivial
 refine e_call E rfl rfl Try.func41 rfl rfl rfl (lang_table_calls A1 c2 A5 c6 A9 c10 aProps aAccept aGuard aNodes hk3 hk7 hk11 Hc21 h19) ?_
 rintro v23 w24 a ⟨A27, c28, rfl, HR25⟩ E_
 replace E := E_ _ rfl; clear E_
 obtain ⟨H_, hc26⟩ := hb22 _ _ HR25 rfl
 replace H := H_; clear H_; try dsimp only [setn, addE, goneL] at H
 refine vn tbok 5 [] [(6, .slice A27 (List.length r18.1) c28), (7, .int .i64 r18.2)] [] E (by kernel_rfl) (by kernel_rfl) trivial ?_
 clear E; intro a E
 refine wpList_nil ?_
 refine th_n ?_
 refine wp_seq ?_
 refine wp_seq ?_
 refine wp_region_lit ?_
 refine vn tbok 2 [] [(15, .bool ((r18.2 : Int) != 0))] [] E (by kernel_rfl) (by kernel_rfl) trivial ?_
 clear E; intro a E
 refine wpList_nil ?_
 refine th_n ?_
 refine E.cases (t := 15) rfl (fun hb_ E_ => ?_) (fun hb_ E_ => ?_)
 ·
  replace E := E_; clear E_
  have h30 : ¬ ((r18.2 : Int) = 0) := bne_iff_ne.1 hb_
  clear hb_; replace hP := ite_f h30 hP
  refine c_true E rfl ?_
  refine wp_seq ?_
  refine wp_region_lit ?_
  refine vn tbok 3 [] [(4, .int .u64 0), (5, .int .i64 r18.2)] [] E (by kernel_rfl) (by kernel_rfl) trivial ?_
  clear E; intro a E
  refine wpList_nil ?_
  refine th_n ?_
  refine wp_ret ?_
  refine th_ret ?_
  obtain rfl := Option.some.inj hP
  refine ret2 E rfl rfl rfl ?_
  exact ⟨_, rfl, rfl, H.sel [] rfl⟩
 replace E := E_; clear E_
 have h31 : (r18.2 : Int) = 0 := bne_eq_false_iff_eq.1 hb_
 clear hb_; replace hP := ite_t h31 hP
 refine c_false E rfl ?_
 refine wp_skip ?_
 refine th_n ?_
 refine wp_seq ?_
 refine wp_seq ?_
 refine wp_region_lit ?_
 refine vn tbok 3 [] [(19, .bool (decide (length < 0)))] [] E (by kernel_rfl) (by kernel_rfl) trivial ?_
 clear E; intro a E
 refine E.cases (t := 19) rfl (fun hb_ E_ => ?_) (fun hb_ E_ => ?_)
 ·
  replace E := E_; clear E_
  have h32 : length < 0 := of_decide_eq_true hb_
  clear hb_; replace hP := ite_t h32 hP
  refine vn tbok 3 [] [(22, .bool true)] [] E (by kernel_rfl) (by kernel_rfl) trivial ?_
  clear E; intro a E
  refine wpList_nil ?_
  refine th_n ?_
  refine c_true E rfl ?_
  refine wp_seq ?_
  refine wp_region_lit ?_
  refine vn tbok 2 [] [(4, .int .u64 0), (5, .int .i64 2)] [] E (by kernel_rfl) (by kernel_rfl) trivial ?_
  clear E; intro a E
  refine wpList_nil ?_
  refine th_n ?_
  refine wp_ret ?_
  refine th_ret ?_
  obtain rfl := Option.some.inj hP
  refine ret2 E rfl rfl rfl ?_
  exact ⟨_, rfl, rfl, H.sel [] rfl⟩
 replace E := E_; clear E_
 have h33 : ¬ (length < 0) := of_decide_eq_false hb_
 clear hb_; replace hP := ite_f h33 hP
 refine vn tbok 3 [] [(22, .bool (decide (1024 < length)))] [] E (by kernel_rfl) (by kernel_rfl) trivial ?_
 clear E; intro a E
 refine wpList_nil ?_
 refine th_n ?_
 refine E.cases (t := 22) rfl (fun hb_ E_ => ?_) (fun hb_ E_ => ?_)
 ·
  replace E := E_; clear E_
  have h34 : 1024 < length := of_decide_eq_true hb_
  clear hb_; replace hP := ite_t h34 hP
  refine c_true E rfl ?_
  refine wp_seq ?_
  refine wp_region_lit ?_
  refine vn tbok 2 [] [(4, .int .u64 0), (5, .int .i64 2)] [] E (by kernel_rfl) (by kernel_rfl) trivial ?_
  clear E; intro a E
  refine wpList_nil ?_
  refine th_n ?_
  refine wp_ret ?_
  refine th_ret ?_
  obtain rfl := Option.some.inj hP
  refine ret2 E rfl rfl rfl ?_
  exact ⟨_, rfl, rfl, H.sel [] rfl⟩
 replace E := E_; clear E_
 have h35 : ¬ (1024 < length) := of_decide_eq_false hb_
 clear hb_; replace hP := ite_f h35 hP
 refine c_false E rfl ?_
 refine wp_skip ?_
 refine th_n ?_
 refine wp_seq ?_
 refine wp_region_lit ?_
 refine vn tbok 3 [.agg #[.int .i64 aProps, .slice A1 (List.length aAccept) c2, .slice A5 (List.length aGuard) c6, .slice A9 (List.length aNodes) c10]] [(23, .agg #[.int .i64 aProps, .slice A1 (List.length aAccept) c2, .slice A5 (List.length aGuard) c6, .slice A9 (List.length aNodes) c10]), (24, .slice A27 (List.length r18.1) c28), (25, .int .i64 length)] [cellsAt w24 g13 (0) [.int .i64 aProps, .slice A1 (List.length aAccept) c2, .slice A5 (List.length aGuard) c6, .slice A9 (List.length aNodes) c10]] E (by kernel_rfl) (by kernel_rfl) ((H.box 3 rfl).sub 0 _ rfl) ?_
 clear E; intro a E
 obtain ⟨r36, h37, hP⟩ := bind_inv hP
 obtain ⟨Fa38, Hc39, hb40⟩ := H.call [] [(0, false), (1, false), (2, false), (4, false)] rfl rfl trivial
 refine e_call E rfl rfl Try.func43 rfl rfl rfl (lang_counts_calls A1 c2 A5 c6 A9 c10 A27 c28 aProps aAccept aGuard aNodes r18.1 length hk3 hk7 hk11 (H.rcap 4 rfl) Hc39 h37) ?_
 rintro v41 w42 a ⟨A45, c46, rfl, HR43⟩ E_
 replace E := E_ _ rfl; clear E_
 obtain ⟨H_, hc44⟩ := hb40 _ _ HR43 rfl
 replace H := H_; clear H_; try dsimp only [setn, addE, goneL] at H
 obtain ⟨g48, hP⟩ := ask_inv hP
 obtain ⟨b49, e_b49⟩ := H.raddr 5 rfl (idx_pos g48)
 subst e_b49
 refine vn tbok 2 [.agg #[.int .u64 ((List.getD r36 (Int.toNat (0 : Int)) (0, false)).1), .bool ((List.getD r36 (Int.toNat (0 : Int)) (0, false)).2)]] [(28, .agg #[.int .u64 ((List.getD r36 (Int.toNat (0 : Int)) (0, false)).1), .bool ((List.getD r36 (Int.toNat (0 : Int)) (0, false)).2)])] [0 ≤ (0 : Int) ∧ (0 : Int) < (((List.length r36) : Nat) : Int), cellsAt w42 b49 (0 + (Int.toNat (0 : Int)) * 2) [.int .u64 ((List.getD r36 (Int.toNat (0 : Int)) (0, false)).1), .bool ((List.getD r36 (Int.toNat (0 : Int)) (0, false)).2)]] E (by kernel_rfl) (by kernel_rfl) ⟨g48, Rds.atP (H.rd 5 rds_row) (0, false) g48⟩ ?_
 clear E; intro a E
 refine h_alloc H E rfl rfl tbok rfl ?_
 intro w52 g51 a hc53 hg55 H_ E_
 replace E := E_ _ rfl; clear E_
 replace H := H_; clear H_; try dsimp only [setn, addE, goneL] at H
 refine h_store (g := g51) (off := 0) H 6 rfl E rfl rfl rfl rfl tbok rfl rfl rfl rfl rfl ?_
 clear E; intro w56 a hc57 H_ E
 replace H := H_; clear H_; try dsimp only [setn, addE, goneL] at H
 refine wpList_nil ?_
 refine th_n ?_
 refine wp_seq ?_
 refine wp_seq ?_
 refine wp_region_lit ?_
 refine vn tbok 2 [.bool ((List.getD r36 (Int.toNat (0 : Int)) (0, false)).2)] [(30, .bool ((List.getD r36 (Int.toNat (0 : Int)) (0, false)).2))] [World.cell? w56 ⟨g51, 1, none⟩ = some (.bool ((List.getD r36 (Int.toNat (0 : Int)) (0, false)).2))] E (by kernel_rfl) (by kernel_rfl) ((H.box 6 rfl).cell (j := 1) rfl) ?_
 clear E; intro a E
 refine wpList_nil ?_
 refine th_n ?_
 refine E.cases (t := 30) rfl (fun hb_ E_ => ?_) (fun hb_ E_ => ?_)
 ·
  replace E := E_; clear E_
  have h58 : ((List.getD r36 (Int.toNat (0 : Int)) (0, false)).2) = true := hb_
  clear hb_; replace hP := ite_t h58 hP
  refine c_true E rfl ?_
  refine wp_seq ?_
  refine wp_region_lit ?_
  refine vn tbok 2 [] [(4, .int .u64 0), (5, .int .i64 15)] [] E (by kernel_rfl) (by kernel_rfl) trivial ?_
  clear E; intro a E
  refine wpList_nil ?_
  refine th_n ?_
  refine wp_ret ?_
  refine th_ret ?_
  obtain rfl := Option.some.inj hP
  refine ret2 E rfl rfl rfl ?_
  exact ⟨_, rfl, rfl, H.sel [] rfl⟩
 replace E := E_; clear E_
 have h59 : ¬ (((List.getD r36 (Int.toNat (0 : Int)) (0, false)).2) = true) := (ne_true_of_eq_false hb_)
 clear hb_; replace hP := ite_f h59 hP
 refine c_false E rfl ?_
 refine wp_skip ?_
 refine th_n ?_
 refine wp_seq ?_
 refine wp_region_lit ?_
 refine vn tbok 4 [.int .u64 ((List.getD r36 (Int.toNat (0 : Int)) (0, false)).1)] [(4, .int .u64 ((List.getD r36 (Int.toNat (0 : Int)) (0, false)).1)), (5, .int .i64 0)] [World.cell? w56 ⟨g51, 0, none⟩ = some (.int .u64 ((List.getD r36 (Int.toNat (0 : Int)) (0, false)).1))] E (by kernel_rfl) (by kernel_rfl) ((H.box 6 rfl).cell (j := 0) rfl) ?_
 clear E; intro a E
 refine wpList_nil ?_
 refine th_n ?_
 refine wp_ret ?_
 obtain rfl := Option.some.inj hP
 refine ret2 E rfl rfl rfl ?_
 exact ⟨_, rfl, rfl, H.sel [] rfl⟩

/-! rejoinder/rejoinderkit.SameLetters -/
def kit_SameLetters_l0 (N : Nat) (aa : List Int) (b : List Int) : Nat → Int → Option (Unit ⊕ Bool)
  | 0, _ => none
  | m41 + 1, i25 =>
    if i25 < (((List.length aa) : Nat) : Int) then
      ask (idx i25 (List.length aa)) <|
      ask (idx i25 (List.length b)) <|
      if ((List.getD aa (Int.toNat i25) 0) : Int) = (List.getD b (Int.toNat i25) 0) then
        ask (in64 (i25 + 1)) <|
        kit_SameLetters_l0 N aa b m41 (i25 + 1)
      else
        some (Sum.inr false)
    else
      some (Sum.inl ())
def kit_SameLetters (N : Nat) (aa : List Int) (b : List Int) : Option Bool :=
  if ((((List.length aa) : Nat) : Int) : Int) = (((List.length b) : Nat) : Int) then
    Option.bind (kit_SameLetters_l0 N aa b N 0) fun x42 =>
    Sum.elim (fun x47 =>
      some true)
     (fun x63 =>
      some x63) x42
  else
    some false
set_option maxRecDepth 100000 in
set_option maxHeartbeats 4000000 in
theorem kit_SameLetters_calls {N : Nat} {S Fa : Nat → Prop} {w0 : World} {r : Bool} (A1 : Option Addr) (c2 : Nat) (A5 : Option Addr) (c6 : Nat) (aa : List Int) (b : List Int) (hk3 : List.length aa ≤ c2) (hk7 : List.length b ≤ c6) (H : Hp S Fa w0 w0 [.ro false (cInt .u8) A1 aa, .ro false (cInt .u8) A5 b]) (hP : kit_SameLetters N aa b = some r) :
    Calls Try.prog 28 #[.slice A1 (List.length aa) c2, .slice A5 (List.length b) c6] w0 fun e w' => ∃ v, e = .returned v ∧ v = .bool r ∧ Hp S Fa w0 w' [] := by
 refine enterV (n := 26) Try.func28 rfl rfl rfl ?_
 intro a E
 replace E := E.pick [(0, .slice A1 (List.length aa) c2), (1, .slice A5 (List.length b) c6)] ⟨rfl, rfl, trivial⟩
 rw [kit_SameLetters] at hP
 refine wp_seq ?_
 refine wp_region_lit ?_
 refine vn tbok 1 [] [] [] E (by kernel_rfl) (by kernel_rfl) trivial ?_
 clear E; intro a E
 refine wpList_nil ?_
 refine th_n ?_
 refine wp_seq ?_
 refine wp_seq ?_
 refine wp_region_lit ?_
 refine vn tbok 5 [] [(10, .bool (((((List.length aa) : Nat) : Int) : Int) != (((List.length b) : Nat) : Int)))] [] E (by kernel_rfl) (by kernel_rfl) trivial ?_
 clear E; intro a E
 refine wpList_nil ?_
 refine th_n ?_
 refine E.cases (t := 10) rfl (fun hb_ E_ => ?_) (fun hb_ E_ => ?_)
 ·
  replace E := E_; clear E_
  have h9 : ¬ (((((List.length aa) : Nat) : Int) : Int) = (((List.length b) : Nat) : Int)) := bne_iff_ne.1 hb_
  clear hb_; replace hP := ite_f h9 hP
  refine c_true E rfl ?_
  refine wp_seq ?_
  refine wp_region_lit ?_
  refine vn tbok 1 [] [(4, .bool false)] [] E (by kernel_rfl) (by kernel_rfl) trivial ?_
  clear E; intro a E
  refine wpList_nil ?_
  refine th_n ?_
  refine wp_ret ?_
  refine th_ret ?_
  obtain rfl := Option.some.inj hP
  refine ret1 E rfl rfl ?_
  exact ⟨_, rfl, rfl, H.sel [] rfl⟩
 replace E := E_; clear E_
 have h10 : ((((List.length aa) : Nat) : Int) : Int) = (((List.length b) : Nat) : Int) := bne_eq_false_iff_eq.1 hb_
 clear hb_; replace hP := ite_t h10 hP
 refine c_false E rfl ?_
 refine wp_skip ?_
 refine th_n ?_
 refine wp_seq ?_
 refine wp_seq ?_
 refine wp_region_lit ?_
 refine vn tbok 1 [] [(5, .int .i64 0)] [] E (by kernel_rfl) (by kernel_rfl) trivial ?_
 clear E; intro a E
 refine wpList_nil ?_
 refine th_n ?_
 refine wp_block ?_
 obtain ⟨x42, hL43, hK44⟩ := bind_inv hP
 clear hP
 refine loop_cut (fun i_ a w_ => (i_ = 0 ∧ ∃ (x47 : Unit), Fr a 26 [] ∧ Hp S Fa w0 w_ [] ∧ x42 = Sum.inl x47)) ?_ ?_
 ·
  refine loopV (fun m46 a w45 => ∃ (i25 : Int), Fr a 26 [(0, .slice A1 (List.length aa) c2), (1, .slice A5 (List.length b) c6), (5, .int .i64 i25)] ∧ Hp S Fa w0 w45 [.ro false (cInt .u8) A1 aa, .ro false (cInt .u8) A5 b] ∧ kit_SameLetters_l0 N aa b m46 i25 = some x42) N ?_ ?_
  ·
   exact ⟨0, E.pick _ ⟨rfl, rfl, rfl, trivial⟩, H.sel [0, 1] rfl, hL43⟩
  clear E H hL43; intro m46 a w45 hI_
  obtain ⟨i25, E, H, hP⟩ := hI_
  obtain ⟨m41, rfl⟩ : ∃ q_, m46 = q_ + 1 := by cases m46 with | zero => rw [kit_SameLetters_l0] at hP; cases hP | succ q_ => exact ⟨q_, rfl⟩
  rw [kit_SameLetters_l0] at hP
  refine wp_seq ?_
  refine wp_seq ?_
  refine wp_region_lit ?_
  refine vn tbok 4 [] [(14, .bool (decide (i25 < (((List.length aa) : Nat) : Int))))] [] E (by kernel_rfl) (by kernel_rfl) trivial ?_
  clear E; intro a E
  refine wpList_nil ?_
  refine th_n ?_
  refine E.cases (t := 14) rfl (fun hb_ E_ => ?_) (fun hb_ E_ => ?_)
  ·
   replace E := E_; clear E_
   have h48 : i25 < (((List.length aa) : Nat) : Int) := of_decide_eq_true hb_
   clear hb_; replace hP := ite_t h48 hP
   refine c_true E rfl ?_
   refine wp_skip ?_
   refine th_n ?_
   refine wp_seq ?_
   refine wp_block ?_
   refine wp_seq ?_
   obtain ⟨g49, hP⟩ := ask_inv hP
   obtain ⟨b50, o51, e_b50⟩ := (H.rd 0 rds_ro).addr (idx_pos g49)
   subst e_b50
   obtain ⟨g52, hP⟩ := ask_inv hP
   obtain ⟨b53, o54, e_b53⟩ := (H.rd 1 rds_ro).addr (idx_pos g52)
   subst e_b53
   have HR58 := H
   refine dr_start (S := fun w_ => Chg (atL []) w45 w_) (by kernel_rfl) ?_
   intro w55 hc56
   have HS57 : Chg (atL []) w45 w55 := hc56.mono (fun _ _ h_ => h_.elim)
   replace H := H.ext hc56
   refine dn tbok (by kernel_rfl) [0, 1, 2, 3, 4, 5, 6, 7, 8] [.int .u8 (List.getD aa (Int.toNat i25) 0), .int .u8 (List.getD b (Int.toNat i25) 0)] [(25, .bool (((List.getD aa (Int.toNat i25) 0) : Int) != (List.getD b (Int.toNat i25) 0)))] (fun w_ => [0 ≤ i25 ∧ i25 < (((List.length aa) : Nat) : Int), World.cell? w_ ⟨b50, o51 + (Int.toNat i25) * 1, none⟩ = some (.int .u8 (List.getD aa (Int.toNat i25) 0)), 0 ≤ i25 ∧ i25 < (((List.length b) : Nat) : Int), World.cell? w_ ⟨b53, o54 + (Int.toNat i25) * 1, none⟩ = some (.int .u8 (List.getD b (Int.toNat i25) 0))]) 0 E (fun _ _ => by kernel_rfl) (by kernel_rfl) (fun w_ hS_ => ⟨g49, Rds.at1 (HR58.rdk [] hS_ 0 rds_ro rfl) 0 g49, g52, Rds.at1 (HR58.rdk [] hS_ 1 rds_ro rfl) 0 g52⟩) (by kernel_rfl) HS57 ?_
   clear E; intro a E
   refine dr_done (by kernel_rfl) ?_
   clear HS57 HR58
   refine th_n ?_
   refine E.cases (t := 25) rfl (fun hb_ E_ => ?_) (fun hb_ E_ => ?_)
   ·
    replace E := E_; clear E_
    have h59 : ¬ (((List.getD aa (Int.toNat i25) 0) : Int) = (List.getD b (Int.toNat i25) 0)) := bne_iff_ne.1 hb_
    clear hb_; replace hP := ite_f h59 hP
    refine c_true E rfl ?_
    refine wp_seq ?_
    refine wp_region_lit ?_
    refine vn tbok 1 [] [(4, .bool false)] [] E (by kernel_rfl) (by kernel_rfl) trivial ?_
    clear E; intro a E
    refine wpList_nil ?_
    refine th_n ?_
    refine wp_ret ?_
    refine bl_ret ?_
    refine th_ret ?_
    refine th_ret ?_
    refine .inr ⟨rfl, ?_⟩
    refine bl_ret ?_
    refine th_ret ?_
    have hx_ := Option.some.inj hP; subst hx_
    have hP : some (false) = some r := hK44
    obtain rfl := Option.some.inj hP
    refine ret1 E rfl rfl ?_
    exact ⟨_, rfl, rfl, H.sel [] rfl⟩
   replace E := E_; clear E_
   have h60 : ((List.getD aa (Int.toNat i25) 0) : Int) = (List.getD b (Int.toNat i25) 0) := bne_eq_false_iff_eq.1 hb_
   clear hb_; replace hP := ite_t h60 hP
   refine c_false E rfl ?_
   refine wp_skip ?_
   refine bl_n ?_
   refine th_n ?_
   refine wp_region_lit ?_
   obtain ⟨g61, hP⟩ := ask_inv hP
   refine vn tbok 3 [.int .i64 (i25 + 1)] [(5, .int .i64 (i25 + 1))] [IntKind.i64.wrap (i25 + 1) = i25 + 1] E (by kernel_rfl) (by kernel_rfl) (wrap_in g61) ?_
   clear E; intro a E
   refine wpList_nil ?_
   exact th_n ⟨m41, Nat.lt_succ_self _, i25 + 1, E.pick _ ⟨rfl, rfl, rfl, trivial⟩, H.sel [0, 1] rfl, hP⟩
  replace E := E_; clear E_
  have h62 : ¬ (i25 < (((List.length aa) : Nat) : Int)) := of_decide_eq_false hb_
  clear hb_; replace hP := ite_f h62 hP
  refine c_false E rfl ?_
  refine wp_exit ?_
  refine th_exit ?_
  have hx_ := Option.some.inj hP
  refine th_exit (.inl ⟨0, rfl, ?_⟩)
  exact ⟨rfl, (), E.pick _ trivial, H.sel [] rfl, hx_.symm⟩
 clear E H hL43; intro i_ a w45 hM_
 obtain ⟨rfl, x47, E, H, hx_⟩ := hM_
 subst hx_; have hP := elim_l hK44
 clear hK44
 refine bl_hit ?_
 refine th_n ?_
 refine wp_seq ?_
 refine wp_region_lit ?_
 refine vn tbok 1 [] [(4, .bool true)] [] E (by kernel_rfl) (by kernel_rfl) trivial ?_
 clear E; intro a E
 refine wpList_nil ?_
 refine th_n ?_
 refine wp_ret ?_
 obtain rfl := Option.some.inj hP
 refine ret1 E rfl rfl ?_
 exact ⟨_, rfl, rfl, H.sel [] rfl⟩

end Go.V
