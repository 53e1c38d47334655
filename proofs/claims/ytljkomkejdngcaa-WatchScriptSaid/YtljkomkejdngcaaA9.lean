/- Plain functions, and the calls that give them. -/
import Derived.Test.YtljkomkejdngcaaA8
set_option linter.all false
set_option linter.unusedVariables false
set_option linter.unnecessarySimpa false
set_option linter.unusedSimpArgs false
namespace Go.V
open Go Go.Proofs
/-! rejoinder/rejoinderkit.SameLetters -/
/-! rejoinder/rejoinderkit.KeptLetters -/
/-! rejoinder/watch.New -/
def watch_New (N : Nat) (aProps : Int) (aAccept : List Bool) (aGuard : List Int) (aNodes : List Nd) : Option (Int ⊕ (((Int × (List Bool) × (List Int) × (List Nd)) × (List Int) × (List Int)) × Int)) :=
  Option.bind (guard_Check N aProps aAccept aGuard aNodes) fun r125 =>
  if (r125 : Int) = 0 then
    Option.bind (watch_made N aProps aAccept aGuard aNodes) fun r136 =>
    some (Sum.inr (r136, 0))
  else
    some (Sum.inl r125)
set_option maxRecDepth 100000 in
set_option maxHeartbeats 4000000 in
theorem watch_New_calls {N : Nat} {S Fa : Nat → Prop} {w0 : World} {r : Int ⊕ (((Int × (List Bool) × (List Int) × (List Nd)) × (List Int) × (List Int)) × Int)} (A1 : Option Addr) (c2 : Nat) (A5 : Option Addr) (c6 : Nat) (A9 : Option Addr) (c10 : Nat) (aProps : Int) (aAccept : List Bool) (aGuard : List Int) (aNodes : List Nd) (hk3 : List.length aAccept ≤ c2) (hk7 : List.length aGuard ≤ c6) (hk11 : List.length aNodes ≤ c10) (H : Hp S Fa w0 w0 [.ro false cBool A1 aAccept, .ro false (cInt .i64) A5 aGuard, .ro false cNode A9 aNodes]) (hP : watch_New N aProps aAccept aGuard aNodes = some r) :
    Calls Try.prog 26 #[.agg #[.int .i64 aProps, .slice A1 (List.length aAccept) c2, .slice A5 (List.length aGuard) c6, .slice A9 (List.length aNodes) c10]] w0 fun e w' => ∃ v, e = .returned v ∧ ((∃ (x_ : Int), r = Sum.inl x_ ∧ v = .tuple #[.pointer none, .int .i64 x_] ∧ Hp S Fa w0 w' []) ∨ (∃ (x_ : ((Int × (List Bool) × (List Int) × (List Nd)) × (List Int) × (List Int)) × Int) (g15 : Nat) (b17 : Nat), r = Sum.inr x_ ∧ v = .tuple #[.pointer (some ⟨g15, 0, none⟩), .int .i64 x_.2] ∧ Hp S Fa w0 w' [.box g15 27 [.pointer (some ⟨b17, 0, none⟩), .slice none 0 0], .ro true cS78 (some ⟨b17, 0, none⟩) ([x_.1])])) := by
 refine enterV (n := 14) Try.func26 rfl rfl rfl ?_
 intro a E
 replace E := E.pick [(0, .agg #[.int .i64 aProps, .slice A1 (List.length aAccept) c2, .slice A5 (List.length aGuard) c6, .slice A9 (List.length aNodes) c10])] ⟨rfl, trivial⟩
 rw [watch_New] at hP
 refine wp_seq ?_
 refine wp_region_lit ?_
 refine h_box H E rfl rfl rfl ?_
 intro w121 g120 a hc122 hg124 H_ E_
 replace E := E_ _ rfl; clear E_
 replace H := H_; clear H_; try dsimp only [setn, addE, goneL] at H
 refine vn tbok 2 [] [] [] E (by kernel_rfl) (by kernel_rfl) trivial ?_
 clear E; intro a E
 refine wpList_nil ?_
 refine th_n ?_
 refine wp_seq ?_
 refine wp_seq ?_
 refine wp_region_lit ?_
 refine vn tbok 1 [.agg #[.int .i64 aProps, .slice A1 (List.length aAccept) c2, .slice A5 (List.length aGuard) c6, .slice A9 (List.length aNodes) c10]] [(5, .agg #[.int .i64 aProps, .slice A1 (List.length aAccept) c2, .slice A5 (List.length aGuard) c6, .slice A9 (List.length aNodes) c10])] [cellsAt w121 g120 (0) [.int .i64 aProps, .slice A1 (List.length aAccept) c2, .slice A5 (List.length aGuard) c6, .slice A9 (List.length aNodes) c10]] E (by kernel_rfl) (by kernel_rfl) ((H.box 3 rfl).sub 0 _ rfl) ?_
 clear E; intro a E
 obtain ⟨r125, h126, hP⟩ := bind_inv hP
 obtain ⟨Fa127, Hc128, hb129⟩ := H.call [] [(0, false), (1, false), (2, false)] rfl rfl trivial
 refine e_call E rfl rfl Try.func36 rfl rfl rfl (guard_Check_calls A1 c2 A5 c6 A9 c10 aProps aAccept aGuard aNodes hk3 hk7 hk11 Hc128 h126) ?_
 rintro v130 w131 a ⟨rfl, HR132⟩ E_
 replace E := E_ _ rfl; clear E_
 obtain ⟨H_, hc133⟩ := hb129 _ _ HR132 rfl
 replace H := H_; clear H_; try dsimp only [setn, addE, goneL] at H
 refine vn tbok 1 [] [(4, .int .i64 r125)] [] E (by kernel_rfl) (by kernel_rfl) trivial ?_
 clear E; intro a E
 refine wpList_nil ?_
 refine th_n ?_
 refine wp_seq ?_
 refine wp_region_lit ?_
 refine vn tbok 2 [] [(8, .bool ((r125 : Int) != 0))] [] E (by kernel_rfl) (by kernel_rfl) trivial ?_
 clear E; intro a E
 refine wpList_nil ?_
 refine th_n ?_
 refine E.cases (t := 8) rfl (fun hb_ E_ => ?_) (fun hb_ E_ => ?_)
 ·
  replace E := E_; clear E_
  have h134 : ¬ ((r125 : Int) = 0) := bne_iff_ne.1 hb_
  clear hb_; replace hP := ite_f h134 hP
  refine c_true E rfl ?_
  refine wp_seq ?_
  refine wp_region_lit ?_
  refine vn tbok 3 [] [(2, .pointer none), (3, .int .i64 r125)] [] E (by kernel_rfl) (by kernel_rfl) trivial ?_
  clear E; intro a E
  refine wpList_nil ?_
  refine th_n ?_
  refine wp_ret ?_
  refine th_ret ?_
  obtain rfl := Option.some.inj hP
  refine ret2 E rfl rfl rfl ?_
  exact ⟨_, rfl, .inl ⟨r125, rfl, rfl, H.sel [] rfl⟩⟩
 replace E := E_; clear E_
 have h135 : (r125 : Int) = 0 := bne_eq_false_iff_eq.1 hb_
 clear hb_; replace hP := ite_t h135 hP
 refine c_false E rfl ?_
 refine wp_skip ?_
 refine th_n ?_
 refine wp_seq ?_
 refine wp_region_lit ?_
 refine vn tbok 1 [.agg #[.int .i64 aProps, .slice A1 (List.length aAccept) c2, .slice A5 (List.length aGuard) c6, .slice A9 (List.length aNodes) c10]] [(10, .agg #[.int .i64 aProps, .slice A1 (List.length aAccept) c2, .slice A5 (List.length aGuard) c6, .slice A9 (List.length aNodes) c10])] [cellsAt w131 g120 (0) [.int .i64 aProps, .slice A1 (List.length aAccept) c2, .slice A5 (List.length aGuard) c6, .slice A9 (List.length aNodes) c10]] E (by kernel_rfl) (by kernel_rfl) ((H.box 3 rfl).sub 0 _ rfl) ?_
 clear E; intro a E
 obtain ⟨r136, h137, hP⟩ := bind_inv hP
 obtain ⟨Fa138, Hc139, hb140⟩ := H.call [] [(0, false), (1, false), (2, false)] rfl rfl trivial
 refine e_call E rfl rfl Try.func38 rfl rfl rfl (watch_made_calls A1 c2 A5 c6 A9 c10 aProps aAccept aGuard aNodes hk3 hk7 hk11 Hc139 h137) ?_
 intro v146 w145 a hR147 E_
 obtain ⟨x_, b150, hr_, rfl, HR149⟩ := hR147
 subst hr_
 replace E := E_ _ rfl; clear E_
 obtain ⟨H_, hc148⟩ := hb140 _ _ HR149 rfl
 replace H := H_; clear H_; try dsimp only [setn, addE, goneL] at H
 refine e_build (ps := [(0, .pointer (some ⟨b150, 0, none⟩))]) (v := .agg #[.pointer (some ⟨b150, 0, none⟩), .slice none 0 0]) E rfl rfl tbok rfl (by kernel_rfl) rfl ?_
 clear E; intro a E
 refine h_box H E rfl rfl rfl ?_
 intro w153 g152 a hc154 hg156 H_ E_
 replace E := E_ _ rfl; clear E_
 replace H := H_; clear H_; try dsimp only [setn, addE, goneL] at H
 refine vn tbok 2 [] [(2, .pointer (some ⟨g152, 0, none⟩)), (3, .int .i64 0)] [] E (by kernel_rfl) (by kernel_rfl) trivial ?_
 clear E; intro a E
 refine wpList_nil ?_
 refine th_n ?_
 refine wp_ret ?_
 obtain rfl := Option.some.inj hP
 refine ret2 E rfl rfl rfl ?_
 exact ⟨_, rfl, .inr (⟨(r136, 0), g152, b150, rfl, rfl, H.sel [5, 4] rfl⟩)⟩

/-! (*rejoinder/watch.Watch).Fork -/
def watch_Watch_Fork (N : Nat) (wboard : (Int × (List Bool) × (List Int) × (List Nd)) × (List Int) × (List Int)) (wcame : List Int) : Option (Unit ⊕ Unit) :=
  Option.bind (watch_Watch_none N wboard wcame) fun r114 =>
  if r114 = true then
    some (Sum.inl ())
  else
    ask (List.length ([] : List Int) + List.length wcame ≤ 1000000000) <|
    some (Sum.inr ())
set_option maxRecDepth 100000 in
set_option maxHeartbeats 4000000 in
theorem watch_Watch_Fork_calls {N : Nat} {S Fa : Nat → Prop} {w0 : World} {r : Unit ⊕ Unit} (g1 : Nat) (b3 : Nat) (o4 : Nat) (A6 : Option Addr) (c7 : Nat) (wboard : (Int × (List Bool) × (List Int) × (List Nd)) × (List Int) × (List Int)) (wcame : List Int) (H : Hp S Fa w0 w0 [.box g1 27 [.pointer (some ⟨b3, o4, none⟩), .slice A6 (List.length wcame) c7], .row true (cInt .i64) 3 A6 c7 wcame, .ro false cS78 (some ⟨b3, o4, none⟩) ([wboard])]) (hP : watch_Watch_Fork N wboard wcame = some r) :
    Calls Try.prog 15 #[.pointer (some ⟨g1, 0, none⟩)] w0 fun e w' => ∃ v, e = .returned v ∧ ((∃ (x_ : Unit), r = Sum.inl x_ ∧ v = .pointer none ∧ Hp S Fa w0 w' [.row true (cInt .i64) 3 A6 c7 wcame, .box g1 27 [.pointer (some ⟨b3, o4, none⟩), .slice A6 (List.length wcame) c7]]) ∨ (∃ (x_ : Unit) (g10 : Nat) (A12 : Option Addr) (c13 : Nat), r = Sum.inr x_ ∧ v = .pointer (some ⟨g10, 0, none⟩) ∧ Hp S Fa w0 w' [.box g10 27 [.pointer (some ⟨b3, o4, none⟩), .slice A12 (List.length (([] : List Int) ++ wcame)) c13], .row true (cInt .i64) 3 A12 c13 (([] : List Int) ++ wcame), .row true (cInt .i64) 3 A6 c7 wcame, .box g1 27 [.pointer (some ⟨b3, o4, none⟩), .slice A6 (List.length wcame) c7]])) := by
 refine enterV (n := 17) Try.func15 rfl rfl rfl ?_
 intro a E
 replace E := E.pick [(0, .pointer (some ⟨g1, 0, none⟩))] ⟨rfl, trivial⟩
 rw [watch_Watch_Fork] at hP
 refine wp_seq ?_
 refine wp_region_lit ?_
 refine vn tbok 1 [] [] [] E (by kernel_rfl) (by kernel_rfl) trivial ?_
 clear E; intro a E
 refine wpList_nil ?_
 refine th_n ?_
 refine wp_seq ?_
 refine wp_seq ?_
 refine wp_region_lit ?_
 refine vn tbok 1 [] [(3, .pointer (some ⟨g1, 0, none⟩))] [] E (by kernel_rfl) (by kernel_rfl) trivial ?_
 clear E; intro a E
 obtain ⟨r114, h115, hP⟩ := bind_inv hP
 obtain ⟨Fa116, Hc117, hb118⟩ := H.call [0, 1] [(2, false)] rfl rfl ⟨flat_plain, trivial⟩
 refine e_call E rfl rfl Try.func32 rfl rfl rfl (watch_Watch_none_calls g1 b3 o4 A6 c7 wboard wcame  Hc117 h115) ?_
 intro v124 w123 a hR125 E_
 obtain ⟨x_, hr_, rfl, HR127⟩ := hR125
 subst hr_
 replace E := E_ _ rfl; clear E_
 obtain ⟨H_, hc126⟩ := hb118 _ _ HR127 rfl
 replace H := H_; clear H_; try dsimp only [setn, addE, goneL] at H
 refine wpList_nil ?_
 refine th_n ?_
 refine E.cases (t := 4) rfl (fun hb_ E_ => ?_) (fun hb_ E_ => ?_)
 ·
  replace E := E_; clear E_
  have h130 : r114 = true := hb_
  clear hb_; replace hP := ite_t h130 hP
  refine c_true E rfl ?_
  refine wp_seq ?_
  refine wp_region_lit ?_
  refine vn tbok 1 [] [(2, .pointer none)] [] E (by kernel_rfl) (by kernel_rfl) trivial ?_
  clear E; intro a E
  refine wpList_nil ?_
  refine th_n ?_
  refine wp_ret ?_
  refine th_ret ?_
  obtain rfl := Option.some.inj hP
  refine ret1 E rfl rfl ?_
  exact ⟨_, rfl, .inl ⟨(), rfl, rfl, H.sel [3, 4] rfl⟩⟩
 replace E := E_; clear E_
 have h131 : ¬ (r114 = true) := (ne_true_of_eq_false hb_)
 clear hb_; replace hP := ite_f h131 hP
 refine c_false E rfl ?_
 refine wp_skip ?_
 refine th_n ?_
 refine wp_seq ?_
 obtain ⟨g137, hP⟩ := ask_inv hP
 have HR151 := H
 refine dr_start (S := fun w_ => Chg (atL []) w123 w_) (by kernel_rfl) ?_
 intro w148 hc149
 have HS150 : Chg (atL []) w123 w148 := hc149.mono (fun _ _ h_ => h_.elim)
 replace H := H.ext hc149
 refine dn tbok (by kernel_rfl) [0, 1, 2, 3, 5, 6, 7, 8] [.pointer (some ⟨b3, o4, none⟩), .slice A6 (List.length wcame) c7] [(8, .pointer (some ⟨b3, o4, none⟩)), (13, .slice A6 (List.length wcame) c7)] (fun w_ => [World.cell? w_ ⟨g1, 0, none⟩ = some (.pointer (some ⟨b3, o4, none⟩)), World.cell? w_ ⟨g1, 1, none⟩ = some (.slice A6 (List.length wcame) c7)]) 5 E (fun _ _ => by kernel_rfl) (by kernel_rfl) (fun w_ hS_ => ⟨(HR151.boxk [] hS_ 4 rfl rfl).cell (j := 0) rfl, (HR151.boxk [] hS_ 4 rfl rfl).cell (j := 1) rfl⟩) (by kernel_rfl) HS150 ?_
 clear E; intro a E
 refine wpAnyH_all (rs := [4]) (by kernel_rfl) (by simp) ?_
 refine all1 ?_
 refine wpOp_of_list rfl ?_
 refine h_buildSlice (ps := []) (cs := []) H E rfl rfl tbok rfl rfl (by kernel_rfl) ?_
 intro w153 g152 a hc154 hg156 H_ E_
 replace E := E_ _ rfl; clear E_
 have hin157 : ∀ q_, q_ < w123.heap.size → q_ = g152 → (atL []) q_ := fun q_ h1_ h2_ => by have hs_ := HS150.size; have h4_ : q_ = g152 := h2_; exfalso; omega
 replace HS150 := HS150.ext hc154
 replace H := H_; clear H_; try dsimp only [setn, addE, goneL] at H
 refine wpList_nil ?_
 refine th_n ⟨HS150, ?_⟩
 refine wpAnyH_all (rs := [9]) (by kernel_rfl) (by simp) ?_
 refine all1 ?_
 refine wpOp_of_list rfl ?_
 replace H := H.boxRow (cInt .i64) true ([] : List Int) 5 rfl (fun _ _ => rfl) (Nat.le_of_ble_eq_true rfl); try dsimp only [setn, addE, goneL] at H
 replace H := H.rowx 5 rfl; try dsimp only [setn, addE, goneL] at H
 refine h_append (cInt .i64) (xs := ([] : List Int)) (ys := wcame) (0 : Int) H 5 rfl E rfl rfl tbok rfl rfl rfl rfl rfl (fun _ _ => rfl) rfl rfl (fun _ HF_ => HF_.srcF flat_plain 3 rds_row) g137 ?_
 intro w158 A159 c160 a hc161 hA162 H_ E_
 replace E := E_ _ rfl; clear E_
 have hin163 : ∀ q_, q_ < w123.heap.size → At A159 q_ → (atL []) q_ := fun q_ h1_ h2_ => (hA162 q_ h2_).elim ((fun q_ h1_ h2_ => hin157 q_ h1_ (At.of_g h2_)) q_ h1_) (fun h3_ => by have hs_ := HS150.size; exfalso; omega)
 replace HS150 := HS150.trans hc161 (fun k_ hk_ h_ => (fun q_ h1_ h2_ => hin157 q_ h1_ (At.of_g h2_)) k_ hk_ h_)
 replace H := H_; clear H_; try dsimp only [setn, addE, goneL] at H
 refine wpList_nil ?_
 refine th_n ⟨HS150, ?_⟩
 refine wpAnyH_all (rs := [10]) (by kernel_rfl) (by simp) ?_
 refine all1 ?_
 refine wpOp_of_list rfl ?_
 refine e_build (ps := [(0, .pointer (some ⟨b3, o4, none⟩)), (1, .slice A159 (List.length (([] : List Int) ++ wcame)) c160)]) (v := .agg #[.pointer (some ⟨b3, o4, none⟩), .slice A159 (List.length (([] : List Int) ++ wcame)) c160]) E rfl rfl tbok rfl (by kernel_rfl) rfl ?_
 clear E; intro a E
 refine wpList_nil ?_
 refine th_n ⟨HS150, ?_⟩
 refine wpAnyH_all (rs := [11]) (by kernel_rfl) (by simp) ?_
 refine all1 ?_
 refine wpOp_of_list rfl ?_
 refine h_box H E rfl rfl rfl ?_
 intro w165 g164 a hc166 hg168 H_ E_
 replace E := E_ _ rfl; clear E_
 have hin169 : ∀ q_, q_ < w123.heap.size → q_ = g164 → (atL []) q_ := fun q_ h1_ h2_ => by have hs_ := HS150.size; have h4_ : q_ = g164 := h2_; exfalso; omega
 replace HS150 := HS150.ext hc166
 replace H := H_; clear H_; try dsimp only [setn, addE, goneL] at H
 refine wpList_nil ?_
 refine th_n ⟨HS150, ?_⟩
 refine dn tbok (by kernel_rfl) [12] [] [(2, .pointer (some ⟨g164, 0, none⟩))] (fun w_ => []) 0 E (fun _ _ => by kernel_rfl) (by kernel_rfl) (fun w_ hS_ => trivial) (by kernel_rfl) HS150 ?_
 clear E; intro a E
 refine dr_done (by kernel_rfl) ?_
 clear HS150 HR151
 refine th_n ?_
 refine wp_ret ?_
 obtain rfl := Option.some.inj hP
 refine ret1 E rfl rfl ?_
 exact ⟨_, rfl, .inr (⟨(), g164, A159, c160, rfl, rfl, H.sel [6, 5, 3, 4] rfl⟩)⟩

/-! (*rejoinder/rejoinderref21.Watch).Feed -/
def ref21_Watch_Feed (N : Nat) (wAProps : Int) (wAAccept : List Bool) (wAGuard : List Int) (wANodes : List Nd) (wT : List Int) (ll : Int) : Option (Int × Int × (List Int)) :=
  Option.bind (ref01_Fits N wAProps ll) fun r126 =>
  if r126 = true then
    if 1024 ≤ (((List.length wT) : Nat) : Int) then
      some (0, 15, wT)
    else
      ask (List.length ([] : List Int) + List.length wT ≤ 1000000000) <|
      ask (List.length (([] : List Int) ++ wT) + List.length ([ll] : List Int) ≤ 1000000000) <|
      Option.bind (ref21_Watch_State N wAProps wAAccept wAGuard wANodes ((([] : List Int) ++ wT) ++ ([ll] : List Int))) fun r163 =>
      Option.bind (ref21_Verdict N wAProps wAAccept wAGuard wANodes r163) fun r178 =>
      some (r178, 0, (([] : List Int) ++ wT) ++ ([ll] : List Int))
  else
    some (0, 2, wT)
set_option maxRecDepth 100000 in
set_option maxHeartbeats 4000000 in
theorem ref21_Watch_Feed_calls {N : Nat} {S Fa : Nat → Prop} {w0 : World} {r : Int × Int × (List Int)} (g1 : Nat) (A3 : Option Addr) (c4 : Nat) (A7 : Option Addr) (c8 : Nat) (A11 : Option Addr) (c12 : Nat) (A15 : Option Addr) (c16 : Nat) (wAProps : Int) (wAAccept : List Bool) (wAGuard : List Int) (wANodes : List Nd) (wT : List Int) (ll : Int) (hk5 : List.length wAAccept ≤ c4) (hk9 : List.length wAGuard ≤ c8) (hk13 : List.length wANodes ≤ c12) (hk17 : List.length wT ≤ c16) (H : Hp S Fa w0 w0 [.box g1 67 [.int .i64 wAProps, .slice A3 (List.length wAAccept) c4, .slice A7 (List.length wAGuard) c8, .slice A11 (List.length wANodes) c12, .slice A15 (List.length wT) c16], .ro false cBool A3 wAAccept, .ro false (cInt .i64) A7 wAGuard, .ro false cNode A11 wANodes, .ro false (cInt .u8) A15 wT]) (hP : ref21_Watch_Feed N wAProps wAAccept wAGuard wANodes wT ll = some r) :
    Calls Try.prog 47 #[.pointer (some ⟨g1, 0, none⟩), .int .u8 ll] w0 fun e w' => ∃ v, e = .returned v ∧ (∃ (x_ : Int × Int × (List Int)) (A23 : Option Addr) (c24 : Nat), r = x_ ∧ v = .tuple #[.int .u8 x_.1, .int .i64 x_.2.1] ∧ List.length x_.2.2 ≤ c24 ∧ Hp S Fa w0 w' [.box g1 67 [.int .i64 wAProps, .slice A3 (List.length wAAccept) c4, .slice A7 (List.length wAGuard) c8, .slice A11 (List.length wANodes) c12, .slice A23 (List.length x_.2.2) c24], .ro false (cInt .u8) A23 x_.2.2]) := by
 refine enterV (n := 39) Try.func47 rfl rfl rfl ?_
 intro a E
 replace E := E.pick [(0, .pointer (some ⟨g1, 0, none⟩)), (1, .int .u8 ll)] ⟨rfl, rfl, trivial⟩
 rw [ref21_Watch_Feed] at hP
 refine wp_seq ?_
 refine wp_region_lit ?_
 refine vn tbok 2 [] [] [] E (by kernel_rfl) (by kernel_rfl) trivial ?_
 clear E; intro a E
 refine wpList_nil ?_
 refine th_n ?_
 refine wp_seq ?_
 refine wp_seq ?_
 refine wp_region_lit ?_
 refine vn tbok 6 [.int .i64 wAProps] [(10, .int .i64 wAProps), (11, .int .u8 ll)] [World.cell? w0 ⟨g1, 0, none⟩ = some (.int .i64 wAProps)] E (by kernel_rfl) (by kernel_rfl) ((H.box 0 rfl).cell (j := 0) rfl) ?_
 clear E; intro a E
 obtain ⟨r126, h127, hP⟩ := bind_inv hP
 obtain ⟨Fa128, Hc129, hb130⟩ := H.call [] [] rfl rfl trivial
 refine e_call E rfl rfl Try.func54 rfl rfl rfl (ref01_Fits_calls  wAProps ll  Hc129 h127) ?_
 rintro v131 w132 a ⟨rfl, HR133⟩ E_
 replace E := E_ _ rfl; clear E_
 obtain ⟨H_, hc134⟩ := hb130 _ _ HR133 rfl
 replace H := H_; clear H_; try dsimp only [setn, addE, goneL] at H
 refine vn tbok 1 [] [(13, .bool (!r126))] [] E (by kernel_rfl) (by kernel_rfl) trivial ?_
 clear E; intro a E
 refine wpList_nil ?_
 refine th_n ?_
 refine E.cases (t := 13) rfl (fun hb_ E_ => ?_) (fun hb_ E_ => ?_)
 ·
  replace E := E_; clear E_
  have h135 : ¬ (r126 = true) := (ne_true_of_eq_false (not_t hb_))
  clear hb_; replace hP := ite_f h135 hP
  refine c_true E rfl ?_
  refine wp_seq ?_
  refine wp_region_lit ?_
  refine vn tbok 2 [] [(4, .int .u8 0), (5, .int .i64 2)] [] E (by kernel_rfl) (by kernel_rfl) trivial ?_
  clear E; intro a E
  refine wpList_nil ?_
  refine th_n ?_
  refine wp_ret ?_
  refine th_ret ?_
  obtain rfl := Option.some.inj hP
  refine ret2 E rfl rfl rfl ?_
  exact ⟨_, rfl, ⟨(0, 2, wT), A15, c16, rfl, rfl, hk17, H.sel [0, 4] rfl⟩⟩
 replace E := E_; clear E_
 have h136 : r126 = true := (not_f hb_)
 clear hb_; replace hP := ite_t h136 hP
 refine c_false E rfl ?_
 refine wp_skip ?_
 refine th_n ?_
 refine wp_seq ?_
 refine wp_seq ?_
 refine wp_region_lit ?_
 refine vn tbok 6 [.slice A15 (List.length wT) c16] [(19, .bool (decide (1024 ≤ (((List.length wT) : Nat) : Int))))] [World.cell? w132 ⟨g1, 4, none⟩ = some (.slice A15 (List.length wT) c16)] E (by kernel_rfl) (by kernel_rfl) ((H.box 0 rfl).cell (j := 4) rfl) ?_
 clear E; intro a E
 refine wpList_nil ?_
 refine th_n ?_
 refine E.cases (t := 19) rfl (fun hb_ E_ => ?_) (fun hb_ E_ => ?_)
 ·
  replace E := E_; clear E_
  have h137 : 1024 ≤ (((List.length wT) : Nat) : Int) := of_decide_eq_true hb_
  clear hb_; replace hP := ite_t h137 hP
  refine c_true E rfl ?_
  refine wp_seq ?_
  refine wp_region_lit ?_
  refine vn tbok 2 [] [(4, .int .u8 0), (5, .int .i64 15)] [] E (by kernel_rfl) (by kernel_rfl) trivial ?_
  clear E; intro a E
  refine wpList_nil ?_
  refine th_n ?_
  refine wp_ret ?_
  refine th_ret ?_
  obtain rfl := Option.some.inj hP
  refine ret2 E rfl rfl rfl ?_
  exact ⟨_, rfl, ⟨(0, 15, wT), A15, c16, rfl, rfl, hk17, H.sel [0, 4] rfl⟩⟩
 replace E := E_; clear E_
 have h138 : ¬ (1024 ≤ (((List.length wT) : Nat) : Int)) := of_decide_eq_false hb_
 clear hb_; replace hP := ite_f h138 hP
 refine c_false E rfl ?_
 refine wp_skip ?_
 refine th_n ?_
 refine wp_seq ?_
 refine wp_region_lit ?_
 refine vn tbok 1 [] [(20, .pointer (some ⟨g1, 0, none⟩))] [] E (by kernel_rfl) (by kernel_rfl) trivial ?_
 clear E; intro a E
 refine h_buildSlice (ps := []) (cs := []) H E rfl rfl tbok rfl rfl (by kernel_rfl) ?_
 intro w140 g139 a hc141 hg143 H_ E_
 replace E := E_ _ rfl; clear E_
 replace H := H_; clear H_; try dsimp only [setn, addE, goneL] at H
 refine vn tbok 4 [.slice A15 (List.length wT) c16] [(25, .slice A15 (List.length wT) c16)] [World.cell? w140 ⟨g1, 4, none⟩ = some (.slice A15 (List.length wT) c16)] E (by kernel_rfl) (by kernel_rfl) ((H.box 0 rfl).cell (j := 4) rfl) ?_
 clear E; intro a E
 replace H := H.boxRow (cInt .u8) true ([] : List Int) 5 rfl (fun _ _ => rfl) (Nat.le_of_ble_eq_true rfl); try dsimp only [setn, addE, goneL] at H
 replace H := H.rowx 5 rfl; try dsimp only [setn, addE, goneL] at H
 obtain ⟨g144, hP⟩ := ask_inv hP
 refine h_append (cInt .u8) (xs := ([] : List Int)) (ys := wT) (0 : Int) H 5 rfl E rfl rfl tbok rfl rfl rfl rfl rfl (fun _ _ => rfl) rfl rfl (fun _ HF_ => HF_.srcF flat_plain 4 rds_ro) g144 ?_
 intro w145 A146 c147 a hc148 hA149 H_ E_
 replace E := E_ _ rfl; clear E_
 replace H := H_; clear H_; try dsimp only [setn, addE, goneL] at H
 refine vn tbok 1 [] [(27, .int .u8 ll)] [] E (by kernel_rfl) (by kernel_rfl) trivial ?_
 clear E; intro a E
 refine h_buildSlice (ps := [(0, .int .u8 ll)]) (cs := [.int .u8 ll]) H E rfl rfl tbok rfl rfl (by kernel_rfl) ?_
 intro w151 g150 a hc152 hg154 H_ E_
 replace E := E_ _ rfl; clear E_
 replace H := H_; clear H_; try dsimp only [setn, addE, goneL] at H
 obtain ⟨g155, hP⟩ := ask_inv hP
 refine h_append (cInt .u8) (xs := (([] : List Int) ++ wT)) (ys := ([ll] : List Int)) (0 : Int) H 5 rfl E rfl rfl tbok rfl rfl rfl rfl rfl (fun _ _ => rfl) rfl rfl (fun _ HF_ => HF_.srcB 6 rfl (⟨_, _, rfl, rfl, rfl⟩)) g155 ?_
 intro w156 A157 c158 a hc159 hA160 H_ E_
 replace E := E_ _ rfl; clear E_
 replace H := H_; clear H_; try dsimp only [setn, addE, goneL] at H
 refine vn tbok 2 [] [(31, .pointer (some ⟨g1, 4, none⟩))] [] E (by kernel_rfl) (by kernel_rfl) trivial ?_
 clear E; intro a E
 refine h_store (g := g1) (off := 4) H 0 rfl E rfl rfl rfl rfl tbok rfl rfl rfl rfl rfl ?_
 clear E; intro w161 a hc162 H_ E
 replace H := H_; clear H_; try dsimp only [setn, addE, goneL] at H
 refine wpList_nil ?_
 refine th_n ?_
 refine wp_seq ?_
 obtain ⟨r163, h164, hP⟩ := bind_inv hP
 obtain ⟨r178, h179, hP⟩ := bind_inv hP
 refine meet_cut (fun a w187 => Fr a 39 [(4, .int .u8 r178), (5, .int .i64 0)] ∧ Hp S Fa w0 w187 [.ro false cBool A3 wAAccept, .ro false (cInt .i64) A7 wAGuard, .ro false cNode A11 wANodes, .row true (cInt .u8) 22 A157 c158 ((([] : List Int) ++ wT) ++ ([ll] : List Int)), .box g1 67 [.int .i64 wAProps, .slice A3 (List.length wAAccept) c4, .slice A7 (List.length wAGuard) c8, .slice A11 (List.length wANodes) c12, .slice A157 (List.length ((([] : List Int) ++ wT) ++ ([ll] : List Int))) c158]]) ?_ ?_
 ·
  have HR191 := H
  refine dr_start (S := fun w_ => Chg (atL [.box g1 67 [.int .i64 wAProps, .slice A3 (List.length wAAccept) c4, .slice A7 (List.length wAGuard) c8, .slice A11 (List.length wANodes) c12, .slice A157 (List.length ((([] : List Int) ++ wT) ++ ([ll] : List Int))) c158]]) w161 w_) (by kernel_rfl) ?_
  intro w188 hc189
  have HS190 : Chg (atL [.box g1 67 [.int .i64 wAProps, .slice A3 (List.length wAAccept) c4, .slice A7 (List.length wAGuard) c8, .slice A11 (List.length wANodes) c12, .slice A157 (List.length ((([] : List Int) ++ wT) ++ ([ll] : List Int))) c158]]) w161 w188 := hc189.mono (fun _ _ h_ => h_.elim)
  replace H := H.ext hc189
  refine dn tbok (by kernel_rfl) [0, 1, 2, 4] [] [(34, .pointer (some ⟨g1, 0, none⟩)), (36, .pointer (some ⟨g1, 0, none⟩))] (fun w_ => []) 5 E (fun _ _ => by kernel_rfl) (by kernel_rfl) (fun w_ hS_ => trivial) (by kernel_rfl) HS190 ?_
  clear E; intro a E
  refine wpAnyH_all (rs := [3, 5]) (by kernel_rfl) (by simp) ?_
  refine all2 ?_ ?_
  ·
   refine wpOp_of_list rfl ?_
   refine vn tbok 1 [.agg #[.int .i64 wAProps, .slice A3 (List.length wAAccept) c4, .slice A7 (List.length wAGuard) c8, .slice A11 (List.length wANodes) c12]] [(35, .agg #[.int .i64 wAProps, .slice A3 (List.length wAAccept) c4, .slice A7 (List.length wAGuard) c8, .slice A11 (List.length wANodes) c12])] [cellsAt w188 g1 (0) [.int .i64 wAProps, .slice A3 (List.length wAAccept) c4, .slice A7 (List.length wAGuard) c8, .slice A11 (List.length wANodes) c12]] E (by kernel_rfl) (by kernel_rfl) ((H.box 0 rfl).sub 0 _ rfl) ?_
   clear E; intro a E
   refine wpList_nil ?_
   refine th_n ⟨HS190, ?_⟩
   refine wpAnyH_all (rs := [5]) (by kernel_rfl) (by simp) ?_
   refine all1 ?_
   refine wpOp_of_list rfl ?_
   obtain ⟨Fa192, Hc193, hb194⟩ := H.call [0] [(1, false), (2, false), (3, false), (5, false)] rfl rfl trivial
   refine e_call E rfl rfl Try.func41 rfl rfl rfl (ref21_Watch_State_calls g1 A3 c4 A7 c8 A11 c12 A157 c158 wAProps wAAccept wAGuard wANodes ((([] : List Int) ++ wT) ++ ([ll] : List Int)) hk5 hk9 hk13 (H.rcap 5 rfl) Hc193 h164) ?_
   intro v200 w199 a hR201 E_
   obtain ⟨x_, hr_, rfl, HR203⟩ := hR201
   subst hr_
   replace E := E_ _ rfl; clear E_
   obtain ⟨H_, hc202⟩ := hb194 _ _ HR203 rfl
   replace HS190 := HS190.trans hc202 (fun k_ hk_ h_ => h_.elim (fun h_ => by have hs_ := HS190.size; exfalso; omega) (fun h_ => h_.elim (fun h_ => (fun _ _ h_ => Or.inl h_) k_ hk_ h_) (fun h_ => h_.elim)))
   replace H := H_; clear H_; try dsimp only [setn, addE, goneL] at H
   refine wpList_nil ?_
   refine th_n ⟨HS190, ?_⟩
   refine wpAnyH_all (rs := [6]) (by kernel_rfl) (by simp) ?_
   refine all1 ?_
   refine wpOp_of_list rfl ?_
   obtain ⟨Fa205, Hc206, hb207⟩ := H.call [] [(1, false), (2, false), (3, false)] rfl rfl trivial
   refine e_call E rfl rfl Try.func40 rfl rfl rfl (ref21_Verdict_calls A3 c4 A7 c8 A11 c12 wAProps wAAccept wAGuard wANodes r163 hk5 hk9 hk13 Hc206 h179) ?_
   rintro v208 w209 a ⟨rfl, HR210⟩ E_
   replace E := E_ _ rfl; clear E_
   obtain ⟨H_, hc211⟩ := hb207 _ _ HR210 rfl
   replace HS190 := HS190.ext (callS_ext hc211)
   replace H := H_; clear H_; try dsimp only [setn, addE, goneL] at H
   refine wpList_nil ?_
   refine th_n ⟨HS190, ?_⟩
   refine dn tbok (by kernel_rfl) [7, 8] [] [(4, .int .u8 r178), (5, .int .i64 0)] (fun w_ => []) 0 E (fun _ _ => by kernel_rfl) (by kernel_rfl) (fun w_ hS_ => trivial) (by kernel_rfl) HS190 ?_
   clear E; intro a E
   refine dr_done (by kernel_rfl) ?_
   exact .inl ⟨rfl, E.pick _ ⟨rfl, rfl, trivial⟩, H.sel [1, 2, 3, 5, 7] rfl⟩
  refine wpOp_of_list rfl ?_
  obtain ⟨Fa212, Hc213, hb214⟩ := H.call [0] [(1, false), (2, false), (3, false), (5, false)] rfl rfl trivial
  refine e_call E rfl rfl Try.func41 rfl rfl rfl (ref21_Watch_State_calls g1 A3 c4 A7 c8 A11 c12 A157 c158 wAProps wAAccept wAGuard wANodes ((([] : List Int) ++ wT) ++ ([ll] : List Int)) hk5 hk9 hk13 (H.rcap 5 rfl) Hc213 h164) ?_
  intro v220 w219 a hR221 E_
  obtain ⟨x_, hr_, rfl, HR223⟩ := hR221
  subst hr_
  replace E := E_ _ rfl; clear E_
  obtain ⟨H_, hc222⟩ := hb214 _ _ HR223 rfl
  replace HS190 := HS190.trans hc222 (fun k_ hk_ h_ => h_.elim (fun h_ => by have hs_ := HS190.size; exfalso; omega) (fun h_ => h_.elim (fun h_ => (fun _ _ h_ => Or.inl h_) k_ hk_ h_) (fun h_ => h_.elim)))
  replace H := H_; clear H_; try dsimp only [setn, addE, goneL] at H
  refine wpList_nil ?_
  refine th_n ⟨HS190, ?_⟩
  refine wpAnyH_all (rs := [3]) (by kernel_rfl) (by simp) ?_
  refine all1 ?_
  refine wpOp_of_list rfl ?_
  refine vn tbok 1 [.agg #[.int .i64 wAProps, .slice A3 (List.length wAAccept) c4, .slice A7 (List.length wAGuard) c8, .slice A11 (List.length wANodes) c12]] [(35, .agg #[.int .i64 wAProps, .slice A3 (List.length wAAccept) c4, .slice A7 (List.length wAGuard) c8, .slice A11 (List.length wANodes) c12])] [cellsAt w219 g1 (0) [.int .i64 wAProps, .slice A3 (List.length wAAccept) c4, .slice A7 (List.length wAGuard) c8, .slice A11 (List.length wANodes) c12]] E (by kernel_rfl) (by kernel_rfl) ((H.box 7 rfl).sub 0 _ rfl) ?_
  clear E; intro a E
  refine wpList_nil ?_
  refine th_n ⟨HS190, ?_⟩
  refine wpAnyH_all (rs := [6]) (by kernel_rfl) (by simp) ?_
  refine all1 ?_
  refine wpOp_of_list rfl ?_
  obtain ⟨Fa225, Hc226, hb227⟩ := H.call [] [(1, false), (2, false), (3, false)] rfl rfl trivial
  refine e_call E rfl rfl Try.func40 rfl rfl rfl (ref21_Verdict_calls A3 c4 A7 c8 A11 c12 wAProps wAAccept wAGuard wANodes r163 hk5 hk9 hk13 Hc226 h179) ?_
  rintro v228 w229 a ⟨rfl, HR230⟩ E_
  replace E := E_ _ rfl; clear E_
  obtain ⟨H_, hc231⟩ := hb227 _ _ HR230 rfl
  replace HS190 := HS190.ext (callS_ext hc231)
  replace H := H_; clear H_; try dsimp only [setn, addE, goneL] at H
  refine wpList_nil ?_
  refine th_n ⟨HS190, ?_⟩
  refine dn tbok (by kernel_rfl) [7, 8] [] [(4, .int .u8 r178), (5, .int .i64 0)] (fun w_ => []) 0 E (fun _ _ => by kernel_rfl) (by kernel_rfl) (fun w_ hS_ => trivial) (by kernel_rfl) HS190 ?_
  clear E; intro a E
  refine dr_done (by kernel_rfl) ?_
  exact .inl ⟨rfl, E.pick _ ⟨rfl, rfl, trivial⟩, H.sel [1, 2, 3, 5, 7] rfl⟩
 clear E H; rintro a w187 ⟨E, H⟩
 refine th_n ?_
 refine wp_ret ?_
 have hk232 := H.rcap 3 rfl
 replace H := H.frz 3 rfl; try dsimp only [setn, addE, goneL] at H
 replace H := H.rodown 3 rfl; try dsimp only [setn, addE, goneL] at H
 obtain rfl := Option.some.inj hP
 refine ret2 E rfl rfl rfl ?_
 exact ⟨_, rfl, ⟨(r178, 0, (([] : List Int) ++ wT) ++ ([ll] : List Int)), A157, c158, rfl, rfl, hk232, H.sel [4, 3] rfl⟩⟩

/-! (*rejoinder/watch.Watch).Back -/
def watch_Watch_Back (N : Nat) (wboard : (Int × (List Bool) × (List Int) × (List Nd)) × (List Int) × (List Int)) (wcame : List Int) : Option (Int × Int × (List Int)) :=
  Option.bind (watch_Watch_none N wboard wcame) fun r114 =>
  if r114 = true then
    some (0, 1, wcame)
  else
    if ((((List.length wcame) : Nat) : Int) : Int) = 0 then
      some (0, 6, wcame)
    else
      ask (in64 ((((List.length wcame) : Nat) : Int) - 1)) <|
      ask (0 ≤ ((((List.length wcame) : Nat) : Int) - 1) ∧ ((((List.length wcame) : Nat) : Int) - 1) ≤ (((List.length wcame) : Nat) : Int)) <|
      Option.bind (watch_Watch_Verdict N wboard (List.take (Int.toNat ((((List.length wcame) : Nat) : Int) - 1)) wcame)) fun r147 =>
      some (r147, 0, (List.take (Int.toNat ((((List.length wcame) : Nat) : Int) - 1)) wcame))
set_option maxRecDepth 100000 in
set_option maxHeartbeats 4000000 in
theorem watch_Watch_Back_calls {N : Nat} {S Fa : Nat → Prop} {w0 : World} {r : Int × Int × (List Int)} (g1 : Nat) (b3 : Nat) (o4 : Nat) (A6 : Option Addr) (c7 : Nat) (wboard : (Int × (List Bool) × (List Int) × (List Nd)) × (List Int) × (List Int)) (wcame : List Int) (H : Hp S Fa w0 w0 [.box g1 27 [.pointer (some ⟨b3, o4, none⟩), .slice A6 (List.length wcame) c7], .row true (cInt .i64) 3 A6 c7 wcame, .ro false cS78 (some ⟨b3, o4, none⟩) ([wboard])]) (hP : watch_Watch_Back N wboard wcame = some r) :
    Calls Try.prog 10 #[.pointer (some ⟨g1, 0, none⟩)] w0 fun e w' => ∃ v, e = .returned v ∧ (∃ (x_ : Int × Int × (List Int)) (A12 : Option Addr) (c13 : Nat), r = x_ ∧ v = .tuple #[.int .u8 x_.1, .int .i64 x_.2.1] ∧ Hp S Fa w0 w' [.box g1 27 [.pointer (some ⟨b3, o4, none⟩), .slice A12 (List.length x_.2.2) c13], .row true (cInt .i64) 3 A12 c13 x_.2.2]) := by
 refine enterV (n := 30) Try.func10 rfl rfl rfl ?_
 intro a E
 replace E := E.pick [(0, .pointer (some ⟨g1, 0, none⟩))] ⟨rfl, trivial⟩
 rw [watch_Watch_Back] at hP
 refine wp_seq ?_
 refine wp_region_lit ?_
 refine vn tbok 2 [] [] [] E (by kernel_rfl) (by kernel_rfl) trivial ?_
 clear E; intro a E
 refine wpList_nil ?_
 refine th_n ?_
 refine wp_seq ?_
 refine wp_block ?_
 refine wp_seq ?_
 refine wp_region_lit ?_
 refine vn tbok 1 [] [(5, .pointer (some ⟨g1, 0, none⟩))] [] E (by kernel_rfl) (by kernel_rfl) trivial ?_
 clear E; intro a E
 obtain ⟨r114, h115, hP⟩ := bind_inv hP
 obtain ⟨Fa116, Hc117, hb118⟩ := H.call [0, 1] [(2, false)] rfl rfl ⟨flat_plain, trivial⟩
 refine e_call E rfl rfl Try.func32 rfl rfl rfl (watch_Watch_none_calls g1 b3 o4 A6 c7 wboard wcame  Hc117 h115) ?_
 intro v124 w123 a hR125 E_
 obtain ⟨x_, hr_, rfl, HR127⟩ := hR125
 subst hr_
 replace E := E_ _ rfl; clear E_
 obtain ⟨H_, hc126⟩ := hb118 _ _ HR127 rfl
 replace H := H_; clear H_; try dsimp only [setn, addE, goneL] at H
 refine vn tbok 1 [] [(4, .bool r114)] [] E (by kernel_rfl) (by kernel_rfl) trivial ?_
 clear E; intro a E
 refine wpList_nil ?_
 refine th_n ?_
 refine E.cases (t := 4) rfl (fun hb_ E_ => ?_) (fun hb_ E_ => ?_)
 ·
  replace E := E_; clear E_
  have h130 : r114 = true := hb_
  clear hb_; replace hP := ite_t h130 hP
  refine c_true E rfl ?_
  refine wp_seq ?_
  refine wp_region_lit ?_
  refine vn tbok 2 [] [(2, .int .u8 0), (3, .int .i64 1)] [] E (by kernel_rfl) (by kernel_rfl) trivial ?_
  clear E; intro a E
  refine wpList_nil ?_
  refine th_n ?_
  refine wp_ret ?_
  refine bl_ret ?_
  refine th_ret ?_
  obtain rfl := Option.some.inj hP
  refine ret2 E rfl rfl rfl ?_
  exact ⟨_, rfl, ⟨(0, 1, wcame), A6, c7, rfl, rfl, H.sel [4, 3] rfl⟩⟩
 replace E := E_; clear E_
 have h131 : ¬ (r114 = true) := (ne_true_of_eq_false hb_)
 clear hb_; replace hP := ite_f h131 hP
 refine c_false E rfl ?_
 refine wp_seq ?_
 refine wp_region_lit ?_
 refine vn tbok 7 [.slice A6 (List.length wcame) c7] [(7, .bool (((((List.length wcame) : Nat) : Int) : Int) == 0))] [World.cell? w123 ⟨g1, 1, none⟩ = some (.slice A6 (List.length wcame) c7)] E (by kernel_rfl) (by kernel_rfl) ((H.box 4 rfl).cell (j := 1) rfl) ?_
 clear E; intro a E
 refine wpList_nil ?_
 refine th_n ?_
 refine E.cases (t := 7) rfl (fun hb_ E_ => ?_) (fun hb_ E_ => ?_)
 ·
  replace E := E_; clear E_
  have h132 : ((((List.length wcame) : Nat) : Int) : Int) = 0 := eq_of_beq hb_
  clear hb_; replace hP := ite_t h132 hP
  refine c_true E rfl ?_
  refine wp_seq ?_
  refine wp_region_lit ?_
  refine vn tbok 2 [] [(2, .int .u8 0), (3, .int .i64 6)] [] E (by kernel_rfl) (by kernel_rfl) trivial ?_
  clear E; intro a E
  refine wpList_nil ?_
  refine th_n ?_
  refine wp_ret ?_
  refine bl_ret ?_
  refine th_ret ?_
  obtain rfl := Option.some.inj hP
  refine ret2 E rfl rfl rfl ?_
  exact ⟨_, rfl, ⟨(0, 6, wcame), A6, c7, rfl, rfl, H.sel [4, 3] rfl⟩⟩
 replace E := E_; clear E_
 have h133 : ¬ (((((List.length wcame) : Nat) : Int) : Int) = 0) := ne_of_beq_false hb_
 clear hb_; replace hP := ite_f h133 hP
 refine c_false E rfl ?_
 refine wp_skip ?_
 refine bl_n ?_
 refine th_n ?_
 refine wp_seq ?_
 obtain ⟨g134, hP⟩ := ask_inv hP
 obtain ⟨g135, hP⟩ := ask_inv hP
 refine meet_cut (fun a w138 => Fr a 30 [(0, .pointer (some ⟨g1, 0, none⟩))] ∧ Hp S Fa w0 w138 [.ro false cS78 (some ⟨b3, o4, none⟩) ([wboard]), .row true (cInt .i64) 3 A6 c7 (List.take (Int.toNat ((((List.length wcame) : Nat) : Int) - 1)) wcame), .box g1 27 [.pointer (some ⟨b3, o4, none⟩), .slice A6 (List.length (List.take (Int.toNat ((((List.length wcame) : Nat) : Int) - 1)) wcame)) c7]]) ?_ ?_
 ·
  have HR142 := H
  refine dr_start (S := fun w_ => Chg (atL [.box g1 27 [.pointer (some ⟨b3, o4, none⟩), .slice A6 (List.length wcame) c7]]) w123 w_) (by kernel_rfl) ?_
  intro w139 hc140
  have HS141 : Chg (atL [.box g1 27 [.pointer (some ⟨b3, o4, none⟩), .slice A6 (List.length wcame) c7]]) w123 w139 := hc140.mono (fun _ _ h_ => h_.elim)
  replace H := H.ext hc140
  refine dn tbok (by kernel_rfl) [0, 1, 2, 3, 5, 6, 7] [] [(14, .pointer (some ⟨g1, 0, none⟩)), (17, .pointer (some ⟨g1, 1, none⟩)), (21, .pointer (some ⟨g1, 1, none⟩))] (fun w_ => []) 8 E (fun _ _ => by kernel_rfl) (by kernel_rfl) (fun w_ hS_ => trivial) (by kernel_rfl) HS141 ?_
  clear E; intro a E
  refine wpAnyH_all (rs := [4, 8]) (by kernel_rfl) (by simp) ?_
  refine all2 ?_ ?_
  ·
   refine wpOp_of_list rfl ?_
   refine vn tbok 1 [.slice A6 (List.length wcame) c7] [(18, .slice A6 (List.length wcame) c7)] [World.cell? w139 ⟨g1, 1, none⟩ = some (.slice A6 (List.length wcame) c7)] E (by kernel_rfl) (by kernel_rfl) ((H.box 4 rfl).cell (j := 1) rfl) ?_
   clear E; intro a E
   refine wpList_nil ?_
   refine th_n ⟨HS141, ?_⟩
   refine wpAnyH_all (rs := [8]) (by kernel_rfl) (by simp) ?_
   refine all1 ?_
   refine wpOp_of_list rfl ?_
   refine vn tbok 1 [.slice A6 (List.length wcame) c7] [(22, .slice A6 (List.length wcame) c7)] [World.cell? w139 ⟨g1, 1, none⟩ = some (.slice A6 (List.length wcame) c7)] E (by kernel_rfl) (by kernel_rfl) ((H.box 4 rfl).cell (j := 1) rfl) ?_
   clear E; intro a E
   refine wpList_nil ?_
   refine th_n ⟨HS141, ?_⟩
   refine dn tbok (by kernel_rfl) [9, 10] [.int .i64 ((((List.length wcame) : Nat) : Int) - 1)] [(24, .int .i64 ((((List.length wcame) : Nat) : Int) - 1))] (fun w_ => [IntKind.i64.wrap ((((List.length wcame) : Nat) : Int) - 1) = (((List.length wcame) : Nat) : Int) - 1]) 4 E (fun _ _ => by kernel_rfl) (by kernel_rfl) (fun w_ hS_ => (wrap_in g134)) (by kernel_rfl) HS141 ?_
   clear E; intro a E
   refine wpAnyH_all (rs := [11]) (by kernel_rfl) (by simp) ?_
   refine all1 ?_
   refine wpOp_of_list rfl ?_
   refine vn tbok 1 [] [(25, .slice A6 (Int.toNat ((((List.length wcame) : Nat) : Int) - 1)) c7)] [0 ≤ ((((List.length wcame) : Nat) : Int) - 1) ∧ ((((List.length wcame) : Nat) : Int) - 1) ≤ ((c7 : Nat) : Int)] E (by kernel_rfl) (by kernel_rfl) (cut_le g135 (H.rcap 3 rfl)) ?_
   clear E; intro a E
   replace H := H.cutRow 3 rfl (Int.toNat ((((List.length wcame) : Nat) : Int) - 1)); try dsimp only [setn, addE, goneL] at H
   replace E := E.same (t := 25) (u := .slice A6 (List.length (List.take (Int.toNat ((((List.length wcame) : Nat) : Int) - 1)) wcame)) c7) rfl (congrArg (fun n_ => Value.slice A6 n_ c7) (take_len g135))
   refine wpList_nil ?_
   refine th_n ⟨HS141, ?_⟩
   refine dn tbok (by kernel_rfl) [12, 13] [] [(27, .pointer (some ⟨g1, 1, none⟩))] (fun w_ => []) 1 E (fun _ _ => by kernel_rfl) (by kernel_rfl) (fun w_ hS_ => trivial) (by kernel_rfl) HS141 ?_
   clear E; intro a E
   refine wpAnyH_all (rs := [14]) (by kernel_rfl) (by simp) ?_
   refine all1 ?_
   refine wpOp_of_list rfl ?_
   refine h_store (g := g1) (off := 1) H 4 rfl E rfl rfl rfl rfl tbok rfl rfl rfl rfl rfl ?_
   clear E; intro w143 a hc144 H_ E
   replace HS141 := HS141.trans hc144 (fun k_ hk_ h_ => (fun _ _ h_ => Or.inl h_) k_ hk_ h_)
   replace H := H_; clear H_; try dsimp only [setn, addE, goneL] at H
   refine wpList_nil ?_
   refine th_n ⟨HS141, ?_⟩
   refine dr_done (by kernel_rfl) ?_
   exact .inl ⟨rfl, E.pick _ ⟨rfl, trivial⟩, H.sel [2, 3, 4] rfl⟩
  refine wpOp_of_list rfl ?_
  refine vn tbok 1 [.slice A6 (List.length wcame) c7] [(22, .slice A6 (List.length wcame) c7)] [World.cell? w139 ⟨g1, 1, none⟩ = some (.slice A6 (List.length wcame) c7)] E (by kernel_rfl) (by kernel_rfl) ((H.box 4 rfl).cell (j := 1) rfl) ?_
  clear E; intro a E
  refine wpList_nil ?_
  refine th_n ⟨HS141, ?_⟩
  refine dn tbok (by kernel_rfl) [9, 10] [.int .i64 ((((List.length wcame) : Nat) : Int) - 1)] [(24, .int .i64 ((((List.length wcame) : Nat) : Int) - 1))] (fun w_ => [IntKind.i64.wrap ((((List.length wcame) : Nat) : Int) - 1) = (((List.length wcame) : Nat) : Int) - 1]) 5 E (fun _ _ => by kernel_rfl) (by kernel_rfl) (fun w_ hS_ => (wrap_in g134)) (by kernel_rfl) HS141 ?_
  clear E; intro a E
  refine wpAnyH_all (rs := [4]) (by kernel_rfl) (by simp) ?_
  refine all1 ?_
  refine wpOp_of_list rfl ?_
  refine vn tbok 1 [.slice A6 (List.length wcame) c7] [(18, .slice A6 (List.length wcame) c7)] [World.cell? w139 ⟨g1, 1, none⟩ = some (.slice A6 (List.length wcame) c7)] E (by kernel_rfl) (by kernel_rfl) ((H.box 4 rfl).cell (j := 1) rfl) ?_
  clear E; intro a E
  refine wpList_nil ?_
  refine th_n ⟨HS141, ?_⟩
  refine wpAnyH_all (rs := [11]) (by kernel_rfl) (by simp) ?_
  refine all1 ?_
  refine wpOp_of_list rfl ?_
  refine vn tbok 1 [] [(25, .slice A6 (Int.toNat ((((List.length wcame) : Nat) : Int) - 1)) c7)] [0 ≤ ((((List.length wcame) : Nat) : Int) - 1) ∧ ((((List.length wcame) : Nat) : Int) - 1) ≤ ((c7 : Nat) : Int)] E (by kernel_rfl) (by kernel_rfl) (cut_le g135 (H.rcap 3 rfl)) ?_
  clear E; intro a E
  replace H := H.cutRow 3 rfl (Int.toNat ((((List.length wcame) : Nat) : Int) - 1)); try dsimp only [setn, addE, goneL] at H
  replace E := E.same (t := 25) (u := .slice A6 (List.length (List.take (Int.toNat ((((List.length wcame) : Nat) : Int) - 1)) wcame)) c7) rfl (congrArg (fun n_ => Value.slice A6 n_ c7) (take_len g135))
  refine wpList_nil ?_
  refine th_n ⟨HS141, ?_⟩
  refine dn tbok (by kernel_rfl) [12, 13] [] [(27, .pointer (some ⟨g1, 1, none⟩))] (fun w_ => []) 1 E (fun _ _ => by kernel_rfl) (by kernel_rfl) (fun w_ hS_ => trivial) (by kernel_rfl) HS141 ?_
  clear E; intro a E
  refine wpAnyH_all (rs := [14]) (by kernel_rfl) (by simp) ?_
  refine all1 ?_
  refine wpOp_of_list rfl ?_
  refine h_store (g := g1) (off := 1) H 4 rfl E rfl rfl rfl rfl tbok rfl rfl rfl rfl rfl ?_
  clear E; intro w145 a hc146 H_ E
  replace HS141 := HS141.trans hc146 (fun k_ hk_ h_ => (fun _ _ h_ => Or.inl h_) k_ hk_ h_)
  replace H := H_; clear H_; try dsimp only [setn, addE, goneL] at H
  refine wpList_nil ?_
  refine th_n ⟨HS141, ?_⟩
  refine dr_done (by kernel_rfl) ?_
  exact .inl ⟨rfl, E.pick _ ⟨rfl, trivial⟩, H.sel [2, 3, 4] rfl⟩
 clear E H; rintro a w138 ⟨E, H⟩
 refine th_n ?_
 refine wp_seq ?_
 refine wp_region_lit ?_
 refine vn tbok 1 [] [(28, .pointer (some ⟨g1, 0, none⟩))] [] E (by kernel_rfl) (by kernel_rfl) trivial ?_
 clear E; intro a E
 obtain ⟨r147, h148, hP⟩ := bind_inv hP
 obtain ⟨Fa149, Hc150, hb151⟩ := H.call [2, 1] [(0, false)] rfl rfl ⟨flat_plain, trivial⟩
 refine e_call E rfl rfl Try.func12 rfl rfl rfl (watch_Watch_Verdict_calls g1 b3 o4 A6 c7 wboard (List.take (Int.toNat ((((List.length wcame) : Nat) : Int) - 1)) wcame)  Hc150 h148) ?_
 intro v157 w156 a hR158 E_
 obtain ⟨x_, hr_, rfl, HR160⟩ := hR158
 subst hr_
 replace E := E_ _ rfl; clear E_
 obtain ⟨H_, hc159⟩ := hb151 _ _ HR160 rfl
 replace H := H_; clear H_; try dsimp only [setn, addE, goneL] at H
 refine vn tbok 2 [] [(2, .int .u8 r147), (3, .int .i64 0)] [] E (by kernel_rfl) (by kernel_rfl) trivial ?_
 clear E; intro a E
 refine wpList_nil ?_
 refine th_n ?_
 refine wp_ret ?_
 obtain rfl := Option.some.inj hP
 refine ret2 E rfl rfl rfl ?_
 exact ⟨_, rfl, ⟨(r147, 0, (List.take (Int.toNat ((((List.length wcame) : Nat) : Int) - 1)) wcame)), A6, c7, rfl, rfl, H.sel [4, 3] rfl⟩⟩

end Go.V
