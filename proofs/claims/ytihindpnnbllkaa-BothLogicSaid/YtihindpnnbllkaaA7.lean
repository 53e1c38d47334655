/- Plain functions, and the calls that give them. -/
import Derived.Test.YtihindpnnbllkaaA6
set_option linter.all false
set_option linter.unusedVariables false
set_option linter.unnecessarySimpa false
set_option linter.unusedSimpArgs false
set_option maxRecDepth 100000
set_option maxHeartbeats 4000000
namespace Go.V
open Go Go.Proofs
/-! rejoinder/part.classes -/
def part_classes_l0 (N : Nat) (aAccept : List Bool) : Nat → (List Int) → Int → Option (List Int)
  | 0, _, _ => none
  | m110 + 1, of91, x92 =>
    if x92 < (aAccept.length : Int) then
      ask (idx x92 aAccept.length) <|
      ask (idx (0 : Int) aAccept.length) <|
      if (List.getD aAccept x92.toNat false) = (List.getD aAccept (Int.toNat (0 : Int)) false) then
        ask (in64 (x92 + 1)) <|
        part_classes_l0 N aAccept m110 of91 (x92 + 1)
      else
        ask (idx x92 of91.length) <|
        ask (in64 (x92 + 1)) <|
        part_classes_l0 N aAccept m110 (List.set of91 x92.toNat 1) (x92 + 1)
    else
      some of91
def part_classes_l3 (N : Nat) (r18 : List (List Int)) (of281 : List Int) (x545 : Int) : Nat → (List Int) → Int → Option (List Int)
  | 0, _, _ => none
  | m662 + 1, s648, x649 =>
    if x649 < (((List.length (List.getD r18 x545.toNat [])) : Nat) : Int) then
      ask (idx x649 (List.length (List.getD r18 x545.toNat []))) <|
      ask (in64 (1 + x649)) <|
      ask (idx (List.getD (List.getD r18 x545.toNat []) x649.toNat 0) of281.length) <|
      ask (idx (1 + x649) 257) <|
      ask (in64 (x649 + 1)) <|
      part_classes_l3 N r18 of281 x545 m662 (List.set s648 (Int.toNat (1 + x649)) (List.getD of281 (Int.toNat (List.getD (List.getD r18 x545.toNat []) x649.toNat 0)) 0)) (x649 + 1)
    else
      some s648
def part_classes_l2 (N : Nat) (r18 : List (List Int)) (of281 : List Int) : Nat → (List ((List Int) × Int)) → (List Int) → Int → Option ((List ((List Int) × Int)) × (List Int))
  | 0, _, _, _ => none
  | m612 + 1, numbers543, next544, x545 =>
    if x545 < (of281.length : Int) then
      ask (idx x545 of281.length) <|
      ask (idx (0 : Int) 257) <|
      ask (idx x545 r18.length) <|
      Option.bind (part_classes_l3 N r18 of281 x545 N (List.set (List.replicate 257 (0 : Int)) (Int.toNat (0 : Int)) (List.getD of281 x545.toNat 0)) 0) fun x663 =>
      ask (arrOk 257 x663) <|
      if (Option.isSome (mget numbers543 x663)) = true then
        ask (idx x545 next544.length) <|
        ask (in64 (x545 + 1)) <|
        part_classes_l2 N r18 of281 m612 numbers543 (List.set next544 x545.toNat (Option.getD (mget numbers543 x663) 0)) (x545 + 1)
      else
        ask (mget numbers543 x663 = none) <|
        ask (idx x545 next544.length) <|
        ask (in64 (x545 + 1)) <|
        part_classes_l2 N r18 of281 m612 (numbers543 ++ [(x663, ((List.length numbers543 : Nat) : Int))]) (List.set next544 x545.toNat ((List.length numbers543 : Nat) : Int)) (x545 + 1)
    else
      some (numbers543, next544)
def part_classes_l1 (N : Nat) (aAccept : List Bool) (r18 : List (List Int)) : Nat → (List Int) → Int → Option (List Int)
  | 0, _, _ => none
  | m432 + 1, of281, many283 =>
    Option.bind (part_classes_l2 N r18 of281 N ([] : List ((List Int) × Int)) (List.replicate (Int.toNat (aAccept.length : Int)) (0 : Int)) 0) fun x613 =>
    if (((List.length x613.1 : Nat) : Int) : Int) = many283 then
      some x613.2
    else
      part_classes_l1 N aAccept r18 m432 x613.2 ((List.length x613.1 : Nat) : Int)
def part_classes (N : Nat) (aProps : Int) (aAccept : List Bool) (aGuard : List Int) (aNodes : List Nd) : Option (List Int) :=
  Option.bind (part_rows N aProps aAccept aGuard aNodes) fun r18 =>
  ask (0 ≤ (aAccept.length : Int) ∧ (aAccept.length : Int) ≤ 1000000000) <|
  Option.bind (part_classes_l0 N aAccept N (List.replicate (Int.toNat (aAccept.length : Int)) (0 : Int)) 0) fun x111 =>
  Option.bind (part_classes_l1 N aAccept r18 N x111 0) fun x433 =>
  some x433
theorem part_classes_calls {N : Nat} {S Fa : Nat → Prop} {w0 : World} {r : List Int} (A1 : Option Addr) (c2 : Nat) (A5 : Option Addr) (c6 : Nat) (A9 : Option Addr) (c10 : Nat) (aProps : Int) (aAccept : List Bool) (aGuard : List Int) (aNodes : List Nd) (hk3 : List.length aAccept ≤ c2) (hk7 : List.length aGuard ≤ c6) (hk11 : List.length aNodes ≤ c10) (H : Hp S Fa w0 w0 [.ro false cBool A1 aAccept, .ro false (cInt .i64) A5 aGuard, .ro false cNode A9 aNodes]) (hP : part_classes N aProps aAccept aGuard aNodes = some r) :
    Calls Try.prog 92 #[.agg #[.int .i64 aProps, .slice A1 aAccept.length c2, .slice A5 aGuard.length c6, .slice A9 aNodes.length c10]] w0 fun e w' => ∃ v, e = .returned v ∧ ∃ (A703 : Option Addr) (c704 : Nat), v = .slice A703 r.length c704 ∧ Hp S Fa w0 w' [.row true (cInt .i64) 3 A703 c704 r] := by
 refine enterV (n := 99) Try.func92 rfl rfl rfl ?_
 intro a E
 replace E := E.pick [(0, .agg #[.int .i64 aProps, .slice A1 aAccept.length c2, .slice A5 aGuard.length c6, .slice A9 aNodes.length c10])] ⟨rfl, trivial⟩
 rw [part_classes] at hP
 refine sr_ <| h_box H E rfl rfl rfl ?_
 clear H E; intro w14 g13 a hc15 hg17 H E; replace E := E _ rfl; try dsimp only [setn, addE, goneL] at H
 refine vp 1 [] E ?_
 clear E; intro a E
 refine nn_ <| sr_ <| vq 4 [.slice A1 aAccept.length c2] [(3, .int .i64 (aAccept.length : Int))] [World.cell? w14 ⟨g13, 1, none⟩ = some (.slice A1 aAccept.length c2)] E ((H.box 3 rfl).cell (j := 1) rfl) ?_
 clear E; intro a E
 refine nn_ <| wp_seq ?_
 obtain ⟨r18, h19, hP⟩ := bind_inv hP
 obtain ⟨g30, hP⟩ := ask_inv hP
 refine meet_cut (fun a w41 => ∃ (A37 : Option Addr) (c38 : Nat) (A40 : Option Addr), Fr a 99 [(1, .pointer (some ⟨g13, 0, none⟩)), (3, .int .i64 (aAccept.length : Int)), (4, .slice A37 r18.length c38), (5, .slice A40 (List.length (List.replicate (Int.toNat (aAccept.length : Int)) (0 : Int))) (Int.toNat (aAccept.length : Int)))] ∧ Hp S Fa w0 w41 [.ro false cBool A1 aAccept, .ro false (cInt .i64) A5 aGuard, .ro false cNode A9 aNodes, .box g13 26 [.int .i64 aProps, .slice A1 aAccept.length c2, .slice A5 aGuard.length c6, .slice A9 aNodes.length c10], .row true (cSl (cInt .i64)) 23 A37 c38 r18, .rowx true (cInt .i64) 3 A40 (Int.toNat (aAccept.length : Int)) (List.replicate (Int.toNat (aAccept.length : Int)) (0 : Int)) (List.replicate (Int.toNat (aAccept.length : Int) - Int.toNat (aAccept.length : Int)) (0 : Int))]) ?_ ?_
 ·
  have HR45 := H
  refine dr_start (S := fun w_ => Chg (atL []) w14 w_) (by kernel_rfl) ?_
  intro w42 hc43
  have HS44 : Chg (atL []) w14 w42 := hc43.mono (fun _ _ h_ => h_.elim)
  replace H := H.ext hc43
  refine dn tbok (by kernel_rfl) [0, 2] [.agg #[.int .i64 aProps, .slice A1 aAccept.length c2, .slice A5 aGuard.length c6, .slice A9 aNodes.length c10]] [(20, .agg #[.int .i64 aProps, .slice A1 aAccept.length c2, .slice A5 aGuard.length c6, .slice A9 aNodes.length c10]), (22, .int .i64 (aAccept.length : Int))] (fun w_ => [cellsAt w_ g13 (0) [.int .i64 aProps, .slice A1 aAccept.length c2, .slice A5 aGuard.length c6, .slice A9 aNodes.length c10]]) 4 E (fun _ _ => by kernel_rfl) (by kernel_rfl) (fun w_ hS_ => ((HR45.boxk [] hS_ 3 rfl rfl).sub 0 _ rfl)) (by kernel_rfl) HS44 ?_
  clear E; intro a E
  refine wpAnyH_all (rs := [1, 3]) (by kernel_rfl) (by simp) ?_
  refine all2 ?_ ?_
  ·
   refine wpOp_of_list rfl ?_
   obtain ⟨Fa46, Hc47, hb48⟩ := H.call [] [(0, false), (1, false), (2, false)] rfl rfl trivial
   refine e_call E rfl rfl Try.func91 rfl rfl rfl (part_rows_calls A1 c2 A5 c6 A9 c10 aProps aAccept aGuard aNodes hk3 hk7 hk11 Hc47 h19) ?_
   rintro v49 w50 a ⟨A53, c54, rfl, HR51⟩ E_
   replace E := E_ _ rfl; clear E_
   obtain ⟨H_, hc52⟩ := hb48 _ _ HR51 rfl
   replace HS44 := HS44.ext (callS_ext hc52)
   replace H := H_; clear H_; try dsimp only [setn, addE, goneL] at H
   refine nl_ <| th_n ⟨HS44, ?_⟩
   refine dn tbok (by kernel_rfl) [4] [] [(4, .slice A53 r18.length c54)] (fun w_ => []) 2 E (fun _ _ => by kernel_rfl) (by kernel_rfl) (fun w_ hS_ => trivial) (by kernel_rfl) HS44 ?_
   clear E; intro a E
   refine wpAnyH_all (rs := [3]) (by kernel_rfl) (by simp) ?_
   refine all1 ?_
   refine wpOp_of_list rfl ?_
   refine h_make (cInt .i64) (0 : Int) H E rfl rfl tbok rfl rfl rfl rfl ⟨g30.1, Int.le_refl _, g30.2⟩ rfl rfl rfl (fun _ _ => rfl) ?_
   intro w57 g56 a hc58 hg60 H_ E_
   replace E := E_ _ rfl; clear E_
   have hin61 : ∀ q_, q_ < w14.heap.size → At (some ⟨g56, 0, none⟩) q_ → (atL []) q_ := fun q_ h1_ h2_ => by have hs_ := HS44.size; have h4_ : q_ = g56 := At.of_g h2_; exfalso; omega
   replace HS44 := HS44.ext hc58
   replace H := H_; clear H_; try dsimp only [setn, addE, goneL] at H
   refine nl_ <| th_n ⟨HS44, ?_⟩
   refine dn tbok (by kernel_rfl) [5] [] [(5, .slice (some ⟨g56, 0, none⟩) (List.length (List.replicate (Int.toNat (aAccept.length : Int)) (0 : Int))) (Int.toNat (aAccept.length : Int)))] (fun w_ => []) 0 E (fun _ _ => by kernel_rfl) (by kernel_rfl) (fun w_ hS_ => trivial) (by kernel_rfl) HS44 ?_
   clear E; intro a E
   refine dr_done (by kernel_rfl) ?_
   exact .inl ⟨rfl, A53, c54, (some ⟨g56, 0, none⟩), E.pk, H.sel (up 6) rfl⟩
  refine wpOp_of_list rfl ?_
  refine h_make (cInt .i64) (0 : Int) H E rfl rfl tbok rfl rfl rfl rfl ⟨g30.1, Int.le_refl _, g30.2⟩ rfl rfl rfl (fun _ _ => rfl) ?_
  intro w63 g62 a hc64 hg66 H_ E_
  replace E := E_ _ rfl; clear E_
  have hin67 : ∀ q_, q_ < w14.heap.size → At (some ⟨g62, 0, none⟩) q_ → (atL []) q_ := fun q_ h1_ h2_ => by have hs_ := HS44.size; have h4_ : q_ = g62 := At.of_g h2_; exfalso; omega
  replace HS44 := HS44.ext hc64
  replace H := H_; clear H_; try dsimp only [setn, addE, goneL] at H
  refine nl_ <| th_n ⟨HS44, ?_⟩
  refine wpAnyH_all (rs := [1]) (by kernel_rfl) (by simp) ?_
  refine all1 ?_
  refine wpOp_of_list rfl ?_
  obtain ⟨Fa68, Hc69, hb70⟩ := H.call [] [(0, false), (1, false), (2, false)] rfl rfl trivial
  refine e_call E rfl rfl Try.func91 rfl rfl rfl (part_rows_calls A1 c2 A5 c6 A9 c10 aProps aAccept aGuard aNodes hk3 hk7 hk11 Hc69 h19) ?_
  rintro v71 w72 a ⟨A75, c76, rfl, HR73⟩ E_
  replace E := E_ _ rfl; clear E_
  obtain ⟨H_, hc74⟩ := hb70 _ _ HR73 rfl
  replace HS44 := HS44.ext (callS_ext hc74)
  replace H := H_; clear H_; try dsimp only [setn, addE, goneL] at H
  refine nl_ <| th_n ⟨HS44, ?_⟩
  refine dn tbok (by kernel_rfl) [4, 5] [] [(4, .slice A75 r18.length c76), (5, .slice (some ⟨g62, 0, none⟩) (List.length (List.replicate (Int.toNat (aAccept.length : Int)) (0 : Int))) (Int.toNat (aAccept.length : Int)))] (fun w_ => []) 0 E (fun _ _ => by kernel_rfl) (by kernel_rfl) (fun w_ hS_ => trivial) (by kernel_rfl) HS44 ?_
  clear E; intro a E
  refine dr_done (by kernel_rfl) ?_
  exact .inl ⟨rfl, A75, c76, (some ⟨g62, 0, none⟩), E.pk, H.sel [0, 1, 2, 3, 5, 4] rfl⟩
 clear E H; rintro a w41 ⟨A37, c38, A40, E, H⟩
 refine th_n <| wp_seq <| sr_ <| vq 4 [.slice A1 aAccept.length c2] [(25, .slice A1 aAccept.length c2), (26, .int .i64 (aAccept.length : Int)), (27, .int .i64 0)] [World.cell? w41 ⟨g13, 1, none⟩ = some (.slice A1 aAccept.length c2)] E ((H.box 3 rfl).cell (j := 1) rfl) ?_
 clear E; intro a E
 refine nn_ <| wp_block ?_
 obtain ⟨x111, hL112, hK113⟩ := bind_inv hP
 clear hP
 refine loop_cut (fun i_ a w_ => (i_ = 0 ∧ ∃ (x116 : List Int), Fr a 99 [(3, .int .i64 (aAccept.length : Int)), (4, .slice A37 r18.length c38), (5, .slice A40 x116.length (Int.toNat (aAccept.length : Int)))] ∧ Hp S Fa w0 w_ [.row true (cSl (cInt .i64)) 23 A37 c38 r18, .rowx true (cInt .i64) 3 A40 (Int.toNat (aAccept.length : Int)) x116 (List.replicate (Int.toNat (aAccept.length : Int) - Int.toNat (aAccept.length : Int)) (0 : Int))] ∧ x111 = x116)) ?_ ?_
 ·
  refine loopV (fun m115 a w114 => ∃ (of91 : List Int) (x92 : Int), Fr a 99 [(1, .pointer (some ⟨g13, 0, none⟩)), (3, .int .i64 (aAccept.length : Int)), (4, .slice A37 r18.length c38), (5, .slice A40 of91.length (Int.toNat (aAccept.length : Int))), (25, .slice A1 aAccept.length c2), (26, .int .i64 (aAccept.length : Int)), (27, .int .i64 x92)] ∧ Hp S Fa w0 w114 [.ro false cBool A1 aAccept, .ro false (cInt .i64) A5 aGuard, .ro false cNode A9 aNodes, .box g13 26 [.int .i64 aProps, .slice A1 aAccept.length c2, .slice A5 aGuard.length c6, .slice A9 aNodes.length c10], .row true (cSl (cInt .i64)) 23 A37 c38 r18, .rowx true (cInt .i64) 3 A40 (Int.toNat (aAccept.length : Int)) of91 (List.replicate (Int.toNat (aAccept.length : Int) - Int.toNat (aAccept.length : Int)) (0 : Int))] ∧ part_classes_l0 N aAccept m115 of91 x92 = some x111) N ?_ ?_
  ·
   exact ⟨List.replicate (Int.toNat (aAccept.length : Int)) (0 : Int), 0, E.pk, H.sel (up 6) rfl, hL112⟩
  clear E H hL112; intro m115 a w114 hI_
  obtain ⟨of91, x92, E, H, hP⟩ := hI_
  obtain ⟨m110, rfl⟩ : ∃ q_, m115 = q_ + 1 := by cases m115 with | zero => rw [part_classes_l0] at hP; cases hP | succ q_ => exact ⟨q_, rfl⟩
  rw [part_classes_l0] at hP
  refine sr_ <| vp 1 [(28, .bool (decide (x92 < (aAccept.length : Int))))] E ?_
  clear E; intro a E
  refine nn_ <| wp_seq ?_
  revert E; refine csE 28 rfl (fun hb_ E => ?_) fun hb_ E => ?_
  ·
   have h117 : x92 < (aAccept.length : Int) := of_decide_eq_true hb_
   replace hP := ite_t h117 hP
   refine c_true E rfl <| wp_skip <| th_n <| wp_seq <| wp_block <| sr_ ?_
   obtain ⟨g118, hP⟩ := ask_inv hP
   obtain ⟨b119, o120, e_b119⟩ := (H.rd 0 rds_ro).addr (idx_pos g118)
   subst e_b119
   refine vq 5 [.bool (List.getD aAccept x92.toNat false)] [(6, .int .i64 x92), (7, .bool (List.getD aAccept x92.toNat false))] [0 ≤ x92 ∧ x92 < (aAccept.length : Int), World.cell? w114 ⟨b119, o120 + x92.toNat * 1, none⟩ = some (.bool (List.getD aAccept x92.toNat false))] E ⟨g118, Rds.at1 (H.rd 0 rds_ro) false g118⟩ ?_
   clear E; intro a E
   refine nn_ <| sr_ ?_
   obtain ⟨g121, hP⟩ := ask_inv hP
   refine vq 6 [.slice (some ⟨b119, o120, none⟩) aAccept.length c2, .bool (List.getD aAccept (Int.toNat (0 : Int)) false)] [(37, .bool (!((List.getD aAccept x92.toNat false) == (List.getD aAccept (Int.toNat (0 : Int)) false))))] [World.cell? w114 ⟨g13, 1, none⟩ = some (.slice (some ⟨b119, o120, none⟩) aAccept.length c2), 0 ≤ (0 : Int) ∧ (0 : Int) < (aAccept.length : Int), World.cell? w114 ⟨b119, o120 + (Int.toNat (0 : Int)) * 1, none⟩ = some (.bool (List.getD aAccept (Int.toNat (0 : Int)) false))] E ⟨(H.box 3 rfl).cell (j := 1) rfl, g121, Rds.at1 (H.rd 0 rds_ro) false g121⟩ ?_
   clear E; intro a E
   refine nn_ ?_
   revert E; refine csE 37 rfl (fun hb_ E => ?_) fun hb_ E => ?_
   ·
    have h122 : ¬ ((List.getD aAccept x92.toNat false) = (List.getD aAccept (Int.toNat (0 : Int)) false)) := (by simpa using hb_)
    replace hP := ite_f h122 hP
    refine c_true E rfl <| rl_ ?_
    obtain ⟨g123, hP⟩ := ask_inv hP
    obtain ⟨b124, e_b124⟩ := H.raddrx 5 rfl (idx_pos g123)
    subst e_b124
    refine vq 3 [] [(40, .pointer (some ⟨b124, 0 + x92.toNat * 1, none⟩))] [0 ≤ x92 ∧ x92 < (of91.length : Int)] E (g123) ?_
    clear E; intro a E
    refine h_setx (g := b124) (i := x92) 1 H 5 rfl E rfl rfl rfl rfl tbok rfl (fun _ HF_ => rfl) rfl g123 rfl ?_
    clear E; intro w126 a hc127 H_ E
    replace H := H_; clear H_; try dsimp only [setn, addE, goneL] at H
    have hn128 : of91.length = (List.length (List.set of91 x92.toNat 1)) := by simp only [List.length_set]
    replace E := E.same (t := 5) (u := .slice (some ⟨b124, 0, none⟩) (List.length (List.set of91 x92.toNat 1)) (Int.toNat (aAccept.length : Int))) rfl (congrArg (fun n_ => Value.slice (some ⟨b124, 0, none⟩) n_ (Int.toNat (aAccept.length : Int))) hn128)
    refine nl_ <| bl_n <| th_n <| rl_ ?_
    obtain ⟨g129, hP⟩ := ask_inv hP
    refine vq 2 [.int .i64 (x92 + 1)] [(27, .int .i64 (x92 + 1))] [IntKind.i64.wrap (x92 + 1) = x92 + 1] E (wrap_in g129) ?_
    clear E; intro a E
    refine nl_ ?_
    exact th_n ⟨m110, Nat.lt_succ_self _, List.set of91 x92.toNat 1, x92 + 1, E.pk, H.sel (up 6) rfl, hP⟩
   have h130 : (List.getD aAccept x92.toNat false) = (List.getD aAccept (Int.toNat (0 : Int)) false) := (by simpa using hb_)
   replace hP := ite_t h130 hP
   refine c_false E rfl <| wp_skip <| bl_n <| th_n <| rl_ ?_
   obtain ⟨g131, hP⟩ := ask_inv hP
   refine vq 2 [.int .i64 (x92 + 1)] [(27, .int .i64 (x92 + 1))] [IntKind.i64.wrap (x92 + 1) = x92 + 1] E (wrap_in g131) ?_
   clear E; intro a E
   refine nl_ ?_
   exact th_n ⟨m110, Nat.lt_succ_self _, of91, x92 + 1, E.pk, H.sel (up 6) rfl, hP⟩
  have h132 : ¬ (x92 < (aAccept.length : Int)) := of_decide_eq_false hb_
  replace hP := ite_f h132 hP
  refine c_false E rfl <| wp_exit <| th_exit ?_
  have hx_ := Option.some.inj hP
  refine th_exit (.inl ⟨0, rfl, ?_⟩)
  exact ⟨rfl, of91, E.pk, H.sel [4, 5] rfl, hx_.symm⟩
 clear E H hL112; intro i_ a w114 hM_
 obtain ⟨rfl, x116, E, H, hx_⟩ := hM_
 subst hx_; have hP := hK113; clear hK113
 refine bl_hit <| th_n <| sr_ <| vp 1 [(8, .int .i64 0)] E ?_
 clear E; intro a E
 refine nn_ <| wp_block ?_
 obtain ⟨x433, hL434, hK435⟩ := bind_inv hP
 clear hP
 refine loop_cut (fun i_ a w_ => False) ?_ ?_
 ·
  refine loopV (fun m437 a w436 => ∃ (of281 : List Int) (many283 : Int), ∃ (A282 : Option Addr), Fr a 99 [(3, .int .i64 (aAccept.length : Int)), (4, .slice A37 r18.length c38), (5, .slice A282 of281.length (Int.toNat (aAccept.length : Int))), (8, .int .i64 many283)] ∧ Hp S Fa w0 w436 [.row true (cSl (cInt .i64)) 23 A37 c38 r18, .rowx true (cInt .i64) 3 A282 (Int.toNat (aAccept.length : Int)) of281 (List.replicate (Int.toNat (aAccept.length : Int) - Int.toNat (aAccept.length : Int)) (0 : Int))] ∧ part_classes_l1 N aAccept r18 m437 of281 many283 = some x433) N ?_ ?_
  ·
   exact ⟨x111, 0, A40, E.pk, H.sel [0, 1] rfl, hL434⟩
  clear E H hL434; intro m437 a w436 hI_
  obtain ⟨of281, many283, A282, E, H, hP⟩ := hI_
  obtain ⟨m432, rfl⟩ : ∃ q_, m437 = q_ + 1 := by cases m437 with | zero => rw [part_classes_l1] at hP; cases hP | succ q_ => exact ⟨q_, rfl⟩
  rw [part_classes_l1] at hP
  refine wp_block <| wp_seq <| meet_cut (fun a w452 => ∃ (g449 : Nat) (A451 : Option Addr), Fr a 99 [(3, .int .i64 (aAccept.length : Int)), (4, .slice A37 r18.length c38), (5, .slice A282 of281.length (Int.toNat (aAccept.length : Int))), (8, .int .i64 many283), (9, .map (some g449)), (10, .slice A451 (List.length (List.replicate (Int.toNat (aAccept.length : Int)) (0 : Int))) (Int.toNat (aAccept.length : Int)))] ∧ Hp S Fa w0 w452 [.row true (cSl (cInt .i64)) 23 A37 c38 r18, .rowx true (cInt .i64) 3 A282 (Int.toNat (aAccept.length : Int)) of281 (List.replicate (Int.toNat (aAccept.length : Int) - Int.toNat (aAccept.length : Int)) (0 : Int)), .mp Try.prog 135 g449 (List.map (fun p_ => ((fun xs_ : List Int => .agg (arrV (iV .i64) xs_)) p_.1, (fun u_ : Int => .int .i64 u_) p_.2)) ([] : List ((List Int) × Int))), .rowx true (cInt .i64) 3 A451 (Int.toNat (aAccept.length : Int)) (List.replicate (Int.toNat (aAccept.length : Int)) (0 : Int)) (List.replicate (Int.toNat (aAccept.length : Int) - Int.toNat (aAccept.length : Int)) (0 : Int))]) ?_ ?_
  ·
   have HR456 := H
   refine dr_start (S := fun w_ => Chg (atL []) w436 w_) (by kernel_rfl) ?_
   intro w453 hc454
   have HS455 : Chg (atL []) w436 w453 := hc454.mono (fun _ _ h_ => h_.elim)
   replace H := H.ext hc454
   refine dn tbok (by kernel_rfl) [1] [] [(43, .int .i64 (aAccept.length : Int))] (fun w_ => []) 4 E (fun _ _ => by kernel_rfl) (by kernel_rfl) (fun w_ hS_ => trivial) (by kernel_rfl) HS455 ?_
   clear E; intro a E
   refine wpAnyH_all (rs := [0, 2]) (by kernel_rfl) (by simp) ?_
   refine all2 ?_ ?_
   ·
    refine wpOp_of_list rfl ?_
    refine h_makeMap (P := Try.prog) (k0 := 135) H E rfl rfl ?_
    intro w458 g457 a hc459 hg460 H_ E_
    replace E := E_ _ rfl; clear E_
    have hin462 : ∀ q_, q_ < w436.heap.size → q_ = g457 → (atL []) q_ := fun q_ h1_ h2_ => by have hs_ := HS455.size; have h4_ : q_ = g457 := h2_; exfalso; omega
    replace HS455 := HS455.ext hc459
    replace H := H_; clear H_; try dsimp only [setn, addE, goneL] at H
    refine nl_ <| th_n ⟨HS455, ?_⟩
    refine dn tbok (by kernel_rfl) [3] [] [(9, .map (some g457))] (fun w_ => []) 2 E (fun _ _ => by kernel_rfl) (by kernel_rfl) (fun w_ hS_ => trivial) (by kernel_rfl) HS455 ?_
    clear E; intro a E
    refine wpAnyH_all (rs := [2]) (by kernel_rfl) (by simp) ?_
    refine all1 ?_
    refine wpOp_of_list rfl ?_
    refine h_make (cInt .i64) (0 : Int) H E rfl rfl tbok rfl rfl rfl rfl ⟨g30.1, Int.le_refl _, g30.2⟩ rfl rfl rfl (fun _ _ => rfl) ?_
    intro w464 g463 a hc465 hg467 H_ E_
    replace E := E_ _ rfl; clear E_
    have hin468 : ∀ q_, q_ < w436.heap.size → At (some ⟨g463, 0, none⟩) q_ → (atL []) q_ := fun q_ h1_ h2_ => by have hs_ := HS455.size; have h4_ : q_ = g463 := At.of_g h2_; exfalso; omega
    replace HS455 := HS455.ext hc465
    replace H := H_; clear H_; try dsimp only [setn, addE, goneL] at H
    refine nl_ <| th_n ⟨HS455, ?_⟩
    refine dn tbok (by kernel_rfl) [4] [] [(10, .slice (some ⟨g463, 0, none⟩) (List.length (List.replicate (Int.toNat (aAccept.length : Int)) (0 : Int))) (Int.toNat (aAccept.length : Int)))] (fun w_ => []) 0 E (fun _ _ => by kernel_rfl) (by kernel_rfl) (fun w_ hS_ => trivial) (by kernel_rfl) HS455 ?_
    clear E; intro a E
    refine dr_done (by kernel_rfl) ?_
    exact .inl ⟨rfl, g457, (some ⟨g463, 0, none⟩), E.pk, H.sel [0, 1, 2, 3] rfl⟩
   refine wpOp_of_list rfl ?_
   refine h_make (cInt .i64) (0 : Int) H E rfl rfl tbok rfl rfl rfl rfl ⟨g30.1, Int.le_refl _, g30.2⟩ rfl rfl rfl (fun _ _ => rfl) ?_
   intro w470 g469 a hc471 hg473 H_ E_
   replace E := E_ _ rfl; clear E_
   have hin474 : ∀ q_, q_ < w436.heap.size → At (some ⟨g469, 0, none⟩) q_ → (atL []) q_ := fun q_ h1_ h2_ => by have hs_ := HS455.size; have h4_ : q_ = g469 := At.of_g h2_; exfalso; omega
   replace HS455 := HS455.ext hc471
   replace H := H_; clear H_; try dsimp only [setn, addE, goneL] at H
   refine nl_ <| th_n ⟨HS455, ?_⟩
   refine wpAnyH_all (rs := [0]) (by kernel_rfl) (by simp) ?_
   refine all1 ?_
   refine wpOp_of_list rfl ?_
   refine h_makeMap (P := Try.prog) (k0 := 135) H E rfl rfl ?_
   intro w476 g475 a hc477 hg478 H_ E_
   replace E := E_ _ rfl; clear E_
   have hin480 : ∀ q_, q_ < w436.heap.size → q_ = g475 → (atL []) q_ := fun q_ h1_ h2_ => by have hs_ := HS455.size; have h4_ : q_ = g475 := h2_; exfalso; omega
   replace HS455 := HS455.ext hc477
   replace H := H_; clear H_; try dsimp only [setn, addE, goneL] at H
   refine nl_ <| th_n ⟨HS455, ?_⟩
   refine dn tbok (by kernel_rfl) [3, 4] [] [(9, .map (some g475)), (10, .slice (some ⟨g469, 0, none⟩) (List.length (List.replicate (Int.toNat (aAccept.length : Int)) (0 : Int))) (Int.toNat (aAccept.length : Int)))] (fun w_ => []) 0 E (fun _ _ => by kernel_rfl) (by kernel_rfl) (fun w_ hS_ => trivial) (by kernel_rfl) HS455 ?_
   clear E; intro a E
   refine dr_done (by kernel_rfl) ?_
   exact .inl ⟨rfl, g475, (some ⟨g469, 0, none⟩), E.pk, H.sel [0, 1, 3, 2] rfl⟩
  clear E H; rintro a w452 ⟨g449, A451, E, H⟩
  refine th_n <| wp_seq <| sr_ <| vp 3 [(46, .int .i64 (of281.length : Int)), (47, .int .i64 0)] E ?_
  clear E; intro a E
  refine nn_ <| wp_block ?_
  obtain ⟨x613, hL614, hK615⟩ := bind_inv hP
  clear hP
  refine loop_cut (fun i_ a w_ => (i_ = 4 ∧ ∃ (x618 : (List ((List Int) × Int)) × (List Int)), Fr a 99 [(3, .int .i64 (aAccept.length : Int)), (4, .slice A37 r18.length c38), (8, .int .i64 many283), (9, .map (some g449)), (10, .slice A451 x618.2.length (Int.toNat (aAccept.length : Int)))] ∧ Hp S Fa w0 w_ [.row true (cSl (cInt .i64)) 23 A37 c38 r18, .mp Try.prog 135 g449 (List.map (fun p_ => ((fun xs_ : List Int => .agg (arrV (iV .i64) xs_)) p_.1, (fun u_ : Int => .int .i64 u_) p_.2)) x618.1), .rowx true (cInt .i64) 3 A451 (Int.toNat (aAccept.length : Int)) x618.2 (List.replicate (Int.toNat (aAccept.length : Int) - Int.toNat (aAccept.length : Int)) (0 : Int))] ∧ x613 = x618)) ?_ ?_
  ·
   refine loopV (fun m617 a w616 => ∃ (numbers543 : List ((List Int) × Int)) (next544 : List Int) (x545 : Int), Fr a 99 [(3, .int .i64 (aAccept.length : Int)), (4, .slice A37 r18.length c38), (5, .slice A282 of281.length (Int.toNat (aAccept.length : Int))), (8, .int .i64 many283), (9, .map (some g449)), (10, .slice A451 next544.length (Int.toNat (aAccept.length : Int))), (46, .int .i64 (of281.length : Int)), (47, .int .i64 x545)] ∧ Hp S Fa w0 w616 [.row true (cSl (cInt .i64)) 23 A37 c38 r18, .rowx true (cInt .i64) 3 A282 (Int.toNat (aAccept.length : Int)) of281 (List.replicate (Int.toNat (aAccept.length : Int) - Int.toNat (aAccept.length : Int)) (0 : Int)), .mp Try.prog 135 g449 (List.map (fun p_ => ((fun xs_ : List Int => .agg (arrV (iV .i64) xs_)) p_.1, (fun u_ : Int => .int .i64 u_) p_.2)) numbers543), .rowx true (cInt .i64) 3 A451 (Int.toNat (aAccept.length : Int)) next544 (List.replicate (Int.toNat (aAccept.length : Int) - Int.toNat (aAccept.length : Int)) (0 : Int))] ∧ part_classes_l2 N r18 of281 m617 numbers543 next544 x545 = some x613) N ?_ ?_
   ·
    exact ⟨([] : List ((List Int) × Int)), List.replicate (Int.toNat (aAccept.length : Int)) (0 : Int), 0, E.pk, H.sel [0, 1, 2, 3] rfl, hL614⟩
   clear E H hL614; intro m617 a w616 hI_
   obtain ⟨numbers543, next544, x545, E, H, hP⟩ := hI_
   obtain ⟨m612, rfl⟩ : ∃ q_, m617 = q_ + 1 := by cases m617 with | zero => rw [part_classes_l2] at hP; cases hP | succ q_ => exact ⟨q_, rfl⟩
   rw [part_classes_l2] at hP
   refine sr_ <| vp 1 [(48, .bool (decide (x545 < (of281.length : Int))))] E ?_
   clear E; intro a E
   refine nn_ <| wp_seq ?_
   revert E; refine csE 48 rfl (fun hb_ E => ?_) fun hb_ E => ?_
   ·
    have h619 : x545 < (of281.length : Int) := of_decide_eq_true hb_
    replace hP := ite_t h619 hP
    refine c_true E rfl <| wp_skip <| th_n <| wp_seq <| wp_block <| sr_ <| vp 2 [(11, .int .i64 x545)] E ?_
    clear E; intro a E
    refine nn_ <| sr_ <| h_allocArr (cInt .i64) (0 : Int) [.int .i64 0] 257 H E rfl rfl tbok rfl (fun _ _ => rfl) (by kernel_rfl) (by kernel_rfl) ?_
    clear H E; intro w621 g620 a hc622 hg623 H E; replace E := E _ rfl; try dsimp only [setn, addE, goneL] at H
    refine nn_ <| sr_ ?_
    obtain ⟨g625, hP⟩ := ask_inv hP
    obtain ⟨b626, e_b626⟩ := H.raddrx 1 rfl (idx_pos g625)
    subst e_b626
    obtain ⟨g628, hP⟩ := ask_inv hP
    refine vq 5 [.int .i64 (List.getD of281 x545.toNat 0)] [(53, .int .i64 (List.getD of281 x545.toNat 0)), (54, .pointer (some ⟨g620, 0 + (Int.toNat (0 : Int)) * 1, none⟩))] [0 ≤ x545 ∧ x545 < (of281.length : Int), World.cell? w621 ⟨b626, 0 + x545.toNat * 1, none⟩ = some (.int .i64 (List.getD of281 x545.toNat 0)), 0 ≤ (0 : Int) ∧ (0 : Int) < ((257 : Nat) : Int)] E ⟨g625, Rds.at1 (H.rd 1 rds_rowx) 0 g625, g628⟩ ?_
    clear E; intro a E
    refine h_setx (g := g620) (i := (0 : Int)) (List.getD of281 x545.toNat 0) H 4 rfl E rfl rfl rfl rfl tbok rfl (fun _ HF_ => rfl) rfl (arr_hx (H.rcapE 4 rfl) g628) rfl ?_
    clear E; intro w629 a hc630 H_ E
    replace H := H_; clear H_; try dsimp only [setn, addE, goneL] at H
    refine nn_ <| wp_seq <| sr_ ?_
    obtain ⟨g631, hP⟩ := ask_inv hP
    obtain ⟨b632, e_b632⟩ := H.raddr 0 rfl (idx_pos g631)
    subst e_b632
    obtain ⟨A634, c635, hl636, hk637, H⟩ := H.subSl 0 true (el_row rfl) g631
    try dsimp only [addE] at H
    refine vq 6 [.slice A634 (List.length (List.getD r18 x545.toNat [])) c635] [(58, .slice A634 (List.length (List.getD r18 x545.toNat [])) c635), (59, .int .i64 (((List.length (List.getD r18 x545.toNat [])) : Nat) : Int)), (60, .int .i64 0)] [0 ≤ x545 ∧ x545 < (r18.length : Int), World.cell? w629 ⟨b632, 0 + x545.toNat * 1, none⟩ = some (.slice A634 (List.length (List.getD r18 x545.toNat [])) c635)] E ⟨g631, hl636⟩ ?_
    clear E; intro a E
    refine nn_ <| wp_block ?_
    obtain ⟨x663, hL664, hK665⟩ := bind_inv hP
    clear hP
    refine loop_cut (fun i_ a w_ => (i_ = 6 ∧ ∃ (x668 : List Int), Fr a 99 [(3, .int .i64 (aAccept.length : Int)), (4, .slice (some ⟨b632, 0, none⟩) r18.length c38), (5, .slice (some ⟨b626, 0, none⟩) of281.length (Int.toNat (aAccept.length : Int))), (8, .int .i64 many283), (9, .map (some g449)), (10, .slice A451 next544.length (Int.toNat (aAccept.length : Int))), (11, .int .i64 x545), (12, .pointer (some ⟨g620, 0, none⟩)), (46, .int .i64 (of281.length : Int)), (47, .int .i64 x545)] ∧ Hp S Fa w0 w_ [.row true (cSl (cInt .i64)) 23 (some ⟨b632, 0, none⟩) c38 r18, .rowx true (cInt .i64) 3 (some ⟨b626, 0, none⟩) (Int.toNat (aAccept.length : Int)) of281 (List.replicate (Int.toNat (aAccept.length : Int) - Int.toNat (aAccept.length : Int)) (0 : Int)), .mp Try.prog 135 g449 (List.map (fun p_ => ((fun xs_ : List Int => .agg (arrV (iV .i64) xs_)) p_.1, (fun u_ : Int => .int .i64 u_) p_.2)) numbers543), .rowx true (cInt .i64) 3 A451 (Int.toNat (aAccept.length : Int)) next544 (List.replicate (Int.toNat (aAccept.length : Int) - Int.toNat (aAccept.length : Int)) (0 : Int)), .rowx true (cInt .i64) 135 (some ⟨g620, 0, none⟩) 257 x668 []] ∧ x663 = x668)) ?_ ?_
    ·
     refine loopV (fun m667 a w666 => ∃ (s648 : List Int) (x649 : Int), Fr a 99 [(3, .int .i64 (aAccept.length : Int)), (4, .slice (some ⟨b632, 0, none⟩) r18.length c38), (5, .slice (some ⟨b626, 0, none⟩) of281.length (Int.toNat (aAccept.length : Int))), (8, .int .i64 many283), (9, .map (some g449)), (10, .slice A451 next544.length (Int.toNat (aAccept.length : Int))), (11, .int .i64 x545), (12, .pointer (some ⟨g620, 0, none⟩)), (46, .int .i64 (of281.length : Int)), (47, .int .i64 x545), (58, .slice A634 (List.length (List.getD r18 x545.toNat [])) c635), (59, .int .i64 (((List.length (List.getD r18 x545.toNat [])) : Nat) : Int)), (60, .int .i64 x649)] ∧ Hp S Fa w0 w666 [.row true (cSl (cInt .i64)) 23 (some ⟨b632, 0, none⟩) c38 r18, .rowx true (cInt .i64) 3 (some ⟨b626, 0, none⟩) (Int.toNat (aAccept.length : Int)) of281 (List.replicate (Int.toNat (aAccept.length : Int) - Int.toNat (aAccept.length : Int)) (0 : Int)), .mp Try.prog 135 g449 (List.map (fun p_ => ((fun xs_ : List Int => .agg (arrV (iV .i64) xs_)) p_.1, (fun u_ : Int => .int .i64 u_) p_.2)) numbers543), .rowx true (cInt .i64) 3 A451 (Int.toNat (aAccept.length : Int)) next544 (List.replicate (Int.toNat (aAccept.length : Int) - Int.toNat (aAccept.length : Int)) (0 : Int)), .rowx true (cInt .i64) 135 (some ⟨g620, 0, none⟩) 257 s648 [], .ro true (cInt .i64) A634 (List.getD r18 x545.toNat [])] ∧ part_classes_l3 N r18 of281 x545 m667 s648 x649 = some x663) N ?_ ?_
     ·
      exact ⟨List.set (List.replicate 257 (0 : Int)) (Int.toNat (0 : Int)) (List.getD of281 x545.toNat 0), 0, E.pk, H.sel (up 6) rfl, hL664⟩
     clear E H hL664; intro m667 a w666 hI_
     obtain ⟨s648, x649, E, H, hP⟩ := hI_
     obtain ⟨m662, rfl⟩ : ∃ q_, m667 = q_ + 1 := by cases m667 with | zero => rw [part_classes_l3] at hP; cases hP | succ q_ => exact ⟨q_, rfl⟩
     rw [part_classes_l3] at hP
     refine sr_ <| vp 1 [(61, .bool (decide (x649 < (((List.length (List.getD r18 x545.toNat [])) : Nat) : Int))))] E ?_
     clear E; intro a E
     refine nn_ <| wp_seq ?_
     revert E; refine csE 61 rfl (fun hb_ E => ?_) fun hb_ E => ?_
     ·
      have h669 : x649 < (((List.length (List.getD r18 x545.toNat [])) : Nat) : Int) := of_decide_eq_true hb_
      replace hP := ite_t h669 hP
      refine c_true E rfl <| wp_skip <| th_n <| wp_seq <| wp_block <| sr_ ?_
      obtain ⟨g670, hP⟩ := ask_inv hP
      obtain ⟨b671, o672, e_b671⟩ := (H.rd 5 rds_ro).addr (idx_pos g670)
      subst e_b671
      refine vq 5 [.int .i64 (List.getD (List.getD r18 x545.toNat []) x649.toNat 0)] [(13, .int .i64 x649), (14, .int .i64 (List.getD (List.getD r18 x545.toNat []) x649.toNat 0))] [0 ≤ x649 ∧ x649 < (((List.length (List.getD r18 x545.toNat [])) : Nat) : Int), World.cell? w666 ⟨b671, o672 + x649.toNat * 1, none⟩ = some (.int .i64 (List.getD (List.getD r18 x545.toNat []) x649.toNat 0))] E ⟨g670, Rds.at1 (H.rd 5 rds_ro) 0 g670⟩ ?_
      clear E; intro a E
      refine nn_ <| rl_ ?_
      obtain ⟨g673, hP⟩ := ask_inv hP
      obtain ⟨g674, hP⟩ := ask_inv hP
      obtain ⟨g675, hP⟩ := ask_inv hP
      refine vq 7 [.int .i64 (1 + x649), .int .i64 (List.getD of281 (Int.toNat (List.getD (List.getD r18 x545.toNat []) x649.toNat 0)) 0)] [(70, .int .i64 (List.getD of281 (Int.toNat (List.getD (List.getD r18 x545.toNat []) x649.toNat 0)) 0)), (71, .pointer (some ⟨g620, 0 + (Int.toNat (1 + x649)) * 1, none⟩))] [IntKind.i64.wrap (1 + x649) = 1 + x649, 0 ≤ (List.getD (List.getD r18 x545.toNat []) x649.toNat 0) ∧ (List.getD (List.getD r18 x545.toNat []) x649.toNat 0) < (of281.length : Int), World.cell? w666 ⟨b626, 0 + (Int.toNat (List.getD (List.getD r18 x545.toNat []) x649.toNat 0)) * 1, none⟩ = some (.int .i64 (List.getD of281 (Int.toNat (List.getD (List.getD r18 x545.toNat []) x649.toNat 0)) 0)), 0 ≤ (1 + x649) ∧ (1 + x649) < ((257 : Nat) : Int)] E ⟨wrap_in g673, g674, Rds.at1 (H.rd 1 rds_rowx) 0 g674, g675⟩ ?_
      clear E; intro a E
      refine h_setx (g := g620) (i := (1 + x649)) (List.getD of281 (Int.toNat (List.getD (List.getD r18 x545.toNat []) x649.toNat 0)) 0) H 4 rfl E rfl rfl rfl rfl tbok rfl (fun _ HF_ => rfl) rfl (arr_hx (H.rcapE 4 rfl) g675) rfl ?_
      clear E; intro w676 a hc677 H_ E
      replace H := H_; clear H_; try dsimp only [setn, addE, goneL] at H
      refine nl_ <| bl_n <| th_n <| rl_ ?_
      obtain ⟨g678, hP⟩ := ask_inv hP
      refine vq 2 [.int .i64 (x649 + 1)] [(60, .int .i64 (x649 + 1))] [IntKind.i64.wrap (x649 + 1) = x649 + 1] E (wrap_in g678) ?_
      clear E; intro a E
      refine nl_ ?_
      exact th_n ⟨m662, Nat.lt_succ_self _, List.set s648 (Int.toNat (1 + x649)) (List.getD of281 (Int.toNat (List.getD (List.getD r18 x545.toNat []) x649.toNat 0)) 0), x649 + 1, E.pk, H.sel (up 6) rfl, hP⟩
     have h679 : ¬ (x649 < (((List.length (List.getD r18 x545.toNat [])) : Nat) : Int)) := of_decide_eq_false hb_
     replace hP := ite_f h679 hP
     refine c_false E rfl <| wp_exit <| th_exit ?_
     have hx_ := Option.some.inj hP
     refine th_exit (.inl ⟨6, rfl, ?_⟩)
     exact ⟨rfl, s648, E.pk, H.sel (up 5) rfl, hx_.symm⟩
    clear E H hL664; intro i_ a w666 hM_
    obtain ⟨rfl, x668, E, H, hx_⟩ := hM_
    subst hx_; have hP := hK665; clear hK665
    refine bl_hit <| th_n <| sr_ <| vp 1 [(74, .map (some g449))] E ?_
    clear E; intro a E
    refine h_loadArr (iV .i64) (xs := x663) H 4 rfl E rfl rfl tbok rfl rfl rfl rfl (fun _ _ _ _ h_ => h_) (by kernel_rfl) rfl ?_
    clear E; intro a E
    obtain ⟨g680, hP⟩ := ask_inv hP
    refine h_lookupC (fun xs_ : List Int => .agg (arrV (iV .i64) xs_)) (fun u_ : Int => .int .i64 u_) x663 0 H 2 rfl E rfl rfl tbok rfl rfl (kArr Try.underlying135 Try.underlying3 (by kernel_rfl) (by kernel_rfl) (by kernel_rfl) (by kernel_rfl) (Maps.Keyed.of_law (deep_law (m := 3) (by decide) (by kernel_rfl) (by kernel_rfl) (by kernel_rfl)))) rfl rfl rfl g680 (fun _ => ⟨_, rfl⟩) ?_
    clear E; intro a E_; replace E := E_ _ rfl; clear E_
    refine vp 5 [(15, .int .i64 (Option.getD (mget numbers543 x663) 0)), (16, .bool (Option.isSome (mget numbers543 x663)))] E ?_
    clear E; intro a E
    refine nn_ <| wp_seq <| sr_ <| vp 2 [(80, .bool (!(Option.isSome (mget numbers543 x663))))] E ?_
    clear E; intro a E
    refine nn_ ?_
    revert E; refine csE 80 rfl (fun hb_ E => ?_) fun hb_ E => ?_
    ·
     have h681 : ¬ ((Option.isSome (mget numbers543 x663)) = true) := (ne_true_of_eq_false (not_t hb_))
     replace hP := ite_f h681 hP
     refine c_true E rfl <| sr_ <| vp 1 [(81, .map (some g449))] E ?_
     clear E; intro a E
     refine h_maplen (fun xs_ : List Int => .agg (arrV (iV .i64) xs_)) (fun u_ : Int => .int .i64 u_) H 2 rfl E rfl rfl tbok rfl rfl rfl ?_
     clear E; intro a E
     refine vp 1 [(15, .int .i64 ((List.length numbers543 : Nat) : Int))] E ?_
     clear E; intro a E
     refine nn_ <| rl_ <| vp 1 [(83, .map (some g449))] E ?_
     clear E; intro a E
     refine h_loadArr (iV .i64) (xs := x663) H 4 rfl E rfl rfl tbok rfl rfl rfl rfl (fun _ _ _ _ h_ => h_) (by kernel_rfl) rfl ?_
     clear E; intro a E
     refine vp 1 [(85, .int .i64 ((List.length numbers543 : Nat) : Int))] E ?_
     clear E; intro a E
     obtain ⟨g682, hP⟩ := ask_inv hP
     refine h_mapUpdate (fun xs_ : List Int => .agg (arrV (iV .i64) xs_)) (fun u_ : Int => .int .i64 u_) x663 ((List.length numbers543 : Nat) : Int) H 2 rfl E rfl rfl tbok rfl (kArr Try.underlying135 Try.underlying3 (by kernel_rfl) (by kernel_rfl) (by kernel_rfl) (by kernel_rfl) (Maps.Keyed.of_law (deep_law (m := 3) (by decide) (by kernel_rfl) (by kernel_rfl) (by kernel_rfl)))) rfl rfl rfl g680 g682 rfl ?_
     clear E; intro w683 a hc684 H_ E
     replace H := H_; clear H_; try dsimp only [setn, addE, goneL] at H
     refine nn_ <| rl_ ?_
     obtain ⟨g685, hP⟩ := ask_inv hP
     obtain ⟨b686, e_b686⟩ := H.raddrx 3 rfl (idx_pos g685)
     subst e_b686
     refine vq 4 [] [(88, .int .i64 ((List.length numbers543 : Nat) : Int)), (89, .pointer (some ⟨b686, 0 + x545.toNat * 1, none⟩))] [0 ≤ x545 ∧ x545 < (next544.length : Int)] E (g685) ?_
     clear E; intro a E
     refine h_setx (g := b686) (i := x545) ((List.length numbers543 : Nat) : Int) H 3 rfl E rfl rfl rfl rfl tbok rfl (fun _ HF_ => rfl) rfl g685 rfl ?_
     clear E; intro w688 a hc689 H_ E
     replace H := H_; clear H_; try dsimp only [setn, addE, goneL] at H
     have hn690 : next544.length = (List.length (List.set next544 x545.toNat ((List.length numbers543 : Nat) : Int))) := by simp only [List.length_set]
     replace E := E.same (t := 10) (u := .slice (some ⟨b686, 0, none⟩) (List.length (List.set next544 x545.toNat ((List.length numbers543 : Nat) : Int))) (Int.toNat (aAccept.length : Int))) rfl (congrArg (fun n_ => Value.slice (some ⟨b686, 0, none⟩) n_ (Int.toNat (aAccept.length : Int))) hn690)
     refine nl_ <| bl_n <| th_n <| rl_ ?_
     obtain ⟨g691, hP⟩ := ask_inv hP
     refine vq 2 [.int .i64 (x545 + 1)] [(47, .int .i64 (x545 + 1))] [IntKind.i64.wrap (x545 + 1) = x545 + 1] E (wrap_in g691) ?_
     clear E; intro a E
     refine nl_ ?_
     exact th_n ⟨m612, Nat.lt_succ_self _, numbers543 ++ [(x663, ((List.length numbers543 : Nat) : Int))], List.set next544 x545.toNat ((List.length numbers543 : Nat) : Int), x545 + 1, E.pk, H.sel [0, 1, 2, 3] rfl, hP⟩
    have h692 : (Option.isSome (mget numbers543 x663)) = true := (not_f hb_)
    replace hP := ite_t h692 hP
    refine c_false E rfl <| wp_skip <| th_n <| rl_ ?_
    obtain ⟨g693, hP⟩ := ask_inv hP
    obtain ⟨b694, e_b694⟩ := H.raddrx 3 rfl (idx_pos g693)
    subst e_b694
    refine vq 4 [] [(88, .int .i64 (Option.getD (mget numbers543 x663) 0)), (89, .pointer (some ⟨b694, 0 + x545.toNat * 1, none⟩))] [0 ≤ x545 ∧ x545 < (next544.length : Int)] E (g693) ?_
    clear E; intro a E
    refine h_setx (g := b694) (i := x545) (Option.getD (mget numbers543 x663) 0) H 3 rfl E rfl rfl rfl rfl tbok rfl (fun _ HF_ => rfl) rfl g693 rfl ?_
    clear E; intro w696 a hc697 H_ E
    replace H := H_; clear H_; try dsimp only [setn, addE, goneL] at H
    have hn698 : next544.length = (List.length (List.set next544 x545.toNat (Option.getD (mget numbers543 x663) 0))) := by simp only [List.length_set]
    replace E := E.same (t := 10) (u := .slice (some ⟨b694, 0, none⟩) (List.length (List.set next544 x545.toNat (Option.getD (mget numbers543 x663) 0))) (Int.toNat (aAccept.length : Int))) rfl (congrArg (fun n_ => Value.slice (some ⟨b694, 0, none⟩) n_ (Int.toNat (aAccept.length : Int))) hn698)
    refine nl_ <| bl_n <| th_n <| rl_ ?_
    obtain ⟨g699, hP⟩ := ask_inv hP
    refine vq 2 [.int .i64 (x545 + 1)] [(47, .int .i64 (x545 + 1))] [IntKind.i64.wrap (x545 + 1) = x545 + 1] E (wrap_in g699) ?_
    clear E; intro a E
    refine nl_ ?_
    exact th_n ⟨m612, Nat.lt_succ_self _, numbers543, List.set next544 x545.toNat (Option.getD (mget numbers543 x663) 0), x545 + 1, E.pk, H.sel [0, 1, 2, 3] rfl, hP⟩
   have h700 : ¬ (x545 < (of281.length : Int)) := of_decide_eq_false hb_
   replace hP := ite_f h700 hP
   refine c_false E rfl <| wp_exit <| th_exit ?_
   have hx_ := Option.some.inj hP
   refine th_exit (.inl ⟨4, rfl, ?_⟩)
   exact ⟨rfl, (numbers543, next544), E.pk, H.sel [0, 2, 3] rfl, hx_.symm⟩
  clear E H hL614; intro i_ a w616 hM_
  obtain ⟨rfl, x618, E, H, hx_⟩ := hM_
  subst hx_; have hP := hK615; clear hK615
  refine bl_hit <| th_n <| sr_ <| vp 2 [(5, .slice A451 x613.2.length (Int.toNat (aAccept.length : Int)))] E ?_
  clear E; intro a E
  refine nn_ <| wp_seq <| sr_ <| vp 1 [(92, .map (some g449))] E ?_
  clear E; intro a E
  refine h_maplen (fun xs_ : List Int => .agg (arrV (iV .i64) xs_)) (fun u_ : Int => .int .i64 u_) H 1 rfl E rfl rfl tbok rfl rfl rfl ?_
  clear E; intro a E
  refine vp 2 [(95, .bool ((((List.length x613.1 : Nat) : Int) : Int) == many283))] E ?_
  clear E; intro a E
  refine nn_ ?_
  revert E; refine csE 95 rfl (fun hb_ E => ?_) fun hb_ E => ?_
  ·
   have h701 : (((List.length x613.1 : Nat) : Int) : Int) = many283 := eq_of_beq hb_
   replace hP := ite_t h701 hP
   refine c_true E rfl <| sr_ <| vp 2 [(2, .slice A451 x613.2.length (Int.toNat (aAccept.length : Int)))] E ?_
   clear E; intro a E
   refine nn_ <| wp_ret <| th_ret <| bl_ret <| th_ret <| .inr ⟨rfl, ?_⟩
   refine bl_ret ?_
   replace H := H.rowx 2 rfl; try dsimp only [setn, addE, goneL] at H
   have hx_ := Option.some.inj hP; subst hx_
   have hP : some (x613.2) = some r := hK435
   obtain rfl := Option.some.inj hP
   refine ret1 E rfl rfl ?_
   exact ⟨_, rfl, A451, (Int.toNat (aAccept.length : Int)), rfl, H.sel [2] rfl⟩
  have h702 : ¬ ((((List.length x613.1 : Nat) : Int) : Int) = many283) := ne_of_beq_false hb_
  replace hP := ite_f h702 hP
  refine c_false E rfl <| wp_skip <| th_n <| rl_ <| vp 1 [(97, .map (some g449))] E ?_
  clear E; intro a E
  refine h_maplen (fun xs_ : List Int => .agg (arrV (iV .i64) xs_)) (fun u_ : Int => .int .i64 u_) H 1 rfl E rfl rfl tbok rfl rfl rfl ?_
  clear E; intro a E
  refine vp 1 [(8, .int .i64 ((List.length x613.1 : Nat) : Int))] E ?_
  clear E; intro a E
  refine nl_ <| bl_n ?_
  exact th_n ⟨m432, Nat.lt_succ_self _, x613.2, ((List.length x613.1 : Nat) : Int), A451, E.pk, H.sel [0, 2] rfl, hP⟩
 clear E H hL434; intro i_ a w436 hM_
 exact hM_.elim

/-! rejoinder/part.Classes -/
def part_Classes (N : Nat) (aProps : Int) (aAccept : List Bool) (aGuard : List Int) (aNodes : List Nd) : Option ((List Int) × Int) :=
  Option.bind (part_asked N aProps aAccept aGuard aNodes []) fun r19 =>
  if (r19 : Int) = 0 then
    Option.bind (part_classes N aProps aAccept aGuard aNodes) fun r31 =>
    some (r31, 0)
  else
    some ([], r19)
theorem part_Classes_calls {N : Nat} {S Fa : Nat → Prop} {w0 : World} {r : (List Int) × Int} (A1 : Option Addr) (c2 : Nat) (A5 : Option Addr) (c6 : Nat) (A9 : Option Addr) (c10 : Nat) (aProps : Int) (aAccept : List Bool) (aGuard : List Int) (aNodes : List Nd) (hk3 : List.length aAccept ≤ c2) (hk7 : List.length aGuard ≤ c6) (hk11 : List.length aNodes ≤ c10) (H : Hp S Fa w0 w0 [.ro false cBool A1 aAccept, .ro false (cInt .i64) A5 aGuard, .ro false cNode A9 aNodes]) (hP : part_Classes N aProps aAccept aGuard aNodes = some r) :
    Calls Try.prog 78 #[.agg #[.int .i64 aProps, .slice A1 aAccept.length c2, .slice A5 aGuard.length c6, .slice A9 aNodes.length c10]] w0 fun e w' => ∃ v, e = .returned v ∧ ∃ (A43 : Option Addr) (c44 : Nat), v = .tuple #[.slice A43 r.1.length c44, .int .i64 r.2] ∧ Hp S Fa w0 w' [.row true (cInt .i64) 3 A43 c44 r.1] := by
 refine enterV (n := 12) Try.func78 rfl rfl rfl ?_
 intro a E
 replace E := E.pick [(0, .agg #[.int .i64 aProps, .slice A1 aAccept.length c2, .slice A5 aGuard.length c6, .slice A9 aNodes.length c10])] ⟨rfl, trivial⟩
 rw [part_Classes] at hP
 refine sr_ <| h_box H E rfl rfl rfl ?_
 clear H E; intro w14 g13 a hc15 hg17 H E; replace E := E _ rfl; try dsimp only [setn, addE, goneL] at H
 refine vp 2 [] E ?_
 clear E; intro a E
 refine nn_ <| wp_seq <| sr_ <| vq 1 [.agg #[.int .i64 aProps, .slice A1 aAccept.length c2, .slice A5 aGuard.length c6, .slice A9 aNodes.length c10]] [(5, .agg #[.int .i64 aProps, .slice A1 aAccept.length c2, .slice A5 aGuard.length c6, .slice A9 aNodes.length c10])] [cellsAt w14 g13 (0) [.int .i64 aProps, .slice A1 aAccept.length c2, .slice A5 aGuard.length c6, .slice A9 aNodes.length c10]] E ((H.box 3 rfl).sub 0 _ rfl) ?_
 clear E; intro a E
 replace H := H.nilrow (cInt .i64) 3; try dsimp only [setn, addE, goneL] at H
 obtain ⟨r19, h20, hP⟩ := bind_inv hP
 obtain ⟨Fa21, Hc22, hb23⟩ := H.call [] [(0, false), (1, false), (2, false), (4, false)] rfl rfl trivial
 refine e_call E rfl rfl Try.func90 rfl rfl rfl (part_asked_calls A1 c2 A5 c6 A9 c10 none 0 aProps aAccept aGuard aNodes [] hk3 hk7 hk11 (Nat.le_refl _) Hc22 h20) ?_
 rintro v24 w25 a ⟨rfl, HR26⟩ E_
 replace E := E_ _ rfl; clear E_
 obtain ⟨H_, hc27⟩ := hb23 _ _ HR26 rfl
 replace H := H_; clear H_; try dsimp only [setn, addE, goneL] at H
 refine vp 1 [(4, .int .i64 r19)] E ?_
 clear E; intro a E
 refine nn_ <| sr_ <| vp 2 [(8, .bool ((r19 : Int) != 0))] E ?_
 clear E; intro a E
 refine nn_ ?_
 revert E; refine csE 8 rfl (fun hb_ E => ?_) fun hb_ E => ?_
 ·
  have h28 : ¬ ((r19 : Int) = 0) := bne_iff_ne.1 hb_
  replace hP := ite_f h28 hP
  refine c_true E rfl <| sr_ <| vp 3 [(2, .slice none 0 0), (3, .int .i64 r19)] E ?_
  clear E; intro a E
  refine nn_ <| wp_ret <| th_ret ?_
  replace H := H.nilrow (cInt .i64) 3; try dsimp only [setn, addE, goneL] at H
  obtain rfl := Option.some.inj hP
  refine ret2 E rfl rfl rfl ?_
  exact ⟨_, rfl, none, 0, rfl, H.sel [5] rfl⟩
 have h30 : (r19 : Int) = 0 := bne_eq_false_iff_eq.1 hb_
 replace hP := ite_t h30 hP
 refine c_false E rfl <| wp_skip <| th_n <| sr_ <| vq 1 [.agg #[.int .i64 aProps, .slice A1 aAccept.length c2, .slice A5 aGuard.length c6, .slice A9 aNodes.length c10]] [(10, .agg #[.int .i64 aProps, .slice A1 aAccept.length c2, .slice A5 aGuard.length c6, .slice A9 aNodes.length c10])] [cellsAt w25 g13 (0) [.int .i64 aProps, .slice A1 aAccept.length c2, .slice A5 aGuard.length c6, .slice A9 aNodes.length c10]] E ((H.box 3 rfl).sub 0 _ rfl) ?_
 clear E; intro a E
 obtain ⟨r31, h32, hP⟩ := bind_inv hP
 obtain ⟨Fa33, Hc34, hb35⟩ := H.call [] [(0, false), (1, false), (2, false)] rfl rfl trivial
 refine e_call E rfl rfl Try.func92 rfl rfl rfl (part_classes_calls A1 c2 A5 c6 A9 c10 aProps aAccept aGuard aNodes hk3 hk7 hk11 Hc34 h32) ?_
 rintro v36 w37 a ⟨A40, c41, rfl, HR38⟩ E_
 replace E := E_ _ rfl; clear E_
 obtain ⟨H_, hc39⟩ := hb35 _ _ HR38 rfl
 replace H := H_; clear H_; try dsimp only [setn, addE, goneL] at H
 refine vp 2 [(2, .slice A40 r31.length c41), (3, .int .i64 0)] E ?_
 clear E; intro a E
 refine nn_ <| wp_ret ?_
 obtain rfl := Option.some.inj hP
 refine ret2 E rfl rfl rfl ?_
 exact ⟨_, rfl, A40, c41, rfl, H.sel [5] rfl⟩

/-! rejoinder/canon.least -/
def canon_least_l0 (N : Nat) (r23 : (List Int) × Int) (r35 : (List Int) × Int) : Nat → (List Int) → (List Int) → Int → Option ((List Int) × (List Int))
  | 0, _, _, _ => none
  | m119 + 1, number80, first82, x85 =>
    if x85 < (r23.1.length : Int) then
      ask (idx x85 r23.1.length) <|
      ask (idx (List.getD r23.1 x85.toNat 0) r35.1.length) <|
      ask (idx (List.getD r35.1 (Int.toNat (List.getD r23.1 x85.toNat 0)) 0) number80.length) <|
      if ((List.getD number80 (Int.toNat (List.getD r35.1 (Int.toNat (List.getD r23.1 x85.toNat 0)) 0)) 0) : Int) = 0 then
        ask (List.length first82 + List.length ([(List.getD r23.1 x85.toNat 0)] : List Int) ≤ 1000000000) <|
        ask (in64 (x85 + 1)) <|
        canon_least_l0 N r23 r35 m119 (List.set number80 (Int.toNat (List.getD r35.1 (Int.toNat (List.getD r23.1 x85.toNat 0)) 0)) (((List.length (first82 ++ ([(List.getD r23.1 x85.toNat 0)] : List Int))) : Nat) : Int)) (first82 ++ ([(List.getD r23.1 x85.toNat 0)] : List Int)) (x85 + 1)
      else
        ask (in64 (x85 + 1)) <|
        canon_least_l0 N r23 r35 m119 number80 first82 (x85 + 1)
    else
      some (number80, first82)
def canon_least_l2 (N : Nat) (r35 : (List Int) × Int) (x120 : (List Int) × (List Int)) (r342 : (List Int) × Int) : Nat → (List Int) → Int → Option (List Int)
  | 0, _, _ => none
  | m402 + 1, x381, x384 =>
    if x384 < (r342.1.length : Int) then
      ask (idx x384 x381.length) <|
      ask (idx (List.getD x381 x384.toNat 0) r35.1.length) <|
      ask (idx (List.getD r35.1 (Int.toNat (List.getD x381 x384.toNat 0)) 0) x120.1.length) <|
      ask (in64 ((List.getD x120.1 (Int.toNat (List.getD r35.1 (Int.toNat (List.getD x381 x384.toNat 0)) 0)) 0) - 1)) <|
      ask (in64 (x384 + 1)) <|
      canon_least_l2 N r35 x120 r342 m402 (List.set x381 x384.toNat ((List.getD x120.1 (Int.toNat (List.getD r35.1 (Int.toNat (List.getD x381 x384.toNat 0)) 0)) 0) - 1)) (x384 + 1)
    else
      some x381
def canon_least_f4 (N : Nat) : Option Unit :=
    some ()
def canon_least_f3 (N : Nat) : Option Unit :=
    Option.bind (canon_least_f4 N) fun x428 =>
    some ()
def canon_least_l1 (N : Nat) (aProps : Int) (aGuard : List Int) (aNodes : List Nd) (r35 : (List Int) × Int) (x120 : (List Int) × (List Int)) : Nat → Option (Unit ⊕ ((Int × (List Bool) × (List Int) × (List Nd)) × Int))
  | 0 => none
  | m328 + 1 =>
    if 0 < (x120.2.length : Int) then
      ask (idx (0 : Int) x120.2.length) <|
      ask (idx (List.getD x120.2 (Int.toNat (0 : Int)) 0) aGuard.length) <|
      Option.bind (guard_Table N aProps aNodes (List.getD aGuard (Int.toNat (List.getD x120.2 (Int.toNat (0 : Int)) 0)) 0)) fun r342 =>
      Option.bind (canon_least_l2 N r35 x120 r342 N r342.1 0) fun x403 =>
      Option.bind (canon_least_f3 N) fun x425 =>
      some (Sum.inr ((0, [], [], []), 1))
    else
      some (Sum.inl ())
def canon_least_f6 (N : Nat) : Option Unit :=
    some ()
def canon_least_f5 (N : Nat) : Option Unit :=
    Option.bind (canon_least_f6 N) fun x447 =>
    some ()
def canon_least_l8 (N : Nat) (r35 : (List Int) × Int) (x120 : (List Int) × (List Int)) (r766 : (List Int) × Int) : Nat → (List Int) → Int → Option (List Int)
  | 0, _, _ => none
  | m826 + 1, x805, x808 =>
    if x808 < (r766.1.length : Int) then
      ask (idx x808 x805.length) <|
      ask (idx (List.getD x805 x808.toNat 0) r35.1.length) <|
      ask (idx (List.getD r35.1 (Int.toNat (List.getD x805 x808.toNat 0)) 0) x120.1.length) <|
      ask (in64 ((List.getD x120.1 (Int.toNat (List.getD r35.1 (Int.toNat (List.getD x805 x808.toNat 0)) 0)) 0) - 1)) <|
      ask (in64 (x808 + 1)) <|
      canon_least_l8 N r35 x120 r766 m826 (List.set x805 x808.toNat ((List.getD x120.1 (Int.toNat (List.getD r35.1 (Int.toNat (List.getD x805 x808.toNat 0)) 0)) 0) - 1)) (x808 + 1)
    else
      some x805
def canon_least_l7 (N : Nat) (aProps : Int) (aAccept : List Bool) (aGuard : List Int) (aNodes : List Nd) (r35 : (List Int) × Int) (x120 : (List Int) × (List Int)) : Nat → (List Nd) → (List (Nd × Int)) → (List Bool) → (List Int) → Int → Option (((List Nd) × (List (Nd × Int)) × (List Bool) × (List Int)) ⊕ ((Int × (List Bool) × (List Int) × (List Nd)) × Int))
  | 0, _, _, _, _, _ => none
  | m749 + 1, s597, s600, out602, out606, x609 =>
    if x609 < (x120.2.length : Int) then
      ask (idx x609 x120.2.length) <|
      ask (idx (List.getD x120.2 x609.toNat 0) aGuard.length) <|
      Option.bind (guard_Table N aProps aNodes (List.getD aGuard (Int.toNat (List.getD x120.2 x609.toNat 0)) 0)) fun r766 =>
      Option.bind (canon_least_l8 N r35 x120 r766 N r766.1 0) fun x827 =>
      Option.bind (guard_Store_Add N aProps s597 s600 x827) fun r847 =>
      if (r847.2.1 : Int) = 0 then
        ask (idx (List.getD x120.2 x609.toNat 0) aAccept.length) <|
        ask (List.length out602 + List.length ([(List.getD aAccept (Int.toNat (List.getD x120.2 x609.toNat 0)) false)] : List Bool) ≤ 1000000000) <|
        ask (List.length out606 + List.length ([r847.1] : List Int) ≤ 1000000000) <|
        ask (in64 (x609 + 1)) <|
        canon_least_l7 N aProps aAccept aGuard aNodes r35 x120 m749 r847.2.2.1 r847.2.2.2 (out602 ++ ([(List.getD aAccept (Int.toNat (List.getD x120.2 x609.toNat 0)) false)] : List Bool)) (out606 ++ ([r847.1] : List Int)) (x609 + 1)
      else
        some (Sum.inr ((0, [], [], []), r847.2.1))
    else
      some (Sum.inl (s597, s600, out602, out606))
def canon_least (N : Nat) (aProps : Int) (aAccept : List Bool) (aGuard : List Int) (aNodes : List Nd) : Option ((Int × (List Bool) × (List Int) × (List Nd)) × Int) :=
  Option.bind (part_Reached N aProps aAccept aGuard aNodes) fun r23 =>
  Option.bind (part_Classes N aProps aAccept aGuard aNodes) fun r35 =>
  ask (0 ≤ (aAccept.length : Int) ∧ (aAccept.length : Int) ≤ ((256 : Nat) : Int)) <|
  Option.bind (canon_least_l0 N r23 r35 N (List.take (Int.toNat (aAccept.length : Int)) (List.replicate 256 (0 : Int))) [] 0) fun x120 =>
  Option.bind (guard_New N aProps) fun r154 =>
  Sum.elim (fun x171 =>
    Option.bind (canon_least_l1 N aProps aGuard aNodes r35 x120 N ) fun x329 =>
    Sum.elim (fun x334 =>
      Option.bind (canon_least_f5 N) fun x444 =>
      some ((aProps, [], [], []), 0))
     (fun x441 =>
      some x441) x329)
   (fun x172 =>
    Option.bind (canon_least_l7 N aProps aAccept aGuard aNodes r35 x120 N [] ([] : List (Nd × Int)) [] [] 0) fun x750 =>
    Sum.elim (fun x758 =>
      Option.bind (guard_Store_Nodes N aProps x758.1 x758.2.1) fun r940 =>
      some ((aProps, x758.2.2.1, x758.2.2.2, r940), 0))
     (fun x939 =>
      some x939) x750) r154
theorem canon_least_calls {N : Nat} {S Fa : Nat → Prop} {w0 : World} {r : (Int × (List Bool) × (List Int) × (List Nd)) × Int} (A1 : Option Addr) (c2 : Nat) (A5 : Option Addr) (c6 : Nat) (A9 : Option Addr) (c10 : Nat) (aProps : Int) (aAccept : List Bool) (aGuard : List Int) (aNodes : List Nd) (hk3 : List.length aAccept ≤ c2) (hk7 : List.length aGuard ≤ c6) (hk11 : List.length aNodes ≤ c10) (H : Hp S Fa w0 w0 [.ro false cBool A1 aAccept, .ro false (cInt .i64) A5 aGuard, .ro false cNode A9 aNodes]) (hP : canon_least N aProps aAccept aGuard aNodes = some r) :
    Calls Try.prog 52 #[.agg #[.int .i64 aProps, .slice A1 aAccept.length c2, .slice A5 aGuard.length c6, .slice A9 aNodes.length c10]] w0 fun e w' => ∃ v, e = .returned v ∧ ∃ (A964 : Option Addr) (c965 : Nat) (A966 : Option Addr) (c967 : Nat) (A968 : Option Addr) (c969 : Nat), v = .tuple #[.agg #[.int .i64 r.1.1, .slice A964 r.1.2.1.length c965, .slice A966 r.1.2.2.1.length c967, .slice A968 r.1.2.2.2.length c969], .int .i64 r.2] ∧ Hp S Fa w0 w' [.row true cBool 4 A964 c965 r.1.2.1, .row true (cInt .i64) 3 A966 c967 r.1.2.2.1, .row true cNode 49 A968 c969 r.1.2.2.2] := by
 refine enterV (n := 143) Try.func52 rfl rfl rfl ?_
 intro a E
 replace E := E.pick [(0, .agg #[.int .i64 aProps, .slice A1 aAccept.length c2, .slice A5 aGuard.length c6, .slice A9 aNodes.length c10])] ⟨rfl, trivial⟩
 rw [canon_least] at hP
 refine sr_ <| h_box H E rfl rfl rfl ?_
 clear H E; intro w14 g13 a hc15 hg17 H E; replace E := E _ rfl; try dsimp only [setn, addE, goneL] at H
 refine h_alloc H E rfl rfl tbok rfl ?_
 clear H E; intro w19 g18 a hc20 hg22 H E; replace E := E _ rfl; try dsimp only [setn, addE, goneL] at H
 refine vp 1 [] E ?_
 clear E; intro a E
 refine nn_ <| sr_ <| vq 1 [.agg #[.int .i64 aProps, .slice A1 aAccept.length c2, .slice A5 aGuard.length c6, .slice A9 aNodes.length c10]] [(25, .agg #[.int .i64 aProps, .slice A1 aAccept.length c2, .slice A5 aGuard.length c6, .slice A9 aNodes.length c10])] [cellsAt w19 g13 (0) [.int .i64 aProps, .slice A1 aAccept.length c2, .slice A5 aGuard.length c6, .slice A9 aNodes.length c10]] E ((H.box 3 rfl).sub 0 _ rfl) ?_
 clear E; intro a E
 obtain ⟨r23, h24, hP⟩ := bind_inv hP
 obtain ⟨Fa25, Hc26, hb27⟩ := H.call [] [(0, false), (1, false), (2, false)] rfl rfl trivial
 refine e_call E rfl rfl Try.func77 rfl rfl rfl (part_Reached_calls A1 c2 A5 c6 A9 c10 aProps aAccept aGuard aNodes hk3 hk7 hk11 Hc26 h24) ?_
 rintro v28 w29 a ⟨A32, c33, rfl, HR30⟩ E_
 replace E := E_ _ rfl; clear E_
 obtain ⟨H_, hc31⟩ := hb27 _ _ HR30 rfl
 replace H := H_; clear H_; try dsimp only [setn, addE, goneL] at H
 refine vp 5 [(4, .slice A32 r23.1.length c33)] E ?_
 clear E; intro a E
 refine nn_ <| sr_ <| vq 1 [.agg #[.int .i64 aProps, .slice A1 aAccept.length c2, .slice A5 aGuard.length c6, .slice A9 aNodes.length c10]] [(30, .agg #[.int .i64 aProps, .slice A1 aAccept.length c2, .slice A5 aGuard.length c6, .slice A9 aNodes.length c10])] [cellsAt w29 g13 (0) [.int .i64 aProps, .slice A1 aAccept.length c2, .slice A5 aGuard.length c6, .slice A9 aNodes.length c10]] E ((H.box 3 rfl).sub 0 _ rfl) ?_
 clear E; intro a E
 obtain ⟨r35, h36, hP⟩ := bind_inv hP
 obtain ⟨Fa37, Hc38, hb39⟩ := H.call [] [(0, false), (1, false), (2, false)] rfl rfl trivial
 refine e_call E rfl rfl Try.func78 rfl rfl rfl (part_Classes_calls A1 c2 A5 c6 A9 c10 aProps aAccept aGuard aNodes hk3 hk7 hk11 Hc38 h36) ?_
 rintro v40 w41 a ⟨A44, c45, rfl, HR42⟩ E_
 replace E := E_ _ rfl; clear E_
 obtain ⟨H_, hc43⟩ := hb39 _ _ HR42 rfl
 replace H := H_; clear H_; try dsimp only [setn, addE, goneL] at H
 refine vp 5 [(6, .slice A44 r35.1.length c45)] E ?_
 clear E; intro a E
 refine nn_ <| sr_ <| h_allocArr (cInt .i64) (0 : Int) [.int .i64 0] 256 H E rfl rfl tbok rfl (fun _ _ => rfl) (by kernel_rfl) (by kernel_rfl) ?_
 clear H E; intro w48 g47 a hc49 hg50 H E; replace E := E _ rfl; try dsimp only [setn, addE, goneL] at H
 refine nn_ <| sr_ <| vq 3 [.slice A1 aAccept.length c2] [(36, .int .i64 (aAccept.length : Int))] [World.cell? w48 ⟨g13, 1, none⟩ = some (.slice A1 aAccept.length c2)] E ((H.box 3 rfl).cell (j := 1) rfl) ?_
 clear E; intro a E
 obtain ⟨g52, hP⟩ := ask_inv hP
 have hn53 := arr_cut (H.rcapE 7 rfl) g52
 refine e_sliceArr E rfl rfl tbok rfl rfl rfl rfl g52 (by decide) rfl ?_
 clear E; intro a E
 replace H := H.cutRowx 7 rfl (Int.toNat (aAccept.length : Int)); try dsimp only [setn, addE, goneL] at H
 replace E := E.same (t := 37) (u := .slice (some ⟨g47, 0, none⟩) (List.length (List.take (Int.toNat (aAccept.length : Int)) (List.replicate 256 (0 : Int)))) 256) rfl (congrArg (fun n_ => Value.slice (some ⟨g47, 0, none⟩) n_ 256) hn53)
 refine vp 1 [(9, .slice (some ⟨g47, 0, none⟩) (List.length (List.take (Int.toNat (aAccept.length : Int)) (List.replicate 256 (0 : Int)))) 256)] E ?_
 clear E; intro a E
 refine nn_ <| sr_ <| vp 1 [(10, .slice none 0 0)] E ?_
 clear E; intro a E
 refine nn_ <| wp_seq <| sr_ <| vp 3 [(38, .slice A32 r23.1.length c33), (39, .int .i64 (r23.1.length : Int)), (40, .int .i64 0)] E ?_
 clear E; intro a E
 refine nn_ <| wp_block ?_
 obtain ⟨x120, hL121, hK122⟩ := bind_inv hP
 clear hP
 replace H := H.nilrow (cInt .i64) 3; try dsimp only [setn, addE, goneL] at H
 refine loop_cut (fun i_ a w_ => (i_ = 0 ∧ ∃ (x126 : (List Int) × (List Int)), ∃ (A117 : Option Addr) (c118 : Nat), Fr a 143 [(1, .pointer (some ⟨g13, 0, none⟩)), (2, .pointer (some ⟨g18, 0, none⟩)), (6, .slice A44 r35.1.length c45), (9, .slice (some ⟨g47, 0, none⟩) x126.1.length 256), (10, .slice A117 x126.2.length c118)] ∧ Hp S Fa w0 w_ [.ro false cBool A1 aAccept, .ro false (cInt .i64) A5 aGuard, .ro false cNode A9 aNodes, .box g13 26 [.int .i64 aProps, .slice A1 aAccept.length c2, .slice A5 aGuard.length c6, .slice A9 aNodes.length c10], .box g18 26 [.int .i64 0, .slice none 0 0, .slice none 0 0, .slice none 0 0], .row true (cInt .i64) 3 A44 c45 r35.1, .rowx true (cInt .i64) 109 (some ⟨g47, 0, none⟩) 256 x126.1 (List.drop (Int.toNat (aAccept.length : Int)) (List.replicate 256 (0 : Int)) ++ []), .row true (cInt .i64) 3 A117 c118 x126.2] ∧ x120 = x126)) ?_ ?_
 ·
  refine loopV (fun m125 a w124 => ∃ (number80 : List Int) (first82 : List Int) (x85 : Int), ∃ (A83 : Option Addr) (c84 : Nat), Fr a 143 [(1, .pointer (some ⟨g13, 0, none⟩)), (2, .pointer (some ⟨g18, 0, none⟩)), (6, .slice A44 r35.1.length c45), (9, .slice (some ⟨g47, 0, none⟩) number80.length 256), (10, .slice A83 first82.length c84), (38, .slice A32 r23.1.length c33), (39, .int .i64 (r23.1.length : Int)), (40, .int .i64 x85)] ∧ Hp S Fa w0 w124 [.ro false cBool A1 aAccept, .ro false (cInt .i64) A5 aGuard, .ro false cNode A9 aNodes, .box g13 26 [.int .i64 aProps, .slice A1 aAccept.length c2, .slice A5 aGuard.length c6, .slice A9 aNodes.length c10], .box g18 26 [.int .i64 0, .slice none 0 0, .slice none 0 0, .slice none 0 0], .row true (cInt .i64) 3 A44 c45 r35.1, .rowx true (cInt .i64) 109 (some ⟨g47, 0, none⟩) 256 number80 (List.drop (Int.toNat (aAccept.length : Int)) (List.replicate 256 (0 : Int)) ++ []), .row true (cInt .i64) 3 A83 c84 first82, .row true (cInt .i64) 3 A32 c33 r23.1] ∧ canon_least_l0 N r23 r35 m125 number80 first82 x85 = some x120) N ?_ ?_
  ·
   exact ⟨List.take (Int.toNat (aAccept.length : Int)) (List.replicate 256 (0 : Int)), [], 0, none, 0, E.pk, H.sel [0, 1, 2, 3, 4, 6, 7, 8, 5] rfl, hL121⟩
  clear E H hL121; intro m125 a w124 hI_
  obtain ⟨number80, first82, x85, A83, c84, E, H, hP⟩ := hI_
  obtain ⟨m119, rfl⟩ : ∃ q_, m125 = q_ + 1 := by cases m125 with | zero => rw [canon_least_l0] at hP; cases hP | succ q_ => exact ⟨q_, rfl⟩
  rw [canon_least_l0] at hP
  refine sr_ <| vp 1 [(41, .bool (decide (x85 < (r23.1.length : Int))))] E ?_
  clear E; intro a E
  refine nn_ <| wp_seq ?_
  revert E; refine csE 41 rfl (fun hb_ E => ?_) fun hb_ E => ?_
  ·
   have h127 : x85 < (r23.1.length : Int) := of_decide_eq_true hb_
   replace hP := ite_t h127 hP
   refine c_true E rfl <| wp_skip <| th_n <| wp_seq <| wp_block <| sr_ ?_
   obtain ⟨g128, hP⟩ := ask_inv hP
   obtain ⟨b129, e_b129⟩ := H.raddr 8 rfl (idx_pos g128)
   subst e_b129
   refine vq 3 [.int .i64 (List.getD r23.1 x85.toNat 0)] [(12, .int .i64 (List.getD r23.1 x85.toNat 0))] [0 ≤ x85 ∧ x85 < (r23.1.length : Int), World.cell? w124 ⟨b129, 0 + x85.toNat * 1, none⟩ = some (.int .i64 (List.getD r23.1 x85.toNat 0))] E ⟨g128, Rds.at1 (H.rd 8 rds_row) 0 g128⟩ ?_
   clear E; intro a E
   refine nn_ <| sr_ ?_
   obtain ⟨g131, hP⟩ := ask_inv hP
   obtain ⟨b132, e_b132⟩ := H.raddr 5 rfl (idx_pos g131)
   subst e_b132
   obtain ⟨g134, hP⟩ := ask_inv hP
   refine vq 8 [.int .i64 (List.getD r35.1 (Int.toNat (List.getD r23.1 x85.toNat 0)) 0), .int .i64 (List.getD number80 (Int.toNat (List.getD r35.1 (Int.toNat (List.getD r23.1 x85.toNat 0)) 0)) 0)] [(51, .bool (((List.getD number80 (Int.toNat (List.getD r35.1 (Int.toNat (List.getD r23.1 x85.toNat 0)) 0)) 0) : Int) == 0))] [0 ≤ (List.getD r23.1 x85.toNat 0) ∧ (List.getD r23.1 x85.toNat 0) < (r35.1.length : Int), World.cell? w124 ⟨b132, 0 + (Int.toNat (List.getD r23.1 x85.toNat 0)) * 1, none⟩ = some (.int .i64 (List.getD r35.1 (Int.toNat (List.getD r23.1 x85.toNat 0)) 0)), 0 ≤ (List.getD r35.1 (Int.toNat (List.getD r23.1 x85.toNat 0)) 0) ∧ (List.getD r35.1 (Int.toNat (List.getD r23.1 x85.toNat 0)) 0) < (number80.length : Int), World.cell? w124 ⟨g47, 0 + (Int.toNat (List.getD r35.1 (Int.toNat (List.getD r23.1 x85.toNat 0)) 0)) * 1, none⟩ = some (.int .i64 (List.getD number80 (Int.toNat (List.getD r35.1 (Int.toNat (List.getD r23.1 x85.toNat 0)) 0)) 0))] E ⟨g131, Rds.at1 (H.rd 5 rds_row) 0 g131, g134, Rds.at1 (H.rd 6 rds_rowx) 0 g134⟩ ?_
   clear E; intro a E
   refine nn_ ?_
   revert E; refine csE 51 rfl (fun hb_ E => ?_) fun hb_ E => ?_
   ·
    have h135 : ((List.getD number80 (Int.toNat (List.getD r35.1 (Int.toNat (List.getD r23.1 x85.toNat 0)) 0)) 0) : Int) = 0 := eq_of_beq hb_
    replace hP := ite_t h135 hP
    refine c_true E rfl <| sr_ <| vp 2 [(52, .slice A83 first82.length c84), (53, .int .i64 (List.getD r23.1 x85.toNat 0))] E ?_
    clear E; intro a E
    refine h_buildSlice (ps := [(0, .int .i64 (List.getD r23.1 x85.toNat 0))]) (cs := [.int .i64 (List.getD r23.1 x85.toNat 0)]) H E rfl rfl tbok rfl rfl (by kernel_rfl) ?_
    clear H E; intro w137 g136 a hc138 hg140 H E; replace E := E _ rfl; try dsimp only [setn, addE, goneL] at H
    obtain ⟨g141, hP⟩ := ask_inv hP
    refine h_append (cInt .i64) (xs := first82) (ys := ([(List.getD r23.1 x85.toNat 0)] : List Int)) (0 : Int) H 7 rfl E rfl rfl tbok rfl rfl rfl rfl rfl (fun _ _ => rfl) rfl rfl (fun _ HF_ => HF_.srcB 9 rfl (⟨_, _, rfl, rfl, rfl⟩)) g141 ?_
    clear H E; intro w142 A143 c144 a hc145 hA146 H E; replace E := E _ rfl; try dsimp only [setn, addE, goneL] at H
    refine vp 1 [(10, .slice A143 (List.length (first82 ++ ([(List.getD r23.1 x85.toNat 0)] : List Int))) c144)] E ?_
    clear E; intro a E
    refine nn_ <| rl_ <| vq 8 [.int .i64 (List.getD r35.1 (Int.toNat (List.getD r23.1 x85.toNat 0)) 0)] [(62, .int .i64 (((List.length (first82 ++ ([(List.getD r23.1 x85.toNat 0)] : List Int))) : Nat) : Int)), (63, .pointer (some ⟨g47, 0 + (Int.toNat (List.getD r35.1 (Int.toNat (List.getD r23.1 x85.toNat 0)) 0)) * 1, none⟩))] [0 ≤ (List.getD r23.1 x85.toNat 0) ∧ (List.getD r23.1 x85.toNat 0) < (r35.1.length : Int), World.cell? w142 ⟨b132, 0 + (Int.toNat (List.getD r23.1 x85.toNat 0)) * 1, none⟩ = some (.int .i64 (List.getD r35.1 (Int.toNat (List.getD r23.1 x85.toNat 0)) 0)), 0 ≤ (List.getD r35.1 (Int.toNat (List.getD r23.1 x85.toNat 0)) 0) ∧ (List.getD r35.1 (Int.toNat (List.getD r23.1 x85.toNat 0)) 0) < (number80.length : Int)] E ⟨g131, Rds.at1 (H.rd 5 rds_row) 0 g131, g134⟩ ?_
    clear E; intro a E
    refine h_setx (g := g47) (i := (List.getD r35.1 (Int.toNat (List.getD r23.1 x85.toNat 0)) 0)) (((List.length (first82 ++ ([(List.getD r23.1 x85.toNat 0)] : List Int))) : Nat) : Int) H 6 rfl E rfl rfl rfl rfl tbok rfl (fun _ HF_ => rfl) rfl g134 rfl ?_
    clear E; intro w147 a hc148 H_ E
    replace H := H_; clear H_; try dsimp only [setn, addE, goneL] at H
    have hn149 : number80.length = (List.length (List.set number80 (Int.toNat (List.getD r35.1 (Int.toNat (List.getD r23.1 x85.toNat 0)) 0)) (((List.length (first82 ++ ([(List.getD r23.1 x85.toNat 0)] : List Int))) : Nat) : Int))) := by simp only [List.length_set]
    replace E := E.same (t := 9) (u := .slice (some ⟨g47, 0, none⟩) (List.length (List.set number80 (Int.toNat (List.getD r35.1 (Int.toNat (List.getD r23.1 x85.toNat 0)) 0)) (((List.length (first82 ++ ([(List.getD r23.1 x85.toNat 0)] : List Int))) : Nat) : Int))) 256) rfl (congrArg (fun n_ => Value.slice (some ⟨g47, 0, none⟩) n_ 256) hn149)
    refine nl_ <| bl_n <| th_n <| rl_ ?_
    obtain ⟨g150, hP⟩ := ask_inv hP
    refine vq 2 [.int .i64 (x85 + 1)] [(40, .int .i64 (x85 + 1))] [IntKind.i64.wrap (x85 + 1) = x85 + 1] E (wrap_in g150) ?_
    clear E; intro a E
    refine nl_ ?_
    exact th_n ⟨m119, Nat.lt_succ_self _, List.set number80 (Int.toNat (List.getD r35.1 (Int.toNat (List.getD r23.1 x85.toNat 0)) 0)) (((List.length (first82 ++ ([(List.getD r23.1 x85.toNat 0)] : List Int))) : Nat) : Int), first82 ++ ([(List.getD r23.1 x85.toNat 0)] : List Int), x85 + 1, A143, c144, E.pk, H.sel (up 9) rfl, hP⟩
   have h151 : ¬ (((List.getD number80 (Int.toNat (List.getD r35.1 (Int.toNat (List.getD r23.1 x85.toNat 0)) 0)) 0) : Int) = 0) := ne_of_beq_false hb_
   replace hP := ite_f h151 hP
   refine c_false E rfl <| wp_skip <| bl_n <| th_n <| rl_ ?_
   obtain ⟨g152, hP⟩ := ask_inv hP
   refine vq 2 [.int .i64 (x85 + 1)] [(40, .int .i64 (x85 + 1))] [IntKind.i64.wrap (x85 + 1) = x85 + 1] E (wrap_in g152) ?_
   clear E; intro a E
   refine nl_ ?_
   exact th_n ⟨m119, Nat.lt_succ_self _, number80, first82, x85 + 1, A83, c84, E.pk, H.sel (up 9) rfl, hP⟩
  have h153 : ¬ (x85 < (r23.1.length : Int)) := of_decide_eq_false hb_
  replace hP := ite_f h153 hP
  refine c_false E rfl <| wp_exit <| th_exit ?_
  have hx_ := Option.some.inj hP
  refine th_exit (.inl ⟨0, rfl, ?_⟩)
  exact ⟨rfl, (number80, first82), A83, c84, E.pk, H.sel (up 8) rfl, hx_.symm⟩
 clear E H hL121; intro i_ a w124 hM_
 obtain ⟨rfl, x126, A117, c118, E, H, hx_⟩ := hM_
 subst hx_; have hP := hK122; clear hK122
 refine bl_hit <| th_n <| sr_ <| vq 2 [.int .i64 aProps] [(67, .int .i64 aProps)] [World.cell? w124 ⟨g13, 0, none⟩ = some (.int .i64 aProps)] E ((H.box 3 rfl).cell (j := 0) rfl) ?_
 clear E; intro a E
 obtain ⟨r154, h155, hP⟩ := bind_inv hP
 obtain ⟨Fa156, Hc157, hb158⟩ := H.call [] [] rfl rfl trivial
 refine e_call E rfl rfl Try.func62 rfl rfl rfl (guard_New_calls  aProps  Hc157 h155) ?_
 intro v164 w163 a hR165 E_
 rcases hR165 with ⟨x_, hr_, rfl, HR167⟩ | ⟨x_, g168, g169, hr_, rfl, HR170⟩
 ·
  subst hr_; have hP := elim_l hP
  obtain ⟨x171, hxx_⟩ : ∃ y_, y_ = x_ := ⟨_, rfl⟩; subst hxx_
  replace E := E_ _ rfl; clear E_
  obtain ⟨H_, hc166⟩ := hb158 _ _ HR167 rfl
  replace H := H_; clear H_; try dsimp only [setn, addE, goneL] at H
  refine vp 5 [(13, .pointer none)] E ?_
  clear E; intro a E
  refine nn_ <| sr_ <| vq 2 [.int .i64 aProps] [(72, .int .i64 aProps)] [World.cell? w163 ⟨g13, 0, none⟩ = some (.int .i64 aProps)] E ((H.box 3 rfl).cell (j := 0) rfl) ?_
  clear E; intro a E
  refine e_build (ps := [(0, .int .i64 aProps)]) (v := .agg #[.int .i64 aProps, .slice none 0 0, .slice none 0 0, .slice none 0 0]) E rfl rfl tbok rfl (by kernel_rfl) rfl ?_
  clear E; intro a E
  refine h_alloc H E rfl rfl tbok rfl ?_
  clear H E; intro w174 g173 a hc175 hg177 H E; replace E := E _ rfl; try dsimp only [setn, addE, goneL] at H
  refine h_store (g := g173) (off := 0) H 8 rfl E rfl rfl rfl rfl tbok rfl rfl rfl rfl rfl ?_
  clear E; intro w178 a hc179 H_ E
  replace H := H_; clear H_; try dsimp only [setn, addE, goneL] at H
  refine nn_ <| wp_seq <| sr_ <| vp 3 [(74, .slice A117 x120.2.length c118), (75, .int .i64 (x120.2.length : Int)), (76, .int .i64 0)] E ?_
  clear E; intro a E
  refine nn_ <| wp_block ?_
  obtain ⟨x329, hL330, hK331⟩ := bind_inv hP
  clear hP
  refine loop_cut (fun i_ a w_ => (i_ = 2 ∧ ∃ (x334 : Unit), Fr a 143 [(2, .pointer (some ⟨g18, 0, none⟩)), (13, .pointer none), (15, .pointer (some ⟨g173, 0, none⟩))] ∧ Hp S Fa w0 w_ [.box g18 26 [.int .i64 0, .slice none 0 0, .slice none 0 0, .slice none 0 0], .box g173 26 [.int .i64 aProps, .slice none 0 0, .slice none 0 0, .slice none 0 0]] ∧ x329 = Sum.inl x334)) ?_ ?_
  ·
   refine loopV (fun m333 a w332 => ∃ (_u : Unit), Fr a 143 [(1, .pointer (some ⟨g13, 0, none⟩)), (2, .pointer (some ⟨g18, 0, none⟩)), (6, .slice A44 r35.1.length c45), (9, .slice (some ⟨g47, 0, none⟩) x120.1.length 256), (13, .pointer none), (15, .pointer (some ⟨g173, 0, none⟩)), (74, .slice A117 x120.2.length c118), (75, .int .i64 (x120.2.length : Int)), (76, .int .i64 0)] ∧ Hp S Fa w0 w332 [.ro false cBool A1 aAccept, .ro false (cInt .i64) A5 aGuard, .ro false cNode A9 aNodes, .box g13 26 [.int .i64 aProps, .slice A1 aAccept.length c2, .slice A5 aGuard.length c6, .slice A9 aNodes.length c10], .box g18 26 [.int .i64 0, .slice none 0 0, .slice none 0 0, .slice none 0 0], .row true (cInt .i64) 3 A44 c45 r35.1, .rowx true (cInt .i64) 109 (some ⟨g47, 0, none⟩) 256 x120.1 (List.drop (Int.toNat (aAccept.length : Int)) (List.replicate 256 (0 : Int)) ++ []), .box g173 26 [.int .i64 aProps, .slice none 0 0, .slice none 0 0, .slice none 0 0], .row true (cInt .i64) 3 A117 c118 x120.2] ∧ canon_least_l1 N aProps aGuard aNodes r35 x120 m333  = some x329) N ?_ ?_
   ·
    exact ⟨(), E.pk, H.sel [0, 1, 2, 3, 4, 5, 6, 8, 7] rfl, hL330⟩
   clear E H hL330; intro m333 a w332 hI_
   obtain ⟨_, E, H, hP⟩ := hI_
   obtain ⟨m328, rfl⟩ : ∃ q_, m333 = q_ + 1 := by cases m333 with | zero => rw [canon_least_l1] at hP; cases hP | succ q_ => exact ⟨q_, rfl⟩
   rw [canon_least_l1] at hP
   refine sr_ <| vp 1 [(77, .bool (decide (0 < (x120.2.length : Int))))] E ?_
   clear E; intro a E
   refine nn_ <| wp_seq ?_
   revert E; refine csE 77 rfl (fun hb_ E => ?_) fun hb_ E => ?_
   ·
    have h335 : 0 < (x120.2.length : Int) := of_decide_eq_true hb_
    replace hP := ite_t h335 hP
    refine c_true E rfl <| wp_skip <| th_n <| wp_seq <| wp_block <| sr_ ?_
    obtain ⟨g336, hP⟩ := ask_inv hP
    obtain ⟨b337, e_b337⟩ := H.raddr 8 rfl (idx_pos g336)
    subst e_b337
    refine vq 3 [.int .i64 (List.getD x120.2 (Int.toNat (0 : Int)) 0)] [(17, .int .i64 (List.getD x120.2 (Int.toNat (0 : Int)) 0))] [0 ≤ (0 : Int) ∧ (0 : Int) < (x120.2.length : Int), World.cell? w332 ⟨b337, 0 + (Int.toNat (0 : Int)) * 1, none⟩ = some (.int .i64 (List.getD x120.2 (Int.toNat (0 : Int)) 0))] E ⟨g336, Rds.at1 (H.rd 8 rds_row) 0 g336⟩ ?_
    clear E; intro a E
    refine nn_ <| wp_seq ?_
    obtain ⟨g339, hP⟩ := ask_inv hP
    obtain ⟨b340, o341, e_b340⟩ := (H.rd 1 rds_ro).addr (idx_pos g339)
    subst e_b340
    obtain ⟨r342, h343, hP⟩ := bind_inv hP
    have HR357 := H
    refine dr_start (S := fun w_ => Chg (atL []) w332 w_) (by kernel_rfl) ?_
    intro w354 hc355
    have HS356 : Chg (atL []) w332 w354 := hc355.mono (fun _ _ h_ => h_.elim)
    replace H := H.ext hc355
    refine dn tbok (by kernel_rfl) [0, 1, 2, 3, 4, 5, 6, 7, 8] [.int .i64 aProps, .slice A9 aNodes.length c10, .slice (some ⟨b340, o341, none⟩) aGuard.length c6, .int .i64 (List.getD aGuard (Int.toNat (List.getD x120.2 (Int.toNat (0 : Int)) 0)) 0)] [(82, .int .i64 aProps), (84, .slice A9 aNodes.length c10), (89, .int .i64 (List.getD aGuard (Int.toNat (List.getD x120.2 (Int.toNat (0 : Int)) 0)) 0))] (fun w_ => [World.cell? w_ ⟨g13, 0, none⟩ = some (.int .i64 aProps), World.cell? w_ ⟨g13, 3, none⟩ = some (.slice A9 aNodes.length c10), World.cell? w_ ⟨g13, 2, none⟩ = some (.slice (some ⟨b340, o341, none⟩) aGuard.length c6), 0 ≤ (List.getD x120.2 (Int.toNat (0 : Int)) 0) ∧ (List.getD x120.2 (Int.toNat (0 : Int)) 0) < (aGuard.length : Int), World.cell? w_ ⟨b340, o341 + (Int.toNat (List.getD x120.2 (Int.toNat (0 : Int)) 0)) * 1, none⟩ = some (.int .i64 (List.getD aGuard (Int.toNat (List.getD x120.2 (Int.toNat (0 : Int)) 0)) 0))]) 6 E (fun _ _ => by kernel_rfl) (by kernel_rfl) (fun w_ hS_ => ⟨(HR357.boxk [] hS_ 3 rfl rfl).cell (j := 0) rfl, (HR357.boxk [] hS_ 3 rfl rfl).cell (j := 3) rfl, (HR357.boxk [] hS_ 3 rfl rfl).cell (j := 2) rfl, g339, Rds.at1 (HR357.rdk [] hS_ 1 rds_ro rfl) 0 g339⟩) (by kernel_rfl) HS356 ?_
    clear E; intro a E
    refine wpAnyH_all (rs := [9]) (by kernel_rfl) (by simp) ?_
    refine all1 ?_
    refine wpOp_of_list rfl ?_
    obtain ⟨Fa358, Hc359, hb360⟩ := H.call [] [(2, false)] rfl rfl trivial
    refine e_call E rfl rfl Try.func79 rfl rfl rfl (guard_Table_calls A9 c10 aProps aNodes (List.getD aGuard (Int.toNat (List.getD x120.2 (Int.toNat (0 : Int)) 0)) 0) hk11 Hc359 h343) ?_
    rintro v361 w362 a ⟨A365, c366, rfl, HR363⟩ E_
    replace E := E_ _ rfl; clear E_
    obtain ⟨H_, hc364⟩ := hb360 _ _ HR363 rfl
    replace HS356 := HS356.ext (callS_ext hc364)
    replace H := H_; clear H_; try dsimp only [setn, addE, goneL] at H
    refine nl_ <| th_n ⟨HS356, ?_⟩
    refine dn tbok (by kernel_rfl) [10, 11, 12, 13, 14] [] [(18, .slice A365 r342.1.length c366)] (fun w_ => []) 0 E (fun _ _ => by kernel_rfl) (by kernel_rfl) (fun w_ hS_ => trivial) (by kernel_rfl) HS356 ?_
    clear E; intro a E
    refine dr_done (by kernel_rfl) ?_
    clear HS356 HR357
    refine th_n <| wp_seq <| sr_ <| vp 3 [(93, .slice A365 r342.1.length c366), (94, .int .i64 (r342.1.length : Int)), (95, .int .i64 0)] E ?_
    clear E; intro a E
    refine nn_ <| wp_block ?_
    obtain ⟨x403, hL404, hK405⟩ := bind_inv hP
    clear hP
    refine loop_cut (fun i_ a w_ => (i_ = 4 ∧ ∃ (x408 : List Int), ∃ (A400 : Option Addr) (c401 : Nat), Fr a 143 [(1, .pointer (some ⟨g13, 0, none⟩)), (2, .pointer (some ⟨g18, 0, none⟩)), (6, .slice A44 r35.1.length c45), (9, .slice (some ⟨g47, 0, none⟩) x120.1.length 256), (13, .pointer none), (15, .pointer (some ⟨g173, 0, none⟩)), (17, .int .i64 (List.getD x120.2 (Int.toNat (0 : Int)) 0)), (18, .slice A400 x408.length c401), (74, .slice (some ⟨b337, 0, none⟩) x120.2.length c118), (75, .int .i64 (x120.2.length : Int)), (76, .int .i64 0)] ∧ Hp S Fa w0 w_ [.ro false cBool A1 aAccept, .ro false (cInt .i64) (some ⟨b340, o341, none⟩) aGuard, .ro false cNode A9 aNodes, .box g13 26 [.int .i64 aProps, .slice A1 aAccept.length c2, .slice (some ⟨b340, o341, none⟩) aGuard.length c6, .slice A9 aNodes.length c10], .box g18 26 [.int .i64 0, .slice none 0 0, .slice none 0 0, .slice none 0 0], .row true (cInt .i64) 3 A44 c45 r35.1, .rowx true (cInt .i64) 109 (some ⟨g47, 0, none⟩) 256 x120.1 (List.drop (Int.toNat (aAccept.length : Int)) (List.replicate 256 (0 : Int)) ++ []), .box g173 26 [.int .i64 aProps, .slice none 0 0, .slice none 0 0, .slice none 0 0], .row true (cInt .i64) 3 A400 c401 x408, .row true (cInt .i64) 3 (some ⟨b337, 0, none⟩) c118 x120.2] ∧ x403 = x408)) ?_ ?_
    ·
     refine loopV (fun m407 a w406 => ∃ (x381 : List Int) (x384 : Int), ∃ (A382 : Option Addr) (c383 : Nat), Fr a 143 [(1, .pointer (some ⟨g13, 0, none⟩)), (2, .pointer (some ⟨g18, 0, none⟩)), (6, .slice A44 r35.1.length c45), (9, .slice (some ⟨g47, 0, none⟩) x120.1.length 256), (13, .pointer none), (15, .pointer (some ⟨g173, 0, none⟩)), (17, .int .i64 (List.getD x120.2 (Int.toNat (0 : Int)) 0)), (18, .slice A382 x381.length c383), (74, .slice (some ⟨b337, 0, none⟩) x120.2.length c118), (75, .int .i64 (x120.2.length : Int)), (76, .int .i64 0), (93, .slice A382 x381.length c383), (94, .int .i64 (r342.1.length : Int)), (95, .int .i64 x384)] ∧ Hp S Fa w0 w406 [.ro false cBool A1 aAccept, .ro false (cInt .i64) (some ⟨b340, o341, none⟩) aGuard, .ro false cNode A9 aNodes, .box g13 26 [.int .i64 aProps, .slice A1 aAccept.length c2, .slice (some ⟨b340, o341, none⟩) aGuard.length c6, .slice A9 aNodes.length c10], .box g18 26 [.int .i64 0, .slice none 0 0, .slice none 0 0, .slice none 0 0], .row true (cInt .i64) 3 A44 c45 r35.1, .rowx true (cInt .i64) 109 (some ⟨g47, 0, none⟩) 256 x120.1 (List.drop (Int.toNat (aAccept.length : Int)) (List.replicate 256 (0 : Int)) ++ []), .box g173 26 [.int .i64 aProps, .slice none 0 0, .slice none 0 0, .slice none 0 0], .row true (cInt .i64) 3 A382 c383 x381, .row true (cInt .i64) 3 (some ⟨b337, 0, none⟩) c118 x120.2] ∧ canon_least_l2 N r35 x120 r342 m407 x381 x384 = some x403) N ?_ ?_
     ·
      exact ⟨r342.1, 0, A365, c366, E.pk, H.sel [0, 1, 2, 3, 4, 5, 6, 7, 9, 8] rfl, hL404⟩
     clear E H hL404; intro m407 a w406 hI_
     obtain ⟨x381, x384, A382, c383, E, H, hP⟩ := hI_
     obtain ⟨m402, rfl⟩ : ∃ q_, m407 = q_ + 1 := by cases m407 with | zero => rw [canon_least_l2] at hP; cases hP | succ q_ => exact ⟨q_, rfl⟩
     rw [canon_least_l2] at hP
     refine sr_ <| vp 1 [(96, .bool (decide (x384 < (r342.1.length : Int))))] E ?_
     clear E; intro a E
     refine nn_ <| wp_seq ?_
     revert E; refine csE 96 rfl (fun hb_ E => ?_) fun hb_ E => ?_
     ·
      have h409 : x384 < (r342.1.length : Int) := of_decide_eq_true hb_
      replace hP := ite_t h409 hP
      refine c_true E rfl <| wp_skip <| th_n <| wp_seq <| wp_block <| sr_ ?_
      obtain ⟨g410, hP⟩ := ask_inv hP
      obtain ⟨b411, e_b411⟩ := H.raddr 8 rfl (idx_pos g410)
      subst e_b411
      refine vq 5 [.int .i64 (List.getD x381 x384.toNat 0)] [(20, .int .i64 x384), (21, .int .i64 (List.getD x381 x384.toNat 0))] [0 ≤ x384 ∧ x384 < (x381.length : Int), World.cell? w406 ⟨b411, 0 + x384.toNat * 1, none⟩ = some (.int .i64 (List.getD x381 x384.toNat 0))] E ⟨g410, Rds.at1 (H.rd 8 rds_row) 0 g410⟩ ?_
      clear E; intro a E
      refine nn_ <| rl_ ?_
      obtain ⟨g413, hP⟩ := ask_inv hP
      obtain ⟨b414, e_b414⟩ := H.raddr 5 rfl (idx_pos g413)
      subst e_b414
      obtain ⟨g416, hP⟩ := ask_inv hP
      obtain ⟨g417, hP⟩ := ask_inv hP
      refine vq 11 [.int .i64 (List.getD r35.1 (Int.toNat (List.getD x381 x384.toNat 0)) 0), .int .i64 (List.getD x120.1 (Int.toNat (List.getD r35.1 (Int.toNat (List.getD x381 x384.toNat 0)) 0)) 0), .int .i64 ((List.getD x120.1 (Int.toNat (List.getD r35.1 (Int.toNat (List.getD x381 x384.toNat 0)) 0)) 0) - 1)] [(109, .int .i64 ((List.getD x120.1 (Int.toNat (List.getD r35.1 (Int.toNat (List.getD x381 x384.toNat 0)) 0)) 0) - 1)), (110, .pointer (some ⟨b411, 0 + x384.toNat * 1, none⟩))] [0 ≤ (List.getD x381 x384.toNat 0) ∧ (List.getD x381 x384.toNat 0) < (r35.1.length : Int), World.cell? w406 ⟨b414, 0 + (Int.toNat (List.getD x381 x384.toNat 0)) * 1, none⟩ = some (.int .i64 (List.getD r35.1 (Int.toNat (List.getD x381 x384.toNat 0)) 0)), 0 ≤ (List.getD r35.1 (Int.toNat (List.getD x381 x384.toNat 0)) 0) ∧ (List.getD r35.1 (Int.toNat (List.getD x381 x384.toNat 0)) 0) < (x120.1.length : Int), World.cell? w406 ⟨g47, 0 + (Int.toNat (List.getD r35.1 (Int.toNat (List.getD x381 x384.toNat 0)) 0)) * 1, none⟩ = some (.int .i64 (List.getD x120.1 (Int.toNat (List.getD r35.1 (Int.toNat (List.getD x381 x384.toNat 0)) 0)) 0)), IntKind.i64.wrap ((List.getD x120.1 (Int.toNat (List.getD r35.1 (Int.toNat (List.getD x381 x384.toNat 0)) 0)) 0) - 1) = (List.getD x120.1 (Int.toNat (List.getD r35.1 (Int.toNat (List.getD x381 x384.toNat 0)) 0)) 0) - 1, 0 ≤ x384 ∧ x384 < (x381.length : Int)] E ⟨g413, Rds.at1 (H.rd 5 rds_row) 0 g413, g416, Rds.at1 (H.rd 6 rds_rowx) 0 g416, wrap_in g417, g410⟩ ?_
      clear E; intro a E
      refine h_set (g := b411) (i := x384) ((List.getD x120.1 (Int.toNat (List.getD r35.1 (Int.toNat (List.getD x381 x384.toNat 0)) 0)) 0) - 1) H 8 rfl E rfl rfl rfl rfl tbok rfl (fun _ HF_ => rfl) rfl g410 rfl ?_
      clear E; intro w418 a hc419 H_ E
      replace H := H_; clear H_; try dsimp only [setn, addE, goneL] at H
      have hn420 : x381.length = (List.length (List.set x381 x384.toNat ((List.getD x120.1 (Int.toNat (List.getD r35.1 (Int.toNat (List.getD x381 x384.toNat 0)) 0)) 0) - 1))) := by simp only [List.length_set]
      replace E := E.same (t := 18) (u := .slice (some ⟨b411, 0, none⟩) (List.length (List.set x381 x384.toNat ((List.getD x120.1 (Int.toNat (List.getD r35.1 (Int.toNat (List.getD x381 x384.toNat 0)) 0)) 0) - 1))) c383) rfl (congrArg (fun n_ => Value.slice (some ⟨b411, 0, none⟩) n_ c383) hn420)
      replace E := E.same (t := 93) (u := .slice (some ⟨b411, 0, none⟩) (List.length (List.set x381 x384.toNat ((List.getD x120.1 (Int.toNat (List.getD r35.1 (Int.toNat (List.getD x381 x384.toNat 0)) 0)) 0) - 1))) c383) rfl (congrArg (fun n_ => Value.slice (some ⟨b411, 0, none⟩) n_ c383) hn420)
      refine nl_ <| bl_n <| th_n <| rl_ ?_
      obtain ⟨g421, hP⟩ := ask_inv hP
      refine vq 2 [.int .i64 (x384 + 1)] [(95, .int .i64 (x384 + 1))] [IntKind.i64.wrap (x384 + 1) = x384 + 1] E (wrap_in g421) ?_
      clear E; intro a E
      refine nl_ ?_
      exact th_n ⟨m402, Nat.lt_succ_self _, List.set x381 x384.toNat ((List.getD x120.1 (Int.toNat (List.getD r35.1 (Int.toNat (List.getD x381 x384.toNat 0)) 0)) 0) - 1), x384 + 1, (some ⟨b411, 0, none⟩), c383, E.pk, H.sel (up 10) rfl, hP⟩
     have h422 : ¬ (x384 < (r342.1.length : Int)) := of_decide_eq_false hb_
     replace hP := ite_f h422 hP
     refine c_false E rfl <| wp_exit <| th_exit ?_
     have hx_ := Option.some.inj hP
     refine th_exit (.inl ⟨4, rfl, ?_⟩)
     exact ⟨rfl, x381, A382, c383, E.pk, H.sel (up 10) rfl, hx_.symm⟩
    clear E H hL404; intro i_ a w406 hM_
    obtain ⟨rfl, x408, A400, c401, E, H, hx_⟩ := hM_
    subst hx_; have hP := hK405; clear hK405
    refine bl_hit <| th_n <| sr_ <| vp 2 [(113, .pointer none), (114, .slice A400 x403.length c401)] E ?_
    clear E; intro a E
    obtain ⟨x425, h426, hP⟩ := bind_inv hP
    refine e_call (R := fun v_ w_ => ∃ (x427 : Unit), v_ = .tuple #[.int .i64 0, .int .i64 1] ∧ Hp S Fa w0 w_ [.ro false cBool A1 aAccept, .ro false (cInt .i64) (some ⟨b340, o341, none⟩) aGuard, .ro false cNode A9 aNodes, .box g13 26 [.int .i64 aProps, .slice A1 aAccept.length c2, .slice (some ⟨b340, o341, none⟩) aGuard.length c6, .slice A9 aNodes.length c10], .box g18 26 [.int .i64 0, .slice none 0 0, .slice none 0 0, .slice none 0 0], .row true (cInt .i64) 3 A44 c45 r35.1, .rowx true (cInt .i64) 109 (some ⟨g47, 0, none⟩) 256 x120.1 (List.drop (Int.toNat (aAccept.length : Int)) (List.replicate 256 (0 : Int)) ++ []), .box g173 26 [.int .i64 aProps, .slice none 0 0, .slice none 0 0, .slice none 0 0], .row true (cInt .i64) 3 (some ⟨b337, 0, none⟩) c118 x120.2, .row true (cInt .i64) 3 A400 c401 x403] ∧ x425 = x427) E rfl rfl Try.func64 rfl rfl rfl ?_ ?_
    ·
     clear E hP; have hP := h426; clear h426; rw [canon_least_f3] at hP
     refine enterV (n := 63) Try.func64 rfl rfl rfl ?_
     intro a E
     replace E := E.pick [(0, .pointer none), (1, .slice A400 x403.length c401)] ⟨rfl, rfl, trivial⟩
     refine sr_ <| vp 2 [] E ?_
     clear E; intro a E
     refine nn_ <| wp_seq <| sr_ <| vp 1 [(10, .pointer none)] E ?_
     clear E; intro a E
     obtain ⟨x428, h429, hP⟩ := bind_inv hP
     refine e_call (R := fun v_ w_ => ∃ (x430 : Unit), v_ = .bool true ∧ Hp S Fa w0 w_ [.ro false cBool A1 aAccept, .ro false (cInt .i64) (some ⟨b340, o341, none⟩) aGuard, .ro false cNode A9 aNodes, .box g13 26 [.int .i64 aProps, .slice A1 aAccept.length c2, .slice (some ⟨b340, o341, none⟩) aGuard.length c6, .slice A9 aNodes.length c10], .box g18 26 [.int .i64 0, .slice none 0 0, .slice none 0 0, .slice none 0 0], .row true (cInt .i64) 3 A44 c45 r35.1, .rowx true (cInt .i64) 109 (some ⟨g47, 0, none⟩) 256 x120.1 (List.drop (Int.toNat (aAccept.length : Int)) (List.replicate 256 (0 : Int)) ++ []), .box g173 26 [.int .i64 aProps, .slice none 0 0, .slice none 0 0, .slice none 0 0], .row true (cInt .i64) 3 (some ⟨b337, 0, none⟩) c118 x120.2, .row true (cInt .i64) 3 A400 c401 x403] ∧ x428 = x430) E rfl rfl Try.func83 rfl rfl rfl ?_ ?_
     ·
      clear E hP; have hP := h429; clear h429; rw [canon_least_f4] at hP
      refine enterV (n := 12) Try.func83 rfl rfl rfl ?_
      intro a E
      replace E := E.pick [(0, .pointer none)] ⟨rfl, trivial⟩
      refine sr_ <| vp 1 [] E ?_
      clear E; intro a E
      refine nn_ <| sr_ <| vp 10 [(2, .bool true)] E ?_
      clear E; intro a E
      refine nn_ <| wp_ret ?_
      have hx_ := Option.some.inj hP
      refine ret1 E rfl rfl ?_
      exact ⟨_, rfl, (), rfl, H.sel [0, 1, 2, 3, 4, 5, 6, 7, 9, 8] rfl, hx_.symm⟩
     clear H
     rintro v432 w431 a ⟨x430, rfl, H, hx_⟩ E_
     subst hx_
     replace E := E_ _ rfl; clear E_
     refine nn_ <| c_true E rfl ?_
     refine sr_ <| vp 2 [(4, .int .i64 0), (5, .int .i64 1)] E ?_
     clear E; intro a E
     refine nn_ <| wp_ret <| th_ret ?_
     have hx_ := Option.some.inj hP
     refine ret2 E rfl rfl rfl ?_
     exact ⟨_, rfl, (), rfl, H.sel (up 10) rfl, hx_.symm⟩
    clear H
    rintro v434 w433 a ⟨x427, rfl, H, hx_⟩ E_
    subst hx_
    replace E := E_ _ rfl; clear E_
    refine vp 5 [(22, .int .i64 0), (23, .int .i64 1)] E ?_
    clear E; intro a E
    refine nn_ <| wp_seq <| sr_ <| vp 2 [(119, .bool true)] E ?_
    clear E; intro a E
    refine nn_ <| c_true E rfl ?_
    refine sr_ <| e_build (ps := []) (v := .agg #[.int .i64 0, .slice none 0 0, .slice none 0 0, .slice none 0 0]) E rfl rfl tbok rfl (by kernel_rfl) rfl ?_
    clear E; intro a E
    refine vp 1 [(121, .int .i64 1)] E ?_
    clear E; intro a E
    refine h_store (g := g18) (off := 0) H 4 rfl E rfl rfl rfl rfl tbok rfl rfl rfl rfl rfl ?_
    clear E; intro w435 a hc436 H_ E
    replace H := H_; clear H_; try dsimp only [setn, addE, goneL] at H
    refine vp 1 [(3, .int .i64 1)] E ?_
    clear E; intro a E
    refine nn_ <| wp_ret <| th_ret <| bl_ret <| th_ret <| th_ret <| .inr ⟨rfl, ?_⟩
    refine bl_ret <| th_ret ?_
    replace H := H.nilrow cBool 4; try dsimp only [setn, addE, goneL] at H
    replace H := H.nilrow (cInt .i64) 3; try dsimp only [setn, addE, goneL] at H
    replace H := H.nilrow cNode 49; try dsimp only [setn, addE, goneL] at H
    have hx_ := Option.some.inj hP; subst hx_
    have hP : some (((0, [], [], []), 1)) = some r := hK331
    obtain rfl := Option.some.inj hP
    refine retV E [.cell 2 26, .tmp 3] [.agg #[.int .i64 0, .slice none 0 0, .slice none 0 0, .slice none 0 0], .int .i64 1] rfl ⟨⟨_, rfl, run_loadBx tbok (H.box 4 rfl) rfl rfl rfl 0 rfl rfl⟩, rfl, trivial⟩ (.inl rfl) ?_
    exact ⟨_, rfl, none, 0, none, 0, none, 0, rfl, H.sel [10, 11, 12] rfl⟩
   have h440 : ¬ (0 < (x120.2.length : Int)) := of_decide_eq_false hb_
   replace hP := ite_f h440 hP
   refine c_false E rfl <| wp_exit <| th_exit ?_
   have hx_ := Option.some.inj hP
   refine th_exit (.inl ⟨2, rfl, ?_⟩)
   exact ⟨rfl, (), E.pk, H.sel [4, 7] rfl, hx_.symm⟩
  clear E H hL330; intro i_ a w332 hM_
  obtain ⟨rfl, x334, E, H, hx_⟩ := hM_
  subst hx_; have hP := elim_l hK331
  clear hK331
  refine bl_hit <| th_n <| sr_ <| vp 1 [(139, .pointer none)] E ?_
  clear E; intro a E
  obtain ⟨x444, h445, hP⟩ := bind_inv hP
  refine e_call (R := fun v_ w_ => ∃ (x446 : Unit), v_ = .slice none 0 0 ∧ Hp S Fa w0 w_ [.box g18 26 [.int .i64 0, .slice none 0 0, .slice none 0 0, .slice none 0 0], .box g173 26 [.int .i64 aProps, .slice none 0 0, .slice none 0 0, .slice none 0 0]] ∧ x444 = x446) E rfl rfl Try.func65 rfl rfl rfl ?_ ?_
  ·
   clear E hP; have hP := h445; clear h445; rw [canon_least_f5] at hP
   refine enterV (n := 11) Try.func65 rfl rfl rfl ?_
   intro a E
   replace E := E.pick [(0, .pointer none)] ⟨rfl, trivial⟩
   refine sr_ <| vp 1 [] E ?_
   clear E; intro a E
   refine nn_ <| wp_seq <| sr_ <| vp 1 [(3, .pointer none)] E ?_
   clear E; intro a E
   obtain ⟨x447, h448, hP⟩ := bind_inv hP
   refine e_call (R := fun v_ w_ => ∃ (x449 : Unit), v_ = .bool true ∧ Hp S Fa w0 w_ [.box g18 26 [.int .i64 0, .slice none 0 0, .slice none 0 0, .slice none 0 0], .box g173 26 [.int .i64 aProps, .slice none 0 0, .slice none 0 0, .slice none 0 0]] ∧ x447 = x449) E rfl rfl Try.func83 rfl rfl rfl ?_ ?_
   ·
    clear E hP; have hP := h448; clear h448; rw [canon_least_f6] at hP
    refine enterV (n := 12) Try.func83 rfl rfl rfl ?_
    intro a E
    replace E := E.pick [(0, .pointer none)] ⟨rfl, trivial⟩
    refine sr_ <| vp 1 [] E ?_
    clear E; intro a E
    refine nn_ <| sr_ <| vp 10 [(2, .bool true)] E ?_
    clear E; intro a E
    refine nn_ <| wp_ret ?_
    have hx_ := Option.some.inj hP
    refine ret1 E rfl rfl ?_
    exact ⟨_, rfl, (), rfl, H.sel [0, 1] rfl, hx_.symm⟩
   clear H
   rintro v451 w450 a ⟨x449, rfl, H, hx_⟩ E_
   subst hx_
   replace E := E_ _ rfl; clear E_
   refine nn_ <| c_true E rfl ?_
   refine sr_ <| vp 1 [(2, .slice none 0 0)] E ?_
   clear E; intro a E
   refine nn_ <| wp_ret <| th_ret ?_
   have hx_ := Option.some.inj hP
   refine ret1 E rfl rfl ?_
   exact ⟨_, rfl, (), rfl, H.sel [0, 1] rfl, hx_.symm⟩
  clear H
  rintro v453 w452 a ⟨x446, rfl, H, hx_⟩ E_
  subst hx_
  replace E := E_ _ rfl; clear E_
  refine vp 1 [(141, .pointer (some ⟨g173, 3, none⟩))] E ?_
  clear E; intro a E
  refine h_store (g := g173) (off := 3) H 1 rfl E rfl rfl rfl rfl tbok rfl rfl rfl rfl rfl ?_
  clear E; intro w454 a hc455 H_ E
  replace H := H_; clear H_; try dsimp only [setn, addE, goneL] at H
  refine nn_ <| sr_ <| vq 1 [.agg #[.int .i64 aProps, .slice none 0 0, .slice none 0 0, .slice none 0 0]] [(142, .agg #[.int .i64 aProps, .slice none 0 0, .slice none 0 0, .slice none 0 0])] [cellsAt w454 g173 (0) [.int .i64 aProps, .slice none 0 0, .slice none 0 0, .slice none 0 0]] E ((H.box 1 rfl).sub 0 _ rfl) ?_
  clear E; intro a E
  refine h_store (g := g18) (off := 0) H 0 rfl E rfl rfl rfl rfl tbok rfl rfl rfl rfl rfl ?_
  clear E; intro w456 a hc457 H_ E
  replace H := H_; clear H_; try dsimp only [setn, addE, goneL] at H
  refine vp 1 [(3, .int .i64 0)] E ?_
  clear E; intro a E
  refine nn_ <| wp_ret ?_
  replace H := H.nilrow cBool 4; try dsimp only [setn, addE, goneL] at H
  replace H := H.nilrow (cInt .i64) 3; try dsimp only [setn, addE, goneL] at H
  replace H := H.nilrow cNode 49; try dsimp only [setn, addE, goneL] at H
  obtain rfl := Option.some.inj hP
  refine retV E [.cell 2 26, .tmp 3] [.agg #[.int .i64 aProps, .slice none 0 0, .slice none 0 0, .slice none 0 0], .int .i64 0] rfl ⟨⟨_, rfl, run_loadBx tbok (H.box 0 rfl) rfl rfl rfl 0 rfl rfl⟩, rfl, trivial⟩ (.inl rfl) ?_
  exact ⟨_, rfl, none, 0, none, 0, none, 0, rfl, H.sel [2, 3, 4] rfl⟩
 subst hr_; have hP := (elim_r hP)
 obtain ⟨x172, hxx_⟩ : ∃ y_, y_ = x_ := ⟨_, rfl⟩; subst hxx_
 replace E := E_ _ rfl; clear E_
 obtain ⟨H_, hc166⟩ := hb158 _ _ HR170 rfl
 replace H := H_; clear H_; try dsimp only [setn, addE, goneL] at H
 refine vp 5 [(13, .pointer (some ⟨g168, 0, none⟩))] E ?_
 clear E; intro a E
 refine nn_ <| sr_ <| vq 2 [.int .i64 aProps] [(72, .int .i64 aProps)] [World.cell? w163 ⟨g13, 0, none⟩ = some (.int .i64 aProps)] E ((H.box 3 rfl).cell (j := 0) rfl) ?_
 clear E; intro a E
 refine e_build (ps := [(0, .int .i64 aProps)]) (v := .agg #[.int .i64 aProps, .slice none 0 0, .slice none 0 0, .slice none 0 0]) E rfl rfl tbok rfl (by kernel_rfl) rfl ?_
 clear E; intro a E
 refine h_alloc H E rfl rfl tbok rfl ?_
 clear H E; intro w464 g463 a hc465 hg467 H E; replace E := E _ rfl; try dsimp only [setn, addE, goneL] at H
 refine h_store (g := g463) (off := 0) H 10 rfl E rfl rfl rfl rfl tbok rfl rfl rfl rfl rfl ?_
 clear E; intro w468 a hc469 H_ E
 replace H := H_; clear H_; try dsimp only [setn, addE, goneL] at H
 refine nn_ <| wp_seq <| sr_ <| vp 3 [(74, .slice A117 x120.2.length c118), (75, .int .i64 (x120.2.length : Int)), (76, .int .i64 0)] E ?_
 clear E; intro a E
 refine nn_ <| wp_block ?_
 obtain ⟨x750, hL751, hK752⟩ := bind_inv hP
 clear hP
 replace H := H.nilrow cNode 49; try dsimp only [setn, addE, goneL] at H
 replace H := H.nilrow cBool 4; try dsimp only [setn, addE, goneL] at H
 replace H := H.nilrow (cInt .i64) 3; try dsimp only [setn, addE, goneL] at H
 refine loop_cut (fun i_ a w_ => (i_ = 2 ∧ ∃ (x758 : (List Nd) × (List (Nd × Int)) × (List Bool) × (List Int)), ∃ (A738 : Option Addr) (c739 : Nat) (A743 : Option Addr) (c744 : Nat) (A747 : Option Addr) (c748 : Nat), Fr a 143 [(2, .pointer (some ⟨g18, 0, none⟩)), (13, .pointer (some ⟨g168, 0, none⟩)), (15, .pointer (some ⟨g463, 0, none⟩))] ∧ Hp S Fa w0 w_ [.box g18 26 [.int .i64 0, .slice none 0 0, .slice none 0 0, .slice none 0 0], .box g168 120 [.int .i64 aProps, .slice A738 x758.1.length c739, .map (some g169)], .row true cNode 49 A738 c739 x758.1, .mp Try.prog 49 g169 (List.map (fun p_ => (ndV p_.1, (fun u_ : Int => .int .i64 u_) p_.2)) x758.2.1), .box g463 26 [.int .i64 aProps, .slice A743 x758.2.2.1.length c744, .slice A747 x758.2.2.2.length c748, .slice none 0 0], .row true cBool 4 A743 c744 x758.2.2.1, .row true (cInt .i64) 3 A747 c748 x758.2.2.2] ∧ x750 = Sum.inl x758)) ?_ ?_
 ·
  refine loopV (fun m757 a w756 => ∃ (s597 : List Nd) (s600 : List (Nd × Int)) (out602 : List Bool) (out606 : List Int) (x609 : Int), ∃ (A598 : Option Addr) (c599 : Nat) (A603 : Option Addr) (c604 : Nat) (A607 : Option Addr) (c608 : Nat), Fr a 143 [(1, .pointer (some ⟨g13, 0, none⟩)), (2, .pointer (some ⟨g18, 0, none⟩)), (6, .slice A44 r35.1.length c45), (9, .slice (some ⟨g47, 0, none⟩) x120.1.length 256), (13, .pointer (some ⟨g168, 0, none⟩)), (15, .pointer (some ⟨g463, 0, none⟩)), (74, .slice A117 x120.2.length c118), (75, .int .i64 (x120.2.length : Int)), (76, .int .i64 x609)] ∧ Hp S Fa w0 w756 [.ro false cBool A1 aAccept, .ro false (cInt .i64) A5 aGuard, .ro false cNode A9 aNodes, .box g13 26 [.int .i64 aProps, .slice A1 aAccept.length c2, .slice A5 aGuard.length c6, .slice A9 aNodes.length c10], .box g18 26 [.int .i64 0, .slice none 0 0, .slice none 0 0, .slice none 0 0], .row true (cInt .i64) 3 A44 c45 r35.1, .rowx true (cInt .i64) 109 (some ⟨g47, 0, none⟩) 256 x120.1 (List.drop (Int.toNat (aAccept.length : Int)) (List.replicate 256 (0 : Int)) ++ []), .box g168 120 [.int .i64 aProps, .slice A598 s597.length c599, .map (some g169)], .row true cNode 49 A598 c599 s597, .mp Try.prog 49 g169 (List.map (fun p_ => (ndV p_.1, (fun u_ : Int => .int .i64 u_) p_.2)) s600), .box g463 26 [.int .i64 aProps, .slice A603 out602.length c604, .slice A607 out606.length c608, .slice none 0 0], .row true cBool 4 A603 c604 out602, .row true (cInt .i64) 3 A607 c608 out606, .row true (cInt .i64) 3 A117 c118 x120.2] ∧ canon_least_l7 N aProps aAccept aGuard aNodes r35 x120 m757 s597 s600 out602 out606 x609 = some x750) N ?_ ?_
  ·
   exact ⟨[], ([] : List (Nd × Int)), [], [], 0, none, 0, none, 0, none, 0, E.pk, H.sel [0, 1, 2, 3, 4, 5, 6, 8, 11, 9, 10, 12, 13, 7] rfl, hL751⟩
  clear E H hL751; intro m757 a w756 hI_
  obtain ⟨s597, s600, out602, out606, x609, A598, c599, A603, c604, A607, c608, E, H, hP⟩ := hI_
  obtain ⟨m749, rfl⟩ : ∃ q_, m757 = q_ + 1 := by cases m757 with | zero => rw [canon_least_l7] at hP; cases hP | succ q_ => exact ⟨q_, rfl⟩
  rw [canon_least_l7] at hP
  refine sr_ <| vp 1 [(77, .bool (decide (x609 < (x120.2.length : Int))))] E ?_
  clear E; intro a E
  refine nn_ <| wp_seq ?_
  revert E; refine csE 77 rfl (fun hb_ E => ?_) fun hb_ E => ?_
  ·
   have h759 : x609 < (x120.2.length : Int) := of_decide_eq_true hb_
   replace hP := ite_t h759 hP
   refine c_true E rfl <| wp_skip <| th_n <| wp_seq <| wp_block <| sr_ ?_
   obtain ⟨g760, hP⟩ := ask_inv hP
   obtain ⟨b761, e_b761⟩ := H.raddr 13 rfl (idx_pos g760)
   subst e_b761
   refine vq 3 [.int .i64 (List.getD x120.2 x609.toNat 0)] [(17, .int .i64 (List.getD x120.2 x609.toNat 0))] [0 ≤ x609 ∧ x609 < (x120.2.length : Int), World.cell? w756 ⟨b761, 0 + x609.toNat * 1, none⟩ = some (.int .i64 (List.getD x120.2 x609.toNat 0))] E ⟨g760, Rds.at1 (H.rd 13 rds_row) 0 g760⟩ ?_
   clear E; intro a E
   refine nn_ <| wp_seq ?_
   obtain ⟨g763, hP⟩ := ask_inv hP
   obtain ⟨b764, o765, e_b764⟩ := (H.rd 1 rds_ro).addr (idx_pos g763)
   subst e_b764
   obtain ⟨r766, h767, hP⟩ := bind_inv hP
   have HR781 := H
   refine dr_start (S := fun w_ => Chg (atL []) w756 w_) (by kernel_rfl) ?_
   intro w778 hc779
   have HS780 : Chg (atL []) w756 w778 := hc779.mono (fun _ _ h_ => h_.elim)
   replace H := H.ext hc779
   refine dn tbok (by kernel_rfl) [0, 1, 2, 3, 4, 5, 6, 7, 8] [.int .i64 aProps, .slice A9 aNodes.length c10, .slice (some ⟨b764, o765, none⟩) aGuard.length c6, .int .i64 (List.getD aGuard (Int.toNat (List.getD x120.2 x609.toNat 0)) 0)] [(82, .int .i64 aProps), (84, .slice A9 aNodes.length c10), (89, .int .i64 (List.getD aGuard (Int.toNat (List.getD x120.2 x609.toNat 0)) 0))] (fun w_ => [World.cell? w_ ⟨g13, 0, none⟩ = some (.int .i64 aProps), World.cell? w_ ⟨g13, 3, none⟩ = some (.slice A9 aNodes.length c10), World.cell? w_ ⟨g13, 2, none⟩ = some (.slice (some ⟨b764, o765, none⟩) aGuard.length c6), 0 ≤ (List.getD x120.2 x609.toNat 0) ∧ (List.getD x120.2 x609.toNat 0) < (aGuard.length : Int), World.cell? w_ ⟨b764, o765 + (Int.toNat (List.getD x120.2 x609.toNat 0)) * 1, none⟩ = some (.int .i64 (List.getD aGuard (Int.toNat (List.getD x120.2 x609.toNat 0)) 0))]) 6 E (fun _ _ => by kernel_rfl) (by kernel_rfl) (fun w_ hS_ => ⟨(HR781.boxk [] hS_ 3 rfl rfl).cell (j := 0) rfl, (HR781.boxk [] hS_ 3 rfl rfl).cell (j := 3) rfl, (HR781.boxk [] hS_ 3 rfl rfl).cell (j := 2) rfl, g763, Rds.at1 (HR781.rdk [] hS_ 1 rds_ro rfl) 0 g763⟩) (by kernel_rfl) HS780 ?_
   clear E; intro a E
   refine wpAnyH_all (rs := [9]) (by kernel_rfl) (by simp) ?_
   refine all1 ?_
   refine wpOp_of_list rfl ?_
   obtain ⟨Fa782, Hc783, hb784⟩ := H.call [] [(2, false)] rfl rfl trivial
   refine e_call E rfl rfl Try.func79 rfl rfl rfl (guard_Table_calls A9 c10 aProps aNodes (List.getD aGuard (Int.toNat (List.getD x120.2 x609.toNat 0)) 0) hk11 Hc783 h767) ?_
   rintro v785 w786 a ⟨A789, c790, rfl, HR787⟩ E_
   replace E := E_ _ rfl; clear E_
   obtain ⟨H_, hc788⟩ := hb784 _ _ HR787 rfl
   replace HS780 := HS780.ext (callS_ext hc788)
   replace H := H_; clear H_; try dsimp only [setn, addE, goneL] at H
   refine nl_ <| th_n ⟨HS780, ?_⟩
   refine dn tbok (by kernel_rfl) [10, 11, 12, 13, 14] [] [(18, .slice A789 r766.1.length c790)] (fun w_ => []) 0 E (fun _ _ => by kernel_rfl) (by kernel_rfl) (fun w_ hS_ => trivial) (by kernel_rfl) HS780 ?_
   clear E; intro a E
   refine dr_done (by kernel_rfl) ?_
   clear HS780 HR781
   refine th_n <| wp_seq <| sr_ <| vp 3 [(93, .slice A789 r766.1.length c790), (94, .int .i64 (r766.1.length : Int)), (95, .int .i64 0)] E ?_
   clear E; intro a E
   refine nn_ <| wp_block ?_
   obtain ⟨x827, hL828, hK829⟩ := bind_inv hP
   clear hP
   refine loop_cut (fun i_ a w_ => (i_ = 4 ∧ ∃ (x832 : List Int), ∃ (A824 : Option Addr) (c825 : Nat), Fr a 143 [(1, .pointer (some ⟨g13, 0, none⟩)), (2, .pointer (some ⟨g18, 0, none⟩)), (6, .slice A44 r35.1.length c45), (9, .slice (some ⟨g47, 0, none⟩) x120.1.length 256), (13, .pointer (some ⟨g168, 0, none⟩)), (15, .pointer (some ⟨g463, 0, none⟩)), (17, .int .i64 (List.getD x120.2 x609.toNat 0)), (18, .slice A824 x832.length c825), (74, .slice (some ⟨b761, 0, none⟩) x120.2.length c118), (75, .int .i64 (x120.2.length : Int)), (76, .int .i64 x609)] ∧ Hp S Fa w0 w_ [.ro false cBool A1 aAccept, .ro false (cInt .i64) (some ⟨b764, o765, none⟩) aGuard, .ro false cNode A9 aNodes, .box g13 26 [.int .i64 aProps, .slice A1 aAccept.length c2, .slice (some ⟨b764, o765, none⟩) aGuard.length c6, .slice A9 aNodes.length c10], .box g18 26 [.int .i64 0, .slice none 0 0, .slice none 0 0, .slice none 0 0], .row true (cInt .i64) 3 A44 c45 r35.1, .rowx true (cInt .i64) 109 (some ⟨g47, 0, none⟩) 256 x120.1 (List.drop (Int.toNat (aAccept.length : Int)) (List.replicate 256 (0 : Int)) ++ []), .row true cNode 49 A598 c599 s597, .mp Try.prog 49 g169 (List.map (fun p_ => (ndV p_.1, (fun u_ : Int => .int .i64 u_) p_.2)) s600), .box g168 120 [.int .i64 aProps, .slice A598 s597.length c599, .map (some g169)], .row true cBool 4 A603 c604 out602, .row true (cInt .i64) 3 A607 c608 out606, .box g463 26 [.int .i64 aProps, .slice A603 out602.length c604, .slice A607 out606.length c608, .slice none 0 0], .row true (cInt .i64) 3 A824 c825 x832, .row true (cInt .i64) 3 (some ⟨b761, 0, none⟩) c118 x120.2] ∧ x827 = x832)) ?_ ?_
   ·
    refine loopV (fun m831 a w830 => ∃ (x805 : List Int) (x808 : Int), ∃ (A806 : Option Addr) (c807 : Nat), Fr a 143 [(1, .pointer (some ⟨g13, 0, none⟩)), (2, .pointer (some ⟨g18, 0, none⟩)), (6, .slice A44 r35.1.length c45), (9, .slice (some ⟨g47, 0, none⟩) x120.1.length 256), (13, .pointer (some ⟨g168, 0, none⟩)), (15, .pointer (some ⟨g463, 0, none⟩)), (17, .int .i64 (List.getD x120.2 x609.toNat 0)), (18, .slice A806 x805.length c807), (74, .slice (some ⟨b761, 0, none⟩) x120.2.length c118), (75, .int .i64 (x120.2.length : Int)), (76, .int .i64 x609), (93, .slice A806 x805.length c807), (94, .int .i64 (r766.1.length : Int)), (95, .int .i64 x808)] ∧ Hp S Fa w0 w830 [.ro false cBool A1 aAccept, .ro false (cInt .i64) (some ⟨b764, o765, none⟩) aGuard, .ro false cNode A9 aNodes, .box g13 26 [.int .i64 aProps, .slice A1 aAccept.length c2, .slice (some ⟨b764, o765, none⟩) aGuard.length c6, .slice A9 aNodes.length c10], .box g18 26 [.int .i64 0, .slice none 0 0, .slice none 0 0, .slice none 0 0], .row true (cInt .i64) 3 A44 c45 r35.1, .rowx true (cInt .i64) 109 (some ⟨g47, 0, none⟩) 256 x120.1 (List.drop (Int.toNat (aAccept.length : Int)) (List.replicate 256 (0 : Int)) ++ []), .row true cNode 49 A598 c599 s597, .mp Try.prog 49 g169 (List.map (fun p_ => (ndV p_.1, (fun u_ : Int => .int .i64 u_) p_.2)) s600), .box g168 120 [.int .i64 aProps, .slice A598 s597.length c599, .map (some g169)], .row true cBool 4 A603 c604 out602, .row true (cInt .i64) 3 A607 c608 out606, .box g463 26 [.int .i64 aProps, .slice A603 out602.length c604, .slice A607 out606.length c608, .slice none 0 0], .row true (cInt .i64) 3 A806 c807 x805, .row true (cInt .i64) 3 (some ⟨b761, 0, none⟩) c118 x120.2] ∧ canon_least_l8 N r35 x120 r766 m831 x805 x808 = some x827) N ?_ ?_
    ·
     exact ⟨r766.1, 0, A789, c790, E.pk, H.sel [0, 1, 2, 3, 4, 5, 6, 8, 9, 7, 11, 12, 10, 14, 13] rfl, hL828⟩
    clear E H hL828; intro m831 a w830 hI_
    obtain ⟨x805, x808, A806, c807, E, H, hP⟩ := hI_
    obtain ⟨m826, rfl⟩ : ∃ q_, m831 = q_ + 1 := by cases m831 with | zero => rw [canon_least_l8] at hP; cases hP | succ q_ => exact ⟨q_, rfl⟩
    rw [canon_least_l8] at hP
    refine sr_ <| vp 1 [(96, .bool (decide (x808 < (r766.1.length : Int))))] E ?_
    clear E; intro a E
    refine nn_ <| wp_seq ?_
    revert E; refine csE 96 rfl (fun hb_ E => ?_) fun hb_ E => ?_
    ·
     have h833 : x808 < (r766.1.length : Int) := of_decide_eq_true hb_
     replace hP := ite_t h833 hP
     refine c_true E rfl <| wp_skip <| th_n <| wp_seq <| wp_block <| sr_ ?_
     obtain ⟨g834, hP⟩ := ask_inv hP
     obtain ⟨b835, e_b835⟩ := H.raddr 13 rfl (idx_pos g834)
     subst e_b835
     refine vq 5 [.int .i64 (List.getD x805 x808.toNat 0)] [(20, .int .i64 x808), (21, .int .i64 (List.getD x805 x808.toNat 0))] [0 ≤ x808 ∧ x808 < (x805.length : Int), World.cell? w830 ⟨b835, 0 + x808.toNat * 1, none⟩ = some (.int .i64 (List.getD x805 x808.toNat 0))] E ⟨g834, Rds.at1 (H.rd 13 rds_row) 0 g834⟩ ?_
     clear E; intro a E
     refine nn_ <| rl_ ?_
     obtain ⟨g837, hP⟩ := ask_inv hP
     obtain ⟨b838, e_b838⟩ := H.raddr 5 rfl (idx_pos g837)
     subst e_b838
     obtain ⟨g840, hP⟩ := ask_inv hP
     obtain ⟨g841, hP⟩ := ask_inv hP
     refine vq 11 [.int .i64 (List.getD r35.1 (Int.toNat (List.getD x805 x808.toNat 0)) 0), .int .i64 (List.getD x120.1 (Int.toNat (List.getD r35.1 (Int.toNat (List.getD x805 x808.toNat 0)) 0)) 0), .int .i64 ((List.getD x120.1 (Int.toNat (List.getD r35.1 (Int.toNat (List.getD x805 x808.toNat 0)) 0)) 0) - 1)] [(109, .int .i64 ((List.getD x120.1 (Int.toNat (List.getD r35.1 (Int.toNat (List.getD x805 x808.toNat 0)) 0)) 0) - 1)), (110, .pointer (some ⟨b835, 0 + x808.toNat * 1, none⟩))] [0 ≤ (List.getD x805 x808.toNat 0) ∧ (List.getD x805 x808.toNat 0) < (r35.1.length : Int), World.cell? w830 ⟨b838, 0 + (Int.toNat (List.getD x805 x808.toNat 0)) * 1, none⟩ = some (.int .i64 (List.getD r35.1 (Int.toNat (List.getD x805 x808.toNat 0)) 0)), 0 ≤ (List.getD r35.1 (Int.toNat (List.getD x805 x808.toNat 0)) 0) ∧ (List.getD r35.1 (Int.toNat (List.getD x805 x808.toNat 0)) 0) < (x120.1.length : Int), World.cell? w830 ⟨g47, 0 + (Int.toNat (List.getD r35.1 (Int.toNat (List.getD x805 x808.toNat 0)) 0)) * 1, none⟩ = some (.int .i64 (List.getD x120.1 (Int.toNat (List.getD r35.1 (Int.toNat (List.getD x805 x808.toNat 0)) 0)) 0)), IntKind.i64.wrap ((List.getD x120.1 (Int.toNat (List.getD r35.1 (Int.toNat (List.getD x805 x808.toNat 0)) 0)) 0) - 1) = (List.getD x120.1 (Int.toNat (List.getD r35.1 (Int.toNat (List.getD x805 x808.toNat 0)) 0)) 0) - 1, 0 ≤ x808 ∧ x808 < (x805.length : Int)] E ⟨g837, Rds.at1 (H.rd 5 rds_row) 0 g837, g840, Rds.at1 (H.rd 6 rds_rowx) 0 g840, wrap_in g841, g834⟩ ?_
     clear E; intro a E
     refine h_set (g := b835) (i := x808) ((List.getD x120.1 (Int.toNat (List.getD r35.1 (Int.toNat (List.getD x805 x808.toNat 0)) 0)) 0) - 1) H 13 rfl E rfl rfl rfl rfl tbok rfl (fun _ HF_ => rfl) rfl g834 rfl ?_
     clear E; intro w842 a hc843 H_ E
     replace H := H_; clear H_; try dsimp only [setn, addE, goneL] at H
     have hn844 : x805.length = (List.length (List.set x805 x808.toNat ((List.getD x120.1 (Int.toNat (List.getD r35.1 (Int.toNat (List.getD x805 x808.toNat 0)) 0)) 0) - 1))) := by simp only [List.length_set]
     replace E := E.same (t := 18) (u := .slice (some ⟨b835, 0, none⟩) (List.length (List.set x805 x808.toNat ((List.getD x120.1 (Int.toNat (List.getD r35.1 (Int.toNat (List.getD x805 x808.toNat 0)) 0)) 0) - 1))) c807) rfl (congrArg (fun n_ => Value.slice (some ⟨b835, 0, none⟩) n_ c807) hn844)
     replace E := E.same (t := 93) (u := .slice (some ⟨b835, 0, none⟩) (List.length (List.set x805 x808.toNat ((List.getD x120.1 (Int.toNat (List.getD r35.1 (Int.toNat (List.getD x805 x808.toNat 0)) 0)) 0) - 1))) c807) rfl (congrArg (fun n_ => Value.slice (some ⟨b835, 0, none⟩) n_ c807) hn844)
     refine nl_ <| bl_n <| th_n <| rl_ ?_
     obtain ⟨g845, hP⟩ := ask_inv hP
     refine vq 2 [.int .i64 (x808 + 1)] [(95, .int .i64 (x808 + 1))] [IntKind.i64.wrap (x808 + 1) = x808 + 1] E (wrap_in g845) ?_
     clear E; intro a E
     refine nl_ ?_
     exact th_n ⟨m826, Nat.lt_succ_self _, List.set x805 x808.toNat ((List.getD x120.1 (Int.toNat (List.getD r35.1 (Int.toNat (List.getD x805 x808.toNat 0)) 0)) 0) - 1), x808 + 1, (some ⟨b835, 0, none⟩), c807, E.pk, H.sel (up 15) rfl, hP⟩
    have h846 : ¬ (x808 < (r766.1.length : Int)) := of_decide_eq_false hb_
    replace hP := ite_f h846 hP
    refine c_false E rfl <| wp_exit <| th_exit ?_
    have hx_ := Option.some.inj hP
    refine th_exit (.inl ⟨4, rfl, ?_⟩)
    exact ⟨rfl, x805, A806, c807, E.pk, H.sel (up 15) rfl, hx_.symm⟩
   clear E H hL828; intro i_ a w830 hM_
   obtain ⟨rfl, x832, A824, c825, E, H, hx_⟩ := hM_
   subst hx_; have hP := hK829; clear hK829
   refine bl_hit <| th_n <| sr_ <| vp 2 [(113, .pointer (some ⟨g168, 0, none⟩)), (114, .slice A824 x827.length c825)] E ?_
   clear E; intro a E
   obtain ⟨r847, h848, hP⟩ := bind_inv hP
   obtain ⟨Fa849, Hc850, hb851⟩ := H.call [9, 7, 8] [(13, false)] rfl rfl ⟨flat_plain, trivial⟩
   refine e_call E rfl rfl Try.func64 rfl rfl rfl (guard_Store_Add_calls g168 A598 c599 g169 A824 c825 aProps s597 s600 x827 (H.rcap 13 rfl) Hc850 h848) ?_
   intro v857 w856 a hR858 E_
   obtain ⟨x_, A861, c862, hr_, rfl, HR860⟩ := hR858
   subst hr_
   replace E := E_ _ rfl; clear E_
   obtain ⟨H_, hc859⟩ := hb851 _ _ HR860 rfl
   replace H := H_; clear H_; try dsimp only [setn, addE, goneL] at H
   refine vp 5 [(22, .int .i64 r847.1), (23, .int .i64 r847.2.1)] E ?_
   clear E; intro a E
   refine nn_ <| wp_seq <| sr_ <| vp 2 [(119, .bool ((r847.2.1 : Int) != 0))] E ?_
   clear E; intro a E
   refine nn_ ?_
   revert E; refine csE 119 rfl (fun hb_ E => ?_) fun hb_ E => ?_
   ·
    have h866 : ¬ ((r847.2.1 : Int) = 0) := bne_iff_ne.1 hb_
    replace hP := ite_f h866 hP
    refine c_true E rfl <| sr_ <| e_build (ps := []) (v := .agg #[.int .i64 0, .slice none 0 0, .slice none 0 0, .slice none 0 0]) E rfl rfl tbok rfl (by kernel_rfl) rfl ?_
    clear E; intro a E
    refine vp 1 [(121, .int .i64 r847.2.1)] E ?_
    clear E; intro a E
    refine h_store (g := g18) (off := 0) H 4 rfl E rfl rfl rfl rfl tbok rfl rfl rfl rfl rfl ?_
    clear E; intro w867 a hc868 H_ E
    replace H := H_; clear H_; try dsimp only [setn, addE, goneL] at H
    refine vp 1 [(3, .int .i64 r847.2.1)] E ?_
    clear E; intro a E
    refine nn_ <| wp_ret <| th_ret <| bl_ret <| th_ret <| th_ret <| .inr ⟨rfl, ?_⟩
    refine bl_ret <| th_ret ?_
    replace H := H.nilrow cBool 4; try dsimp only [setn, addE, goneL] at H
    replace H := H.nilrow (cInt .i64) 3; try dsimp only [setn, addE, goneL] at H
    replace H := H.nilrow cNode 49; try dsimp only [setn, addE, goneL] at H
    have hx_ := Option.some.inj hP; subst hx_
    have hP : some (((0, [], [], []), r847.2.1)) = some r := hK752
    obtain rfl := Option.some.inj hP
    refine retV E [.cell 2 26, .tmp 3] [.agg #[.int .i64 0, .slice none 0 0, .slice none 0 0, .slice none 0 0], .int .i64 r847.2.1] rfl ⟨⟨_, rfl, run_loadBx tbok (H.box 4 rfl) rfl rfl rfl 0 rfl rfl⟩, rfl, trivial⟩ (.inl rfl) ?_
    exact ⟨_, rfl, none, 0, none, 0, none, 0, rfl, H.sel [18, 19, 20] rfl⟩
   have h872 : (r847.2.1 : Int) = 0 := bne_eq_false_iff_eq.1 hb_
   replace hP := ite_t h872 hP
   refine c_false E rfl <| wp_skip <| th_n <| wp_seq ?_
   obtain ⟨g873, hP⟩ := ask_inv hP
   obtain ⟨b874, o875, e_b874⟩ := (H.rd 0 rds_ro).addr (idx_pos g873)
   subst e_b874
   obtain ⟨g881, hP⟩ := ask_inv hP
   refine meet_cut (fun a w891 => ∃ (A889 : Option Addr) (c890 : Nat), Fr a 143 [(1, .pointer (some ⟨g13, 0, none⟩)), (2, .pointer (some ⟨g18, 0, none⟩)), (6, .slice A44 r35.1.length c45), (9, .slice (some ⟨g47, 0, none⟩) x120.1.length 256), (13, .pointer (some ⟨g168, 0, none⟩)), (15, .pointer (some ⟨g463, 0, none⟩)), (22, .int .i64 r847.1), (74, .slice (some ⟨b761, 0, none⟩) x120.2.length c118), (75, .int .i64 (x120.2.length : Int)), (76, .int .i64 x609)] ∧ Hp S Fa w0 w891 [.ro false cBool (some ⟨b874, o875, none⟩) aAccept, .ro false (cInt .i64) (some ⟨b764, o765, none⟩) aGuard, .ro false cNode A9 aNodes, .box g13 26 [.int .i64 aProps, .slice (some ⟨b874, o875, none⟩) aAccept.length c2, .slice (some ⟨b764, o765, none⟩) aGuard.length c6, .slice A9 aNodes.length c10], .box g18 26 [.int .i64 0, .slice none 0 0, .slice none 0 0, .slice none 0 0], .row true (cInt .i64) 3 A44 c45 r35.1, .rowx true (cInt .i64) 109 (some ⟨g47, 0, none⟩) 256 x120.1 (List.drop (Int.toNat (aAccept.length : Int)) (List.replicate 256 (0 : Int)) ++ []), .row true cNode 49 A861 c862 r847.2.2.1, .mp Try.prog 49 g169 (List.map (fun p_ => (ndV p_.1, (fun u_ : Int => .int .i64 u_) p_.2)) r847.2.2.2), .box g168 120 [.int .i64 aProps, .slice A861 r847.2.2.1.length c862, .map (some g169)], .box g463 26 [.int .i64 aProps, .slice A889 (List.length (out602 ++ ([(List.getD aAccept (Int.toNat (List.getD x120.2 x609.toNat 0)) false)] : List Bool))) c890, .slice A607 out606.length c608, .slice none 0 0], .row true cBool 4 A889 c890 (out602 ++ ([(List.getD aAccept (Int.toNat (List.getD x120.2 x609.toNat 0)) false)] : List Bool)), .row true (cInt .i64) 3 A607 c608 out606, .row true (cInt .i64) 3 (some ⟨b761, 0, none⟩) c118 x120.2]) ?_ ?_
   ·
    have HR895 := H
    refine dr_start (S := fun w_ => Chg (atL [.row true cBool 4 A603 c604 out602, .box g463 26 [.int .i64 aProps, .slice A603 out602.length c604, .slice A607 out606.length c608, .slice none 0 0]]) w856 w_) (by kernel_rfl) ?_
    intro w892 hc893
    have HS894 : Chg (atL [.row true cBool 4 A603 c604 out602, .box g463 26 [.int .i64 aProps, .slice A603 out602.length c604, .slice A607 out606.length c608, .slice none 0 0]]) w856 w892 := hc893.mono (fun _ _ h_ => h_.elim)
    replace H := H.ext hc893
    refine dn tbok (by kernel_rfl) [0, 2, 3, 4, 5, 6] [.slice (some ⟨b874, o875, none⟩) aAccept.length c2, .bool (List.getD aAccept (Int.toNat (List.getD x120.2 x609.toNat 0)) false)] [(122, .pointer (some ⟨g463, 1, none⟩)), (128, .bool (List.getD aAccept (Int.toNat (List.getD x120.2 x609.toNat 0)) false))] (fun w_ => [World.cell? w_ ⟨g13, 1, none⟩ = some (.slice (some ⟨b874, o875, none⟩) aAccept.length c2), 0 ≤ (List.getD x120.2 x609.toNat 0) ∧ (List.getD x120.2 x609.toNat 0) < (aAccept.length : Int), World.cell? w_ ⟨b874, o875 + (Int.toNat (List.getD x120.2 x609.toNat 0)) * 1, none⟩ = some (.bool (List.getD aAccept (Int.toNat (List.getD x120.2 x609.toNat 0)) false))]) 5 E (fun _ _ => by kernel_rfl) (by kernel_rfl) (fun w_ hS_ => ⟨(HR895.boxk [10, 12] hS_ 3 rfl rfl).cell (j := 1) rfl, g873, Rds.at1 (HR895.rdk [10, 12] hS_ 0 rds_ro rfl) false g873⟩) (by kernel_rfl) HS894 ?_
    clear E; intro a E
    refine wpAnyH_all (rs := [1, 7]) (by kernel_rfl) (by simp) ?_
    refine all2 ?_ ?_
    ·
     refine wpOp_of_list rfl ?_
     refine vq 1 [.slice A603 out602.length c604] [(123, .slice A603 out602.length c604)] [World.cell? w892 ⟨g463, 1, none⟩ = some (.slice A603 out602.length c604)] E ((H.box 12 rfl).cell (j := 1) rfl) ?_
     clear E; intro a E
     refine nl_ <| th_n ⟨HS894, ?_⟩
     refine wpAnyH_all (rs := [7]) (by kernel_rfl) (by simp) ?_
     refine all1 ?_
     refine wpOp_of_list rfl ?_
     refine h_buildSlice (ps := [(0, .bool (List.getD aAccept (Int.toNat (List.getD x120.2 x609.toNat 0)) false))]) (cs := [.bool (List.getD aAccept (Int.toNat (List.getD x120.2 x609.toNat 0)) false)]) H E rfl rfl tbok rfl rfl (by kernel_rfl) ?_
     intro w897 g896 a hc898 hg900 H_ E_
     replace E := E_ _ rfl; clear E_
     have hin901 : ∀ q_, q_ < w856.heap.size → q_ = g896 → (atL [.row true cBool 4 A603 c604 out602, .box g463 26 [.int .i64 aProps, .slice A603 out602.length c604, .slice A607 out606.length c608, .slice none 0 0]]) q_ := fun q_ h1_ h2_ => by have hs_ := HS894.size; have h4_ : q_ = g896 := h2_; exfalso; omega
     replace HS894 := HS894.ext hc898
     replace H := H_; clear H_; try dsimp only [setn, addE, goneL] at H
     refine nl_ <| th_n ⟨HS894, ?_⟩
     refine wpAnyH_all (rs := [8]) (by kernel_rfl) (by simp) ?_
     refine all1 ?_
     refine wpOp_of_list rfl ?_
     refine h_append cBool (xs := out602) (ys := ([(List.getD aAccept (Int.toNat (List.getD x120.2 x609.toNat 0)) false)] : List Bool)) (false : Bool) H 10 rfl E rfl rfl tbok rfl rfl rfl rfl rfl (fun _ _ => rfl) rfl rfl (fun _ HF_ => HF_.srcB 18 rfl (⟨_, _, rfl, rfl, rfl⟩)) g881 ?_
     intro w902 A903 c904 a hc905 hA906 H_ E_
     replace E := E_ _ rfl; clear E_
     have hin907 : ∀ q_, q_ < w856.heap.size → At A903 q_ → (atL [.row true cBool 4 A603 c604 out602, .box g463 26 [.int .i64 aProps, .slice A603 out602.length c604, .slice A607 out606.length c608, .slice none 0 0]]) q_ := fun q_ h1_ h2_ => (hA906 q_ h2_).elim ((fun _ _ h_ => Or.inl h_) q_ h1_) (fun h3_ => by have hs_ := HS894.size; exfalso; omega)
     replace HS894 := HS894.trans hc905 (fun k_ hk_ h_ => (fun _ _ h_ => Or.inl h_) k_ hk_ h_)
     replace H := H_; clear H_; try dsimp only [setn, addE, goneL] at H
     refine nl_ <| th_n ⟨HS894, ?_⟩
     refine dn tbok (by kernel_rfl) [9] [] [(131, .pointer (some ⟨g463, 1, none⟩))] (fun w_ => []) 1 E (fun _ _ => by kernel_rfl) (by kernel_rfl) (fun w_ hS_ => trivial) (by kernel_rfl) HS894 ?_
     clear E; intro a E
     refine wpAnyH_all (rs := [10]) (by kernel_rfl) (by simp) ?_
     refine all1 ?_
     refine wpOp_of_list rfl ?_
     refine h_store (g := g463) (off := 1) H 12 rfl E rfl rfl rfl rfl tbok rfl rfl rfl rfl rfl ?_
     clear E; intro w908 a hc909 H_ E
     replace HS894 := HS894.trans hc909 (fun k_ hk_ h_ => (fun _ _ h_ => Or.inr (Or.inl h_)) k_ hk_ h_)
     replace H := H_; clear H_; try dsimp only [setn, addE, goneL] at H
     refine nl_ <| th_n ⟨HS894, ?_⟩
     refine dr_done (by kernel_rfl) ?_
     exact .inl ⟨rfl, A903, c904, E.pk, H.sel [0, 1, 2, 3, 4, 5, 6, 16, 17, 15, 12, 10, 11, 14] rfl⟩
    refine wpOp_of_list rfl ?_
    refine h_buildSlice (ps := [(0, .bool (List.getD aAccept (Int.toNat (List.getD x120.2 x609.toNat 0)) false))]) (cs := [.bool (List.getD aAccept (Int.toNat (List.getD x120.2 x609.toNat 0)) false)]) H E rfl rfl tbok rfl rfl (by kernel_rfl) ?_
    intro w911 g910 a hc912 hg914 H_ E_
    replace E := E_ _ rfl; clear E_
    have hin915 : ∀ q_, q_ < w856.heap.size → q_ = g910 → (atL [.row true cBool 4 A603 c604 out602, .box g463 26 [.int .i64 aProps, .slice A603 out602.length c604, .slice A607 out606.length c608, .slice none 0 0]]) q_ := fun q_ h1_ h2_ => by have hs_ := HS894.size; have h4_ : q_ = g910 := h2_; exfalso; omega
    replace HS894 := HS894.ext hc912
    replace H := H_; clear H_; try dsimp only [setn, addE, goneL] at H
    refine nl_ <| th_n ⟨HS894, ?_⟩
    refine wpAnyH_all (rs := [1]) (by kernel_rfl) (by simp) ?_
    refine all1 ?_
    refine wpOp_of_list rfl ?_
    refine vq 1 [.slice A603 out602.length c604] [(123, .slice A603 out602.length c604)] [World.cell? w911 ⟨g463, 1, none⟩ = some (.slice A603 out602.length c604)] E ((H.box 12 rfl).cell (j := 1) rfl) ?_
    clear E; intro a E
    refine nl_ <| th_n ⟨HS894, ?_⟩
    refine wpAnyH_all (rs := [8]) (by kernel_rfl) (by simp) ?_
    refine all1 ?_
    refine wpOp_of_list rfl ?_
    refine h_append cBool (xs := out602) (ys := ([(List.getD aAccept (Int.toNat (List.getD x120.2 x609.toNat 0)) false)] : List Bool)) (false : Bool) H 10 rfl E rfl rfl tbok rfl rfl rfl rfl rfl (fun _ _ => rfl) rfl rfl (fun _ HF_ => HF_.srcB 18 rfl (⟨_, _, rfl, rfl, rfl⟩)) g881 ?_
    intro w916 A917 c918 a hc919 hA920 H_ E_
    replace E := E_ _ rfl; clear E_
    have hin921 : ∀ q_, q_ < w856.heap.size → At A917 q_ → (atL [.row true cBool 4 A603 c604 out602, .box g463 26 [.int .i64 aProps, .slice A603 out602.length c604, .slice A607 out606.length c608, .slice none 0 0]]) q_ := fun q_ h1_ h2_ => (hA920 q_ h2_).elim ((fun _ _ h_ => Or.inl h_) q_ h1_) (fun h3_ => by have hs_ := HS894.size; exfalso; omega)
    replace HS894 := HS894.trans hc919 (fun k_ hk_ h_ => (fun _ _ h_ => Or.inl h_) k_ hk_ h_)
    replace H := H_; clear H_; try dsimp only [setn, addE, goneL] at H
    refine nl_ <| th_n ⟨HS894, ?_⟩
    refine dn tbok (by kernel_rfl) [9] [] [(131, .pointer (some ⟨g463, 1, none⟩))] (fun w_ => []) 1 E (fun _ _ => by kernel_rfl) (by kernel_rfl) (fun w_ hS_ => trivial) (by kernel_rfl) HS894 ?_
    clear E; intro a E
    refine wpAnyH_all (rs := [10]) (by kernel_rfl) (by simp) ?_
    refine all1 ?_
    refine wpOp_of_list rfl ?_
    refine h_store (g := g463) (off := 1) H 12 rfl E rfl rfl rfl rfl tbok rfl rfl rfl rfl rfl ?_
    clear E; intro w922 a hc923 H_ E
    replace HS894 := HS894.trans hc923 (fun k_ hk_ h_ => (fun _ _ h_ => Or.inr (Or.inl h_)) k_ hk_ h_)
    replace H := H_; clear H_; try dsimp only [setn, addE, goneL] at H
    refine nl_ <| th_n ⟨HS894, ?_⟩
    refine dr_done (by kernel_rfl) ?_
    exact .inl ⟨rfl, A917, c918, E.pk, H.sel [0, 1, 2, 3, 4, 5, 6, 16, 17, 15, 12, 10, 11, 14] rfl⟩
   clear E H; rintro a w891 ⟨A889, c890, E, H⟩
   refine th_n <| rl_ <| vq 3 [.slice A607 out606.length c608] [(133, .slice A607 out606.length c608), (134, .int .i64 r847.1)] [World.cell? w891 ⟨g463, 2, none⟩ = some (.slice A607 out606.length c608)] E ((H.box 10 rfl).cell (j := 2) rfl) ?_
   clear E; intro a E
   refine h_buildSlice (ps := [(0, .int .i64 r847.1)]) (cs := [.int .i64 r847.1]) H E rfl rfl tbok rfl rfl (by kernel_rfl) ?_
   clear H E; intro w925 g924 a hc926 hg928 H E; replace E := E _ rfl; try dsimp only [setn, addE, goneL] at H
   obtain ⟨g929, hP⟩ := ask_inv hP
   refine h_append (cInt .i64) (xs := out606) (ys := ([r847.1] : List Int)) (0 : Int) H 12 rfl E rfl rfl tbok rfl rfl rfl rfl rfl (fun _ _ => rfl) rfl rfl (fun _ HF_ => HF_.srcB 14 rfl (⟨_, _, rfl, rfl, rfl⟩)) g929 ?_
   clear H E; intro w930 A931 c932 a hc933 hA934 H E; replace E := E _ rfl; try dsimp only [setn, addE, goneL] at H
   refine vp 1 [(137, .pointer (some ⟨g463, 2, none⟩))] E ?_
   clear E; intro a E
   refine h_store (g := g463) (off := 2) H 10 rfl E rfl rfl rfl rfl tbok rfl rfl rfl rfl rfl ?_
   clear E; intro w935 a hc936 H_ E
   replace H := H_; clear H_; try dsimp only [setn, addE, goneL] at H
   refine nl_ <| bl_n <| th_n <| rl_ ?_
   obtain ⟨g937, hP⟩ := ask_inv hP
   refine vq 2 [.int .i64 (x609 + 1)] [(76, .int .i64 (x609 + 1))] [IntKind.i64.wrap (x609 + 1) = x609 + 1] E (wrap_in g937) ?_
   clear E; intro a E
   refine nl_ ?_
   exact th_n ⟨m749, Nat.lt_succ_self _, r847.2.2.1, r847.2.2.2, out602 ++ ([(List.getD aAccept (Int.toNat (List.getD x120.2 x609.toNat 0)) false)] : List Bool), out606 ++ ([r847.1] : List Int), x609 + 1, A861, c862, A889, c890, A931, c932, E.pk, H.sel [0, 1, 2, 3, 4, 5, 6, 9, 7, 8, 10, 11, 12, 13] rfl, hP⟩
  have h938 : ¬ (x609 < (x120.2.length : Int)) := of_decide_eq_false hb_
  replace hP := ite_f h938 hP
  refine c_false E rfl <| wp_exit <| th_exit ?_
  have hx_ := Option.some.inj hP
  refine th_exit (.inl ⟨2, rfl, ?_⟩)
  exact ⟨rfl, (s597, s600, out602, out606), A598, c599, A603, c604, A607, c608, E.pk, H.sel [4, 7, 8, 9, 10, 11, 12] rfl, hx_.symm⟩
 clear E H hL751; intro i_ a w756 hM_
 obtain ⟨rfl, x758, A738, c739, A743, c744, A747, c748, E, H, hx_⟩ := hM_
 subst hx_; have hP := elim_l hK752
 clear hK752
 refine bl_hit <| th_n <| sr_ <| vp 1 [(139, .pointer (some ⟨g168, 0, none⟩))] E ?_
 clear E; intro a E
 obtain ⟨r940, h941, hP⟩ := bind_inv hP
 obtain ⟨Fa942, Hc943, hb944⟩ := H.call [1, 2, 3] [] rfl rfl ⟨flat_plain, trivial⟩
 refine e_call E rfl rfl Try.func65 rfl rfl rfl (guard_Store_Nodes_calls g168 A738 c739 g169 aProps x758.1 x758.2.1  Hc943 h941) ?_
 intro v950 w949 a hR951 E_
 obtain ⟨x_, A954, c955, hr_, rfl, HR953⟩ := hR951
 subst hr_
 replace E := E_ _ rfl; clear E_
 obtain ⟨H_, hc952⟩ := hb944 _ _ HR953 rfl
 replace H := H_; clear H_; try dsimp only [setn, addE, goneL] at H
 refine vp 1 [(141, .pointer (some ⟨g463, 3, none⟩))] E ?_
 clear E; intro a E
 refine h_store (g := g463) (off := 3) H 4 rfl E rfl rfl rfl rfl tbok rfl rfl rfl rfl rfl ?_
 clear E; intro w960 a hc961 H_ E
 replace H := H_; clear H_; try dsimp only [setn, addE, goneL] at H
 refine nn_ <| sr_ <| vq 1 [.agg #[.int .i64 aProps, .slice A743 x758.2.2.1.length c744, .slice A747 x758.2.2.2.length c748, .slice A954 r940.length c955]] [(142, .agg #[.int .i64 aProps, .slice A743 x758.2.2.1.length c744, .slice A747 x758.2.2.2.length c748, .slice A954 r940.length c955])] [cellsAt w960 g463 (0) [.int .i64 aProps, .slice A743 x758.2.2.1.length c744, .slice A747 x758.2.2.2.length c748, .slice A954 r940.length c955]] E ((H.box 4 rfl).sub 0 _ rfl) ?_
 clear E; intro a E
 refine h_store (g := g18) (off := 0) H 0 rfl E rfl rfl rfl rfl tbok rfl rfl rfl rfl rfl ?_
 clear E; intro w962 a hc963 H_ E
 replace H := H_; clear H_; try dsimp only [setn, addE, goneL] at H
 refine vp 1 [(3, .int .i64 0)] E ?_
 clear E; intro a E
 refine nn_ <| wp_ret ?_
 obtain rfl := Option.some.inj hP
 refine retV E [.cell 2 26, .tmp 3] [.agg #[.int .i64 aProps, .slice A743 x758.2.2.1.length c744, .slice A747 x758.2.2.2.length c748, .slice A954 r940.length c955], .int .i64 0] rfl ⟨⟨_, rfl, run_loadBx tbok (H.box 0 rfl) rfl rfl rfl 0 rfl rfl⟩, rfl, trivial⟩ (.inl rfl) ?_
 exact ⟨_, rfl, A743, c744, A747, c748, A954, c955, rfl, H.sel [5, 6, 7] rfl⟩

end Go.V
