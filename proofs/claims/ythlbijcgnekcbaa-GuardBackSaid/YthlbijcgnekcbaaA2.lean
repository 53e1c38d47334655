/- Plain functions, and the calls that give them. -/
import Derived.Test.YthlbijcgnekcbaaA1
set_option linter.all false
set_option linter.unusedVariables false
set_option linter.unnecessarySimpa false
set_option linter.unusedSimpArgs false
namespace Go.V
open Go Go.Proofs
/-! (*rejoinder/guard.Store).Add -/
def guard_Store_Add_l0 (N : Nat) (snodes : List Nd) (sat : List (Nd × Int)) (where_ : List Int) : Nat → Int → Option (Unit ⊕ (Int × Int × (List Nd) × (List (Nd × Int))))
  | 0, _ => none
  | m160 + 1, x149 =>
    if x149 < (((List.length where_) : Nat) : Int) then
      ask (idx x149 (List.length where_)) <|
      if (List.getD where_ (Int.toNat x149) 0) < 0 then
        some (Sum.inr (0, 2, snodes, sat))
      else
        if 1048575 < (List.getD where_ (Int.toNat x149) 0) then
          some (Sum.inr (0, 2, snodes, sat))
        else
          ask (in64 (x149 + 1)) <|
          guard_Store_Add_l0 N snodes sat where_ m160 (x149 + 1)
    else
      some (Sum.inl ())
def guard_Store_Add (N : Nat) (sn : Int) (snodes : List Nd) (sat : List (Nd × Int)) (where_ : List Int) : Option (Int × Int × (List Nd) × (List (Nd × Int))) :=
  Option.bind (guard_Store_none N sn snodes sat) fun r118 =>
  if r118 = true then
    some (0, 1, snodes, sat)
  else
    ask (0 ≤ sn) <|
    if ((((List.length where_) : Nat) : Int) : Int) = shlV .i64 1 sn then
      Option.bind (guard_Store_Add_l0 N snodes sat where_ N 0) fun x161 =>
      Sum.elim (fun x166 =>
        Option.bind (guard_Store_add N N sn snodes sat where_ 0) fun r185 =>
        if 4096 < (((List.length r185.2.1) : Nat) : Int) then
          none
        else
          some (r185.1, 0, r185.2.1, r185.2.2))
       (fun x177 =>
        some x177) x161
    else
      some (0, 2, snodes, sat)
set_option maxRecDepth 100000 in
set_option maxHeartbeats 4000000 in
theorem guard_Store_Add_calls {N : Nat} {S Fa : Nat → Prop} {w0 : World} {r : Int × Int × (List Nd) × (List (Nd × Int))} (g1 : Nat) (A3 : Option Addr) (c4 : Nat) (g6 : Nat) (A8 : Option Addr) (c9 : Nat) (sn : Int) (snodes : List Nd) (sat : List (Nd × Int)) (where_ : List Int) (hk10 : List.length where_ ≤ c9) (H : Hp S Fa w0 w0 [.box g1 44 [.int .i64 sn, .slice A3 (List.length snodes) c4, .map (some g6)], .row true cNode 64 A3 c4 snodes, .mp Try.prog 64 g6 (List.map (fun p_ => (ndV p_.1, (fun u_ : Int => .int .i64 u_) p_.2)) sat), .ro false (cInt .i64) A8 where_]) (hP : guard_Store_Add N sn snodes sat where_ = some r) :
    Calls Try.prog 17 #[.pointer (some ⟨g1, 0, none⟩), .slice A8 (List.length where_) c9] w0 fun e w' => ∃ v, e = .returned v ∧ (∃ (x_ : Int × Int × (List Nd) × (List (Nd × Int))) (A15 : Option Addr) (c16 : Nat), r = x_ ∧ v = .tuple #[.int .i64 x_.1, .int .i64 x_.2.1] ∧ Hp S Fa w0 w' [.box g1 44 [.int .i64 sn, .slice A15 (List.length x_.2.2.1) c16, .map (some g6)], .row true cNode 64 A15 c16 x_.2.2.1, .mp Try.prog 64 g6 (List.map (fun p_ => (ndV p_.1, (fun u_ : Int => .int .i64 u_) p_.2)) x_.2.2.2)]) := by
 refine enterV (n := 63) Try.func17 rfl rfl rfl ?_
 intro a E
 replace E := E.pick [(0, .pointer (some ⟨g1, 0, none⟩)), (1, .slice A8 (List.length where_) c9)] ⟨rfl, rfl, trivial⟩
 rw [guard_Store_Add] at hP
 refine wp_seq ?_
 refine wp_region_lit ?_
 refine vr tbok 2 [] [(0, .pointer (some ⟨g1, 0, none⟩)), (1, .slice A8 (List.length where_) c9)] [] E (by kernel_rfl) trivial ?_
 clear E; intro a E
 refine wpList_nil ?_
 refine th_n ?_
 refine wp_seq ?_
 refine wp_seq ?_
 refine wp_region_lit ?_
 refine vr tbok 1 [] [(0, .pointer (some ⟨g1, 0, none⟩)), (1, .slice A8 (List.length where_) c9), (10, .pointer (some ⟨g1, 0, none⟩))] [] E (by kernel_rfl) trivial ?_
 clear E; intro a E
 obtain ⟨r118, h119, hP⟩ := bind_inv hP
 obtain ⟨Fa120, Hc121, hb122⟩ := H.call [0, 1, 2] [] rfl rfl ⟨flat_plain, trivial⟩
 refine e_call E rfl rfl Try.func31 rfl rfl rfl (guard_Store_none_calls g1 A3 c4 g6 sn snodes sat  Hc121 h119) ?_
 intro v128 w127 a hR129 E_
 obtain ⟨x_, hr_, rfl, HR131⟩ := hR129
 subst hr_
 replace E := E_ _ rfl; clear E_
 obtain ⟨H_, hc130⟩ := hb122 _ _ HR131 rfl
 replace H := H_; clear H_; try dsimp only [setn, addE, goneL] at H
 refine wpList_nil ?_
 refine th_n ?_
 refine E.cases (t := 11) rfl (fun hb_ E_ => ?_) (fun hb_ E_ => ?_)
 ·
  replace E := E_; clear E_
  have h135 : r118 = true := hb_
  clear hb_; replace hP := ite_t h135 hP
  refine c_true E rfl ?_
  refine wp_seq ?_
  refine wp_region_lit ?_
  refine vr tbok 2 [] [(4, .int .i64 0), (5, .int .i64 1)] [] E (by kernel_rfl) trivial ?_
  clear E; intro a E
  refine wpList_nil ?_
  refine th_n ?_
  refine wp_ret ?_
  refine th_ret ?_
  obtain rfl := Option.some.inj hP
  refine ret2 E rfl rfl rfl ?_
  exact ⟨_, rfl, ⟨(0, 1, snodes, sat), A3, c4, rfl, rfl, H.sel [6, 4, 5] rfl⟩⟩
 replace E := E_; clear E_
 have h136 : ¬ (r118 = true) := (ne_true_of_eq_false hb_)
 clear hb_; replace hP := ite_f h136 hP
 refine c_false E rfl ?_
 refine wp_skip ?_
 refine th_n ?_
 refine wp_seq ?_
 refine wp_seq ?_
 refine wp_region_lit ?_
 obtain ⟨g137, hP⟩ := ask_inv hP
 refine vr tbok 8 [.int .i64 sn, .int .i64 (shlV .i64 1 sn)] [(0, .pointer (some ⟨g1, 0, none⟩)), (1, .slice A8 (List.length where_) c9), (19, .bool (((((List.length where_) : Nat) : Int) : Int) != (shlV .i64 1 sn)))] [World.cell? w127 ⟨g1, 0, none⟩ = some (.int .i64 sn), 0 ≤ sn ∧ IntKind.i64.wrap (1 * 2 ^ (min (Int.toNat sn) (IntKind.bits .i64))) = shlV .i64 1 sn] E (by kernel_rfl) ⟨(H.box 6 rfl).cell (j := 0) rfl, ⟨g137, rfl⟩⟩ ?_
 clear E; intro a E
 refine wpList_nil ?_
 refine th_n ?_
 refine E.cases (t := 19) rfl (fun hb_ E_ => ?_) (fun hb_ E_ => ?_)
 ·
  replace E := E_; clear E_
  have h138 : ¬ (((((List.length where_) : Nat) : Int) : Int) = shlV .i64 1 sn) := bne_iff_ne.1 hb_
  clear hb_; replace hP := ite_f h138 hP
  refine c_true E rfl ?_
  refine wp_seq ?_
  refine wp_region_lit ?_
  refine vr tbok 2 [] [(4, .int .i64 0), (5, .int .i64 2)] [] E (by kernel_rfl) trivial ?_
  clear E; intro a E
  refine wpList_nil ?_
  refine th_n ?_
  refine wp_ret ?_
  refine th_ret ?_
  obtain rfl := Option.some.inj hP
  refine ret2 E rfl rfl rfl ?_
  exact ⟨_, rfl, ⟨(0, 2, snodes, sat), A3, c4, rfl, rfl, H.sel [6, 4, 5] rfl⟩⟩
 replace E := E_; clear E_
 have h139 : ((((List.length where_) : Nat) : Int) : Int) = shlV .i64 1 sn := bne_eq_false_iff_eq.1 hb_
 clear hb_; replace hP := ite_t h139 hP
 refine c_false E rfl ?_
 refine wp_skip ?_
 refine th_n ?_
 refine wp_seq ?_
 refine wp_seq ?_
 refine wp_region_lit ?_
 refine vr tbok 3 [] [(0, .pointer (some ⟨g1, 0, none⟩)), (1, .slice A8 (List.length where_) c9), (20, .slice A8 (List.length where_) c9), (21, .int .i64 (((List.length where_) : Nat) : Int)), (22, .int .i64 0)] [] E (by kernel_rfl) trivial ?_
 clear E; intro a E
 refine wpList_nil ?_
 refine th_n ?_
 refine wp_block ?_
 obtain ⟨x161, hL162, hK163⟩ := bind_inv hP
 clear hP
 refine loop_cut (fun i_ a w_ => (i_ = 0 ∧ ∃ (x166 : Unit), Fr a 63 [(0, .pointer (some ⟨g1, 0, none⟩)), (1, .slice A8 (List.length where_) c9)] ∧ Hp S Fa w0 w_ [.row true cNode 64 A3 c4 snodes, .mp Try.prog 64 g6 (List.map (fun p_ => (ndV p_.1, (fun u_ : Int => .int .i64 u_) p_.2)) sat), .box g1 44 [.int .i64 sn, .slice A3 (List.length snodes) c4, .map (some g6)], .ro false (cInt .i64) A8 where_] ∧ x161 = Sum.inl x166)) ?_ ?_
 ·
  refine loopV (fun m165 a w164 => ∃ (x149 : Int), Fr a 63 [(0, .pointer (some ⟨g1, 0, none⟩)), (1, .slice A8 (List.length where_) c9), (20, .slice A8 (List.length where_) c9), (21, .int .i64 (((List.length where_) : Nat) : Int)), (22, .int .i64 x149)] ∧ Hp S Fa w0 w164 [.row true cNode 64 A3 c4 snodes, .mp Try.prog 64 g6 (List.map (fun p_ => (ndV p_.1, (fun u_ : Int => .int .i64 u_) p_.2)) sat), .box g1 44 [.int .i64 sn, .slice A3 (List.length snodes) c4, .map (some g6)], .ro false (cInt .i64) A8 where_] ∧ guard_Store_Add_l0 N snodes sat where_ m165 x149 = some x161) N ?_ ?_
  ·
   exact ⟨0, E.pick _ ⟨rfl, rfl, rfl, rfl, rfl, trivial⟩, H.sel [4, 5, 6, 3] rfl, hL162⟩
  clear E H hL162; intro m165 a w164 hI_
  obtain ⟨x149, E, H, hP⟩ := hI_
  obtain ⟨m160, rfl⟩ : ∃ q_, m165 = q_ + 1 := by cases m165 with | zero => rw [guard_Store_Add_l0] at hP; cases hP | succ q_ => exact ⟨q_, rfl⟩
  rw [guard_Store_Add_l0] at hP
  refine wp_seq ?_
  refine wp_region_lit ?_
  refine vr tbok 1 [] [(0, .pointer (some ⟨g1, 0, none⟩)), (1, .slice A8 (List.length where_) c9), (20, .slice A8 (List.length where_) c9), (21, .int .i64 (((List.length where_) : Nat) : Int)), (22, .int .i64 x149), (23, .bool (decide (x149 < (((List.length where_) : Nat) : Int))))] [] E (by kernel_rfl) trivial ?_
  clear E; intro a E
  refine wpList_nil ?_
  refine th_n ?_
  refine wp_seq ?_
  refine E.cases (t := 23) rfl (fun hb_ E_ => ?_) (fun hb_ E_ => ?_)
  ·
   replace E := E_; clear E_
   have h167 : x149 < (((List.length where_) : Nat) : Int) := of_decide_eq_true hb_
   clear hb_; replace hP := ite_t h167 hP
   refine c_true E rfl ?_
   refine wp_skip ?_
   refine th_n ?_
   refine wp_seq ?_
   refine wp_block ?_
   refine wp_seq ?_
   refine wp_region_lit ?_
   obtain ⟨g168, hP⟩ := ask_inv hP
   obtain ⟨b169, o170, e_b169⟩ := (H.rd 3 rds_ro).addr (idx_pos g168)
   subst e_b169
   refine vr tbok 3 [.int .i64 (List.getD where_ (Int.toNat x149) 0)] [(0, .pointer (some ⟨g1, 0, none⟩)), (1, .slice (some ⟨b169, o170, none⟩) (List.length where_) c9), (7, .int .i64 (List.getD where_ (Int.toNat x149) 0)), (20, .slice (some ⟨b169, o170, none⟩) (List.length where_) c9), (21, .int .i64 (((List.length where_) : Nat) : Int)), (22, .int .i64 x149)] [0 ≤ x149 ∧ x149 < (((List.length where_) : Nat) : Int), World.cell? w164 ⟨b169, o170 + (Int.toNat x149) * 1, none⟩ = some (.int .i64 (List.getD where_ (Int.toNat x149) 0))] E (by kernel_rfl) ⟨g168, Rds.at1 (H.rd 3 rds_ro) 0 g168⟩ ?_
   clear E; intro a E
   refine wpList_nil ?_
   refine th_n ?_
   refine wp_seq ?_
   refine wp_region_lit ?_
   refine vr tbok 3 [] [(0, .pointer (some ⟨g1, 0, none⟩)), (1, .slice (some ⟨b169, o170, none⟩) (List.length where_) c9), (7, .int .i64 (List.getD where_ (Int.toNat x149) 0)), (20, .slice (some ⟨b169, o170, none⟩) (List.length where_) c9), (21, .int .i64 (((List.length where_) : Nat) : Int)), (22, .int .i64 x149), (28, .bool (decide ((List.getD where_ (Int.toNat x149) 0) < 0)))] [] E (by kernel_rfl) trivial ?_
   clear E; intro a E
   refine E.cases (t := 28) rfl (fun hb_ E_ => ?_) (fun hb_ E_ => ?_)
   ·
    replace E := E_; clear E_
    have h171 : (List.getD where_ (Int.toNat x149) 0) < 0 := of_decide_eq_true hb_
    clear hb_; replace hP := ite_t h171 hP
    refine vr tbok 3 [] [(0, .pointer (some ⟨g1, 0, none⟩)), (1, .slice (some ⟨b169, o170, none⟩) (List.length where_) c9), (20, .slice (some ⟨b169, o170, none⟩) (List.length where_) c9), (21, .int .i64 (((List.length where_) : Nat) : Int)), (22, .int .i64 x149), (31, .bool true)] [] E (by kernel_rfl) trivial ?_
    clear E; intro a E
    refine wpList_nil ?_
    refine th_n ?_
    refine c_true E rfl ?_
    refine wp_seq ?_
    refine wp_region_lit ?_
    refine vr tbok 2 [] [(4, .int .i64 0), (5, .int .i64 2)] [] E (by kernel_rfl) trivial ?_
    clear E; intro a E
    refine wpList_nil ?_
    refine th_n ?_
    refine wp_ret ?_
    refine bl_ret ?_
    refine th_ret ?_
    refine th_ret ?_
    refine .inr ⟨rfl, ?_⟩
    refine bl_ret ?_
    refine th_ret ?_
    have hx_ := Option.some.inj hP; subst hx_
    have hP : some ((0, 2, snodes, sat)) = some r := hK163
    obtain rfl := Option.some.inj hP
    refine ret2 E rfl rfl rfl ?_
    exact ⟨_, rfl, ⟨(0, 2, snodes, sat), A3, c4, rfl, rfl, H.sel [2, 0, 1] rfl⟩⟩
   replace E := E_; clear E_
   have h172 : ¬ ((List.getD where_ (Int.toNat x149) 0) < 0) := of_decide_eq_false hb_
   clear hb_; replace hP := ite_f h172 hP
   refine vr tbok 3 [] [(0, .pointer (some ⟨g1, 0, none⟩)), (1, .slice (some ⟨b169, o170, none⟩) (List.length where_) c9), (20, .slice (some ⟨b169, o170, none⟩) (List.length where_) c9), (21, .int .i64 (((List.length where_) : Nat) : Int)), (22, .int .i64 x149), (31, .bool (decide (1048575 < (List.getD where_ (Int.toNat x149) 0))))] [] E (by kernel_rfl) trivial ?_
   clear E; intro a E
   refine wpList_nil ?_
   refine th_n ?_
   refine E.cases (t := 31) rfl (fun hb_ E_ => ?_) (fun hb_ E_ => ?_)
   ·
    replace E := E_; clear E_
    have h173 : 1048575 < (List.getD where_ (Int.toNat x149) 0) := of_decide_eq_true hb_
    clear hb_; replace hP := ite_t h173 hP
    refine c_true E rfl ?_
    refine wp_seq ?_
    refine wp_region_lit ?_
    refine vr tbok 2 [] [(4, .int .i64 0), (5, .int .i64 2)] [] E (by kernel_rfl) trivial ?_
    clear E; intro a E
    refine wpList_nil ?_
    refine th_n ?_
    refine wp_ret ?_
    refine bl_ret ?_
    refine th_ret ?_
    refine th_ret ?_
    refine .inr ⟨rfl, ?_⟩
    refine bl_ret ?_
    refine th_ret ?_
    have hx_ := Option.some.inj hP; subst hx_
    have hP : some ((0, 2, snodes, sat)) = some r := hK163
    obtain rfl := Option.some.inj hP
    refine ret2 E rfl rfl rfl ?_
    exact ⟨_, rfl, ⟨(0, 2, snodes, sat), A3, c4, rfl, rfl, H.sel [2, 0, 1] rfl⟩⟩
   replace E := E_; clear E_
   have h174 : ¬ (1048575 < (List.getD where_ (Int.toNat x149) 0)) := of_decide_eq_false hb_
   clear hb_; replace hP := ite_f h174 hP
   refine c_false E rfl ?_
   refine wp_skip ?_
   refine bl_n ?_
   refine th_n ?_
   refine wp_region_lit ?_
   obtain ⟨g175, hP⟩ := ask_inv hP
   refine vr tbok 2 [.int .i64 (x149 + 1)] [(0, .pointer (some ⟨g1, 0, none⟩)), (1, .slice (some ⟨b169, o170, none⟩) (List.length where_) c9), (20, .slice (some ⟨b169, o170, none⟩) (List.length where_) c9), (21, .int .i64 (((List.length where_) : Nat) : Int)), (22, .int .i64 (x149 + 1))] [IntKind.i64.wrap (x149 + 1) = x149 + 1] E (by kernel_rfl) (wrap_in g175) ?_
   clear E; intro a E
   refine wpList_nil ?_
   exact th_n ⟨m160, Nat.lt_succ_self _, x149 + 1, E.pick _ ⟨rfl, rfl, rfl, rfl, rfl, trivial⟩, H.sel [0, 1, 2, 3] rfl, hP⟩
  replace E := E_; clear E_
  have h176 : ¬ (x149 < (((List.length where_) : Nat) : Int)) := of_decide_eq_false hb_
  clear hb_; replace hP := ite_f h176 hP
  refine c_false E rfl ?_
  refine wp_exit ?_
  refine th_exit ?_
  have hx_ := Option.some.inj hP
  refine th_exit (.inl ⟨0, rfl, ?_⟩)
  exact ⟨rfl, (), E.pick _ ⟨rfl, rfl, trivial⟩, H.sel [0, 1, 2, 3] rfl, hx_.symm⟩
 clear E H hL162; intro i_ a w164 hM_
 obtain ⟨rfl, x166, E, H, hx_⟩ := hM_
 subst hx_; have hP := elim_l hK163
 clear hK163
 refine bl_hit ?_
 refine th_n ?_
 refine wp_seq ?_
 refine wp_region_lit ?_
 refine vr tbok 5 [.slice A3 (List.length snodes) c4] [(0, .pointer (some ⟨g1, 0, none⟩)), (1, .slice A8 (List.length where_) c9), (37, .int .i64 (((List.length snodes) : Nat) : Int))] [World.cell? w164 ⟨g1, 1, none⟩ = some (.slice A3 (List.length snodes) c4)] E (by kernel_rfl) ((H.box 2 rfl).cell (j := 1) rfl) ?_
 clear E; intro a E
 refine h_alloc H E rfl rfl tbok rfl ?_
 intro w179 g178 a hc180 hg182 H_ E_
 replace E := E_ _ rfl; clear E_
 replace H := H_; clear H_; try dsimp only [setn, addE, goneL] at H
 refine h_store (g := g178) (off := 0) H 4 rfl E rfl rfl rfl rfl tbok rfl rfl rfl rfl rfl ?_
 clear E; intro w183 a hc184 H_ E
 replace H := H_; clear H_; try dsimp only [setn, addE, goneL] at H
 refine wpList_nil ?_
 refine th_n ?_
 refine wp_seq ?_
 refine wp_region_lit ?_
 refine vr tbok 2 [] [(0, .pointer (some ⟨g1, 0, none⟩)), (8, .pointer (some ⟨g178, 0, none⟩)), (38, .pointer (some ⟨g1, 0, none⟩)), (39, .slice A8 (List.length where_) c9)] [] E (by kernel_rfl) trivial ?_
 clear E; intro a E
 obtain ⟨r185, h186, hP⟩ := bind_inv hP
 obtain ⟨Fa187, Hc188, hb189⟩ := H.call [2, 0, 1] [(3, false)] rfl rfl ⟨flat_plain, trivial⟩
 refine e_call E rfl rfl Try.func32 rfl rfl rfl (guard_Store_add_calls N _ _ _ g1 A3 c4 g6 A8 c9 sn snodes sat where_ 0 _ hk10 Hc188 h186) ?_
 intro v195 w194 a hR196 E_
 obtain ⟨x_, A199, c200, hr_, rfl, HR198⟩ := hR196
 subst hr_
 replace E := E_ _ rfl; clear E_
 obtain ⟨H_, hc197⟩ := hb189 _ _ HR198 rfl
 replace H := H_; clear H_; try dsimp only [setn, addE, goneL] at H
 refine vr tbok 1 [] [(0, .pointer (some ⟨g1, 0, none⟩)), (8, .pointer (some ⟨g178, 0, none⟩)), (9, .int .i64 r185.1)] [] E (by kernel_rfl) trivial ?_
 clear E; intro a E
 refine wpList_nil ?_
 refine th_n ?_
 refine wp_seq ?_
 refine wp_seq ?_
 refine wp_region_lit ?_
 refine vr tbok 6 [.slice A199 (List.length r185.2.1) c200] [(0, .pointer (some ⟨g1, 0, none⟩)), (8, .pointer (some ⟨g178, 0, none⟩)), (9, .int .i64 r185.1), (46, .bool (decide (4096 < (((List.length r185.2.1) : Nat) : Int))))] [World.cell? w194 ⟨g1, 1, none⟩ = some (.slice A199 (List.length r185.2.1) c200)] E (by kernel_rfl) ((H.box 5 rfl).cell (j := 1) rfl) ?_
 clear E; intro a E
 refine wpList_nil ?_
 refine th_n ?_
 refine E.cases (t := 46) rfl (fun hb_ E_ => ?_) (fun hb_ E_ => ?_)
 ·
  replace E := E_; clear E_
  have h204 : 4096 < (((List.length r185.2.1) : Nat) : Int) := of_decide_eq_true hb_
  clear hb_; replace hP := ite_t h204 hP
  exact none_inv hP
  -- STOPPED: the operation range
 replace E := E_; clear E_
 have h214 : ¬ (4096 < (((List.length r185.2.1) : Nat) : Int)) := of_decide_eq_false hb_
 clear hb_; replace hP := ite_f h214 hP
 refine c_false E rfl ?_
 refine wp_skip ?_
 refine th_n ?_
 refine wp_seq ?_
 refine wp_region_lit ?_
 refine vr tbok 3 [] [(4, .int .i64 r185.1), (5, .int .i64 0)] [] E (by kernel_rfl) trivial ?_
 clear E; intro a E
 refine wpList_nil ?_
 refine th_n ?_
 refine wp_ret ?_
 obtain rfl := Option.some.inj hP
 refine ret2 E rfl rfl rfl ?_
 exact ⟨_, rfl, ⟨(r185.1, 0, r185.2.1, r185.2.2), A199, c200, rfl, rfl, H.sel [5, 6, 7] rfl⟩⟩

/-! (*rejoinder/guard.Store).Nodes -/
def guard_Store_Nodes (N : Nat) (sn : Int) (snodes : List Nd) (sat : List (Nd × Int)) : Option (List Nd) :=
  Option.bind (guard_Store_none N sn snodes sat) fun r112 =>
  if r112 = true then
    some []
  else
    ask (List.length ([] : List Nd) + List.length snodes ≤ 1000000000) <|
    some (([] : List Nd) ++ snodes)
set_option maxRecDepth 100000 in
set_option maxHeartbeats 4000000 in
theorem guard_Store_Nodes_calls {N : Nat} {S Fa : Nat → Prop} {w0 : World} {r : List Nd} (g1 : Nat) (A3 : Option Addr) (c4 : Nat) (g6 : Nat) (sn : Int) (snodes : List Nd) (sat : List (Nd × Int)) (H : Hp S Fa w0 w0 [.box g1 44 [.int .i64 sn, .slice A3 (List.length snodes) c4, .map (some g6)], .row true cNode 64 A3 c4 snodes, .mp Try.prog 64 g6 (List.map (fun p_ => (ndV p_.1, (fun u_ : Int => .int .i64 u_) p_.2)) sat)]) (hP : guard_Store_Nodes N sn snodes sat = some r) :
    Calls Try.prog 18 #[.pointer (some ⟨g1, 0, none⟩)] w0 fun e w' => ∃ v, e = .returned v ∧ (∃ (x_ : List Nd) (A10 : Option Addr) (c11 : Nat), r = x_ ∧ v = .slice A10 (List.length x_) c11 ∧ Hp S Fa w0 w' [.row true cNode 64 A10 c11 x_, .row true cNode 64 A3 c4 snodes, .mp Try.prog 64 g6 (List.map (fun p_ => (ndV p_.1, (fun u_ : Int => .int .i64 u_) p_.2)) sat), .box g1 44 [.int .i64 sn, .slice A3 (List.length snodes) c4, .map (some g6)]]) := by
 refine enterV (n := 11) Try.func18 rfl rfl rfl ?_
 intro a E
 replace E := E.pick [(0, .pointer (some ⟨g1, 0, none⟩))] ⟨rfl, trivial⟩
 rw [guard_Store_Nodes] at hP
 refine wp_seq ?_
 refine wp_region_lit ?_
 refine vr tbok 1 [] [(0, .pointer (some ⟨g1, 0, none⟩))] [] E (by kernel_rfl) trivial ?_
 clear E; intro a E
 refine wpList_nil ?_
 refine th_n ?_
 refine wp_seq ?_
 refine wp_seq ?_
 refine wp_region_lit ?_
 refine vr tbok 1 [] [(0, .pointer (some ⟨g1, 0, none⟩)), (3, .pointer (some ⟨g1, 0, none⟩))] [] E (by kernel_rfl) trivial ?_
 clear E; intro a E
 obtain ⟨r112, h113, hP⟩ := bind_inv hP
 obtain ⟨Fa114, Hc115, hb116⟩ := H.call [0, 1, 2] [] rfl rfl ⟨flat_plain, trivial⟩
 refine e_call E rfl rfl Try.func31 rfl rfl rfl (guard_Store_none_calls g1 A3 c4 g6 sn snodes sat  Hc115 h113) ?_
 intro v122 w121 a hR123 E_
 obtain ⟨x_, hr_, rfl, HR125⟩ := hR123
 subst hr_
 replace E := E_ _ rfl; clear E_
 obtain ⟨H_, hc124⟩ := hb116 _ _ HR125 rfl
 replace H := H_; clear H_; try dsimp only [setn, addE, goneL] at H
 refine wpList_nil ?_
 refine th_n ?_
 refine E.cases (t := 4) rfl (fun hb_ E_ => ?_) (fun hb_ E_ => ?_)
 ·
  replace E := E_; clear E_
  have h129 : r112 = true := hb_
  clear hb_; replace hP := ite_t h129 hP
  refine c_true E rfl ?_
  refine wp_seq ?_
  refine wp_region_lit ?_
  refine vr tbok 1 [] [(2, .slice none 0 0)] [] E (by kernel_rfl) trivial ?_
  clear E; intro a E
  refine wpList_nil ?_
  refine th_n ?_
  refine wp_ret ?_
  refine th_ret ?_
  replace H := H.nilrow cNode 64; try dsimp only [setn, addE, goneL] at H
  obtain rfl := Option.some.inj hP
  refine ret1 E rfl rfl ?_
  exact ⟨_, rfl, ⟨[], none, 0, rfl, rfl, H.sel [6, 3, 4, 5] rfl⟩⟩
 replace E := E_; clear E_
 have h131 : ¬ (r112 = true) := (ne_true_of_eq_false hb_)
 clear hb_; replace hP := ite_f h131 hP
 refine c_false E rfl ?_
 refine wp_skip ?_
 refine th_n ?_
 refine wp_seq ?_
 refine wp_region_lit ?_
 refine h_buildSlice (ps := []) (cs := []) H E rfl rfl tbok rfl rfl (by kernel_rfl) ?_
 intro w133 g132 a hc134 hg136 H_ E_
 replace E := E_ _ rfl; clear E_
 replace H := H_; clear H_; try dsimp only [setn, addE, goneL] at H
 refine vr tbok 4 [.slice A3 (List.length snodes) c4] [(5, .slice (some ⟨g132, 0, none⟩) 0 0), (9, .slice A3 (List.length snodes) c4)] [World.cell? w133 ⟨g1, 1, none⟩ = some (.slice A3 (List.length snodes) c4)] E (by kernel_rfl) ((H.box 5 rfl).cell (j := 1) rfl) ?_
 clear E; intro a E
 replace H := H.boxRow cNode true ([] : List Nd) 6 rfl (fun _ _ => rfl) (Nat.le_of_ble_eq_true rfl); try dsimp only [setn, addE, goneL] at H
 replace H := H.rowx 6 rfl; try dsimp only [setn, addE, goneL] at H
 obtain ⟨g137, hP⟩ := ask_inv hP
 refine h_append cNode (xs := ([] : List Nd)) (ys := snodes) ((default : Nd) : Nd) H 6 rfl E rfl rfl tbok rfl rfl rfl rfl rfl (fun _ _ => rfl) rfl rfl (fun _ HF_ => HF_.srcF flat_plain 3 rds_row) g137 ?_
 intro w138 A139 c140 a hc141 hA142 H_ E_
 replace E := E_ _ rfl; clear E_
 replace H := H_; clear H_; try dsimp only [setn, addE, goneL] at H
 refine vr tbok 1 [] [(2, .slice A139 (List.length (([] : List Nd) ++ snodes)) c140)] [] E (by kernel_rfl) trivial ?_
 clear E; intro a E
 refine wpList_nil ?_
 refine th_n ?_
 refine wp_ret ?_
 obtain rfl := Option.some.inj hP
 refine ret1 E rfl rfl ?_
 exact ⟨_, rfl, ⟨([] : List Nd) ++ snodes, A139, c140, rfl, rfl, H.sel [6, 3, 4, 5] rfl⟩⟩

/-! rejoinder/guard.Go -/
def guard_Go_l0 (N : Nat) (nodes : List Nd) (ll : Int) : Nat → Int → Int → Option (Unit ⊕ (Int × Bool))
  | 0, _, _ => none
  | m55 + 1, ref27, x28 =>
    if x28 < 9 then
      if ref27 < 0 then
        ask (in64 ((-1) - ref27)) <|
        some (Sum.inr ((-1) - ref27, true))
      else
        if (((List.length nodes) : Nat) : Int) ≤ ref27 then
          some (Sum.inr (0, false))
        else
          ask (idx ref27 (List.length nodes)) <|
          if ((List.getD nodes (Int.toNat ref27) (default : Nd)).P) < 0 then
            some (Sum.inr (0, false))
          else
            if 8 ≤ ((List.getD nodes (Int.toNat ref27) (default : Nd)).P) then
              some (Sum.inr (0, false))
            else
              ask (0 ≤ ((List.getD nodes (Int.toNat ref27) (default : Nd)).P)) <|
              if (andV .u8 (shrV .u8 ll ((List.getD nodes (Int.toNat ref27) (default : Nd)).P)) 1 : Int) = 1 then
                ask (in64 (x28 + 1)) <|
                guard_Go_l0 N nodes ll m55 ((List.getD nodes (Int.toNat ref27) (default : Nd)).Hi) (x28 + 1)
              else
                ask (in64 (x28 + 1)) <|
                guard_Go_l0 N nodes ll m55 ((List.getD nodes (Int.toNat ref27) (default : Nd)).Lo) (x28 + 1)
    else
      some (Sum.inl ())
def guard_Go (N : Nat) (nodes : List Nd) (ref : Int) (ll : Int) : Option (Int × Bool) :=
  Option.bind (guard_Go_l0 N nodes ll N ref 0) fun x56 =>
  Sum.elim (fun x61 =>
    some (0, false))
   (fun x88 =>
    some x88) x56
set_option maxRecDepth 100000 in
set_option maxHeartbeats 4000000 in
theorem guard_Go_calls {N : Nat} {S Fa : Nat → Prop} {w0 : World} {r : Int × Bool} (A1 : Option Addr) (c2 : Nat) (nodes : List Nd) (ref : Int) (ll : Int) (hk3 : List.length nodes ≤ c2) (H : Hp S Fa w0 w0 [.ro false cNode A1 nodes]) (hP : guard_Go N nodes ref ll = some r) :
    Calls Try.prog 9 #[.slice A1 (List.length nodes) c2, .int .i64 ref, .int .u8 ll] w0 fun e w' => ∃ v, e = .returned v ∧ v = .tuple #[.int .i64 r.1, .bool r.2] ∧ Hp S Fa w0 w' [] := by
 refine enterV (n := 50) Try.func9 rfl rfl rfl ?_
 intro a E
 replace E := E.pick [(0, .slice A1 (List.length nodes) c2), (1, .int .i64 ref), (2, .int .u8 ll)] ⟨rfl, rfl, rfl, trivial⟩
 rw [guard_Go] at hP
 refine wp_seq ?_
 refine wp_region_lit ?_
 refine vr tbok 2 [] [(0, .slice A1 (List.length nodes) c2), (1, .int .i64 ref), (2, .int .u8 ll)] [] E (by kernel_rfl) trivial ?_
 clear E; intro a E
 refine wpList_nil ?_
 refine th_n ?_
 refine wp_seq ?_
 refine wp_seq ?_
 refine wp_region_lit ?_
 refine vr tbok 1 [] [(0, .slice A1 (List.length nodes) c2), (1, .int .i64 ref), (2, .int .u8 ll), (9, .int .i64 0)] [] E (by kernel_rfl) trivial ?_
 clear E; intro a E
 refine wpList_nil ?_
 refine th_n ?_
 refine wp_block ?_
 obtain ⟨x56, hL57, hK58⟩ := bind_inv hP
 clear hP
 refine loop_cut (fun i_ a w_ => (i_ = 0 ∧ ∃ (x61 : Unit), Fr a 50 [] ∧ Hp S Fa w0 w_ [] ∧ x56 = Sum.inl x61)) ?_ ?_
 ·
  refine loopV (fun m60 a w59 => ∃ (ref27 : Int) (x28 : Int), Fr a 50 [(0, .slice A1 (List.length nodes) c2), (1, .int .i64 ref27), (2, .int .u8 ll), (9, .int .i64 x28)] ∧ Hp S Fa w0 w59 [.ro false cNode A1 nodes] ∧ guard_Go_l0 N nodes ll m60 ref27 x28 = some x56) N ?_ ?_
  ·
   exact ⟨ref, 0, E.pick _ ⟨rfl, rfl, rfl, rfl, trivial⟩, H.sel [0] rfl, hL57⟩
  clear E H hL57; intro m60 a w59 hI_
  obtain ⟨ref27, x28, E, H, hP⟩ := hI_
  obtain ⟨m55, rfl⟩ : ∃ q_, m60 = q_ + 1 := by cases m60 with | zero => rw [guard_Go_l0] at hP; cases hP | succ q_ => exact ⟨q_, rfl⟩
  rw [guard_Go_l0] at hP
  refine wp_seq ?_
  refine wp_region_lit ?_
  refine vr tbok 1 [] [(0, .slice A1 (List.length nodes) c2), (1, .int .i64 ref27), (2, .int .u8 ll), (9, .int .i64 x28), (10, .bool (decide (x28 < 9)))] [] E (by kernel_rfl) trivial ?_
  clear E; intro a E
  refine wpList_nil ?_
  refine th_n ?_
  refine wp_seq ?_
  refine E.cases (t := 10) rfl (fun hb_ E_ => ?_) (fun hb_ E_ => ?_)
  ·
   replace E := E_; clear E_
   have h62 : x28 < 9 := of_decide_eq_true hb_
   clear hb_; replace hP := ite_t h62 hP
   refine c_true E rfl ?_
   refine wp_skip ?_
   refine th_n ?_
   refine wp_seq ?_
   refine wp_block ?_
   refine wp_seq ?_
   refine wp_seq ?_
   refine wp_region_lit ?_
   refine vr tbok 2 [] [(0, .slice A1 (List.length nodes) c2), (1, .int .i64 ref27), (2, .int .u8 ll), (9, .int .i64 x28), (12, .bool (decide (ref27 < 0)))] [] E (by kernel_rfl) trivial ?_
   clear E; intro a E
   refine wpList_nil ?_
   refine th_n ?_
   refine E.cases (t := 12) rfl (fun hb_ E_ => ?_) (fun hb_ E_ => ?_)
   ·
    replace E := E_; clear E_
    have h63 : ref27 < 0 := of_decide_eq_true hb_
    clear hb_; replace hP := ite_t h63 hP
    refine c_true E rfl ?_
    refine wp_seq ?_
    refine wp_region_lit ?_
    obtain ⟨g64, hP⟩ := ask_inv hP
    refine vr tbok 4 [.int .i64 ((-1) - ref27)] [(6, .int .i64 ((-1) - ref27)), (7, .bool true)] [IntKind.i64.wrap ((-1) - ref27) = (-1) - ref27] E (by kernel_rfl) (wrap_in g64) ?_
    clear E; intro a E
    refine wpList_nil ?_
    refine th_n ?_
    refine wp_ret ?_
    refine th_ret ?_
    refine bl_ret ?_
    refine th_ret ?_
    refine th_ret ?_
    refine .inr ⟨rfl, ?_⟩
    refine bl_ret ?_
    refine th_ret ?_
    have hx_ := Option.some.inj hP; subst hx_
    have hP : some (((-1) - ref27, true)) = some r := hK58
    obtain rfl := Option.some.inj hP
    refine ret2 E rfl rfl rfl ?_
    exact ⟨_, rfl, rfl, H.sel [] rfl⟩
   replace E := E_; clear E_
   have h65 : ¬ (ref27 < 0) := of_decide_eq_false hb_
   clear hb_; replace hP := ite_f h65 hP
   refine c_false E rfl ?_
   refine wp_skip ?_
   refine th_n ?_
   refine wp_seq ?_
   refine wp_seq ?_
   refine wp_region_lit ?_
   refine vr tbok 5 [] [(0, .slice A1 (List.length nodes) c2), (1, .int .i64 ref27), (2, .int .u8 ll), (9, .int .i64 x28), (19, .bool (decide ((((List.length nodes) : Nat) : Int) ≤ ref27)))] [] E (by kernel_rfl) trivial ?_
   clear E; intro a E
   refine E.cases (t := 19) rfl (fun hb_ E_ => ?_) (fun hb_ E_ => ?_)
   ·
    replace E := E_; clear E_
    have h66 : (((List.length nodes) : Nat) : Int) ≤ ref27 := of_decide_eq_true hb_
    clear hb_; replace hP := ite_t h66 hP
    refine vr tbok 15 [] [(0, .slice A1 (List.length nodes) c2), (1, .int .i64 ref27), (2, .int .u8 ll), (9, .int .i64 x28), (34, .bool true)] [] E (by kernel_rfl) trivial ?_
    clear E; intro a E
    refine wpList_nil ?_
    refine th_n ?_
    refine c_true E rfl ?_
    refine wp_seq ?_
    refine wp_region_lit ?_
    refine vr tbok 2 [] [(6, .int .i64 0), (7, .bool false)] [] E (by kernel_rfl) trivial ?_
    clear E; intro a E
    refine wpList_nil ?_
    refine th_n ?_
    refine wp_ret ?_
    refine th_ret ?_
    refine bl_ret ?_
    refine th_ret ?_
    refine th_ret ?_
    refine .inr ⟨rfl, ?_⟩
    refine bl_ret ?_
    refine th_ret ?_
    have hx_ := Option.some.inj hP; subst hx_
    have hP : some ((0, false)) = some r := hK58
    obtain rfl := Option.some.inj hP
    refine ret2 E rfl rfl rfl ?_
    exact ⟨_, rfl, rfl, H.sel [] rfl⟩
   replace E := E_; clear E_
   have h67 : ¬ ((((List.length nodes) : Nat) : Int) ≤ ref27) := of_decide_eq_false hb_
   clear hb_; replace hP := ite_f h67 hP
   obtain ⟨g68, hP⟩ := ask_inv hP
   obtain ⟨b69, o70, e_b69⟩ := (H.rd 0 rds_ro).addr (idx_pos g68)
   subst e_b69
   refine vr tbok 8 [.int .i64 ((List.getD nodes (Int.toNat ref27) (default : Nd)).P)] [(0, .slice (some ⟨b69, o70, none⟩) (List.length nodes) c2), (1, .int .i64 ref27), (2, .int .u8 ll), (9, .int .i64 x28), (27, .bool (decide (((List.getD nodes (Int.toNat ref27) (default : Nd)).P) < 0)))] [0 ≤ ref27 ∧ ref27 < (((List.length nodes) : Nat) : Int), World.cell? w59 ⟨b69, o70 + (Int.toNat ref27) * 3, none⟩ = some (.int .i64 ((List.getD nodes (Int.toNat ref27) (default : Nd)).P))] E (by kernel_rfl) ⟨g68, (Rds.atP (H.rd 0 rds_ro) (default : Nd) g68).1⟩ ?_
   clear E; intro a E
   refine E.cases (t := 27) rfl (fun hb_ E_ => ?_) (fun hb_ E_ => ?_)
   ·
    replace E := E_; clear E_
    have h71 : ((List.getD nodes (Int.toNat ref27) (default : Nd)).P) < 0 := of_decide_eq_true hb_
    clear hb_; replace hP := ite_t h71 hP
    refine vr tbok 7 [] [(0, .slice (some ⟨b69, o70, none⟩) (List.length nodes) c2), (1, .int .i64 ref27), (2, .int .u8 ll), (9, .int .i64 x28), (34, .bool true)] [] E (by kernel_rfl) trivial ?_
    clear E; intro a E
    refine wpList_nil ?_
    refine th_n ?_
    refine c_true E rfl ?_
    refine wp_seq ?_
    refine wp_region_lit ?_
    refine vr tbok 2 [] [(6, .int .i64 0), (7, .bool false)] [] E (by kernel_rfl) trivial ?_
    clear E; intro a E
    refine wpList_nil ?_
    refine th_n ?_
    refine wp_ret ?_
    refine th_ret ?_
    refine bl_ret ?_
    refine th_ret ?_
    refine th_ret ?_
    refine .inr ⟨rfl, ?_⟩
    refine bl_ret ?_
    refine th_ret ?_
    have hx_ := Option.some.inj hP; subst hx_
    have hP : some ((0, false)) = some r := hK58
    obtain rfl := Option.some.inj hP
    refine ret2 E rfl rfl rfl ?_
    exact ⟨_, rfl, rfl, H.sel [] rfl⟩
   replace E := E_; clear E_
   have h72 : ¬ (((List.getD nodes (Int.toNat ref27) (default : Nd)).P) < 0) := of_decide_eq_false hb_
   clear hb_; replace hP := ite_f h72 hP
   refine vr tbok 7 [.int .i64 ((List.getD nodes (Int.toNat ref27) (default : Nd)).P)] [(0, .slice (some ⟨b69, o70, none⟩) (List.length nodes) c2), (1, .int .i64 ref27), (2, .int .u8 ll), (9, .int .i64 x28), (34, .bool (decide (8 ≤ ((List.getD nodes (Int.toNat ref27) (default : Nd)).P))))] [0 ≤ ref27 ∧ ref27 < (((List.length nodes) : Nat) : Int), World.cell? w59 ⟨b69, o70 + (Int.toNat ref27) * 3, none⟩ = some (.int .i64 ((List.getD nodes (Int.toNat ref27) (default : Nd)).P))] E (by kernel_rfl) ⟨g68, (Rds.atP (H.rd 0 rds_ro) (default : Nd) g68).1⟩ ?_
   clear E; intro a E
   refine wpList_nil ?_
   refine th_n ?_
   refine E.cases (t := 34) rfl (fun hb_ E_ => ?_) (fun hb_ E_ => ?_)
   ·
    replace E := E_; clear E_
    have h73 : 8 ≤ ((List.getD nodes (Int.toNat ref27) (default : Nd)).P) := of_decide_eq_true hb_
    clear hb_; replace hP := ite_t h73 hP
    refine c_true E rfl ?_
    refine wp_seq ?_
    refine wp_region_lit ?_
    refine vr tbok 2 [] [(6, .int .i64 0), (7, .bool false)] [] E (by kernel_rfl) trivial ?_
    clear E; intro a E
    refine wpList_nil ?_
    refine th_n ?_
    refine wp_ret ?_
    refine th_ret ?_
    refine bl_ret ?_
    refine th_ret ?_
    refine th_ret ?_
    refine .inr ⟨rfl, ?_⟩
    refine bl_ret ?_
    refine th_ret ?_
    have hx_ := Option.some.inj hP; subst hx_
    have hP : some ((0, false)) = some r := hK58
    obtain rfl := Option.some.inj hP
    refine ret2 E rfl rfl rfl ?_
    exact ⟨_, rfl, rfl, H.sel [] rfl⟩
   replace E := E_; clear E_
   have h74 : ¬ (8 ≤ ((List.getD nodes (Int.toNat ref27) (default : Nd)).P)) := of_decide_eq_false hb_
   clear hb_; replace hP := ite_f h74 hP
   refine c_false E rfl ?_
   refine wp_skip ?_
   refine th_n ?_
   refine wp_seq ?_
   refine wp_region_lit ?_
   refine vr tbok 4 [.agg #[.int .i64 ((List.getD nodes (Int.toNat ref27) (default : Nd)).P), .int .i64 ((List.getD nodes (Int.toNat ref27) (default : Nd)).Lo), .int .i64 ((List.getD nodes (Int.toNat ref27) (default : Nd)).Hi)]] [(0, .slice (some ⟨b69, o70, none⟩) (List.length nodes) c2), (2, .int .u8 ll), (9, .int .i64 x28), (38, .agg #[.int .i64 ((List.getD nodes (Int.toNat ref27) (default : Nd)).P), .int .i64 ((List.getD nodes (Int.toNat ref27) (default : Nd)).Lo), .int .i64 ((List.getD nodes (Int.toNat ref27) (default : Nd)).Hi)])] [0 ≤ ref27 ∧ ref27 < (((List.length nodes) : Nat) : Int), cellsAt w59 b69 (o70 + (Int.toNat ref27) * 3) [.int .i64 ((List.getD nodes (Int.toNat ref27) (default : Nd)).P), .int .i64 ((List.getD nodes (Int.toNat ref27) (default : Nd)).Lo), .int .i64 ((List.getD nodes (Int.toNat ref27) (default : Nd)).Hi)]] E (by kernel_rfl) ⟨g68, Rds.atP (H.rd 0 rds_ro) (default : Nd) g68⟩ ?_
   clear E; intro a E
   refine h_alloc H E rfl rfl tbok rfl ?_
   intro w76 g75 a hc77 hg79 H_ E_
   replace E := E_ _ rfl; clear E_
   replace H := H_; clear H_; try dsimp only [setn, addE, goneL] at H
   refine h_store (g := g75) (off := 0) H 1 rfl E rfl rfl rfl rfl tbok rfl rfl rfl rfl rfl ?_
   clear E; intro w80 a hc81 H_ E
   replace H := H_; clear H_; try dsimp only [setn, addE, goneL] at H
   refine wpList_nil ?_
   refine th_n ?_
   refine wp_seq ?_
   refine wp_region_lit ?_
   refine vr tbok 3 [.int .i64 ((List.getD nodes (Int.toNat ref27) (default : Nd)).Lo)] [(0, .slice (some ⟨b69, o70, none⟩) (List.length nodes) c2), (1, .int .i64 ((List.getD nodes (Int.toNat ref27) (default : Nd)).Lo)), (2, .int .u8 ll), (8, .pointer (some ⟨g75, 0, none⟩)), (9, .int .i64 x28)] [World.cell? w80 ⟨g75, 1, none⟩ = some (.int .i64 ((List.getD nodes (Int.toNat ref27) (default : Nd)).Lo))] E (by kernel_rfl) ((H.box 1 rfl).cell (j := 1) rfl) ?_
   clear E; intro a E
   refine wpList_nil ?_
   refine th_n ?_
   refine wp_seq ?_
   refine wp_region_lit ?_
   obtain ⟨g82, hP⟩ := ask_inv hP
   refine vr tbok 6 [.int .i64 ((List.getD nodes (Int.toNat ref27) (default : Nd)).P), .int .u8 (shrV .u8 ll ((List.getD nodes (Int.toNat ref27) (default : Nd)).P)), .int .u8 (andV .u8 (shrV .u8 ll ((List.getD nodes (Int.toNat ref27) (default : Nd)).P)) 1)] [(0, .slice (some ⟨b69, o70, none⟩) (List.length nodes) c2), (1, .int .i64 ((List.getD nodes (Int.toNat ref27) (default : Nd)).Lo)), (2, .int .u8 ll), (8, .pointer (some ⟨g75, 0, none⟩)), (9, .int .i64 x28), (46, .bool ((andV .u8 (shrV .u8 ll ((List.getD nodes (Int.toNat ref27) (default : Nd)).P)) 1 : Int) == 1))] [World.cell? w80 ⟨g75, 0, none⟩ = some (.int .i64 ((List.getD nodes (Int.toNat ref27) (default : Nd)).P)), 0 ≤ ((List.getD nodes (Int.toNat ref27) (default : Nd)).P) ∧ Int.fdiv ll (2 ^ (min (Int.toNat ((List.getD nodes (Int.toNat ref27) (default : Nd)).P)) (IntKind.bits .u8))) = shrV .u8 ll ((List.getD nodes (Int.toNat ref27) (default : Nd)).P), IntKind.u8.wrap (BitVec.ofInt (IntKind.bits .u8) (shrV .u8 ll ((List.getD nodes (Int.toNat ref27) (default : Nd)).P)) &&& BitVec.ofInt (IntKind.bits .u8) 1).toNat = andV .u8 (shrV .u8 ll ((List.getD nodes (Int.toNat ref27) (default : Nd)).P)) 1] E (by kernel_rfl) ⟨(H.box 1 rfl).cell (j := 0) rfl, ⟨g82, rfl⟩, rfl⟩ ?_
   clear E; intro a E
   refine wpList_nil ?_
   refine th_n ?_
   refine E.cases (t := 46) rfl (fun hb_ E_ => ?_) (fun hb_ E_ => ?_)
   ·
    replace E := E_; clear E_
    have h83 : (andV .u8 (shrV .u8 ll ((List.getD nodes (Int.toNat ref27) (default : Nd)).P)) 1 : Int) = 1 := eq_of_beq hb_
    clear hb_; replace hP := ite_t h83 hP
    refine c_true E rfl ?_
    refine wp_region_lit ?_
    refine vr tbok 3 [.int .i64 ((List.getD nodes (Int.toNat ref27) (default : Nd)).Hi)] [(0, .slice (some ⟨b69, o70, none⟩) (List.length nodes) c2), (1, .int .i64 ((List.getD nodes (Int.toNat ref27) (default : Nd)).Hi)), (2, .int .u8 ll), (9, .int .i64 x28)] [World.cell? w80 ⟨g75, 2, none⟩ = some (.int .i64 ((List.getD nodes (Int.toNat ref27) (default : Nd)).Hi))] E (by kernel_rfl) ((H.box 1 rfl).cell (j := 2) rfl) ?_
    clear E; intro a E
    refine wpList_nil ?_
    refine bl_n ?_
    refine th_n ?_
    refine wp_region_lit ?_
    obtain ⟨g84, hP⟩ := ask_inv hP
    refine vr tbok 2 [.int .i64 (x28 + 1)] [(0, .slice (some ⟨b69, o70, none⟩) (List.length nodes) c2), (1, .int .i64 ((List.getD nodes (Int.toNat ref27) (default : Nd)).Hi)), (2, .int .u8 ll), (9, .int .i64 (x28 + 1))] [IntKind.i64.wrap (x28 + 1) = x28 + 1] E (by kernel_rfl) (wrap_in g84) ?_
    clear E; intro a E
    refine wpList_nil ?_
    exact th_n ⟨m55, Nat.lt_succ_self _, (List.getD nodes (Int.toNat ref27) (default : Nd)).Hi, x28 + 1, E.pick _ ⟨rfl, rfl, rfl, rfl, trivial⟩, H.sel [0] rfl, hP⟩
   replace E := E_; clear E_
   have h85 : ¬ ((andV .u8 (shrV .u8 ll ((List.getD nodes (Int.toNat ref27) (default : Nd)).P)) 1 : Int) = 1) := ne_of_beq_false hb_
   clear hb_; replace hP := ite_f h85 hP
   refine c_false E rfl ?_
   refine wp_skip ?_
   refine bl_n ?_
   refine th_n ?_
   refine wp_region_lit ?_
   obtain ⟨g86, hP⟩ := ask_inv hP
   refine vr tbok 2 [.int .i64 (x28 + 1)] [(0, .slice (some ⟨b69, o70, none⟩) (List.length nodes) c2), (1, .int .i64 ((List.getD nodes (Int.toNat ref27) (default : Nd)).Lo)), (2, .int .u8 ll), (9, .int .i64 (x28 + 1))] [IntKind.i64.wrap (x28 + 1) = x28 + 1] E (by kernel_rfl) (wrap_in g86) ?_
   clear E; intro a E
   refine wpList_nil ?_
   exact th_n ⟨m55, Nat.lt_succ_self _, (List.getD nodes (Int.toNat ref27) (default : Nd)).Lo, x28 + 1, E.pick _ ⟨rfl, rfl, rfl, rfl, trivial⟩, H.sel [0] rfl, hP⟩
  replace E := E_; clear E_
  have h87 : ¬ (x28 < 9) := of_decide_eq_false hb_
  clear hb_; replace hP := ite_f h87 hP
  refine c_false E rfl ?_
  refine wp_exit ?_
  refine th_exit ?_
  have hx_ := Option.some.inj hP
  refine th_exit (.inl ⟨0, rfl, ?_⟩)
  exact ⟨rfl, (), E.pick _ trivial, H.sel [] rfl, hx_.symm⟩
 clear E H hL57; intro i_ a w59 hM_
 obtain ⟨rfl, x61, E, H, hx_⟩ := hM_
 subst hx_; have hP := elim_l hK58
 clear hK58
 refine bl_hit ?_
 refine th_n ?_
 refine wp_seq ?_
 refine wp_region_lit ?_
 refine vr tbok 2 [] [(6, .int .i64 0), (7, .bool false)] [] E (by kernel_rfl) trivial ?_
 clear E; intro a E
 refine wpList_nil ?_
 refine th_n ?_
 refine wp_ret ?_
 obtain rfl := Option.some.inj hP
 refine ret2 E rfl rfl rfl ?_
 exact ⟨_, rfl, rfl, H.sel [] rfl⟩

/-! rejoinder/guard.Table -/
def guard_Table_l0 (N : Nat) (n : Int) (nodes : List Nd) (ref : Int) : Nat → (List Int) → Int → Option ((List Int) ⊕ ((List Int) × Int))
  | 0, _, _ => none
  | m72 + 1, out38, x41 =>
    if x41 < (shlV .i64 1 n) then
      Option.bind (guard_Go N nodes ref (IntKind.u8.wrap x41)) fun r81 =>
      if r81.2 = true then
        ask (List.length out38 + List.length ([r81.1] : List Int) ≤ 1000000000) <|
        ask (in64 (x41 + 1)) <|
        guard_Table_l0 N n nodes ref m72 (out38 ++ ([r81.1] : List Int)) (x41 + 1)
      else
        some (Sum.inr ([], 12))
    else
      some (Sum.inl out38)
def guard_Table (N : Nat) (n : Int) (nodes : List Nd) (ref : Int) : Option ((List Int) × Int) :=
  if n < 0 then
    some ([], 2)
  else
    if 8 < n then
      some ([], 2)
    else
      ask (0 ≤ n) <|
      Option.bind (guard_Table_l0 N n nodes ref N [] 0) fun x73 =>
      Sum.elim (fun x79 =>
        some (x79, 0))
       (fun x106 =>
        some x106) x73
set_option maxRecDepth 100000 in
set_option maxHeartbeats 4000000 in
theorem guard_Table_calls {N : Nat} {S Fa : Nat → Prop} {w0 : World} {r : (List Int) × Int} (A1 : Option Addr) (c2 : Nat) (n : Int) (nodes : List Nd) (ref : Int) (hk3 : List.length nodes ≤ c2) (H : Hp S Fa w0 w0 [.ro false cNode A1 nodes]) (hP : guard_Table N n nodes ref = some r) :
    Calls Try.prog 11 #[.int .i64 n, .slice A1 (List.length nodes) c2, .int .i64 ref] w0 fun e w' => ∃ v, e = .returned v ∧ ∃ (A107 : Option Addr) (c108 : Nat), v = .tuple #[.slice A107 (List.length r.1) c108, .int .i64 r.2] ∧ Hp S Fa w0 w' [.row true (cInt .i64) 3 A107 c108 r.1] := by
 refine enterV (n := 39) Try.func11 rfl rfl rfl ?_
 intro a E
 replace E := E.pick [(0, .int .i64 n), (1, .slice A1 (List.length nodes) c2), (2, .int .i64 ref)] ⟨rfl, rfl, rfl, trivial⟩
 rw [guard_Table] at hP
 refine wp_seq ?_
 refine wp_region_lit ?_
 refine vr tbok 2 [] [(0, .int .i64 n), (1, .slice A1 (List.length nodes) c2), (2, .int .i64 ref)] [] E (by kernel_rfl) trivial ?_
 clear E; intro a E
 refine wpList_nil ?_
 refine th_n ?_
 refine wp_seq ?_
 refine wp_seq ?_
 refine wp_region_lit ?_
 refine vr tbok 3 [] [(0, .int .i64 n), (1, .slice A1 (List.length nodes) c2), (2, .int .i64 ref), (14, .bool (decide (n < 0)))] [] E (by kernel_rfl) trivial ?_
 clear E; intro a E
 refine E.cases (t := 14) rfl (fun hb_ E_ => ?_) (fun hb_ E_ => ?_)
 ·
  replace E := E_; clear E_
  have h5 : n < 0 := of_decide_eq_true hb_
  clear hb_; replace hP := ite_t h5 hP
  refine vr tbok 3 [] [(0, .int .i64 n), (1, .slice A1 (List.length nodes) c2), (2, .int .i64 ref), (17, .bool true)] [] E (by kernel_rfl) trivial ?_
  clear E; intro a E
  refine wpList_nil ?_
  refine th_n ?_
  refine c_true E rfl ?_
  refine wp_seq ?_
  refine wp_region_lit ?_
  refine vr tbok 2 [] [(6, .slice none 0 0), (7, .int .i64 2)] [] E (by kernel_rfl) trivial ?_
  clear E; intro a E
  refine wpList_nil ?_
  refine th_n ?_
  refine wp_ret ?_
  refine th_ret ?_
  replace H := H.nilrow (cInt .i64) 3; try dsimp only [setn, addE, goneL] at H
  obtain rfl := Option.some.inj hP
  refine ret2 E rfl rfl rfl ?_
  exact ⟨_, rfl, none, 0, rfl, H.sel [1] rfl⟩
 replace E := E_; clear E_
 have h7 : ¬ (n < 0) := of_decide_eq_false hb_
 clear hb_; replace hP := ite_f h7 hP
 refine vr tbok 3 [] [(0, .int .i64 n), (1, .slice A1 (List.length nodes) c2), (2, .int .i64 ref), (17, .bool (decide (8 < n)))] [] E (by kernel_rfl) trivial ?_
 clear E; intro a E
 refine wpList_nil ?_
 refine th_n ?_
 refine E.cases (t := 17) rfl (fun hb_ E_ => ?_) (fun hb_ E_ => ?_)
 ·
  replace E := E_; clear E_
  have h8 : 8 < n := of_decide_eq_true hb_
  clear hb_; replace hP := ite_t h8 hP
  refine c_true E rfl ?_
  refine wp_seq ?_
  refine wp_region_lit ?_
  refine vr tbok 2 [] [(6, .slice none 0 0), (7, .int .i64 2)] [] E (by kernel_rfl) trivial ?_
  clear E; intro a E
  refine wpList_nil ?_
  refine th_n ?_
  refine wp_ret ?_
  refine th_ret ?_
  replace H := H.nilrow (cInt .i64) 3; try dsimp only [setn, addE, goneL] at H
  obtain rfl := Option.some.inj hP
  refine ret2 E rfl rfl rfl ?_
  exact ⟨_, rfl, none, 0, rfl, H.sel [1] rfl⟩
 replace E := E_; clear E_
 have h10 : ¬ (8 < n) := of_decide_eq_false hb_
 clear hb_; replace hP := ite_f h10 hP
 refine c_false E rfl ?_
 refine wp_skip ?_
 refine th_n ?_
 refine wp_seq ?_
 refine wp_region_lit ?_
 refine vr tbok 1 [] [(0, .int .i64 n), (1, .slice A1 (List.length nodes) c2), (2, .int .i64 ref), (8, .slice none 0 0)] [] E (by kernel_rfl) trivial ?_
 clear E; intro a E
 refine wpList_nil ?_
 refine th_n ?_
 refine wp_seq ?_
 refine wp_seq ?_
 refine wp_region_lit ?_
 obtain ⟨g11, hP⟩ := ask_inv hP
 refine vr tbok 3 [.int .i64 (shlV .i64 1 n)] [(1, .slice A1 (List.length nodes) c2), (2, .int .i64 ref), (8, .slice none 0 0), (19, .int .i64 (shlV .i64 1 n)), (20, .int .i64 0)] [0 ≤ n ∧ IntKind.i64.wrap (1 * 2 ^ (min (Int.toNat n) (IntKind.bits .i64))) = shlV .i64 1 n] E (by kernel_rfl) (⟨g11, rfl⟩) ?_
 clear E; intro a E
 refine wpList_nil ?_
 refine th_n ?_
 refine wp_block ?_
 obtain ⟨x73, hL74, hK75⟩ := bind_inv hP
 clear hP
 replace H := H.nilrow (cInt .i64) 3; try dsimp only [setn, addE, goneL] at H
 refine loop_cut (fun i_ a w_ => (i_ = 0 ∧ ∃ (x79 : List Int), ∃ (A70 : Option Addr) (c71 : Nat), Fr a 39 [(8, .slice A70 (List.length x79) c71)] ∧ Hp S Fa w0 w_ [.row true (cInt .i64) 3 A70 c71 x79] ∧ x73 = Sum.inl x79)) ?_ ?_
 ·
  refine loopV (fun m78 a w77 => ∃ (out38 : List Int) (x41 : Int), ∃ (A39 : Option Addr) (c40 : Nat), Fr a 39 [(1, .slice A1 (List.length nodes) c2), (2, .int .i64 ref), (8, .slice A39 (List.length out38) c40), (19, .int .i64 (shlV .i64 1 n)), (20, .int .i64 x41)] ∧ Hp S Fa w0 w77 [.ro false cNode A1 nodes, .row true (cInt .i64) 3 A39 c40 out38] ∧ guard_Table_l0 N n nodes ref m78 out38 x41 = some x73) N ?_ ?_
  ·
   exact ⟨[], 0, none, 0, E.pick _ ⟨rfl, rfl, rfl, rfl, rfl, trivial⟩, H.sel [0, 1] rfl, hL74⟩
  clear E H hL74; intro m78 a w77 hI_
  obtain ⟨out38, x41, A39, c40, E, H, hP⟩ := hI_
  obtain ⟨m72, rfl⟩ : ∃ q_, m78 = q_ + 1 := by cases m78 with | zero => rw [guard_Table_l0] at hP; cases hP | succ q_ => exact ⟨q_, rfl⟩
  rw [guard_Table_l0] at hP
  refine wp_seq ?_
  refine wp_region_lit ?_
  refine vr tbok 1 [] [(1, .slice A1 (List.length nodes) c2), (2, .int .i64 ref), (8, .slice A39 (List.length out38) c40), (19, .int .i64 (shlV .i64 1 n)), (20, .int .i64 x41), (21, .bool (decide (x41 < (shlV .i64 1 n))))] [] E (by kernel_rfl) trivial ?_
  clear E; intro a E
  refine wpList_nil ?_
  refine th_n ?_
  refine wp_seq ?_
  refine E.cases (t := 21) rfl (fun hb_ E_ => ?_) (fun hb_ E_ => ?_)
  ·
   replace E := E_; clear E_
   have h80 : x41 < (shlV .i64 1 n) := of_decide_eq_true hb_
   clear hb_; replace hP := ite_t h80 hP
   refine c_true E rfl ?_
   refine wp_skip ?_
   refine th_n ?_
   refine wp_seq ?_
   refine wp_block ?_
   refine wp_seq ?_
   refine wp_region_lit ?_
   refine vr tbok 2 [] [(1, .slice A1 (List.length nodes) c2), (2, .int .i64 ref), (8, .slice A39 (List.length out38) c40), (9, .int .i64 x41), (19, .int .i64 (shlV .i64 1 n)), (20, .int .i64 x41)] [] E (by kernel_rfl) trivial ?_
   clear E; intro a E
   refine wpList_nil ?_
   refine th_n ?_
   refine wp_seq ?_
   refine wp_region_lit ?_
   refine vr tbok 4 [.int .u8 (IntKind.u8.wrap x41)] [(1, .slice A1 (List.length nodes) c2), (2, .int .i64 ref), (8, .slice A39 (List.length out38) c40), (19, .int .i64 (shlV .i64 1 n)), (20, .int .i64 x41), (24, .slice A1 (List.length nodes) c2), (25, .int .i64 ref), (27, .int .u8 (IntKind.u8.wrap x41))] [IntKind.u8.wrap x41 = (IntKind.u8.wrap x41)] E (by kernel_rfl) (rfl) ?_
   clear E; intro a E
   obtain ⟨r81, h82, hP⟩ := bind_inv hP
   obtain ⟨Fa83, Hc84, hb85⟩ := H.call [] [(0, false)] rfl rfl trivial
   refine e_call E rfl rfl Try.func9 rfl rfl rfl (guard_Go_calls A1 c2 nodes ref (IntKind.u8.wrap x41) hk3 Hc84 h82) ?_
   rintro v86 w87 a ⟨rfl, HR88⟩ E_
   replace E := E_ _ rfl; clear E_
   obtain ⟨H_, hc89⟩ := hb85 _ _ HR88 rfl
   replace H := H_; clear H_; try dsimp only [setn, addE, goneL] at H
   refine vr tbok 5 [] [(1, .slice A1 (List.length nodes) c2), (2, .int .i64 ref), (8, .slice A39 (List.length out38) c40), (10, .int .i64 r81.1), (11, .bool r81.2), (19, .int .i64 (shlV .i64 1 n)), (20, .int .i64 x41)] [] E (by kernel_rfl) trivial ?_
   clear E; intro a E
   refine wpList_nil ?_
   refine th_n ?_
   refine wp_seq ?_
   refine wp_seq ?_
   refine wp_region_lit ?_
   refine vr tbok 2 [] [(1, .slice A1 (List.length nodes) c2), (2, .int .i64 ref), (8, .slice A39 (List.length out38) c40), (10, .int .i64 r81.1), (19, .int .i64 (shlV .i64 1 n)), (20, .int .i64 x41), (32, .bool (!r81.2))] [] E (by kernel_rfl) trivial ?_
   clear E; intro a E
   refine wpList_nil ?_
   refine th_n ?_
   refine E.cases (t := 32) rfl (fun hb_ E_ => ?_) (fun hb_ E_ => ?_)
   ·
    replace E := E_; clear E_
    have h90 : ¬ (r81.2 = true) := (ne_true_of_eq_false (not_t hb_))
    clear hb_; replace hP := ite_f h90 hP
    refine c_true E rfl ?_
    refine wp_seq ?_
    refine wp_region_lit ?_
    refine vr tbok 2 [] [(6, .slice none 0 0), (7, .int .i64 12)] [] E (by kernel_rfl) trivial ?_
    clear E; intro a E
    refine wpList_nil ?_
    refine th_n ?_
    refine wp_ret ?_
    refine th_ret ?_
    refine bl_ret ?_
    refine th_ret ?_
    refine th_ret ?_
    refine .inr ⟨rfl, ?_⟩
    refine bl_ret ?_
    refine th_ret ?_
    replace H := H.nilrow (cInt .i64) 3; try dsimp only [setn, addE, goneL] at H
    have hx_ := Option.some.inj hP; subst hx_
    have hP : some (([], 12)) = some r := hK75
    obtain rfl := Option.some.inj hP
    refine ret2 E rfl rfl rfl ?_
    exact ⟨_, rfl, none, 0, rfl, H.sel [2] rfl⟩
   replace E := E_; clear E_
   have h92 : r81.2 = true := (not_f hb_)
   clear hb_; replace hP := ite_t h92 hP
   refine c_false E rfl ?_
   refine wp_skip ?_
   refine th_n ?_
   refine wp_region_lit ?_
   refine vr tbok 2 [] [(1, .slice A1 (List.length nodes) c2), (2, .int .i64 ref), (19, .int .i64 (shlV .i64 1 n)), (20, .int .i64 x41), (33, .slice A39 (List.length out38) c40), (34, .int .i64 r81.1)] [] E (by kernel_rfl) trivial ?_
   clear E; intro a E
   refine h_buildSlice (ps := [(0, .int .i64 r81.1)]) (cs := [.int .i64 r81.1]) H E rfl rfl tbok rfl rfl (by kernel_rfl) ?_
   intro w94 g93 a hc95 hg97 H_ E_
   replace E := E_ _ rfl; clear E_
   replace H := H_; clear H_; try dsimp only [setn, addE, goneL] at H
   obtain ⟨g98, hP⟩ := ask_inv hP
   refine h_append (cInt .i64) (xs := out38) (ys := ([r81.1] : List Int)) (0 : Int) H 1 rfl E rfl rfl tbok rfl rfl rfl rfl rfl (fun _ _ => rfl) rfl rfl (fun _ HF_ => HF_.srcB 2 rfl (⟨_, _, rfl, rfl, rfl⟩)) g98 ?_
   intro w99 A100 c101 a hc102 hA103 H_ E_
   replace E := E_ _ rfl; clear E_
   replace H := H_; clear H_; try dsimp only [setn, addE, goneL] at H
   refine vr tbok 1 [] [(1, .slice A1 (List.length nodes) c2), (2, .int .i64 ref), (8, .slice A100 (List.length (out38 ++ ([r81.1] : List Int))) c101), (19, .int .i64 (shlV .i64 1 n)), (20, .int .i64 x41)] [] E (by kernel_rfl) trivial ?_
   clear E; intro a E
   refine wpList_nil ?_
   refine bl_n ?_
   refine th_n ?_
   refine wp_region_lit ?_
   obtain ⟨g104, hP⟩ := ask_inv hP
   refine vr tbok 2 [.int .i64 (x41 + 1)] [(1, .slice A1 (List.length nodes) c2), (2, .int .i64 ref), (8, .slice A100 (List.length (out38 ++ ([r81.1] : List Int))) c101), (19, .int .i64 (shlV .i64 1 n)), (20, .int .i64 (x41 + 1))] [IntKind.i64.wrap (x41 + 1) = x41 + 1] E (by kernel_rfl) (wrap_in g104) ?_
   clear E; intro a E
   refine wpList_nil ?_
   exact th_n ⟨m72, Nat.lt_succ_self _, out38 ++ ([r81.1] : List Int), x41 + 1, A100, c101, E.pick _ ⟨rfl, rfl, rfl, rfl, rfl, trivial⟩, H.sel [0, 1] rfl, hP⟩
  replace E := E_; clear E_
  have h105 : ¬ (x41 < (shlV .i64 1 n)) := of_decide_eq_false hb_
  clear hb_; replace hP := ite_f h105 hP
  refine c_false E rfl ?_
  refine wp_exit ?_
  refine th_exit ?_
  have hx_ := Option.some.inj hP
  refine th_exit (.inl ⟨0, rfl, ?_⟩)
  exact ⟨rfl, out38, A39, c40, E.pick _ ⟨rfl, trivial⟩, H.sel [1] rfl, hx_.symm⟩
 clear E H hL74; intro i_ a w77 hM_
 obtain ⟨rfl, x79, A70, c71, E, H, hx_⟩ := hM_
 subst hx_; have hP := elim_l hK75
 clear hK75
 refine bl_hit ?_
 refine th_n ?_
 refine wp_seq ?_
 refine wp_region_lit ?_
 refine vr tbok 3 [] [(6, .slice A70 (List.length x79) c71), (7, .int .i64 0)] [] E (by kernel_rfl) trivial ?_
 clear E; intro a E
 refine wpList_nil ?_
 refine th_n ?_
 refine wp_ret ?_
 obtain rfl := Option.some.inj hP
 refine ret2 E rfl rfl rfl ?_
 exact ⟨_, rfl, A70, c71, rfl, H.sel [0] rfl⟩

/-! rejoinder/rejoinderkit.SameInts -/
def kit_SameInts_l0 (N : Nat) (aa : List Int) (b : List Int) : Nat → Int → Option (Unit ⊕ Bool)
  | 0, _ => none
  | m41 + 1, i25 =>
    if i25 < (((List.length aa) : Nat) : Int) then
      ask (idx i25 (List.length aa)) <|
      ask (idx i25 (List.length b)) <|
      if ((List.getD aa (Int.toNat i25) 0) : Int) = (List.getD b (Int.toNat i25) 0) then
        ask (in64 (i25 + 1)) <|
        kit_SameInts_l0 N aa b m41 (i25 + 1)
      else
        some (Sum.inr false)
    else
      some (Sum.inl ())
def kit_SameInts (N : Nat) (aa : List Int) (b : List Int) : Option Bool :=
  if ((((List.length aa) : Nat) : Int) : Int) = (((List.length b) : Nat) : Int) then
    Option.bind (kit_SameInts_l0 N aa b N 0) fun x42 =>
    Sum.elim (fun x47 =>
      some true)
     (fun x63 =>
      some x63) x42
  else
    some false
set_option maxRecDepth 100000 in
set_option maxHeartbeats 4000000 in
theorem kit_SameInts_calls {N : Nat} {S Fa : Nat → Prop} {w0 : World} {r : Bool} (A1 : Option Addr) (c2 : Nat) (A5 : Option Addr) (c6 : Nat) (aa : List Int) (b : List Int) (hk3 : List.length aa ≤ c2) (hk7 : List.length b ≤ c6) (H : Hp S Fa w0 w0 [.ro false (cInt .i64) A1 aa, .ro false (cInt .i64) A5 b]) (hP : kit_SameInts N aa b = some r) :
    Calls Try.prog 13 #[.slice A1 (List.length aa) c2, .slice A5 (List.length b) c6] w0 fun e w' => ∃ v, e = .returned v ∧ v = .bool r ∧ Hp S Fa w0 w' [] := by
 refine enterV (n := 26) Try.func13 rfl rfl rfl ?_
 intro a E
 replace E := E.pick [(0, .slice A1 (List.length aa) c2), (1, .slice A5 (List.length b) c6)] ⟨rfl, rfl, trivial⟩
 rw [kit_SameInts] at hP
 refine wp_seq ?_
 refine wp_region_lit ?_
 refine vr tbok 1 [] [(0, .slice A1 (List.length aa) c2), (1, .slice A5 (List.length b) c6)] [] E (by kernel_rfl) trivial ?_
 clear E; intro a E
 refine wpList_nil ?_
 refine th_n ?_
 refine wp_seq ?_
 refine wp_seq ?_
 refine wp_region_lit ?_
 refine vr tbok 5 [] [(0, .slice A1 (List.length aa) c2), (1, .slice A5 (List.length b) c6), (10, .bool (((((List.length aa) : Nat) : Int) : Int) != (((List.length b) : Nat) : Int)))] [] E (by kernel_rfl) trivial ?_
 clear E; intro a E
 refine wpList_nil ?_
 refine th_n ?_
 refine E.cases (t := 10) rfl (fun hb_ E_ => ?_) (fun hb_ E_ => ?_)
 ·
  replace E := E_; clear E_
  have h9 : ¬ (((((List.length aa) : Nat) : Int) : Int) = (((List.length b) : Nat) : Int)) := bne_iff_ne.1 hb_
  clear hb_; replace hP := ite_f h9 hP
  refine c_true E rfl ?_
  refine wp_seq ?_
  refine wp_region_lit ?_
  refine vr tbok 1 [] [(4, .bool false)] [] E (by kernel_rfl) trivial ?_
  clear E; intro a E
  refine wpList_nil ?_
  refine th_n ?_
  refine wp_ret ?_
  refine th_ret ?_
  obtain rfl := Option.some.inj hP
  refine ret1 E rfl rfl ?_
  exact ⟨_, rfl, rfl, H.sel [] rfl⟩
 replace E := E_; clear E_
 have h10 : ((((List.length aa) : Nat) : Int) : Int) = (((List.length b) : Nat) : Int) := bne_eq_false_iff_eq.1 hb_
 clear hb_; replace hP := ite_t h10 hP
 refine c_false E rfl ?_
 refine wp_skip ?_
 refine th_n ?_
 refine wp_seq ?_
 refine wp_seq ?_
 refine wp_region_lit ?_
 refine vr tbok 1 [] [(0, .slice A1 (List.length aa) c2), (1, .slice A5 (List.length b) c6), (5, .int .i64 0)] [] E (by kernel_rfl) trivial ?_
 clear E; intro a E
 refine wpList_nil ?_
 refine th_n ?_
 refine wp_block ?_
 obtain ⟨x42, hL43, hK44⟩ := bind_inv hP
 clear hP
 refine loop_cut (fun i_ a w_ => (i_ = 0 ∧ ∃ (x47 : Unit), Fr a 26 [] ∧ Hp S Fa w0 w_ [] ∧ x42 = Sum.inl x47)) ?_ ?_
 ·
  refine loopV (fun m46 a w45 => ∃ (i25 : Int), Fr a 26 [(0, .slice A1 (List.length aa) c2), (1, .slice A5 (List.length b) c6), (5, .int .i64 i25)] ∧ Hp S Fa w0 w45 [.ro false (cInt .i64) A1 aa, .ro false (cInt .i64) A5 b] ∧ kit_SameInts_l0 N aa b m46 i25 = some x42) N ?_ ?_
  ·
   exact ⟨0, E.pick _ ⟨rfl, rfl, rfl, trivial⟩, H.sel [0, 1] rfl, hL43⟩
  clear E H hL43; intro m46 a w45 hI_
  obtain ⟨i25, E, H, hP⟩ := hI_
  obtain ⟨m41, rfl⟩ : ∃ q_, m46 = q_ + 1 := by cases m46 with | zero => rw [kit_SameInts_l0] at hP; cases hP | succ q_ => exact ⟨q_, rfl⟩
  rw [kit_SameInts_l0] at hP
  refine wp_seq ?_
  refine wp_seq ?_
  refine wp_region_lit ?_
  refine vr tbok 4 [] [(0, .slice A1 (List.length aa) c2), (1, .slice A5 (List.length b) c6), (5, .int .i64 i25), (14, .bool (decide (i25 < (((List.length aa) : Nat) : Int))))] [] E (by kernel_rfl) trivial ?_
  clear E; intro a E
  refine wpList_nil ?_
  refine th_n ?_
  refine E.cases (t := 14) rfl (fun hb_ E_ => ?_) (fun hb_ E_ => ?_)
  ·
   replace E := E_; clear E_
   have h48 : i25 < (((List.length aa) : Nat) : Int) := of_decide_eq_true hb_
   clear hb_; replace hP := ite_t h48 hP
   refine c_true E rfl ?_
   refine wp_skip ?_
   refine th_n ?_
   refine wp_seq ?_
   refine wp_block ?_
   refine wp_seq ?_
   obtain ⟨g49, hP⟩ := ask_inv hP
   obtain ⟨b50, o51, e_b50⟩ := (H.rd 0 rds_ro).addr (idx_pos g49)
   subst e_b50
   obtain ⟨g52, hP⟩ := ask_inv hP
   obtain ⟨b53, o54, e_b53⟩ := (H.rd 1 rds_ro).addr (idx_pos g52)
   subst e_b53
   have HR58 := H
   refine dr_start (S := fun w_ => Chg (atL []) w45 w_) (by kernel_rfl) ?_
   intro w55 hc56
   have HS57 : Chg (atL []) w45 w55 := hc56.mono (fun _ _ h_ => h_.elim)
   replace H := H.ext hc56
   refine dr tbok (by kernel_rfl) [0, 1, 2, 3, 4, 5, 6, 7, 8] [.int .i64 (List.getD aa (Int.toNat i25) 0), .int .i64 (List.getD b (Int.toNat i25) 0)] [(0, .slice (some ⟨b50, o51, none⟩) (List.length aa) c2), (1, .slice (some ⟨b53, o54, none⟩) (List.length b) c6), (5, .int .i64 i25), (25, .bool (((List.getD aa (Int.toNat i25) 0) : Int) != (List.getD b (Int.toNat i25) 0)))] (fun w_ => [0 ≤ i25 ∧ i25 < (((List.length aa) : Nat) : Int), World.cell? w_ ⟨b50, o51 + (Int.toNat i25) * 1, none⟩ = some (.int .i64 (List.getD aa (Int.toNat i25) 0)), 0 ≤ i25 ∧ i25 < (((List.length b) : Nat) : Int), World.cell? w_ ⟨b53, o54 + (Int.toNat i25) * 1, none⟩ = some (.int .i64 (List.getD b (Int.toNat i25) 0))]) 0 E (fun _ _ => by kernel_rfl) (fun w_ hS_ => ⟨g49, Rds.at1 (HR58.rdk [] hS_ 0 rds_ro rfl) 0 g49, g52, Rds.at1 (HR58.rdk [] hS_ 1 rds_ro rfl) 0 g52⟩) (by kernel_rfl) HS57 ?_
   clear E; intro a E
   refine dr_done (by kernel_rfl) ?_
   clear HS57 HR58
   refine th_n ?_
   refine E.cases (t := 25) rfl (fun hb_ E_ => ?_) (fun hb_ E_ => ?_)
   ·
    replace E := E_; clear E_
    have h59 : ¬ (((List.getD aa (Int.toNat i25) 0) : Int) = (List.getD b (Int.toNat i25) 0)) := bne_iff_ne.1 hb_
    clear hb_; replace hP := ite_f h59 hP
    refine c_true E rfl ?_
    refine wp_seq ?_
    refine wp_region_lit ?_
    refine vr tbok 1 [] [(4, .bool false)] [] E (by kernel_rfl) trivial ?_
    clear E; intro a E
    refine wpList_nil ?_
    refine th_n ?_
    refine wp_ret ?_
    refine bl_ret ?_
    refine th_ret ?_
    refine th_ret ?_
    refine .inr ⟨rfl, ?_⟩
    refine bl_ret ?_
    refine th_ret ?_
    have hx_ := Option.some.inj hP; subst hx_
    have hP : some (false) = some r := hK44
    obtain rfl := Option.some.inj hP
    refine ret1 E rfl rfl ?_
    exact ⟨_, rfl, rfl, H.sel [] rfl⟩
   replace E := E_; clear E_
   have h60 : ((List.getD aa (Int.toNat i25) 0) : Int) = (List.getD b (Int.toNat i25) 0) := bne_eq_false_iff_eq.1 hb_
   clear hb_; replace hP := ite_t h60 hP
   refine c_false E rfl ?_
   refine wp_skip ?_
   refine bl_n ?_
   refine th_n ?_
   refine wp_region_lit ?_
   obtain ⟨g61, hP⟩ := ask_inv hP
   refine vr tbok 3 [.int .i64 (i25 + 1)] [(0, .slice (some ⟨b50, o51, none⟩) (List.length aa) c2), (1, .slice (some ⟨b53, o54, none⟩) (List.length b) c6), (5, .int .i64 (i25 + 1))] [IntKind.i64.wrap (i25 + 1) = i25 + 1] E (by kernel_rfl) (wrap_in g61) ?_
   clear E; intro a E
   refine wpList_nil ?_
   exact th_n ⟨m41, Nat.lt_succ_self _, i25 + 1, E.pick _ ⟨rfl, rfl, rfl, trivial⟩, H.sel [0, 1] rfl, hP⟩
  replace E := E_; clear E_
  have h62 : ¬ (i25 < (((List.length aa) : Nat) : Int)) := of_decide_eq_false hb_
  clear hb_; replace hP := ite_f h62 hP
  refine c_false E rfl ?_
  refine wp_exit ?_
  refine th_exit ?_
  have hx_ := Option.some.inj hP
  refine th_exit (.inl ⟨0, rfl, ?_⟩)
  exact ⟨rfl, (), E.pick _ trivial, H.sel [] rfl, hx_.symm⟩
 clear E H hL43; intro i_ a w45 hM_
 obtain ⟨rfl, x47, E, H, hx_⟩ := hM_
 subst hx_; have hP := elim_l hK44
 clear hK44
 refine bl_hit ?_
 refine th_n ?_
 refine wp_seq ?_
 refine wp_region_lit ?_
 refine vr tbok 1 [] [(4, .bool true)] [] E (by kernel_rfl) trivial ?_
 clear E; intro a E
 refine wpList_nil ?_
 refine th_n ?_
 refine wp_ret ?_
 obtain rfl := Option.some.inj hP
 refine ret1 E rfl rfl ?_
 exact ⟨_, rfl, rfl, H.sel [] rfl⟩

end Go.V
