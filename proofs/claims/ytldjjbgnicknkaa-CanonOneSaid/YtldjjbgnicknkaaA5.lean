/- Plain functions, and the calls that give them. -/
import Derived.Test.YtldjjbgnicknkaaA4
set_option linter.all false
set_option linter.unusedVariables false
set_option linter.unnecessarySimpa false
set_option linter.unusedSimpArgs false
namespace Go.V
open Go Go.Proofs
/-! (*rejoinder/guard.Store).Add -/
def guard_Store_Add_l0 (N : Nat) (snodes : List Nd) (sat : List (Nd × Int)) (where_ : List Int) : Nat → Int → Option (Unit ⊕ (Int × Int × (List Nd) × (List (Nd × Int))))
  | 0, _ => none
  | m160 + 1, x149 =>
    if x149 < (((List.length where_) : Nat) : Int) then
      ask (idx x149 (List.length where_)) <|
      if (List.getD where_ (Int.toNat x149) 0) < 0 then
        some (Sum.inr (0, 2, snodes, sat))
      else
        if 1048575 < (List.getD where_ (Int.toNat x149) 0) then
          some (Sum.inr (0, 2, snodes, sat))
        else
          ask (in64 (x149 + 1)) <|
          guard_Store_Add_l0 N snodes sat where_ m160 (x149 + 1)
    else
      some (Sum.inl ())
def guard_Store_Add (N : Nat) (sn : Int) (snodes : List Nd) (sat : List (Nd × Int)) (where_ : List Int) : Option (Int × Int × (List Nd) × (List (Nd × Int))) :=
  Option.bind (guard_Store_none N sn snodes sat) fun r118 =>
  if r118 = true then
    some (0, 1, snodes, sat)
  else
    ask (0 ≤ sn) <|
    if ((((List.length where_) : Nat) : Int) : Int) = shlV .i64 1 sn then
      Option.bind (guard_Store_Add_l0 N snodes sat where_ N 0) fun x161 =>
      Sum.elim (fun x166 =>
        Option.bind (guard_Store_add N N sn snodes sat where_ 0) fun r185 =>
        if 4096 < (((List.length r185.2.1) : Nat) : Int) then
          none
        else
          some (r185.1, 0, r185.2.1, r185.2.2))
       (fun x177 =>
        some x177) x161
    else
      some (0, 2, snodes, sat)
set_option maxRecDepth 100000 in
set_option maxHeartbeats 4000000 in
theorem guard_Store_Add_calls {N : Nat} {S Fa : Nat → Prop} {w0 : World} {r : Int × Int × (List Nd) × (List (Nd × Int))} (g1 : Nat) (A3 : Option Addr) (c4 : Nat) (g6 : Nat) (A8 : Option Addr) (c9 : Nat) (sn : Int) (snodes : List Nd) (sat : List (Nd × Int)) (where_ : List Int) (hk10 : List.length where_ ≤ c9) (H : Hp S Fa w0 w0 [.box g1 102 [.int .i64 sn, .slice A3 (List.length snodes) c4, .map (some g6)], .row true cNode 57 A3 c4 snodes, .mp Try.prog 57 g6 (List.map (fun p_ => (ndV p_.1, (fun u_ : Int => .int .i64 u_) p_.2)) sat), .ro false (cInt .i64) A8 where_]) (hP : guard_Store_Add N sn snodes sat where_ = some r) :
    Calls Try.prog 62 #[.pointer (some ⟨g1, 0, none⟩), .slice A8 (List.length where_) c9] w0 fun e w' => ∃ v, e = .returned v ∧ (∃ (x_ : Int × Int × (List Nd) × (List (Nd × Int))) (A15 : Option Addr) (c16 : Nat), r = x_ ∧ v = .tuple #[.int .i64 x_.1, .int .i64 x_.2.1] ∧ Hp S Fa w0 w' [.box g1 102 [.int .i64 sn, .slice A15 (List.length x_.2.2.1) c16, .map (some g6)], .row true cNode 57 A15 c16 x_.2.2.1, .mp Try.prog 57 g6 (List.map (fun p_ => (ndV p_.1, (fun u_ : Int => .int .i64 u_) p_.2)) x_.2.2.2)]) := by
 refine enterV (n := 63) Try.func62 rfl rfl rfl ?_
 intro a E
 replace E := E.pick [(0, .pointer (some ⟨g1, 0, none⟩)), (1, .slice A8 (List.length where_) c9)] ⟨rfl, rfl, trivial⟩
 rw [guard_Store_Add] at hP
 refine wp_seq ?_
 refine wp_region_lit ?_
 refine vr tbok 2 [] [(0, .pointer (some ⟨g1, 0, none⟩)), (1, .slice A8 (List.length where_) c9)] [] E (by kernel_rfl) trivial ?_
 clear E; intro a E
 refine wpList_nil ?_
 refine th_n ?_
 refine wp_seq ?_
 refine wp_seq ?_
 refine wp_region_lit ?_
 refine vr tbok 1 [] [(0, .pointer (some ⟨g1, 0, none⟩)), (1, .slice A8 (List.length where_) c9), (10, .pointer (some ⟨g1, 0, none⟩))] [] E (by kernel_rfl) trivial ?_
 clear E; intro a E
 obtain ⟨r118, h119, hP⟩ := bind_inv hP
 obtain ⟨Fa120, Hc121, hb122⟩ := H.call [0, 1, 2] [] rfl rfl ⟨flat_plain, trivial⟩
 refine e_call E rfl rfl Try.func69 rfl rfl rfl (guard_Store_none_calls g1 A3 c4 g6 sn snodes sat  Hc121 h119) ?_
 intro v128 w127 a hR129 E_
 obtain ⟨x_, hr_, rfl, HR131⟩ := hR129
 subst hr_
 replace E := E_ _ rfl; clear E_
 obtain ⟨H_, hc130⟩ := hb122 _ _ HR131 rfl
 replace H := H_; clear H_; try dsimp only [setn, addE, goneL] at H
 refine wpList_nil ?_
 refine th_n ?_
 refine E.cases (t := 11) rfl (fun hb_ E_ => ?_) (fun hb_ E_ => ?_)
 ·
  replace E := E_; clear E_
  have h135 : r118 = true := hb_
  clear hb_; replace hP := ite_t h135 hP
  refine c_true E rfl ?_
  refine wp_seq ?_
  refine wp_region_lit ?_
  refine vr tbok 2 [] [(4, .int .i64 0), (5, .int .i64 1)] [] E (by kernel_rfl) trivial ?_
  clear E; intro a E
  refine wpList_nil ?_
  refine th_n ?_
  refine wp_ret ?_
  refine th_ret ?_
  obtain rfl := Option.some.inj hP
  refine ret2 E rfl rfl rfl ?_
  exact ⟨_, rfl, ⟨(0, 1, snodes, sat), A3, c4, rfl, rfl, H.sel [6, 4, 5] rfl⟩⟩
 replace E := E_; clear E_
 have h136 : ¬ (r118 = true) := (ne_true_of_eq_false hb_)
 clear hb_; replace hP := ite_f h136 hP
 refine c_false E rfl ?_
 refine wp_skip ?_
 refine th_n ?_
 refine wp_seq ?_
 refine wp_seq ?_
 refine wp_region_lit ?_
 obtain ⟨g137, hP⟩ := ask_inv hP
 refine vr tbok 8 [.int .i64 sn, .int .i64 (shlV .i64 1 sn)] [(0, .pointer (some ⟨g1, 0, none⟩)), (1, .slice A8 (List.length where_) c9), (19, .bool (((((List.length where_) : Nat) : Int) : Int) != (shlV .i64 1 sn)))] [World.cell? w127 ⟨g1, 0, none⟩ = some (.int .i64 sn), 0 ≤ sn ∧ IntKind.i64.wrap (1 * 2 ^ (min (Int.toNat sn) (IntKind.bits .i64))) = shlV .i64 1 sn] E (by kernel_rfl) ⟨(H.box 6 rfl).cell (j := 0) rfl, ⟨g137, rfl⟩⟩ ?_
 clear E; intro a E
 refine wpList_nil ?_
 refine th_n ?_
 refine E.cases (t := 19) rfl (fun hb_ E_ => ?_) (fun hb_ E_ => ?_)
 ·
  replace E := E_; clear E_
  have h138 : ¬ (((((List.length where_) : Nat) : Int) : Int) = shlV .i64 1 sn) := bne_iff_ne.1 hb_
  clear hb_; replace hP := ite_f h138 hP
  refine c_true E rfl ?_
  refine wp_seq ?_
  refine wp_region_lit ?_
  refine vr tbok 2 [] [(4, .int .i64 0), (5, .int .i64 2)] [] E (by kernel_rfl) trivial ?_
  clear E; intro a E
  refine wpList_nil ?_
  refine th_n ?_
  refine wp_ret ?_
  refine th_ret ?_
  obtain rfl := Option.some.inj hP
  refine ret2 E rfl rfl rfl ?_
  exact ⟨_, rfl, ⟨(0, 2, snodes, sat), A3, c4, rfl, rfl, H.sel [6, 4, 5] rfl⟩⟩
 replace E := E_; clear E_
 have h139 : ((((List.length where_) : Nat) : Int) : Int) = shlV .i64 1 sn := bne_eq_false_iff_eq.1 hb_
 clear hb_; replace hP := ite_t h139 hP
 refine c_false E rfl ?_
 refine wp_skip ?_
 refine th_n ?_
 refine wp_seq ?_
 refine wp_seq ?_
 refine wp_region_lit ?_
 refine vr tbok 3 [] [(0, .pointer (some ⟨g1, 0, none⟩)), (1, .slice A8 (List.length where_) c9), (20, .slice A8 (List.length where_) c9), (21, .int .i64 (((List.length where_) : Nat) : Int)), (22, .int .i64 0)] [] E (by kernel_rfl) trivial ?_
 clear E; intro a E
 refine wpList_nil ?_
 refine th_n ?_
 refine wp_block ?_
 obtain ⟨x161, hL162, hK163⟩ := bind_inv hP
 clear hP
 refine loop_cut (fun i_ a w_ => (i_ = 0 ∧ ∃ (x166 : Unit), Fr a 63 [(0, .pointer (some ⟨g1, 0, none⟩)), (1, .slice A8 (List.length where_) c9)] ∧ Hp S Fa w0 w_ [.row true cNode 57 A3 c4 snodes, .mp Try.prog 57 g6 (List.map (fun p_ => (ndV p_.1, (fun u_ : Int => .int .i64 u_) p_.2)) sat), .box g1 102 [.int .i64 sn, .slice A3 (List.length snodes) c4, .map (some g6)], .ro false (cInt .i64) A8 where_] ∧ x161 = Sum.inl x166)) ?_ ?_
 ·
  refine loopV (fun m165 a w164 => ∃ (x149 : Int), Fr a 63 [(0, .pointer (some ⟨g1, 0, none⟩)), (1, .slice A8 (List.length where_) c9), (20, .slice A8 (List.length where_) c9), (21, .int .i64 (((List.length where_) : Nat) : Int)), (22, .int .i64 x149)] ∧ Hp S Fa w0 w164 [.row true cNode 57 A3 c4 snodes, .mp Try.prog 57 g6 (List.map (fun p_ => (ndV p_.1, (fun u_ : Int => .int .i64 u_) p_.2)) sat), .box g1 102 [.int .i64 sn, .slice A3 (List.length snodes) c4, .map (some g6)], .ro false (cInt .i64) A8 where_] ∧ guard_Store_Add_l0 N snodes sat where_ m165 x149 = some x161) N ?_ ?_
  ·
   exact ⟨0, E.pick _ ⟨rfl, rfl, rfl, rfl, rfl, trivial⟩, H.sel [4, 5, 6, 3] rfl, hL162⟩
  clear E H hL162; intro m165 a w164 hI_
  obtain ⟨x149, E, H, hP⟩ := hI_
  obtain ⟨m160, rfl⟩ : ∃ q_, m165 = q_ + 1 := by cases m165 with | zero => rw [guard_Store_Add_l0] at hP; cases hP | succ q_ => exact ⟨q_, rfl⟩
  rw [guard_Store_Add_l0] at hP
  refine wp_seq ?_
  refine wp_region_lit ?_
  refine vr tbok 1 [] [(0, .pointer (some ⟨g1, 0, none⟩)), (1, .slice A8 (List.length where_) c9), (20, .slice A8 (List.length where_) c9), (21, .int .i64 (((List.length where_) : Nat) : Int)), (22, .int .i64 x149), (23, .bool (decide (x149 < (((List.length where_) : Nat) : Int))))] [] E (by kernel_rfl) trivial ?_
  clear E; intro a E
  refine wpList_nil ?_
  refine th_n ?_
  refine wp_seq ?_
  refine E.cases (t := 23) rfl (fun hb_ E_ => ?_) (fun hb_ E_ => ?_)
  ·
   replace E := E_; clear E_
   have h167 : x149 < (((List.length where_) : Nat) : Int) := of_decide_eq_true hb_
   clear hb_; replace hP := ite_t h167 hP
   refine c_true E rfl ?_
   refine wp_skip ?_
   refine th_n ?_
   refine wp_seq ?_
   refine wp_block ?_
   refine wp_seq ?_
   refine wp_region_lit ?_
   obtain ⟨g168, hP⟩ := ask_inv hP
   obtain ⟨b169, o170, e_b169⟩ := (H.rd 3 rds_ro).addr (idx_pos g168)
   subst e_b169
   refine vr tbok 3 [.int .i64 (List.getD where_ (Int.toNat x149) 0)] [(0, .pointer (some ⟨g1, 0, none⟩)), (1, .slice (some ⟨b169, o170, none⟩) (List.length where_) c9), (7, .int .i64 (List.getD where_ (Int.toNat x149) 0)), (20, .slice (some ⟨b169, o170, none⟩) (List.length where_) c9), (21, .int .i64 (((List.length where_) : Nat) : Int)), (22, .int .i64 x149)] [0 ≤ x149 ∧ x149 < (((List.length where_) : Nat) : Int), World.cell? w164 ⟨b169, o170 + (Int.toNat x149) * 1, none⟩ = some (.int .i64 (List.getD where_ (Int.toNat x149) 0))] E (by kernel_rfl) ⟨g168, Rds.at1 (H.rd 3 rds_ro) 0 g168⟩ ?_
   clear E; intro a E
   refine wpList_nil ?_
   refine th_n ?_
   refine wp_seq ?_
   refine wp_region_lit ?_
   refine vr tbok 3 [] [(0, .pointer (some ⟨g1, 0, none⟩)), (1, .slice (some ⟨b169, o170, none⟩) (List.length where_) c9), (7, .int .i64 (List.getD where_ (Int.toNat x149) 0)), (20, .slice (some ⟨b169, o170, none⟩) (List.length where_) c9), (21, .int .i64 (((List.length where_) : Nat) : Int)), (22, .int .i64 x149), (28, .bool (decide ((List.getD where_ (Int.toNat x149) 0) < 0)))] [] E (by kernel_rfl) trivial ?_
   clear E; intro a E
   refine E.cases (t := 28) rfl (fun hb_ E_ => ?_) (fun hb_ E_ => ?_)
   ·
    replace E := E_; clear E_
    have h171 : (List.getD where_ (Int.toNat x149) 0) < 0 := of_decide_eq_true hb_
    clear hb_; replace hP := ite_t h171 hP
    refine vr tbok 3 [] [(0, .pointer (some ⟨g1, 0, none⟩)), (1, .slice (some ⟨b169, o170, none⟩) (List.length where_) c9), (20, .slice (some ⟨b169, o170, none⟩) (List.length where_) c9), (21, .int .i64 (((List.length where_) : Nat) : Int)), (22, .int .i64 x149), (31, .bool true)] [] E (by kernel_rfl) trivial ?_
    clear E; intro a E
    refine wpList_nil ?_
    refine th_n ?_
    refine c_true E rfl ?_
    refine wp_seq ?_
    refine wp_region_lit ?_
    refine vr tbok 2 [] [(4, .int .i64 0), (5, .int .i64 2)] [] E (by kernel_rfl) trivial ?_
    clear E; intro a E
    refine wpList_nil ?_
    refine th_n ?_
    refine wp_ret ?_
    refine bl_ret ?_
    refine th_ret ?_
    refine th_ret ?_
    refine .inr ⟨rfl, ?_⟩
    refine bl_ret ?_
    refine th_ret ?_
    have hx_ := Option.some.inj hP; subst hx_
    have hP : some ((0, 2, snodes, sat)) = some r := hK163
    obtain rfl := Option.some.inj hP
    refine ret2 E rfl rfl rfl ?_
    exact ⟨_, rfl, ⟨(0, 2, snodes, sat), A3, c4, rfl, rfl, H.sel [2, 0, 1] rfl⟩⟩
   replace E := E_; clear E_
   have h172 : ¬ ((List.getD where_ (Int.toNat x149) 0) < 0) := of_decide_eq_false hb_
   clear hb_; replace hP := ite_f h172 hP
   refine vr tbok 3 [] [(0, .pointer (some ⟨g1, 0, none⟩)), (1, .slice (some ⟨b169, o170, none⟩) (List.length where_) c9), (20, .slice (some ⟨b169, o170, none⟩) (List.length where_) c9), (21, .int .i64 (((List.length where_) : Nat) : Int)), (22, .int .i64 x149), (31, .bool (decide (1048575 < (List.getD where_ (Int.toNat x149) 0))))] [] E (by kernel_rfl) trivial ?_
   clear E; intro a E
   refine wpList_nil ?_
   refine th_n ?_
   refine E.cases (t := 31) rfl (fun hb_ E_ => ?_) (fun hb_ E_ => ?_)
   ·
    replace E := E_; clear E_
    have h173 : 1048575 < (List.getD where_ (Int.toNat x149) 0) := of_decide_eq_true hb_
    clear hb_; replace hP := ite_t h173 hP
    refine c_true E rfl ?_
    refine wp_seq ?_
    refine wp_region_lit ?_
    refine vr tbok 2 [] [(4, .int .i64 0), (5, .int .i64 2)] [] E (by kernel_rfl) trivial ?_
    clear E; intro a E
    refine wpList_nil ?_
    refine th_n ?_
    refine wp_ret ?_
    refine bl_ret ?_
    refine th_ret ?_
    refine th_ret ?_
    refine .inr ⟨rfl, ?_⟩
    refine bl_ret ?_
    refine th_ret ?_
    have hx_ := Option.some.inj hP; subst hx_
    have hP : some ((0, 2, snodes, sat)) = some r := hK163
    obtain rfl := Option.some.inj hP
    refine ret2 E rfl rfl rfl ?_
    exact ⟨_, rfl, ⟨(0, 2, snodes, sat), A3, c4, rfl, rfl, H.sel [2, 0, 1] rfl⟩⟩
   replace E := E_; clear E_
   have h174 : ¬ (1048575 < (List.getD where_ (Int.toNat x149) 0)) := of_decide_eq_false hb_
   clear hb_; replace hP := ite_f h174 hP
   refine c_false E rfl ?_
   refine wp_skip ?_
   refine bl_n ?_
   refine th_n ?_
   refine wp_region_lit ?_
   obtain ⟨g175, hP⟩ := ask_inv hP
   refine vr tbok 2 [.int .i64 (x149 + 1)] [(0, .pointer (some ⟨g1, 0, none⟩)), (1, .slice (some ⟨b169, o170, none⟩) (List.length where_) c9), (20, .slice (some ⟨b169, o170, none⟩) (List.length where_) c9), (21, .int .i64 (((List.length where_) : Nat) : Int)), (22, .int .i64 (x149 + 1))] [IntKind.i64.wrap (x149 + 1) = x149 + 1] E (by kernel_rfl) (wrap_in g175) ?_
   clear E; intro a E
   refine wpList_nil ?_
   exact th_n ⟨m160, Nat.lt_succ_self _, x149 + 1, E.pick _ ⟨rfl, rfl, rfl, rfl, rfl, trivial⟩, H.sel [0, 1, 2, 3] rfl, hP⟩
  replace E := E_; clear E_
  have h176 : ¬ (x149 < (((List.length where_) : Nat) : Int)) := of_decide_eq_false hb_
  clear hb_; replace hP := ite_f h176 hP
  refine c_false E rfl ?_
  refine wp_exit ?_
  refine th_exit ?_
  have hx_ := Option.some.inj hP
  refine th_exit (.inl ⟨0, rfl, ?_⟩)
  exact ⟨rfl, (), E.pick _ ⟨rfl, rfl, trivial⟩, H.sel [0, 1, 2, 3] rfl, hx_.symm⟩
 clear E H hL162; intro i_ a w164 hM_
 obtain ⟨rfl, x166, E, H, hx_⟩ := hM_
 subst hx_; have hP := elim_l hK163
 clear hK163
 refine bl_hit ?_
 refine th_n ?_
 refine wp_seq ?_
 refine wp_region_lit ?_
 refine vr tbok 5 [.slice A3 (List.length snodes) c4] [(0, .pointer (some ⟨g1, 0, none⟩)), (1, .slice A8 (List.length where_) c9), (37, .int .i64 (((List.length snodes) : Nat) : Int))] [World.cell? w164 ⟨g1, 1, none⟩ = some (.slice A3 (List.length snodes) c4)] E (by kernel_rfl) ((H.box 2 rfl).cell (j := 1) rfl) ?_
 clear E; intro a E
 refine h_alloc H E rfl rfl tbok rfl ?_
 intro w179 g178 a hc180 hg182 H_ E_
 replace E := E_ _ rfl; clear E_
 replace H := H_; clear H_; try dsimp only [setn, addE, goneL] at H
 refine h_store (g := g178) (off := 0) H 4 rfl E rfl rfl rfl rfl tbok rfl rfl rfl rfl rfl ?_
 clear E; intro w183 a hc184 H_ E
 replace H := H_; clear H_; try dsimp only [setn, addE, goneL] at H
 refine wpList_nil ?_
 refine th_n ?_
 refine wp_seq ?_
 refine wp_region_lit ?_
 refine vr tbok 2 [] [(0, .pointer (some ⟨g1, 0, none⟩)), (8, .pointer (some ⟨g178, 0, none⟩)), (38, .pointer (some ⟨g1, 0, none⟩)), (39, .slice A8 (List.length where_) c9)] [] E (by kernel_rfl) trivial ?_
 clear E; intro a E
 obtain ⟨r185, h186, hP⟩ := bind_inv hP
 obtain ⟨Fa187, Hc188, hb189⟩ := H.call [2, 0, 1] [(3, false)] rfl rfl ⟨flat_plain, trivial⟩
 refine e_call E rfl rfl Try.func70 rfl rfl rfl (guard_Store_add_calls N _ _ _ g1 A3 c4 g6 A8 c9 sn snodes sat where_ 0 _ hk10 Hc188 h186) ?_
 intro v195 w194 a hR196 E_
 obtain ⟨x_, A199, c200, hr_, rfl, HR198⟩ := hR196
 subst hr_
 replace E := E_ _ rfl; clear E_
 obtain ⟨H_, hc197⟩ := hb189 _ _ HR198 rfl
 replace H := H_; clear H_; try dsimp only [setn, addE, goneL] at H
 refine vr tbok 1 [] [(0, .pointer (some ⟨g1, 0, none⟩)), (8, .pointer (some ⟨g178, 0, none⟩)), (9, .int .i64 r185.1)] [] E (by kernel_rfl) trivial ?_
 clear E; intro a E
 refine wpList_nil ?_
 refine th_n ?_
 refine wp_seq ?_
 refine wp_seq ?_
 refine wp_region_lit ?_
 refine vr tbok 6 [.slice A199 (List.length r185.2.1) c200] [(0, .pointer (some ⟨g1, 0, none⟩)), (8, .pointer (some ⟨g178, 0, none⟩)), (9, .int .i64 r185.1), (46, .bool (decide (4096 < (((List.length r185.2.1) : Nat) : Int))))] [World.cell? w194 ⟨g1, 1, none⟩ = some (.slice A199 (List.length r185.2.1) c200)] E (by kernel_rfl) ((H.box 5 rfl).cell (j := 1) rfl) ?_
 clear E; intro a E
 refine wpList_nil ?_
 refine th_n ?_
 refine E.cases (t := 46) rfl (fun hb_ E_ => ?_) (fun hb_ E_ => ?_)
 ·
  replace E := E_; clear E_
  have h204 : 4096 < (((List.length r185.2.1) : Nat) : Int) := of_decide_eq_true hb_
  clear hb_; replace hP := ite_t h204 hP
  exact none_inv hP
  -- STOPPED: the operation range
 replace E := E_; clear E_
 have h214 : ¬ (4096 < (((List.length r185.2.1) : Nat) : Int)) := of_decide_eq_false hb_
 clear hb_; replace hP := ite_f h214 hP
 refine c_false E rfl ?_
 refine wp_skip ?_
 refine th_n ?_
 refine wp_seq ?_
 refine wp_region_lit ?_
 refine vr tbok 3 [] [(4, .int .i64 r185.1), (5, .int .i64 0)] [] E (by kernel_rfl) trivial ?_
 clear E; intro a E
 refine wpList_nil ?_
 refine th_n ?_
 refine wp_ret ?_
 obtain rfl := Option.some.inj hP
 refine ret2 E rfl rfl rfl ?_
 exact ⟨_, rfl, ⟨(r185.1, 0, r185.2.1, r185.2.2), A199, c200, rfl, rfl, H.sel [5, 6, 7] rfl⟩⟩

/-! (*rejoinder/guard.Store).Nodes -/
def guard_Store_Nodes (N : Nat) (sn : Int) (snodes : List Nd) (sat : List (Nd × Int)) : Option (List Nd) :=
  Option.bind (guard_Store_none N sn snodes sat) fun r112 =>
  if r112 = true then
    some []
  else
    ask (List.length ([] : List Nd) + List.length snodes ≤ 1000000000) <|
    some (([] : List Nd) ++ snodes)
set_option maxRecDepth 100000 in
set_option maxHeartbeats 4000000 in
theorem guard_Store_Nodes_calls {N : Nat} {S Fa : Nat → Prop} {w0 : World} {r : List Nd} (g1 : Nat) (A3 : Option Addr) (c4 : Nat) (g6 : Nat) (sn : Int) (snodes : List Nd) (sat : List (Nd × Int)) (H : Hp S Fa w0 w0 [.box g1 102 [.int .i64 sn, .slice A3 (List.length snodes) c4, .map (some g6)], .row true cNode 57 A3 c4 snodes, .mp Try.prog 57 g6 (List.map (fun p_ => (ndV p_.1, (fun u_ : Int => .int .i64 u_) p_.2)) sat)]) (hP : guard_Store_Nodes N sn snodes sat = some r) :
    Calls Try.prog 63 #[.pointer (some ⟨g1, 0, none⟩)] w0 fun e w' => ∃ v, e = .returned v ∧ (∃ (x_ : List Nd) (A10 : Option Addr) (c11 : Nat), r = x_ ∧ v = .slice A10 (List.length x_) c11 ∧ Hp S Fa w0 w' [.row true cNode 57 A10 c11 x_, .row true cNode 57 A3 c4 snodes, .mp Try.prog 57 g6 (List.map (fun p_ => (ndV p_.1, (fun u_ : Int => .int .i64 u_) p_.2)) sat), .box g1 102 [.int .i64 sn, .slice A3 (List.length snodes) c4, .map (some g6)]]) := by
 refine enterV (n := 11) Try.func63 rfl rfl rfl ?_
 intro a E
 replace E := E.pick [(0, .pointer (some ⟨g1, 0, none⟩))] ⟨rfl, trivial⟩
 rw [guard_Store_Nodes] at hP
 refine wp_seq ?_
 refine wp_region_lit ?_
 refine vr tbok 1 [] [(0, .pointer (some ⟨g1, 0, none⟩))] [] E (by kernel_rfl) trivial ?_
 clear E; intro a E
 refine wpList_nil ?_
 refine th_n ?_
 refine wp_seq ?_
 refine wp_seq ?_
 refine wp_region_lit ?_
 refine vr tbok 1 [] [(0, .pointer (some ⟨g1, 0, none⟩)), (3, .pointer (some ⟨g1, 0, none⟩))] [] E (by kernel_rfl) trivial ?_
 clear E; intro a E
 obtain ⟨r112, h113, hP⟩ := bind_inv hP
 obtain ⟨Fa114, Hc115, hb116⟩ := H.call [0, 1, 2] [] rfl rfl ⟨flat_plain, trivial⟩
 refine e_call E rfl rfl Try.func69 rfl rfl rfl (guard_Store_none_calls g1 A3 c4 g6 sn snodes sat  Hc115 h113) ?_
 intro v122 w121 a hR123 E_
 obtain ⟨x_, hr_, rfl, HR125⟩ := hR123
 subst hr_
 replace E := E_ _ rfl; clear E_
 obtain ⟨H_, hc124⟩ := hb116 _ _ HR125 rfl
 replace H := H_; clear H_; try dsimp only [setn, addE, goneL] at H
 refine wpList_nil ?_
 refine th_n ?_
 refine E.cases (t := 4) rfl (fun hb_ E_ => ?_) (fun hb_ E_ => ?_)
 ·
  replace E := E_; clear E_
  have h129 : r112 = true := hb_
  clear hb_; replace hP := ite_t h129 hP
  refine c_true E rfl ?_
  refine wp_seq ?_
  refine wp_region_lit ?_
  refine vr tbok 1 [] [(2, .slice none 0 0)] [] E (by kernel_rfl) trivial ?_
  clear E; intro a E
  refine wpList_nil ?_
  refine th_n ?_
  refine wp_ret ?_
  refine th_ret ?_
  replace H := H.nilrow cNode 57; try dsimp only [setn, addE, goneL] at H
  obtain rfl := Option.some.inj hP
  refine ret1 E rfl rfl ?_
  exact ⟨_, rfl, ⟨[], none, 0, rfl, rfl, H.sel [6, 3, 4, 5] rfl⟩⟩
 replace E := E_; clear E_
 have h131 : ¬ (r112 = true) := (ne_true_of_eq_false hb_)
 clear hb_; replace hP := ite_f h131 hP
 refine c_false E rfl ?_
 refine wp_skip ?_
 refine th_n ?_
 refine wp_seq ?_
 refine wp_region_lit ?_
 refine h_buildSlice (ps := []) (cs := []) H E rfl rfl tbok rfl rfl (by kernel_rfl) ?_
 intro w133 g132 a hc134 hg136 H_ E_
 replace E := E_ _ rfl; clear E_
 replace H := H_; clear H_; try dsimp only [setn, addE, goneL] at H
 refine vr tbok 4 [.slice A3 (List.length snodes) c4] [(5, .slice (some ⟨g132, 0, none⟩) 0 0), (9, .slice A3 (List.length snodes) c4)] [World.cell? w133 ⟨g1, 1, none⟩ = some (.slice A3 (List.length snodes) c4)] E (by kernel_rfl) ((H.box 5 rfl).cell (j := 1) rfl) ?_
 clear E; intro a E
 replace H := H.boxRow cNode true ([] : List Nd) 6 rfl (fun _ _ => rfl) (Nat.le_of_ble_eq_true rfl); try dsimp only [setn, addE, goneL] at H
 replace H := H.rowx 6 rfl; try dsimp only [setn, addE, goneL] at H
 obtain ⟨g137, hP⟩ := ask_inv hP
 refine h_append cNode (xs := ([] : List Nd)) (ys := snodes) ((default : Nd) : Nd) H 6 rfl E rfl rfl tbok rfl rfl rfl rfl rfl (fun _ _ => rfl) rfl rfl (fun _ HF_ => HF_.srcF flat_plain 3 rds_row) g137 ?_
 intro w138 A139 c140 a hc141 hA142 H_ E_
 replace E := E_ _ rfl; clear E_
 replace H := H_; clear H_; try dsimp only [setn, addE, goneL] at H
 refine vr tbok 1 [] [(2, .slice A139 (List.length (([] : List Nd) ++ snodes)) c140)] [] E (by kernel_rfl) trivial ?_
 clear E; intro a E
 refine wpList_nil ?_
 refine th_n ?_
 refine wp_ret ?_
 obtain rfl := Option.some.inj hP
 refine ret1 E rfl rfl ?_
 exact ⟨_, rfl, ⟨([] : List Nd) ++ snodes, A139, c140, rfl, rfl, H.sel [6, 3, 4, 5] rfl⟩⟩

/-! rejoinder/canon.least -/
def canon_least_l0 (N : Nat) (r23 : (List Int) × Int) (r35 : (List Int) × Int) : Nat → (List Int) → (List Int) → Int → Option ((List Int) × (List Int))
  | 0, _, _, _ => none
  | m119 + 1, number80, first82, x85 =>
    if x85 < (((List.length r23.1) : Nat) : Int) then
      ask (idx x85 (List.length r23.1)) <|
      ask (idx (List.getD r23.1 (Int.toNat x85) 0) (List.length r35.1)) <|
      ask (idx (List.getD r35.1 (Int.toNat (List.getD r23.1 (Int.toNat x85) 0)) 0) (List.length number80)) <|
      if ((List.getD number80 (Int.toNat (List.getD r35.1 (Int.toNat (List.getD r23.1 (Int.toNat x85) 0)) 0)) 0) : Int) = 0 then
        ask (List.length first82 + List.length ([(List.getD r23.1 (Int.toNat x85) 0)] : List Int) ≤ 1000000000) <|
        ask (in64 (x85 + 1)) <|
        canon_least_l0 N r23 r35 m119 (List.set number80 (Int.toNat (List.getD r35.1 (Int.toNat (List.getD r23.1 (Int.toNat x85) 0)) 0)) (((List.length (first82 ++ ([(List.getD r23.1 (Int.toNat x85) 0)] : List Int))) : Nat) : Int)) (first82 ++ ([(List.getD r23.1 (Int.toNat x85) 0)] : List Int)) (x85 + 1)
      else
        ask (in64 (x85 + 1)) <|
        canon_least_l0 N r23 r35 m119 number80 first82 (x85 + 1)
    else
      some (number80, first82)
def canon_least_l2 (N : Nat) (r35 : (List Int) × Int) (x120 : (List Int) × (List Int)) (r342 : (List Int) × Int) : Nat → (List Int) → Int → Option (List Int)
  | 0, _, _ => none
  | m402 + 1, x381, x384 =>
    if x384 < (((List.length r342.1) : Nat) : Int) then
      ask (idx x384 (List.length x381)) <|
      ask (idx (List.getD x381 (Int.toNat x384) 0) (List.length r35.1)) <|
      ask (idx (List.getD r35.1 (Int.toNat (List.getD x381 (Int.toNat x384) 0)) 0) (List.length x120.1)) <|
      ask (in64 ((List.getD x120.1 (Int.toNat (List.getD r35.1 (Int.toNat (List.getD x381 (Int.toNat x384) 0)) 0)) 0) - 1)) <|
      ask (in64 (x384 + 1)) <|
      canon_least_l2 N r35 x120 r342 m402 (List.set x381 (Int.toNat x384) ((List.getD x120.1 (Int.toNat (List.getD r35.1 (Int.toNat (List.getD x381 (Int.toNat x384) 0)) 0)) 0) - 1)) (x384 + 1)
    else
      some x381
def canon_least_f4 (N : Nat) : Option Unit :=
    some ()
def canon_least_f3 (N : Nat) : Option Unit :=
    Option.bind (canon_least_f4 N) fun x428 =>
    some ()
def canon_least_l1 (N : Nat) (aProps : Int) (aGuard : List Int) (aNodes : List Nd) (r35 : (List Int) × Int) (x120 : (List Int) × (List Int)) : Nat → Option (Unit ⊕ ((Int × (List Bool) × (List Int) × (List Nd)) × Int))
  | 0 => none
  | m328 + 1 =>
    if 0 < (((List.length x120.2) : Nat) : Int) then
      ask (idx (0 : Int) (List.length x120.2)) <|
      ask (idx (List.getD x120.2 (Int.toNat (0 : Int)) 0) (List.length aGuard)) <|
      Option.bind (guard_Table N aProps aNodes (List.getD aGuard (Int.toNat (List.getD x120.2 (Int.toNat (0 : Int)) 0)) 0)) fun r342 =>
      Option.bind (canon_least_l2 N r35 x120 r342 N r342.1 0) fun x403 =>
      Option.bind (canon_least_f3 N) fun x425 =>
      some (Sum.inr ((0, [], [], []), 1))
    else
      some (Sum.inl ())
def canon_least_f6 (N : Nat) : Option Unit :=
    some ()
def canon_least_f5 (N : Nat) : Option Unit :=
    Option.bind (canon_least_f6 N) fun x447 =>
    some ()
def canon_least_l8 (N : Nat) (r35 : (List Int) × Int) (x120 : (List Int) × (List Int)) (r766 : (List Int) × Int) : Nat → (List Int) → Int → Option (List Int)
  | 0, _, _ => none
  | m826 + 1, x805, x808 =>
    if x808 < (((List.length r766.1) : Nat) : Int) then
      ask (idx x808 (List.length x805)) <|
      ask (idx (List.getD x805 (Int.toNat x808) 0) (List.length r35.1)) <|
      ask (idx (List.getD r35.1 (Int.toNat (List.getD x805 (Int.toNat x808) 0)) 0) (List.length x120.1)) <|
      ask (in64 ((List.getD x120.1 (Int.toNat (List.getD r35.1 (Int.toNat (List.getD x805 (Int.toNat x808) 0)) 0)) 0) - 1)) <|
      ask (in64 (x808 + 1)) <|
      canon_least_l8 N r35 x120 r766 m826 (List.set x805 (Int.toNat x808) ((List.getD x120.1 (Int.toNat (List.getD r35.1 (Int.toNat (List.getD x805 (Int.toNat x808) 0)) 0)) 0) - 1)) (x808 + 1)
    else
      some x805
def canon_least_l7 (N : Nat) (aProps : Int) (aAccept : List Bool) (aGuard : List Int) (aNodes : List Nd) (r35 : (List Int) × Int) (x120 : (List Int) × (List Int)) : Nat → (List Nd) → (List (Nd × Int)) → (List Bool) → (List Int) → Int → Option (((List Nd) × (List (Nd × Int)) × (List Bool) × (List Int)) ⊕ ((Int × (List Bool) × (List Int) × (List Nd)) × Int))
  | 0, _, _, _, _, _ => none
  | m749 + 1, s597, s600, out602, out606, x609 =>
    if x609 < (((List.length x120.2) : Nat) : Int) then
      ask (idx x609 (List.length x120.2)) <|
      ask (idx (List.getD x120.2 (Int.toNat x609) 0) (List.length aGuard)) <|
      Option.bind (guard_Table N aProps aNodes (List.getD aGuard (Int.toNat (List.getD x120.2 (Int.toNat x609) 0)) 0)) fun r766 =>
      Option.bind (canon_least_l8 N r35 x120 r766 N r766.1 0) fun x827 =>
      Option.bind (guard_Store_Add N aProps s597 s600 x827) fun r847 =>
      if (r847.2.1 : Int) = 0 then
        ask (idx (List.getD x120.2 (Int.toNat x609) 0) (List.length aAccept)) <|
        ask (List.length out602 + List.length ([(List.getD aAccept (Int.toNat (List.getD x120.2 (Int.toNat x609) 0)) false)] : List Bool) ≤ 1000000000) <|
        ask (List.length out606 + List.length ([r847.1] : List Int) ≤ 1000000000) <|
        ask (in64 (x609 + 1)) <|
        canon_least_l7 N aProps aAccept aGuard aNodes r35 x120 m749 r847.2.2.1 r847.2.2.2 (out602 ++ ([(List.getD aAccept (Int.toNat (List.getD x120.2 (Int.toNat x609) 0)) false)] : List Bool)) (out606 ++ ([r847.1] : List Int)) (x609 + 1)
      else
        some (Sum.inr ((0, [], [], []), r847.2.1))
    else
      some (Sum.inl (s597, s600, out602, out606))
def canon_least (N : Nat) (aProps : Int) (aAccept : List Bool) (aGuard : List Int) (aNodes : List Nd) : Option ((Int × (List Bool) × (List Int) × (List Nd)) × Int) :=
  Option.bind (part_Reached N aProps aAccept aGuard aNodes) fun r23 =>
  Option.bind (part_Classes N aProps aAccept aGuard aNodes) fun r35 =>
  ask (0 ≤ (((List.length aAccept) : Nat) : Int) ∧ (((List.length aAccept) : Nat) : Int) ≤ ((256 : Nat) : Int)) <|
  Option.bind (canon_least_l0 N r23 r35 N (List.take (Int.toNat (((List.length aAccept) : Nat) : Int)) (List.replicate 256 (0 : Int))) [] 0) fun x120 =>
  Option.bind (guard_New N aProps) fun r154 =>
  Sum.elim (fun x171 =>
    Option.bind (canon_least_l1 N aProps aGuard aNodes r35 x120 N ) fun x329 =>
    Sum.elim (fun x334 =>
      Option.bind (canon_least_f5 N) fun x444 =>
      some ((aProps, [], [], []), 0))
     (fun x441 =>
      some x441) x329)
   (fun x172 =>
    Option.bind (canon_least_l7 N aProps aAccept aGuard aNodes r35 x120 N [] ([] : List (Nd × Int)) [] [] 0) fun x750 =>
    Sum.elim (fun x758 =>
      Option.bind (guard_Store_Nodes N aProps x758.1 x758.2.1) fun r940 =>
      some ((aProps, x758.2.2.1, x758.2.2.2, r940), 0))
     (fun x939 =>
      some x939) x750) r154
set_option maxRecDepth 100000 in
set_option maxHeartbeats 4000000 in
theorem canon_least_calls {N : Nat} {S Fa : Nat → Prop} {w0 : World} {r : (Int × (List Bool) × (List Int) × (List Nd)) × Int} (A1 : Option Addr) (c2 : Nat) (A5 : Option Addr) (c6 : Nat) (A9 : Option Addr) (c10 : Nat) (aProps : Int) (aAccept : List Bool) (aGuard : List Int) (aNodes : List Nd) (hk3 : List.length aAccept ≤ c2) (hk7 : List.length aGuard ≤ c6) (hk11 : List.length aNodes ≤ c10) (H : Hp S Fa w0 w0 [.ro false cBool A1 aAccept, .ro false (cInt .i64) A5 aGuard, .ro false cNode A9 aNodes]) (hP : canon_least N aProps aAccept aGuard aNodes = some r) :
    Calls Try.prog 38 #[.agg #[.int .i64 aProps, .slice A1 (List.length aAccept) c2, .slice A5 (List.length aGuard) c6, .slice A9 (List.length aNodes) c10]] w0 fun e w' => ∃ v, e = .returned v ∧ ∃ (A964 : Option Addr) (c965 : Nat) (A966 : Option Addr) (c967 : Nat) (A968 : Option Addr) (c969 : Nat), v = .tuple #[.agg #[.int .i64 r.1.1, .slice A964 (List.length r.1.2.1) c965, .slice A966 (List.length r.1.2.2.1) c967, .slice A968 (List.length r.1.2.2.2) c969], .int .i64 r.2] ∧ Hp S Fa w0 w' [.row true cBool 4 A964 c965 r.1.2.1, .row true (cInt .i64) 3 A966 c967 r.1.2.2.1, .row true cNode 57 A968 c969 r.1.2.2.2] := by
 refine enterV (n := 143) Try.func38 rfl rfl rfl ?_
 intro a E
 replace E := E.pick [(0, .agg #[.int .i64 aProps, .slice A1 (List.length aAccept) c2, .slice A5 (List.length aGuard) c6, .slice A9 (List.length aNodes) c10])] ⟨rfl, trivial⟩
 rw [canon_least] at hP
 refine wp_seq ?_
 refine wp_region_lit ?_
 refine h_box H E rfl rfl rfl ?_
 intro w14 g13 a hc15 hg17 H_ E_
 replace E := E_ _ rfl; clear E_
 replace H := H_; clear H_; try dsimp only [setn, addE, goneL] at H
 refine h_alloc H E rfl rfl tbok rfl ?_
 intro w19 g18 a hc20 hg22 H_ E_
 replace E := E_ _ rfl; clear E_
 replace H := H_; clear H_; try dsimp only [setn, addE, goneL] at H
 refine vr tbok 1 [] [(1, .pointer (some ⟨g13, 0, none⟩)), (2, .pointer (some ⟨g18, 0, none⟩))] [] E (by kernel_rfl) trivial ?_
 clear E; intro a E
 refine wpList_nil ?_
 refine th_n ?_
 refine wp_seq ?_
 refine wp_region_lit ?_
 refine vr tbok 1 [.agg #[.int .i64 aProps, .slice A1 (List.length aAccept) c2, .slice A5 (List.length aGuard) c6, .slice A9 (List.length aNodes) c10]] [(1, .pointer (some ⟨g13, 0, none⟩)), (2, .pointer (some ⟨g18, 0, none⟩)), (25, .agg #[.int .i64 aProps, .slice A1 (List.length aAccept) c2, .slice A5 (List.length aGuard) c6, .slice A9 (List.length aNodes) c10])] [cellsAt w19 g13 (0) [.int .i64 aProps, .slice A1 (List.length aAccept) c2, .slice A5 (List.length aGuard) c6, .slice A9 (List.length aNodes) c10]] E (by kernel_rfl) ((H.box 3 rfl).sub 0 _ rfl) ?_
 clear E; intro a E
 obtain ⟨r23, h24, hP⟩ := bind_inv hP
 obtain ⟨Fa25, Hc26, hb27⟩ := H.call [] [(0, false), (1, false), (2, false)] rfl rfl trivial
 refine e_call E rfl rfl Try.func26 rfl rfl rfl (part_Reached_calls A1 c2 A5 c6 A9 c10 aProps aAccept aGuard aNodes hk3 hk7 hk11 Hc26 h24) ?_
 rintro v28 w29 a ⟨A32, c33, rfl, HR30⟩ E_
 replace E := E_ _ rfl; clear E_
 obtain ⟨H_, hc31⟩ := hb27 _ _ HR30 rfl
 replace H := H_; clear H_; try dsimp only [setn, addE, goneL] at H
 refine vr tbok 5 [] [(1, .pointer (some ⟨g13, 0, none⟩)), (2, .pointer (some ⟨g18, 0, none⟩)), (4, .slice A32 (List.length r23.1) c33)] [] E (by kernel_rfl) trivial ?_
 clear E; intro a E
 refine wpList_nil ?_
 refine th_n ?_
 refine wp_seq ?_
 refine wp_region_lit ?_
 refine vr tbok 1 [.agg #[.int .i64 aProps, .slice A1 (List.length aAccept) c2, .slice A5 (List.length aGuard) c6, .slice A9 (List.length aNodes) c10]] [(1, .pointer (some ⟨g13, 0, none⟩)), (2, .pointer (some ⟨g18, 0, none⟩)), (4, .slice A32 (List.length r23.1) c33), (30, .agg #[.int .i64 aProps, .slice A1 (List.length aAccept) c2, .slice A5 (List.length aGuard) c6, .slice A9 (List.length aNodes) c10])] [cellsAt w29 g13 (0) [.int .i64 aProps, .slice A1 (List.length aAccept) c2, .slice A5 (List.length aGuard) c6, .slice A9 (List.length aNodes) c10]] E (by kernel_rfl) ((H.box 3 rfl).sub 0 _ rfl) ?_
 clear E; intro a E
 obtain ⟨r35, h36, hP⟩ := bind_inv hP
 obtain ⟨Fa37, Hc38, hb39⟩ := H.call [] [(0, false), (1, false), (2, false)] rfl rfl trivial
 refine e_call E rfl rfl Try.func25 rfl rfl rfl (part_Classes_calls A1 c2 A5 c6 A9 c10 aProps aAccept aGuard aNodes hk3 hk7 hk11 Hc38 h36) ?_
 rintro v40 w41 a ⟨A44, c45, rfl, HR42⟩ E_
 replace E := E_ _ rfl; clear E_
 obtain ⟨H_, hc43⟩ := hb39 _ _ HR42 rfl
 replace H := H_; clear H_; try dsimp only [setn, addE, goneL] at H
 refine vr tbok 5 [] [(1, .pointer (some ⟨g13, 0, none⟩)), (2, .pointer (some ⟨g18, 0, none⟩)), (4, .slice A32 (List.length r23.1) c33), (6, .slice A44 (List.length r35.1) c45)] [] E (by kernel_rfl) trivial ?_
 clear E; intro a E
 refine wpList_nil ?_
 refine th_n ?_
 refine wp_seq ?_
 refine wp_region_lit ?_
 refine h_allocArr (cInt .i64) (0 : Int) [.int .i64 0] 256 H E rfl rfl tbok rfl (fun _ _ => rfl) (by kernel_rfl) (by kernel_rfl) ?_
 intro w48 g47 a hc49 hg50 H_ E_
 replace E := E_ _ rfl; clear E_
 replace H := H_; clear H_; try dsimp only [setn, addE, goneL] at H
 refine wpList_nil ?_
 refine th_n ?_
 refine wp_seq ?_
 refine wp_region_lit ?_
 refine vr tbok 3 [.slice A1 (List.length aAccept) c2] [(1, .pointer (some ⟨g13, 0, none⟩)), (2, .pointer (some ⟨g18, 0, none⟩)), (4, .slice A32 (List.length r23.1) c33), (6, .slice A44 (List.length r35.1) c45), (8, .pointer (some ⟨g47, 0, none⟩)), (36, .int .i64 (((List.length aAccept) : Nat) : Int))] [World.cell? w48 ⟨g13, 1, none⟩ = some (.slice A1 (List.length aAccept) c2)] E (by kernel_rfl) ((H.box 3 rfl).cell (j := 1) rfl) ?_
 clear E; intro a E
 obtain ⟨g52, hP⟩ := ask_inv hP
 have hn53 := arr_cut (H.rcapE 7 rfl) g52
 refine e_sliceArr E rfl rfl tbok rfl rfl rfl rfl g52 (by decide) rfl ?_
 clear E; intro a E
 replace H := H.cutRowx 7 rfl (Int.toNat (((List.length aAccept) : Nat) : Int)); try dsimp only [setn, addE, goneL] at H
 replace E := E.same (t := 37) (u := .slice (some ⟨g47, 0, none⟩) (List.length (List.take (Int.toNat (((List.length aAccept) : Nat) : Int)) (List.replicate 256 (0 : Int)))) 256) rfl (congrArg (fun n_ => Value.slice (some ⟨g47, 0, none⟩) n_ 256) hn53)
 refine vr tbok 1 [] [(1, .pointer (some ⟨g13, 0, none⟩)), (2, .pointer (some ⟨g18, 0, none⟩)), (4, .slice A32 (List.length r23.1) c33), (6, .slice A44 (List.length r35.1) c45), (9, .slice (some ⟨g47, 0, none⟩) (List.length (List.take (Int.toNat (((List.length aAccept) : Nat) : Int)) (List.replicate 256 (0 : Int)))) 256)] [] E (by kernel_rfl) trivial ?_
 clear E; intro a E
 refine wpList_nil ?_
 refine th_n ?_
 refine wp_seq ?_
 refine wp_region_lit ?_
 refine vr tbok 1 [] [(1, .pointer (some ⟨g13, 0, none⟩)), (2, .pointer (some ⟨g18, 0, none⟩)), (4, .slice A32 (List.length r23.1) c33), (6, .slice A44 (List.length r35.1) c45), (9, .slice (some ⟨g47, 0, none⟩) (List.length (List.take (Int.toNat (((List.length aAccept) : Nat) : Int)) (List.replicate 256 (0 : Int)))) 256), (10, .slice none 0 0)] [] E (by kernel_rfl) trivial ?_
 clear E; intro a E
 refine wpList_nil ?_
 refine th_n ?_
 refine wp_seq ?_
 refine wp_seq ?_
 refine wp_region_lit ?_
 refine vr tbok 3 [] [(1, .pointer (some ⟨g13, 0, none⟩)), (2, .pointer (some ⟨g18, 0, none⟩)), (6, .slice A44 (List.length r35.1) c45), (9, .slice (some ⟨g47, 0, none⟩) (List.length (List.take (Int.toNat (((List.length aAccept) : Nat) : Int)) (List.replicate 256 (0 : Int)))) 256), (10, .slice none 0 0), (38, .slice A32 (List.length r23.1) c33), (39, .int .i64 (((List.length r23.1) : Nat) : Int)), (40, .int .i64 0)] [] E (by kernel_rfl) trivial ?_
 clear E; intro a E
 refine wpList_nil ?_
 refine th_n ?_
 refine wp_block ?_
 obtain ⟨x120, hL121, hK122⟩ := bind_inv hP
 clear hP
 replace H := H.nilrow (cInt .i64) 3; try dsimp only [setn, addE, goneL] at H
 refine loop_cut (fun i_ a w_ => (i_ = 0 ∧ ∃ (x126 : (List Int) × (List Int)), ∃ (A117 : Option Addr) (c118 : Nat), Fr a 143 [(1, .pointer (some ⟨g13, 0, none⟩)), (2, .pointer (some ⟨g18, 0, none⟩)), (6, .slice A44 (List.length r35.1) c45), (9, .slice (some ⟨g47, 0, none⟩) (List.length x126.1) 256), (10, .slice A117 (List.length x126.2) c118)] ∧ Hp S Fa w0 w_ [.ro false cBool A1 aAccept, .ro false (cInt .i64) A5 aGuard, .ro false cNode A9 aNodes, .box g13 26 [.int .i64 aProps, .slice A1 (List.length aAccept) c2, .slice A5 (List.length aGuard) c6, .slice A9 (List.length aNodes) c10], .box g18 26 [.int .i64 0, .slice none 0 0, .slice none 0 0, .slice none 0 0], .row true (cInt .i64) 3 A44 c45 r35.1, .rowx true (cInt .i64) 86 (some ⟨g47, 0, none⟩) 256 x126.1 (List.drop (Int.toNat (((List.length aAccept) : Nat) : Int)) (List.replicate 256 (0 : Int)) ++ []), .row true (cInt .i64) 3 A117 c118 x126.2] ∧ x120 = x126)) ?_ ?_
 ·
  refine loopV (fun m125 a w124 => ∃ (number80 : List Int) (first82 : List Int) (x85 : Int), ∃ (A83 : Option Addr) (c84 : Nat), Fr a 143 [(1, .pointer (some ⟨g13, 0, none⟩)), (2, .pointer (some ⟨g18, 0, none⟩)), (6, .slice A44 (List.length r35.1) c45), (9, .slice (some ⟨g47, 0, none⟩) (List.length number80) 256), (10, .slice A83 (List.length first82) c84), (38, .slice A32 (List.length r23.1) c33), (39, .int .i64 (((List.length r23.1) : Nat) : Int)), (40, .int .i64 x85)] ∧ Hp S Fa w0 w124 [.ro false cBool A1 aAccept, .ro false (cInt .i64) A5 aGuard, .ro false cNode A9 aNodes, .box g13 26 [.int .i64 aProps, .slice A1 (List.length aAccept) c2, .slice A5 (List.length aGuard) c6, .slice A9 (List.length aNodes) c10], .box g18 26 [.int .i64 0, .slice none 0 0, .slice none 0 0, .slice none 0 0], .row true (cInt .i64) 3 A44 c45 r35.1, .rowx true (cInt .i64) 86 (some ⟨g47, 0, none⟩) 256 number80 (List.drop (Int.toNat (((List.length aAccept) : Nat) : Int)) (List.replicate 256 (0 : Int)) ++ []), .row true (cInt .i64) 3 A83 c84 first82, .row true (cInt .i64) 3 A32 c33 r23.1] ∧ canon_least_l0 N r23 r35 m125 number80 first82 x85 = some x120) N ?_ ?_
  ·
   exact ⟨List.take (Int.toNat (((List.length aAccept) : Nat) : Int)) (List.replicate 256 (0 : Int)), [], 0, none, 0, E.pick _ ⟨rfl, rfl, rfl, rfl, rfl, rfl, rfl, rfl, trivial⟩, H.sel [0, 1, 2, 3, 4, 6, 7, 8, 5] rfl, hL121⟩
  clear E H hL121; intro m125 a w124 hI_
  obtain ⟨number80, first82, x85, A83, c84, E, H, hP⟩ := hI_
  obtain ⟨m119, rfl⟩ : ∃ q_, m125 = q_ + 1 := by cases m125 with | zero => rw [canon_least_l0] at hP; cases hP | succ q_ => exact ⟨q_, rfl⟩
  rw [canon_least_l0] at hP
  refine wp_seq ?_
  refine wp_region_lit ?_
  refine vr tbok 1 [] [(1, .pointer (some ⟨g13, 0, none⟩)), (2, .pointer (some ⟨g18, 0, none⟩)), (6, .slice A44 (List.length r35.1) c45), (9, .slice (some ⟨g47, 0, none⟩) (List.length number80) 256), (10, .slice A83 (List.length first82) c84), (38, .slice A32 (List.length r23.1) c33), (39, .int .i64 (((List.length r23.1) : Nat) : Int)), (40, .int .i64 x85), (41, .bool (decide (x85 < (((List.length r23.1) : Nat) : Int))))] [] E (by kernel_rfl) trivial ?_
  clear E; intro a E
  refine wpList_nil ?_
  refine th_n ?_
  refine wp_seq ?_
  refine E.cases (t := 41) rfl (fun hb_ E_ => ?_) (fun hb_ E_ => ?_)
  ·
   replace E := E_; clear E_
   have h127 : x85 < (((List.length r23.1) : Nat) : Int) := of_decide_eq_true hb_
   clear hb_; replace hP := ite_t h127 hP
   refine c_true E rfl ?_
   refine wp_skip ?_
   refine th_n ?_
   refine wp_seq ?_
   refine wp_block ?_
   refine wp_seq ?_
   refine wp_region_lit ?_
   obtain ⟨g128, hP⟩ := ask_inv hP
   obtain ⟨b129, e_b129⟩ := H.raddr 8 rfl (idx_pos g128)
   subst e_b129
   refine vr tbok 3 [.int .i64 (List.getD r23.1 (Int.toNat x85) 0)] [(1, .pointer (some ⟨g13, 0, none⟩)), (2, .pointer (some ⟨g18, 0, none⟩)), (6, .slice A44 (List.length r35.1) c45), (9, .slice (some ⟨g47, 0, none⟩) (List.length number80) 256), (10, .slice A83 (List.length first82) c84), (12, .int .i64 (List.getD r23.1 (Int.toNat x85) 0)), (38, .slice (some ⟨b129, 0, none⟩) (List.length r23.1) c33), (39, .int .i64 (((List.length r23.1) : Nat) : Int)), (40, .int .i64 x85)] [0 ≤ x85 ∧ x85 < (((List.length r23.1) : Nat) : Int), World.cell? w124 ⟨b129, 0 + (Int.toNat x85) * 1, none⟩ = some (.int .i64 (List.getD r23.1 (Int.toNat x85) 0))] E (by kernel_rfl) ⟨g128, Rds.at1 (H.rd 8 rds_row) 0 g128⟩ ?_
   clear E; intro a E
   refine wpList_nil ?_
   refine th_n ?_
   refine wp_seq ?_
   refine wp_region_lit ?_
   obtain ⟨g131, hP⟩ := ask_inv hP
   obtain ⟨b132, e_b132⟩ := H.raddr 5 rfl (idx_pos g131)
   subst e_b132
   obtain ⟨g134, hP⟩ := ask_inv hP
   refine vr tbok 8 [.int .i64 (List.getD r35.1 (Int.toNat (List.getD r23.1 (Int.toNat x85) 0)) 0), .int .i64 (List.getD number80 (Int.toNat (List.getD r35.1 (Int.toNat (List.getD r23.1 (Int.toNat x85) 0)) 0)) 0)] [(1, .pointer (some ⟨g13, 0, none⟩)), (2, .pointer (some ⟨g18, 0, none⟩)), (6, .slice (some ⟨b132, 0, none⟩) (List.length r35.1) c45), (9, .slice (some ⟨g47, 0, none⟩) (List.length number80) 256), (10, .slice A83 (List.length first82) c84), (12, .int .i64 (List.getD r23.1 (Int.toNat x85) 0)), (38, .slice (some ⟨b129, 0, none⟩) (List.length r23.1) c33), (39, .int .i64 (((List.length r23.1) : Nat) : Int)), (40, .int .i64 x85), (51, .bool (((List.getD number80 (Int.toNat (List.getD r35.1 (Int.toNat (List.getD r23.1 (Int.toNat x85) 0)) 0)) 0) : Int) == 0))] [0 ≤ (List.getD r23.1 (Int.toNat x85) 0) ∧ (List.getD r23.1 (Int.toNat x85) 0) < (((List.length r35.1) : Nat) : Int), World.cell? w124 ⟨b132, 0 + (Int.toNat (List.getD r23.1 (Int.toNat x85) 0)) * 1, none⟩ = some (.int .i64 (List.getD r35.1 (Int.toNat (List.getD r23.1 (Int.toNat x85) 0)) 0)), 0 ≤ (List.getD r35.1 (Int.toNat (List.getD r23.1 (Int.toNat x85) 0)) 0) ∧ (List.getD r35.1 (Int.toNat (List.getD r23.1 (Int.toNat x85) 0)) 0) < (((List.length number80) : Nat) : Int), World.cell? w124 ⟨g47, 0 + (Int.toNat (List.getD r35.1 (Int.toNat (List.getD r23.1 (Int.toNat x85) 0)) 0)) * 1, none⟩ = some (.int .i64 (List.getD number80 (Int.toNat (List.getD r35.1 (Int.toNat (List.getD r23.1 (Int.toNat x85) 0)) 0)) 0))] E (by kernel_rfl) ⟨g131, Rds.at1 (H.rd 5 rds_row) 0 g131, g134, Rds.at1 (H.rd 6 rds_rowx) 0 g134⟩ ?_
   clear E; intro a E
   refine wpList_nil ?_
   refine th_n ?_
   refine E.cases (t := 51) rfl (fun hb_ E_ => ?_) (fun hb_ E_ => ?_)
   ·
    replace E := E_; clear E_
    have h135 : ((List.getD number80 (Int.toNat (List.getD r35.1 (Int.toNat (List.getD r23.1 (Int.toNat x85) 0)) 0)) 0) : Int) = 0 := eq_of_beq hb_
    clear hb_; replace hP := ite_t h135 hP
    refine c_true E rfl ?_
    refine wp_seq ?_
    refine wp_region_lit ?_
    refine vr tbok 2 [] [(1, .pointer (some ⟨g13, 0, none⟩)), (2, .pointer (some ⟨g18, 0, none⟩)), (6, .slice (some ⟨b132, 0, none⟩) (List.length r35.1) c45), (9, .slice (some ⟨g47, 0, none⟩) (List.length number80) 256), (12, .int .i64 (List.getD r23.1 (Int.toNat x85) 0)), (38, .slice (some ⟨b129, 0, none⟩) (List.length r23.1) c33), (39, .int .i64 (((List.length r23.1) : Nat) : Int)), (40, .int .i64 x85), (52, .slice A83 (List.length first82) c84), (53, .int .i64 (List.getD r23.1 (Int.toNat x85) 0))] [] E (by kernel_rfl) trivial ?_
    clear E; intro a E
    refine h_buildSlice (ps := [(0, .int .i64 (List.getD r23.1 (Int.toNat x85) 0))]) (cs := [.int .i64 (List.getD r23.1 (Int.toNat x85) 0)]) H E rfl rfl tbok rfl rfl (by kernel_rfl) ?_
    intro w137 g136 a hc138 hg140 H_ E_
    replace E := E_ _ rfl; clear E_
    replace H := H_; clear H_; try dsimp only [setn, addE, goneL] at H
    obtain ⟨g141, hP⟩ := ask_inv hP
    refine h_append (cInt .i64) (xs := first82) (ys := ([(List.getD r23.1 (Int.toNat x85) 0)] : List Int)) (0 : Int) H 7 rfl E rfl rfl tbok rfl rfl rfl rfl rfl (fun _ _ => rfl) rfl rfl (fun _ HF_ => HF_.srcB 9 rfl (⟨_, _, rfl, rfl, rfl⟩)) g141 ?_
    intro w142 A143 c144 a hc145 hA146 H_ E_
    replace E := E_ _ rfl; clear E_
    replace H := H_; clear H_; try dsimp only [setn, addE, goneL] at H
    refine vr tbok 1 [] [(1, .pointer (some ⟨g13, 0, none⟩)), (2, .pointer (some ⟨g18, 0, none⟩)), (6, .slice (some ⟨b132, 0, none⟩) (List.length r35.1) c45), (9, .slice (some ⟨g47, 0, none⟩) (List.length number80) 256), (10, .slice A143 (List.length (first82 ++ ([(List.getD r23.1 (Int.toNat x85) 0)] : List Int))) c144), (12, .int .i64 (List.getD r23.1 (Int.toNat x85) 0)), (38, .slice (some ⟨b129, 0, none⟩) (List.length r23.1) c33), (39, .int .i64 (((List.length r23.1) : Nat) : Int)), (40, .int .i64 x85)] [] E (by kernel_rfl) trivial ?_
    clear E; intro a E
    refine wpList_nil ?_
    refine th_n ?_
    refine wp_region_lit ?_
    refine vr tbok 8 [.int .i64 (List.getD r35.1 (Int.toNat (List.getD r23.1 (Int.toNat x85) 0)) 0)] [(1, .pointer (some ⟨g13, 0, none⟩)), (2, .pointer (some ⟨g18, 0, none⟩)), (6, .slice (some ⟨b132, 0, none⟩) (List.length r35.1) c45), (9, .slice (some ⟨g47, 0, none⟩) (List.length number80) 256), (10, .slice A143 (List.length (first82 ++ ([(List.getD r23.1 (Int.toNat x85) 0)] : List Int))) c144), (38, .slice (some ⟨b129, 0, none⟩) (List.length r23.1) c33), (39, .int .i64 (((List.length r23.1) : Nat) : Int)), (40, .int .i64 x85), (62, .int .i64 (((List.length (first82 ++ ([(List.getD r23.1 (Int.toNat x85) 0)] : List Int))) : Nat) : Int)), (63, .pointer (some ⟨g47, 0 + (Int.toNat (List.getD r35.1 (Int.toNat (List.getD r23.1 (Int.toNat x85) 0)) 0)) * 1, none⟩))] [0 ≤ (List.getD r23.1 (Int.toNat x85) 0) ∧ (List.getD r23.1 (Int.toNat x85) 0) < (((List.length r35.1) : Nat) : Int), World.cell? w142 ⟨b132, 0 + (Int.toNat (List.getD r23.1 (Int.toNat x85) 0)) * 1, none⟩ = some (.int .i64 (List.getD r35.1 (Int.toNat (List.getD r23.1 (Int.toNat x85) 0)) 0)), 0 ≤ (List.getD r35.1 (Int.toNat (List.getD r23.1 (Int.toNat x85) 0)) 0) ∧ (List.getD r35.1 (Int.toNat (List.getD r23.1 (Int.toNat x85) 0)) 0) < (((List.length number80) : Nat) : Int)] E (by kernel_rfl) ⟨g131, Rds.at1 (H.rd 5 rds_row) 0 g131, g134⟩ ?_
    clear E; intro a E
    refine h_setx (g := g47) (i := (List.getD r35.1 (Int.toNat (List.getD r23.1 (Int.toNat x85) 0)) 0)) (((List.length (first82 ++ ([(List.getD r23.1 (Int.toNat x85) 0)] : List Int))) : Nat) : Int) H 6 rfl E rfl rfl rfl rfl tbok rfl (fun _ HF_ => rfl) rfl g134 rfl ?_
    clear E; intro w147 a hc148 H_ E
    replace H := H_; clear H_; try dsimp only [setn, addE, goneL] at H
    have hn149 : (List.length number80) = (List.length (List.set number80 (Int.toNat (List.getD r35.1 (Int.toNat (List.getD r23.1 (Int.toNat x85) 0)) 0)) (((List.length (first82 ++ ([(List.getD r23.1 (Int.toNat x85) 0)] : List Int))) : Nat) : Int))) := by simp only [List.length_set]
    replace E := E.same (t := 9) (u := .slice (some ⟨g47, 0, none⟩) (List.length (List.set number80 (Int.toNat (List.getD r35.1 (Int.toNat (List.getD r23.1 (Int.toNat x85) 0)) 0)) (((List.length (first82 ++ ([(List.getD r23.1 (Int.toNat x85) 0)] : List Int))) : Nat) : Int))) 256) rfl (congrArg (fun n_ => Value.slice (some ⟨g47, 0, none⟩) n_ 256) hn149)
    refine wpList_nil ?_
    refine bl_n ?_
    refine th_n ?_
    refine wp_region_lit ?_
    obtain ⟨g150, hP⟩ := ask_inv hP
    refine vr tbok 2 [.int .i64 (x85 + 1)] [(1, .pointer (some ⟨g13, 0, none⟩)), (2, .pointer (some ⟨g18, 0, none⟩)), (6, .slice (some ⟨b132, 0, none⟩) (List.length r35.1) c45), (9, .slice (some ⟨g47, 0, none⟩) (List.length (List.set number80 (Int.toNat (List.getD r35.1 (Int.toNat (List.getD r23.1 (Int.toNat x85) 0)) 0)) (((List.length (first82 ++ ([(List.getD r23.1 (Int.toNat x85) 0)] : List Int))) : Nat) : Int))) 256), (10, .slice A143 (List.length (first82 ++ ([(List.getD r23.1 (Int.toNat x85) 0)] : List Int))) c144), (38, .slice (some ⟨b129, 0, none⟩) (List.length r23.1) c33), (39, .int .i64 (((List.length r23.1) : Nat) : Int)), (40, .int .i64 (x85 + 1))] [IntKind.i64.wrap (x85 + 1) = x85 + 1] E (by kernel_rfl) (wrap_in g150) ?_
    clear E; intro a E
    refine wpList_nil ?_
    exact th_n ⟨m119, Nat.lt_succ_self _, List.set number80 (Int.toNat (List.getD r35.1 (Int.toNat (List.getD r23.1 (Int.toNat x85) 0)) 0)) (((List.length (first82 ++ ([(List.getD r23.1 (Int.toNat x85) 0)] : List Int))) : Nat) : Int), first82 ++ ([(List.getD r23.1 (Int.toNat x85) 0)] : List Int), x85 + 1, A143, c144, E.pick _ ⟨rfl, rfl, rfl, rfl, rfl, rfl, rfl, rfl, trivial⟩, H.sel [0, 1, 2, 3, 4, 5, 6, 7, 8] rfl, hP⟩
   replace E := E_; clear E_
   have h151 : ¬ (((List.getD number80 (Int.toNat (List.getD r35.1 (Int.toNat (List.getD r23.1 (Int.toNat x85) 0)) 0)) 0) : Int) = 0) := ne_of_beq_false hb_
   clear hb_; replace hP := ite_f h151 hP
   refine c_false E rfl ?_
   refine wp_skip ?_
   refine bl_n ?_
   refine th_n ?_
   refine wp_region_lit ?_
   obtain ⟨g152, hP⟩ := ask_inv hP
   refine vr tbok 2 [.int .i64 (x85 + 1)] [(1, .pointer (some ⟨g13, 0, none⟩)), (2, .pointer (some ⟨g18, 0, none⟩)), (6, .slice (some ⟨b132, 0, none⟩) (List.length r35.1) c45), (9, .slice (some ⟨g47, 0, none⟩) (List.length number80) 256), (10, .slice A83 (List.length first82) c84), (38, .slice (some ⟨b129, 0, none⟩) (List.length r23.1) c33), (39, .int .i64 (((List.length r23.1) : Nat) : Int)), (40, .int .i64 (x85 + 1))] [IntKind.i64.wrap (x85 + 1) = x85 + 1] E (by kernel_rfl) (wrap_in g152) ?_
   clear E; intro a E
   refine wpList_nil ?_
   exact th_n ⟨m119, Nat.lt_succ_self _, number80, first82, x85 + 1, A83, c84, E.pick _ ⟨rfl, rfl, rfl, rfl, rfl, rfl, rfl, rfl, trivial⟩, H.sel [0, 1, 2, 3, 4, 5, 6, 7, 8] rfl, hP⟩
  replace E := E_; clear E_
  have h153 : ¬ (x85 < (((List.length r23.1) : Nat) : Int)) := of_decide_eq_false hb_
  clear hb_; replace hP := ite_f h153 hP
  refine c_false E rfl ?_
  refine wp_exit ?_
  refine th_exit ?_
  have hx_ := Option.some.inj hP
  refine th_exit (.inl ⟨0, rfl, ?_⟩)
  exact ⟨rfl, (number80, first82), A83, c84, E.pick _ ⟨rfl, rfl, rfl, rfl, rfl, trivial⟩, H.sel [0, 1, 2, 3, 4, 5, 6, 7] rfl, hx_.symm⟩
 clear E H hL121; intro i_ a w124 hM_
 obtain ⟨rfl, x126, A117, c118, E, H, hx_⟩ := hM_
 subst hx_; have hP := hK122; clear hK122
 refine bl_hit ?_
 refine th_n ?_
 refine wp_seq ?_
 refine wp_region_lit ?_
 refine vr tbok 2 [.int .i64 aProps] [(1, .pointer (some ⟨g13, 0, none⟩)), (2, .pointer (some ⟨g18, 0, none⟩)), (6, .slice A44 (List.length r35.1) c45), (9, .slice (some ⟨g47, 0, none⟩) (List.length x120.1) 256), (10, .slice A117 (List.length x120.2) c118), (67, .int .i64 aProps)] [World.cell? w124 ⟨g13, 0, none⟩ = some (.int .i64 aProps)] E (by kernel_rfl) ((H.box 3 rfl).cell (j := 0) rfl) ?_
 clear E; intro a E
 obtain ⟨r154, h155, hP⟩ := bind_inv hP
 obtain ⟨Fa156, Hc157, hb158⟩ := H.call [] [] rfl rfl trivial
 refine e_call E rfl rfl Try.func60 rfl rfl rfl (guard_New_calls  aProps  Hc157 h155) ?_
 intro v164 w163 a hR165 E_
 rcases hR165 with ⟨x_, hr_, rfl, HR167⟩ | ⟨x_, g168, g169, hr_, rfl, HR170⟩
 ·
  subst hr_; have hP := elim_l hP
  obtain ⟨x171, hxx_⟩ : ∃ y_, y_ = x_ := ⟨_, rfl⟩; subst hxx_
  replace E := E_ _ rfl; clear E_
  obtain ⟨H_, hc166⟩ := hb158 _ _ HR167 rfl
  replace H := H_; clear H_; try dsimp only [setn, addE, goneL] at H
  refine vr tbok 5 [] [(1, .pointer (some ⟨g13, 0, none⟩)), (2, .pointer (some ⟨g18, 0, none⟩)), (6, .slice A44 (List.length r35.1) c45), (9, .slice (some ⟨g47, 0, none⟩) (List.length x120.1) 256), (10, .slice A117 (List.length x120.2) c118), (13, .pointer none)] [] E (by kernel_rfl) trivial ?_
  clear E; intro a E
  refine wpList_nil ?_
  refine th_n ?_
  refine wp_seq ?_
  refine wp_region_lit ?_
  refine vr tbok 2 [.int .i64 aProps] [(1, .pointer (some ⟨g13, 0, none⟩)), (2, .pointer (some ⟨g18, 0, none⟩)), (6, .slice A44 (List.length r35.1) c45), (9, .slice (some ⟨g47, 0, none⟩) (List.length x120.1) 256), (10, .slice A117 (List.length x120.2) c118), (13, .pointer none), (72, .int .i64 aProps)] [World.cell? w163 ⟨g13, 0, none⟩ = some (.int .i64 aProps)] E (by kernel_rfl) ((H.box 3 rfl).cell (j := 0) rfl) ?_
  clear E; intro a E
  refine e_build (ps := [(0, .int .i64 aProps)]) (v := .agg #[.int .i64 aProps, .slice none 0 0, .slice none 0 0, .slice none 0 0]) E rfl rfl tbok rfl (by kernel_rfl) rfl ?_
  clear E; intro a E
  refine h_alloc H E rfl rfl tbok rfl ?_
  intro w174 g173 a hc175 hg177 H_ E_
  replace E := E_ _ rfl; clear E_
  replace H := H_; clear H_; try dsimp only [setn, addE, goneL] at H
  refine h_store (g := g173) (off := 0) H 8 rfl E rfl rfl rfl rfl tbok rfl rfl rfl rfl rfl ?_
  clear E; intro w178 a hc179 H_ E
  replace H := H_; clear H_; try dsimp only [setn, addE, goneL] at H
  refine wpList_nil ?_
  refine th_n ?_
  refine wp_seq ?_
  refine wp_seq ?_
  refine wp_region_lit ?_
  refine vr tbok 3 [] [(1, .pointer (some ⟨g13, 0, none⟩)), (2, .pointer (some ⟨g18, 0, none⟩)), (6, .slice A44 (List.length r35.1) c45), (9, .slice (some ⟨g47, 0, none⟩) (List.length x120.1) 256), (13, .pointer none), (15, .pointer (some ⟨g173, 0, none⟩)), (74, .slice A117 (List.length x120.2) c118), (75, .int .i64 (((List.length x120.2) : Nat) : Int)), (76, .int .i64 0)] [] E (by kernel_rfl) trivial ?_
  clear E; intro a E
  refine wpList_nil ?_
  refine th_n ?_
  refine wp_block ?_
  obtain ⟨x329, hL330, hK331⟩ := bind_inv hP
  clear hP
  refine loop_cut (fun i_ a w_ => (i_ = 2 ∧ ∃ (x334 : Unit), Fr a 143 [(2, .pointer (some ⟨g18, 0, none⟩)), (13, .pointer none), (15, .pointer (some ⟨g173, 0, none⟩))] ∧ Hp S Fa w0 w_ [.box g18 26 [.int .i64 0, .slice none 0 0, .slice none 0 0, .slice none 0 0], .box g173 26 [.int .i64 aProps, .slice none 0 0, .slice none 0 0, .slice none 0 0]] ∧ x329 = Sum.inl x334)) ?_ ?_
  ·
   refine loopV (fun m333 a w332 => ∃ (_u : Unit), Fr a 143 [(1, .pointer (some ⟨g13, 0, none⟩)), (2, .pointer (some ⟨g18, 0, none⟩)), (6, .slice A44 (List.length r35.1) c45), (9, .slice (some ⟨g47, 0, none⟩) (List.length x120.1) 256), (13, .pointer none), (15, .pointer (some ⟨g173, 0, none⟩)), (74, .slice A117 (List.length x120.2) c118), (75, .int .i64 (((List.length x120.2) : Nat) : Int)), (76, .int .i64 0)] ∧ Hp S Fa w0 w332 [.ro false cBool A1 aAccept, .ro false (cInt .i64) A5 aGuard, .ro false cNode A9 aNodes, .box g13 26 [.int .i64 aProps, .slice A1 (List.length aAccept) c2, .slice A5 (List.length aGuard) c6, .slice A9 (List.length aNodes) c10], .box g18 26 [.int .i64 0, .slice none 0 0, .slice none 0 0, .slice none 0 0], .row true (cInt .i64) 3 A44 c45 r35.1, .rowx true (cInt .i64) 86 (some ⟨g47, 0, none⟩) 256 x120.1 (List.drop (Int.toNat (((List.length aAccept) : Nat) : Int)) (List.replicate 256 (0 : Int)) ++ []), .box g173 26 [.int .i64 aProps, .slice none 0 0, .slice none 0 0, .slice none 0 0], .row true (cInt .i64) 3 A117 c118 x120.2] ∧ canon_least_l1 N aProps aGuard aNodes r35 x120 m333  = some x329) N ?_ ?_
   ·
    exact ⟨(), E.pick _ ⟨rfl, rfl, rfl, rfl, rfl, rfl, rfl, rfl, rfl, trivial⟩, H.sel [0, 1, 2, 3, 4, 5, 6, 8, 7] rfl, hL330⟩
   clear E H hL330; intro m333 a w332 hI_
   obtain ⟨_, E, H, hP⟩ := hI_
   obtain ⟨m328, rfl⟩ : ∃ q_, m333 = q_ + 1 := by cases m333 with | zero => rw [canon_least_l1] at hP; cases hP | succ q_ => exact ⟨q_, rfl⟩
   rw [canon_least_l1] at hP
   refine wp_seq ?_
   refine wp_region_lit ?_
   refine vr tbok 1 [] [(1, .pointer (some ⟨g13, 0, none⟩)), (2, .pointer (some ⟨g18, 0, none⟩)), (6, .slice A44 (List.length r35.1) c45), (9, .slice (some ⟨g47, 0, none⟩) (List.length x120.1) 256), (13, .pointer none), (15, .pointer (some ⟨g173, 0, none⟩)), (74, .slice A117 (List.length x120.2) c118), (75, .int .i64 (((List.length x120.2) : Nat) : Int)), (76, .int .i64 0), (77, .bool (decide (0 < (((List.length x120.2) : Nat) : Int))))] [] E (by kernel_rfl) trivial ?_
   clear E; intro a E
   refine wpList_nil ?_
   refine th_n ?_
   refine wp_seq ?_
   refine E.cases (t := 77) rfl (fun hb_ E_ => ?_) (fun hb_ E_ => ?_)
   ·
    replace E := E_; clear E_
    have h335 : 0 < (((List.length x120.2) : Nat) : Int) := of_decide_eq_true hb_
    clear hb_; replace hP := ite_t h335 hP
    refine c_true E rfl ?_
    refine wp_skip ?_
    refine th_n ?_
    refine wp_seq ?_
    refine wp_block ?_
    refine wp_seq ?_
    refine wp_region_lit ?_
    obtain ⟨g336, hP⟩ := ask_inv hP
    obtain ⟨b337, e_b337⟩ := H.raddr 8 rfl (idx_pos g336)
    subst e_b337
    refine vr tbok 3 [.int .i64 (List.getD x120.2 (Int.toNat (0 : Int)) 0)] [(1, .pointer (some ⟨g13, 0, none⟩)), (2, .pointer (some ⟨g18, 0, none⟩)), (6, .slice A44 (List.length r35.1) c45), (9, .slice (some ⟨g47, 0, none⟩) (List.length x120.1) 256), (13, .pointer none), (15, .pointer (some ⟨g173, 0, none⟩)), (17, .int .i64 (List.getD x120.2 (Int.toNat (0 : Int)) 0)), (74, .slice (some ⟨b337, 0, none⟩) (List.length x120.2) c118), (75, .int .i64 (((List.length x120.2) : Nat) : Int)), (76, .int .i64 0)] [0 ≤ (0 : Int) ∧ (0 : Int) < (((List.length x120.2) : Nat) : Int), World.cell? w332 ⟨b337, 0 + (Int.toNat (0 : Int)) * 1, none⟩ = some (.int .i64 (List.getD x120.2 (Int.toNat (0 : Int)) 0))] E (by kernel_rfl) ⟨g336, Rds.at1 (H.rd 8 rds_row) 0 g336⟩ ?_
    clear E; intro a E
    refine wpList_nil ?_
    refine th_n ?_
    refine wp_seq ?_
    obtain ⟨g339, hP⟩ := ask_inv hP
    obtain ⟨b340, o341, e_b340⟩ := (H.rd 1 rds_ro).addr (idx_pos g339)
    subst e_b340
    obtain ⟨r342, h343, hP⟩ := bind_inv hP
    have HR357 := H
    refine dr_start (S := fun w_ => Chg (atL []) w332 w_) (by kernel_rfl) ?_
    intro w354 hc355
    have HS356 : Chg (atL []) w332 w354 := hc355.mono (fun _ _ h_ => h_.elim)
    replace H := H.ext hc355
    refine dr tbok (by kernel_rfl) [0, 1, 2, 3, 4, 5, 6, 7, 8] [.int .i64 aProps, .slice A9 (List.length aNodes) c10, .slice (some ⟨b340, o341, none⟩) (List.length aGuard) c6, .int .i64 (List.getD aGuard (Int.toNat (List.getD x120.2 (Int.toNat (0 : Int)) 0)) 0)] [(1, .pointer (some ⟨g13, 0, none⟩)), (2, .pointer (some ⟨g18, 0, none⟩)), (6, .slice A44 (List.length r35.1) c45), (9, .slice (some ⟨g47, 0, none⟩) (List.length x120.1) 256), (13, .pointer none), (15, .pointer (some ⟨g173, 0, none⟩)), (17, .int .i64 (List.getD x120.2 (Int.toNat (0 : Int)) 0)), (74, .slice (some ⟨b337, 0, none⟩) (List.length x120.2) c118), (75, .int .i64 (((List.length x120.2) : Nat) : Int)), (76, .int .i64 0), (82, .int .i64 aProps), (84, .slice A9 (List.length aNodes) c10), (89, .int .i64 (List.getD aGuard (Int.toNat (List.getD x120.2 (Int.toNat (0 : Int)) 0)) 0))] (fun w_ => [World.cell? w_ ⟨g13, 0, none⟩ = some (.int .i64 aProps), World.cell? w_ ⟨g13, 3, none⟩ = some (.slice A9 (List.length aNodes) c10), World.cell? w_ ⟨g13, 2, none⟩ = some (.slice (some ⟨b340, o341, none⟩) (List.length aGuard) c6), 0 ≤ (List.getD x120.2 (Int.toNat (0 : Int)) 0) ∧ (List.getD x120.2 (Int.toNat (0 : Int)) 0) < (((List.length aGuard) : Nat) : Int), World.cell? w_ ⟨b340, o341 + (Int.toNat (List.getD x120.2 (Int.toNat (0 : Int)) 0)) * 1, none⟩ = some (.int .i64 (List.getD aGuard (Int.toNat (List.getD x120.2 (Int.toNat (0 : Int)) 0)) 0))]) 6 E (fun _ _ => by kernel_rfl) (fun w_ hS_ => ⟨(HR357.boxk [] hS_ 3 rfl rfl).cell (j := 0) rfl, (HR357.boxk [] hS_ 3 rfl rfl).cell (j := 3) rfl, (HR357.boxk [] hS_ 3 rfl rfl).cell (j := 2) rfl, g339, Rds.at1 (HR357.rdk [] hS_ 1 rds_ro rfl) 0 g339⟩) (by kernel_rfl) HS356 ?_
    clear E; intro a E
    refine wpAnyH_all (rs := [9]) (by kernel_rfl) (by simp) ?_
    refine all1 ?_
    refine wpOp_of_list rfl ?_
    obtain ⟨Fa358, Hc359, hb360⟩ := H.call [] [(2, false)] rfl rfl trivial
    refine e_call E rfl rfl Try.func61 rfl rfl rfl (guard_Table_calls A9 c10 aProps aNodes (List.getD aGuard (Int.toNat (List.getD x120.2 (Int.toNat (0 : Int)) 0)) 0) hk11 Hc359 h343) ?_
    rintro v361 w362 a ⟨A365, c366, rfl, HR363⟩ E_
    replace E := E_ _ rfl; clear E_
    obtain ⟨H_, hc364⟩ := hb360 _ _ HR363 rfl
    replace HS356 := HS356.ext (callS_ext hc364)
    replace H := H_; clear H_; try dsimp only [setn, addE, goneL] at H
    refine wpList_nil ?_
    refine th_n ⟨HS356, ?_⟩
    refine dr tbok (by kernel_rfl) [10, 11, 12, 13, 14] [] [(1, .pointer (some ⟨g13, 0, none⟩)), (2, .pointer (some ⟨g18, 0, none⟩)), (6, .slice A44 (List.length r35.1) c45), (9, .slice (some ⟨g47, 0, none⟩) (List.length x120.1) 256), (13, .pointer none), (15, .pointer (some ⟨g173, 0, none⟩)), (17, .int .i64 (List.getD x120.2 (Int.toNat (0 : Int)) 0)), (18, .slice A365 (List.length r342.1) c366), (74, .slice (some ⟨b337, 0, none⟩) (List.length x120.2) c118), (75, .int .i64 (((List.length x120.2) : Nat) : Int)), (76, .int .i64 0)] (fun w_ => []) 0 E (fun _ _ => by kernel_rfl) (fun w_ hS_ => trivial) (by kernel_rfl) HS356 ?_
    clear E; intro a E
    refine dr_done (by kernel_rfl) ?_
    clear HS356 HR357
    refine th_n ?_
    refine wp_seq ?_
    refine wp_seq ?_
    refine wp_region_lit ?_
    refine vr tbok 3 [] [(1, .pointer (some ⟨g13, 0, none⟩)), (2, .pointer (some ⟨g18, 0, none⟩)), (6, .slice A44 (List.length r35.1) c45), (9, .slice (some ⟨g47, 0, none⟩) (List.length x120.1) 256), (13, .pointer none), (15, .pointer (some ⟨g173, 0, none⟩)), (17, .int .i64 (List.getD x120.2 (Int.toNat (0 : Int)) 0)), (18, .slice A365 (List.length r342.1) c366), (74, .slice (some ⟨b337, 0, none⟩) (List.length x120.2) c118), (75, .int .i64 (((List.length x120.2) : Nat) : Int)), (76, .int .i64 0), (93, .slice A365 (List.length r342.1) c366), (94, .int .i64 (((List.length r342.1) : Nat) : Int)), (95, .int .i64 0)] [] E (by kernel_rfl) trivial ?_
    clear E; intro a E
    refine wpList_nil ?_
    refine th_n ?_
    refine wp_block ?_
    obtain ⟨x403, hL404, hK405⟩ := bind_inv hP
    clear hP
    refine loop_cut (fun i_ a w_ => (i_ = 4 ∧ ∃ (x408 : List Int), ∃ (A400 : Option Addr) (c401 : Nat), Fr a 143 [(1, .pointer (some ⟨g13, 0, none⟩)), (2, .pointer (some ⟨g18, 0, none⟩)), (6, .slice A44 (List.length r35.1) c45), (9, .slice (some ⟨g47, 0, none⟩) (List.length x120.1) 256), (13, .pointer none), (15, .pointer (some ⟨g173, 0, none⟩)), (17, .int .i64 (List.getD x120.2 (Int.toNat (0 : Int)) 0)), (18, .slice A400 (List.length x408) c401), (74, .slice (some ⟨b337, 0, none⟩) (List.length x120.2) c118), (75, .int .i64 (((List.length x120.2) : Nat) : Int)), (76, .int .i64 0)] ∧ Hp S Fa w0 w_ [.ro false cBool A1 aAccept, .ro false (cInt .i64) (some ⟨b340, o341, none⟩) aGuard, .ro false cNode A9 aNodes, .box g13 26 [.int .i64 aProps, .slice A1 (List.length aAccept) c2, .slice (some ⟨b340, o341, none⟩) (List.length aGuard) c6, .slice A9 (List.length aNodes) c10], .box g18 26 [.int .i64 0, .slice none 0 0, .slice none 0 0, .slice none 0 0], .row true (cInt .i64) 3 A44 c45 r35.1, .rowx true (cInt .i64) 86 (some ⟨g47, 0, none⟩) 256 x120.1 (List.drop (Int.toNat (((List.length aAccept) : Nat) : Int)) (List.replicate 256 (0 : Int)) ++ []), .box g173 26 [.int .i64 aProps, .slice none 0 0, .slice none 0 0, .slice none 0 0], .row true (cInt .i64) 3 A400 c401 x408, .row true (cInt .i64) 3 (some ⟨b337, 0, none⟩) c118 x120.2] ∧ x403 = x408)) ?_ ?_
    ·
     refine loopV (fun m407 a w406 => ∃ (x381 : List Int) (x384 : Int), ∃ (A382 : Option Addr) (c383 : Nat), Fr a 143 [(1, .pointer (some ⟨g13, 0, none⟩)), (2, .pointer (some ⟨g18, 0, none⟩)), (6, .slice A44 (List.length r35.1) c45), (9, .slice (some ⟨g47, 0, none⟩) (List.length x120.1) 256), (13, .pointer none), (15, .pointer (some ⟨g173, 0, none⟩)), (17, .int .i64 (List.getD x120.2 (Int.toNat (0 : Int)) 0)), (18, .slice A382 (List.length x381) c383), (74, .slice (some ⟨b337, 0, none⟩) (List.length x120.2) c118), (75, .int .i64 (((List.length x120.2) : Nat) : Int)), (76, .int .i64 0), (93, .slice A382 (List.length x381) c383), (94, .int .i64 (((List.length r342.1) : Nat) : Int)), (95, .int .i64 x384)] ∧ Hp S Fa w0 w406 [.ro false cBool A1 aAccept, .ro false (cInt .i64) (some ⟨b340, o341, none⟩) aGuard, .ro false cNode A9 aNodes, .box g13 26 [.int .i64 aProps, .slice A1 (List.length aAccept) c2, .slice (some ⟨b340, o341, none⟩) (List.length aGuard) c6, .slice A9 (List.length aNodes) c10], .box g18 26 [.int .i64 0, .slice none 0 0, .slice none 0 0, .slice none 0 0], .row true (cInt .i64) 3 A44 c45 r35.1, .rowx true (cInt .i64) 86 (some ⟨g47, 0, none⟩) 256 x120.1 (List.drop (Int.toNat (((List.length aAccept) : Nat) : Int)) (List.replicate 256 (0 : Int)) ++ []), .box g173 26 [.int .i64 aProps, .slice none 0 0, .slice none 0 0, .slice none 0 0], .row true (cInt .i64) 3 A382 c383 x381, .row true (cInt .i64) 3 (some ⟨b337, 0, none⟩) c118 x120.2] ∧ canon_least_l2 N r35 x120 r342 m407 x381 x384 = some x403) N ?_ ?_
     ·
      exact ⟨r342.1, 0, A365, c366, E.pick _ ⟨rfl, rfl, rfl, rfl, rfl, rfl, rfl, rfl, rfl, rfl, rfl, rfl, rfl, rfl, trivial⟩, H.sel [0, 1, 2, 3, 4, 5, 6, 7, 9, 8] rfl, hL404⟩
     clear E H hL404; intro m407 a w406 hI_
     obtain ⟨x381, x384, A382, c383, E, H, hP⟩ := hI_
     obtain ⟨m402, rfl⟩ : ∃ q_, m407 = q_ + 1 := by cases m407 with | zero => rw [canon_least_l2] at hP; cases hP | succ q_ => exact ⟨q_, rfl⟩
     rw [canon_least_l2] at hP
     refine wp_seq ?_
     refine wp_region_lit ?_
     refine vr tbok 1 [] [(1, .pointer (some ⟨g13, 0, none⟩)), (2, .pointer (some ⟨g18, 0, none⟩)), (6, .slice A44 (List.length r35.1) c45), (9, .slice (some ⟨g47, 0, none⟩) (List.length x120.1) 256), (13, .pointer none), (15, .pointer (some ⟨g173, 0, none⟩)), (17, .int .i64 (List.getD x120.2 (Int.toNat (0 : Int)) 0)), (18, .slice A382 (List.length x381) c383), (74, .slice (some ⟨b337, 0, none⟩) (List.length x120.2) c118), (75, .int .i64 (((List.length x120.2) : Nat) : Int)), (76, .int .i64 0), (93, .slice A382 (List.length x381) c383), (94, .int .i64 (((List.length r342.1) : Nat) : Int)), (95, .int .i64 x384), (96, .bool (decide (x384 < (((List.length r342.1) : Nat) : Int))))] [] E (by kernel_rfl) trivial ?_
     clear E; intro a E
     refine wpList_nil ?_
     refine th_n ?_
     refine wp_seq ?_
     refine E.cases (t := 96) rfl (fun hb_ E_ => ?_) (fun hb_ E_ => ?_)
     ·
      replace E := E_; clear E_
      have h409 : x384 < (((List.length r342.1) : Nat) : Int) := of_decide_eq_true hb_
      clear hb_; replace hP := ite_t h409 hP
      refine c_true E rfl ?_
      refine wp_skip ?_
      refine th_n ?_
      refine wp_seq ?_
      refine wp_block ?_
      refine wp_seq ?_
      refine wp_region_lit ?_
      obtain ⟨g410, hP⟩ := ask_inv hP
      obtain ⟨b411, e_b411⟩ := H.raddr 8 rfl (idx_pos g410)
      subst e_b411
      refine vr tbok 5 [.int .i64 (List.getD x381 (Int.toNat x384) 0)] [(1, .pointer (some ⟨g13, 0, none⟩)), (2, .pointer (some ⟨g18, 0, none⟩)), (6, .slice A44 (List.length r35.1) c45), (9, .slice (some ⟨g47, 0, none⟩) (List.length x120.1) 256), (13, .pointer none), (15, .pointer (some ⟨g173, 0, none⟩)), (17, .int .i64 (List.getD x120.2 (Int.toNat (0 : Int)) 0)), (18, .slice (some ⟨b411, 0, none⟩) (List.length x381) c383), (20, .int .i64 x384), (21, .int .i64 (List.getD x381 (Int.toNat x384) 0)), (74, .slice (some ⟨b337, 0, none⟩) (List.length x120.2) c118), (75, .int .i64 (((List.length x120.2) : Nat) : Int)), (76, .int .i64 0), (93, .slice (some ⟨b411, 0, none⟩) (List.length x381) c383), (94, .int .i64 (((List.length r342.1) : Nat) : Int)), (95, .int .i64 x384)] [0 ≤ x384 ∧ x384 < (((List.length x381) : Nat) : Int), World.cell? w406 ⟨b411, 0 + (Int.toNat x384) * 1, none⟩ = some (.int .i64 (List.getD x381 (Int.toNat x384) 0))] E (by kernel_rfl) ⟨g410, Rds.at1 (H.rd 8 rds_row) 0 g410⟩ ?_
      clear E; intro a E
      refine wpList_nil ?_
      refine th_n ?_
      refine wp_region_lit ?_
      obtain ⟨g413, hP⟩ := ask_inv hP
      obtain ⟨b414, e_b414⟩ := H.raddr 5 rfl (idx_pos g413)
      subst e_b414
      obtain ⟨g416, hP⟩ := ask_inv hP
      obtain ⟨g417, hP⟩ := ask_inv hP
      refine vr tbok 11 [.int .i64 (List.getD r35.1 (Int.toNat (List.getD x381 (Int.toNat x384) 0)) 0), .int .i64 (List.getD x120.1 (Int.toNat (List.getD r35.1 (Int.toNat (List.getD x381 (Int.toNat x384) 0)) 0)) 0), .int .i64 ((List.getD x120.1 (Int.toNat (List.getD r35.1 (Int.toNat (List.getD x381 (Int.toNat x384) 0)) 0)) 0) - 1)] [(1, .pointer (some ⟨g13, 0, none⟩)), (2, .pointer (some ⟨g18, 0, none⟩)), (6, .slice (some ⟨b414, 0, none⟩) (List.length r35.1) c45), (9, .slice (some ⟨g47, 0, none⟩) (List.length x120.1) 256), (13, .pointer none), (15, .pointer (some ⟨g173, 0, none⟩)), (17, .int .i64 (List.getD x120.2 (Int.toNat (0 : Int)) 0)), (18, .slice (some ⟨b411, 0, none⟩) (List.length x381) c383), (74, .slice (some ⟨b337, 0, none⟩) (List.length x120.2) c118), (75, .int .i64 (((List.length x120.2) : Nat) : Int)), (76, .int .i64 0), (93, .slice (some ⟨b411, 0, none⟩) (List.length x381) c383), (94, .int .i64 (((List.length r342.1) : Nat) : Int)), (95, .int .i64 x384), (109, .int .i64 ((List.getD x120.1 (Int.toNat (List.getD r35.1 (Int.toNat (List.getD x381 (Int.toNat x384) 0)) 0)) 0) - 1)), (110, .pointer (some ⟨b411, 0 + (Int.toNat x384) * 1, none⟩))] [0 ≤ (List.getD x381 (Int.toNat x384) 0) ∧ (List.getD x381 (Int.toNat x384) 0) < (((List.length r35.1) : Nat) : Int), World.cell? w406 ⟨b414, 0 + (Int.toNat (List.getD x381 (Int.toNat x384) 0)) * 1, none⟩ = some (.int .i64 (List.getD r35.1 (Int.toNat (List.getD x381 (Int.toNat x384) 0)) 0)), 0 ≤ (List.getD r35.1 (Int.toNat (List.getD x381 (Int.toNat x384) 0)) 0) ∧ (List.getD r35.1 (Int.toNat (List.getD x381 (Int.toNat x384) 0)) 0) < (((List.length x120.1) : Nat) : Int), World.cell? w406 ⟨g47, 0 + (Int.toNat (List.getD r35.1 (Int.toNat (List.getD x381 (Int.toNat x384) 0)) 0)) * 1, none⟩ = some (.int .i64 (List.getD x120.1 (Int.toNat (List.getD r35.1 (Int.toNat (List.getD x381 (Int.toNat x384) 0)) 0)) 0)), IntKind.i64.wrap ((List.getD x120.1 (Int.toNat (List.getD r35.1 (Int.toNat (List.getD x381 (Int.toNat x384) 0)) 0)) 0) - 1) = (List.getD x120.1 (Int.toNat (List.getD r35.1 (Int.toNat (List.getD x381 (Int.toNat x384) 0)) 0)) 0) - 1, 0 ≤ x384 ∧ x384 < (((List.length x381) : Nat) : Int)] E (by kernel_rfl) ⟨g413, Rds.at1 (H.rd 5 rds_row) 0 g413, g416, Rds.at1 (H.rd 6 rds_rowx) 0 g416, wrap_in g417, g410⟩ ?_
      clear E; intro a E
      refine h_set (g := b411) (i := x384) ((List.getD x120.1 (Int.toNat (List.getD r35.1 (Int.toNat (List.getD x381 (Int.toNat x384) 0)) 0)) 0) - 1) H 8 rfl E rfl rfl rfl rfl tbok rfl (fun _ HF_ => rfl) rfl g410 rfl ?_
      clear E; intro w418 a hc419 H_ E
      replace H := H_; clear H_; try dsimp only [setn, addE, goneL] at H
      have hn420 : (List.length x381) = (List.length (List.set x381 (Int.toNat x384) ((List.getD x120.1 (Int.toNat (List.getD r35.1 (Int.toNat (List.getD x381 (Int.toNat x384) 0)) 0)) 0) - 1))) := by simp only [List.length_set]
      replace E := E.same (t := 18) (u := .slice (some ⟨b411, 0, none⟩) (List.length (List.set x381 (Int.toNat x384) ((List.getD x120.1 (Int.toNat (List.getD r35.1 (Int.toNat (List.getD x381 (Int.toNat x384) 0)) 0)) 0) - 1))) c383) rfl (congrArg (fun n_ => Value.slice (some ⟨b411, 0, none⟩) n_ c383) hn420)
      replace E := E.same (t := 93) (u := .slice (some ⟨b411, 0, none⟩) (List.length (List.set x381 (Int.toNat x384) ((List.getD x120.1 (Int.toNat (List.getD r35.1 (Int.toNat (List.getD x381 (Int.toNat x384) 0)) 0)) 0) - 1))) c383) rfl (congrArg (fun n_ => Value.slice (some ⟨b411, 0, none⟩) n_ c383) hn420)
      refine wpList_nil ?_
      refine bl_n ?_
      refine th_n ?_
      refine wp_region_lit ?_
      obtain ⟨g421, hP⟩ := ask_inv hP
      refine vr tbok 2 [.int .i64 (x384 + 1)] [(1, .pointer (some ⟨g13, 0, none⟩)), (2, .pointer (some ⟨g18, 0, none⟩)), (6, .slice (some ⟨b414, 0, none⟩) (List.length r35.1) c45), (9, .slice (some ⟨g47, 0, none⟩) (List.length x120.1) 256), (13, .pointer none), (15, .pointer (some ⟨g173, 0, none⟩)), (17, .int .i64 (List.getD x120.2 (Int.toNat (0 : Int)) 0)), (18, .slice (some ⟨b411, 0, none⟩) (List.length (List.set x381 (Int.toNat x384) ((List.getD x120.1 (Int.toNat (List.getD r35.1 (Int.toNat (List.getD x381 (Int.toNat x384) 0)) 0)) 0) - 1))) c383), (74, .slice (some ⟨b337, 0, none⟩) (List.length x120.2) c118), (75, .int .i64 (((List.length x120.2) : Nat) : Int)), (76, .int .i64 0), (93, .slice (some ⟨b411, 0, none⟩) (List.length (List.set x381 (Int.toNat x384) ((List.getD x120.1 (Int.toNat (List.getD r35.1 (Int.toNat (List.getD x381 (Int.toNat x384) 0)) 0)) 0) - 1))) c383), (94, .int .i64 (((List.length r342.1) : Nat) : Int)), (95, .int .i64 (x384 + 1))] [IntKind.i64.wrap (x384 + 1) = x384 + 1] E (by kernel_rfl) (wrap_in g421) ?_
      clear E; intro a E
      refine wpList_nil ?_
      exact th_n ⟨m402, Nat.lt_succ_self _, List.set x381 (Int.toNat x384) ((List.getD x120.1 (Int.toNat (List.getD r35.1 (Int.toNat (List.getD x381 (Int.toNat x384) 0)) 0)) 0) - 1), x384 + 1, (some ⟨b411, 0, none⟩), c383, E.pick _ ⟨rfl, rfl, rfl, rfl, rfl, rfl, rfl, rfl, rfl, rfl, rfl, rfl, rfl, rfl, trivial⟩, H.sel [0, 1, 2, 3, 4, 5, 6, 7, 8, 9] rfl, hP⟩
     replace E := E_; clear E_
     have h422 : ¬ (x384 < (((List.length r342.1) : Nat) : Int)) := of_decide_eq_false hb_
     clear hb_; replace hP := ite_f h422 hP
     refine c_false E rfl ?_
     refine wp_exit ?_
     refine th_exit ?_
     have hx_ := Option.some.inj hP
     refine th_exit (.inl ⟨4, rfl, ?_⟩)
     exact ⟨rfl, x381, A382, c383, E.pick _ ⟨rfl, rfl, rfl, rfl, rfl, rfl, rfl, rfl, rfl, rfl, rfl, trivial⟩, H.sel [0, 1, 2, 3, 4, 5, 6, 7, 8, 9] rfl, hx_.symm⟩
    clear E H hL404; intro i_ a w406 hM_
    obtain ⟨rfl, x408, A400, c401, E, H, hx_⟩ := hM_
    subst hx_; have hP := hK405; clear hK405
    refine bl_hit ?_
    refine th_n ?_
    refine wp_seq ?_
    refine wp_region_lit ?_
    refine vr tbok 2 [] [(1, .pointer (some ⟨g13, 0, none⟩)), (2, .pointer (some ⟨g18, 0, none⟩)), (6, .slice A44 (List.length r35.1) c45), (9, .slice (some ⟨g47, 0, none⟩) (List.length x120.1) 256), (13, .pointer none), (15, .pointer (some ⟨g173, 0, none⟩)), (17, .int .i64 (List.getD x120.2 (Int.toNat (0 : Int)) 0)), (74, .slice (some ⟨b337, 0, none⟩) (List.length x120.2) c118), (75, .int .i64 (((List.length x120.2) : Nat) : Int)), (76, .int .i64 0), (113, .pointer none), (114, .slice A400 (List.length x403) c401)] [] E (by kernel_rfl) trivial ?_
    clear E; intro a E
    obtain ⟨x425, h426, hP⟩ := bind_inv hP
    refine e_call (R := fun v_ w_ => ∃ (x427 : Unit), v_ = .tuple #[.int .i64 0, .int .i64 1] ∧ Hp S Fa w0 w_ [.ro false cBool A1 aAccept, .ro false (cInt .i64) (some ⟨b340, o341, none⟩) aGuard, .ro false cNode A9 aNodes, .box g13 26 [.int .i64 aProps, .slice A1 (List.length aAccept) c2, .slice (some ⟨b340, o341, none⟩) (List.length aGuard) c6, .slice A9 (List.length aNodes) c10], .box g18 26 [.int .i64 0, .slice none 0 0, .slice none 0 0, .slice none 0 0], .row true (cInt .i64) 3 A44 c45 r35.1, .rowx true (cInt .i64) 86 (some ⟨g47, 0, none⟩) 256 x120.1 (List.drop (Int.toNat (((List.length aAccept) : Nat) : Int)) (List.replicate 256 (0 : Int)) ++ []), .box g173 26 [.int .i64 aProps, .slice none 0 0, .slice none 0 0, .slice none 0 0], .row true (cInt .i64) 3 (some ⟨b337, 0, none⟩) c118 x120.2, .row true (cInt .i64) 3 A400 c401 x403] ∧ x425 = x427) E rfl rfl Try.func62 rfl rfl rfl ?_ ?_
    ·
     clear E hP; have hP := h426; clear h426; rw [canon_least_f3] at hP
     refine enterV (n := 63) Try.func62 rfl rfl rfl ?_
     intro a E
     replace E := E.pick [(0, .pointer none), (1, .slice A400 (List.length x403) c401)] ⟨rfl, rfl, trivial⟩
     refine wp_seq ?_
     refine wp_region_lit ?_
     refine vr tbok 2 [] [(0, .pointer none), (1, .slice A400 (List.length x403) c401)] [] E (by kernel_rfl) trivial ?_
     clear E; intro a E
     refine wpList_nil ?_
     refine th_n ?_
     refine wp_seq ?_
     refine wp_seq ?_
     refine wp_region_lit ?_
     refine vr tbok 1 [] [(0, .pointer none), (1, .slice A400 (List.length x403) c401), (10, .pointer none)] [] E (by kernel_rfl) trivial ?_
     clear E; intro a E
     obtain ⟨x428, h429, hP⟩ := bind_inv hP
     refine e_call (R := fun v_ w_ => ∃ (x430 : Unit), v_ = .bool true ∧ Hp S Fa w0 w_ [.ro false cBool A1 aAccept, .ro false (cInt .i64) (some ⟨b340, o341, none⟩) aGuard, .ro false cNode A9 aNodes, .box g13 26 [.int .i64 aProps, .slice A1 (List.length aAccept) c2, .slice (some ⟨b340, o341, none⟩) (List.length aGuard) c6, .slice A9 (List.length aNodes) c10], .box g18 26 [.int .i64 0, .slice none 0 0, .slice none 0 0, .slice none 0 0], .row true (cInt .i64) 3 A44 c45 r35.1, .rowx true (cInt .i64) 86 (some ⟨g47, 0, none⟩) 256 x120.1 (List.drop (Int.toNat (((List.length aAccept) : Nat) : Int)) (List.replicate 256 (0 : Int)) ++ []), .box g173 26 [.int .i64 aProps, .slice none 0 0, .slice none 0 0, .slice none 0 0], .row true (cInt .i64) 3 (some ⟨b337, 0, none⟩) c118 x120.2, .row true (cInt .i64) 3 A400 c401 x403] ∧ x428 = x430) E rfl rfl Try.func69 rfl rfl rfl ?_ ?_
     ·
      clear E hP; have hP := h429; clear h429; rw [canon_least_f4] at hP
      refine enterV (n := 12) Try.func69 rfl rfl rfl ?_
      intro a E
      replace E := E.pick [(0, .pointer none)] ⟨rfl, trivial⟩
      refine wp_seq ?_
      refine wp_region_lit ?_
      refine vr tbok 1 [] [(0, .pointer none)] [] E (by kernel_rfl) trivial ?_
      clear E; intro a E
      refine wpList_nil ?_
      refine th_n ?_
      refine wp_seq ?_
      refine wp_region_lit ?_
      refine vr tbok 10 [] [(2, .bool true)] [] E (by kernel_rfl) trivial ?_
      clear E; intro a E
      refine wpList_nil ?_
      refine th_n ?_
      refine wp_ret ?_
      have hx_ := Option.some.inj hP
      refine ret1 E rfl rfl ?_
      exact ⟨_, rfl, (), rfl, H.sel [0, 1, 2, 3, 4, 5, 6, 7, 9, 8] rfl, hx_.symm⟩
     clear H
     rintro v432 w431 a ⟨x430, rfl, H, hx_⟩ E_
     subst hx_
     replace E := E_ _ rfl; clear E_
     refine wpList_nil ?_
     refine th_n ?_
     refine c_true E rfl ?_
     refine wp_seq ?_
     refine wp_region_lit ?_
     refine vr tbok 2 [] [(4, .int .i64 0), (5, .int .i64 1)] [] E (by kernel_rfl) trivial ?_
     clear E; intro a E
     refine wpList_nil ?_
     refine th_n ?_
     refine wp_ret ?_
     refine th_ret ?_
     have hx_ := Option.some.inj hP
     refine ret2 E rfl rfl rfl ?_
     exact ⟨_, rfl, (), rfl, H.sel [0, 1, 2, 3, 4, 5, 6, 7, 8, 9] rfl, hx_.symm⟩
    clear H
    rintro v434 w433 a ⟨x427, rfl, H, hx_⟩ E_
    subst hx_
    replace E := E_ _ rfl; clear E_
    refine vr tbok 5 [] [(1, .pointer (some ⟨g13, 0, none⟩)), (2, .pointer (some ⟨g18, 0, none⟩)), (6, .slice A44 (List.length r35.1) c45), (9, .slice (some ⟨g47, 0, none⟩) (List.length x120.1) 256), (13, .pointer none), (15, .pointer (some ⟨g173, 0, none⟩)), (17, .int .i64 (List.getD x120.2 (Int.toNat (0 : Int)) 0)), (22, .int .i64 0), (23, .int .i64 1), (74, .slice (some ⟨b337, 0, none⟩) (List.length x120.2) c118), (75, .int .i64 (((List.length x120.2) : Nat) : Int)), (76, .int .i64 0)] [] E (by kernel_rfl) trivial ?_
    clear E; intro a E
    refine wpList_nil ?_
    refine th_n ?_
    refine wp_seq ?_
    refine wp_seq ?_
    refine wp_region_lit ?_
    refine vr tbok 2 [] [(1, .pointer (some ⟨g13, 0, none⟩)), (2, .pointer (some ⟨g18, 0, none⟩)), (6, .slice A44 (List.length r35.1) c45), (9, .slice (some ⟨g47, 0, none⟩) (List.length x120.1) 256), (13, .pointer none), (15, .pointer (some ⟨g173, 0, none⟩)), (17, .int .i64 (List.getD x120.2 (Int.toNat (0 : Int)) 0)), (22, .int .i64 0), (23, .int .i64 1), (74, .slice (some ⟨b337, 0, none⟩) (List.length x120.2) c118), (75, .int .i64 (((List.length x120.2) : Nat) : Int)), (76, .int .i64 0), (119, .bool true)] [] E (by kernel_rfl) trivial ?_
    clear E; intro a E
    refine wpList_nil ?_
    refine th_n ?_
    refine c_true E rfl ?_
    refine wp_seq ?_
    refine wp_region_lit ?_
    refine e_build (ps := []) (v := .agg #[.int .i64 0, .slice none 0 0, .slice none 0 0, .slice none 0 0]) E rfl rfl tbok rfl (by kernel_rfl) rfl ?_
    clear E; intro a E
    refine vr tbok 1 [] [(2, .pointer (some ⟨g18, 0, none⟩)), (120, .agg #[.int .i64 0, .slice none 0 0, .slice none 0 0, .slice none 0 0]), (121, .int .i64 1)] [] E (by kernel_rfl) trivial ?_
    clear E; intro a E
    refine h_store (g := g18) (off := 0) H 4 rfl E rfl rfl rfl rfl tbok rfl rfl rfl rfl rfl ?_
    clear E; intro w435 a hc436 H_ E
    replace H := H_; clear H_; try dsimp only [setn, addE, goneL] at H
    refine vr tbok 1 [] [(2, .pointer (some ⟨g18, 0, none⟩)), (3, .int .i64 1)] [] E (by kernel_rfl) trivial ?_
    clear E; intro a E
    refine wpList_nil ?_
    refine th_n ?_
    refine wp_ret ?_
    refine th_ret ?_
    refine bl_ret ?_
    refine th_ret ?_
    refine th_ret ?_
    refine .inr ⟨rfl, ?_⟩
    refine bl_ret ?_
    refine th_ret ?_
    replace H := H.nilrow cBool 4; try dsimp only [setn, addE, goneL] at H
    replace H := H.nilrow (cInt .i64) 3; try dsimp only [setn, addE, goneL] at H
    replace H := H.nilrow cNode 57; try dsimp only [setn, addE, goneL] at H
    have hx_ := Option.some.inj hP; subst hx_
    have hP : some (((0, [], [], []), 1)) = some r := hK331
    obtain rfl := Option.some.inj hP
    refine retV E [.cell 2 26, .tmp 3] [.agg #[.int .i64 0, .slice none 0 0, .slice none 0 0, .slice none 0 0], .int .i64 1] rfl ⟨⟨_, rfl, run_loadBx tbok (H.box 4 rfl) rfl rfl rfl 0 rfl rfl⟩, rfl, trivial⟩ (.inl rfl) ?_
    exact ⟨_, rfl, none, 0, none, 0, none, 0, rfl, H.sel [10, 11, 12] rfl⟩
   replace E := E_; clear E_
   have h440 : ¬ (0 < (((List.length x120.2) : Nat) : Int)) := of_decide_eq_false hb_
   clear hb_; replace hP := ite_f h440 hP
   refine c_false E rfl ?_
   refine wp_exit ?_
   refine th_exit ?_
   have hx_ := Option.some.inj hP
   refine th_exit (.inl ⟨2, rfl, ?_⟩)
   exact ⟨rfl, (), E.pick _ ⟨rfl, rfl, rfl, trivial⟩, H.sel [4, 7] rfl, hx_.symm⟩
  clear E H hL330; intro i_ a w332 hM_
  obtain ⟨rfl, x334, E, H, hx_⟩ := hM_
  subst hx_; have hP := elim_l hK331
  clear hK331
  refine bl_hit ?_
  refine th_n ?_
  refine wp_seq ?_
  refine wp_region_lit ?_
  refine vr tbok 1 [] [(2, .pointer (some ⟨g18, 0, none⟩)), (15, .pointer (some ⟨g173, 0, none⟩)), (139, .pointer none)] [] E (by kernel_rfl) trivial ?_
  clear E; intro a E
  obtain ⟨x444, h445, hP⟩ := bind_inv hP
  refine e_call (R := fun v_ w_ => ∃ (x446 : Unit), v_ = .slice none 0 0 ∧ Hp S Fa w0 w_ [.box g18 26 [.int .i64 0, .slice none 0 0, .slice none 0 0, .slice none 0 0], .box g173 26 [.int .i64 aProps, .slice none 0 0, .slice none 0 0, .slice none 0 0]] ∧ x444 = x446) E rfl rfl Try.func63 rfl rfl rfl ?_ ?_
  ·
   clear E hP; have hP := h445; clear h445; rw [canon_least_f5] at hP
   refine enterV (n := 11) Try.func63 rfl rfl rfl ?_
   intro a E
   replace E := E.pick [(0, .pointer none)] ⟨rfl, trivial⟩
   refine wp_seq ?_
   refine wp_region_lit ?_
   refine vr tbok 1 [] [(0, .pointer none)] [] E (by kernel_rfl) trivial ?_
   clear E; intro a E
   refine wpList_nil ?_
   refine th_n ?_
   refine wp_seq ?_
   refine wp_seq ?_
   refine wp_region_lit ?_
   refine vr tbok 1 [] [(0, .pointer none), (3, .pointer none)] [] E (by kernel_rfl) trivial ?_
   clear E; intro a E
   obtain ⟨x447, h448, hP⟩ := bind_inv hP
   refine e_call (R := fun v_ w_ => ∃ (x449 : Unit), v_ = .bool true ∧ Hp S Fa w0 w_ [.box g18 26 [.int .i64 0, .slice none 0 0, .slice none 0 0, .slice none 0 0], .box g173 26 [.int .i64 aProps, .slice none 0 0, .slice none 0 0, .slice none 0 0]] ∧ x447 = x449) E rfl rfl Try.func69 rfl rfl rfl ?_ ?_
   ·
    clear E hP; have hP := h448; clear h448; rw [canon_least_f6] at hP
    refine enterV (n := 12) Try.func69 rfl rfl rfl ?_
    intro a E
    replace E := E.pick [(0, .pointer none)] ⟨rfl, trivial⟩
    refine wp_seq ?_
    refine wp_region_lit ?_
    refine vr tbok 1 [] [(0, .pointer none)] [] E (by kernel_rfl) trivial ?_
    clear E; intro a E
    refine wpList_nil ?_
    refine th_n ?_
    refine wp_seq ?_
    refine wp_region_lit ?_
    refine vr tbok 10 [] [(2, .bool true)] [] E (by kernel_rfl) trivial ?_
    clear E; intro a E
    refine wpList_nil ?_
    refine th_n ?_
    refine wp_ret ?_
    have hx_ := Option.some.inj hP
    refine ret1 E rfl rfl ?_
    exact ⟨_, rfl, (), rfl, H.sel [0, 1] rfl, hx_.symm⟩
   clear H
   rintro v451 w450 a ⟨x449, rfl, H, hx_⟩ E_
   subst hx_
   replace E := E_ _ rfl; clear E_
   refine wpList_nil ?_
   refine th_n ?_
   refine c_true E rfl ?_
   refine wp_seq ?_
   refine wp_region_lit ?_
   refine vr tbok 1 [] [(2, .slice none 0 0)] [] E (by kernel_rfl) trivial ?_
   clear E; intro a E
   refine wpList_nil ?_
   refine th_n ?_
   refine wp_ret ?_
   refine th_ret ?_
   have hx_ := Option.some.inj hP
   refine ret1 E rfl rfl ?_
   exact ⟨_, rfl, (), rfl, H.sel [0, 1] rfl, hx_.symm⟩
  clear H
  rintro v453 w452 a ⟨x446, rfl, H, hx_⟩ E_
  subst hx_
  replace E := E_ _ rfl; clear E_
  refine vr tbok 1 [] [(2, .pointer (some ⟨g18, 0, none⟩)), (15, .pointer (some ⟨g173, 0, none⟩)), (140, .slice none 0 0), (141, .pointer (some ⟨g173, 3, none⟩))] [] E (by kernel_rfl) trivial ?_
  clear E; intro a E
  refine h_store (g := g173) (off := 3) H 1 rfl E rfl rfl rfl rfl tbok rfl rfl rfl rfl rfl ?_
  clear E; intro w454 a hc455 H_ E
  replace H := H_; clear H_; try dsimp only [setn, addE, goneL] at H
  refine wpList_nil ?_
  refine th_n ?_
  refine wp_seq ?_
  refine wp_region_lit ?_
  refine vr tbok 1 [.agg #[.int .i64 aProps, .slice none 0 0, .slice none 0 0, .slice none 0 0]] [(2, .pointer (some ⟨g18, 0, none⟩)), (142, .agg #[.int .i64 aProps, .slice none 0 0, .slice none 0 0, .slice none 0 0])] [cellsAt w454 g173 (0) [.int .i64 aProps, .slice none 0 0, .slice none 0 0, .slice none 0 0]] E (by kernel_rfl) ((H.box 1 rfl).sub 0 _ rfl) ?_
  clear E; intro a E
  refine h_store (g := g18) (off := 0) H 0 rfl E rfl rfl rfl rfl tbok rfl rfl rfl rfl rfl ?_
  clear E; intro w456 a hc457 H_ E
  replace H := H_; clear H_; try dsimp only [setn, addE, goneL] at H
  refine vr tbok 1 [] [(2, .pointer (some ⟨g18, 0, none⟩)), (3, .int .i64 0)] [] E (by kernel_rfl) trivial ?_
  clear E; intro a E
  refine wpList_nil ?_
  refine th_n ?_
  refine wp_ret ?_
  replace H := H.nilrow cBool 4; try dsimp only [setn, addE, goneL] at H
  replace H := H.nilrow (cInt .i64) 3; try dsimp only [setn, addE, goneL] at H
  replace H := H.nilrow cNode 57; try dsimp only [setn, addE, goneL] at H
  obtain rfl := Option.some.inj hP
  refine retV E [.cell 2 26, .tmp 3] [.agg #[.int .i64 aProps, .slice none 0 0, .slice none 0 0, .slice none 0 0], .int .i64 0] rfl ⟨⟨_, rfl, run_loadBx tbok (H.box 0 rfl) rfl rfl rfl 0 rfl rfl⟩, rfl, trivial⟩ (.inl rfl) ?_
  exact ⟨_, rfl, none, 0, none, 0, none, 0, rfl, H.sel [2, 3, 4] rfl⟩
 subst hr_; have hP := (elim_r hP)
 obtain ⟨x172, hxx_⟩ : ∃ y_, y_ = x_ := ⟨_, rfl⟩; subst hxx_
 replace E := E_ _ rfl; clear E_
 obtain ⟨H_, hc166⟩ := hb158 _ _ HR170 rfl
 replace H := H_; clear H_; try dsimp only [setn, addE, goneL] at H
 refine vr tbok 5 [] [(1, .pointer (some ⟨g13, 0, none⟩)), (2, .pointer (some ⟨g18, 0, none⟩)), (6, .slice A44 (List.length r35.1) c45), (9, .slice (some ⟨g47, 0, none⟩) (List.length x120.1) 256), (10, .slice A117 (List.length x120.2) c118), (13, .pointer (some ⟨g168, 0, none⟩))] [] E (by kernel_rfl) trivial ?_
 clear E; intro a E
 refine wpList_nil ?_
 refine th_n ?_
 refine wp_seq ?_
 refine wp_region_lit ?_
 refine vr tbok 2 [.int .i64 aProps] [(1, .pointer (some ⟨g13, 0, none⟩)), (2, .pointer (some ⟨g18, 0, none⟩)), (6, .slice A44 (List.length r35.1) c45), (9, .slice (some ⟨g47, 0, none⟩) (List.length x120.1) 256), (10, .slice A117 (List.length x120.2) c118), (13, .pointer (some ⟨g168, 0, none⟩)), (72, .int .i64 aProps)] [World.cell? w163 ⟨g13, 0, none⟩ = some (.int .i64 aProps)] E (by kernel_rfl) ((H.box 3 rfl).cell (j := 0) rfl) ?_
 clear E; intro a E
 refine e_build (ps := [(0, .int .i64 aProps)]) (v := .agg #[.int .i64 aProps, .slice none 0 0, .slice none 0 0, .slice none 0 0]) E rfl rfl tbok rfl (by kernel_rfl) rfl ?_
 clear E; intro a E
 refine h_alloc H E rfl rfl tbok rfl ?_
 intro w464 g463 a hc465 hg467 H_ E_
 replace E := E_ _ rfl; clear E_
 replace H := H_; clear H_; try dsimp only [setn, addE, goneL] at H
 refine h_store (g := g463) (off := 0) H 10 rfl E rfl rfl rfl rfl tbok rfl rfl rfl rfl rfl ?_
 clear E; intro w468 a hc469 H_ E
 replace H := H_; clear H_; try dsimp only [setn, addE, goneL] at H
 refine wpList_nil ?_
 refine th_n ?_
 refine wp_seq ?_
 refine wp_seq ?_
 refine wp_region_lit ?_
 refine vr tbok 3 [] [(1, .pointer (some ⟨g13, 0, none⟩)), (2, .pointer (some ⟨g18, 0, none⟩)), (6, .slice A44 (List.length r35.1) c45), (9, .slice (some ⟨g47, 0, none⟩) (List.length x120.1) 256), (13, .pointer (some ⟨g168, 0, none⟩)), (15, .pointer (some ⟨g463, 0, none⟩)), (74, .slice A117 (List.length x120.2) c118), (75, .int .i64 (((List.length x120.2) : Nat) : Int)), (76, .int .i64 0)] [] E (by kernel_rfl) trivial ?_
 clear E; intro a E
 refine wpList_nil ?_
 refine th_n ?_
 refine wp_block ?_
 obtain ⟨x750, hL751, hK752⟩ := bind_inv hP
 clear hP
 replace H := H.nilrow cNode 57; try dsimp only [setn, addE, goneL] at H
 replace H := H.nilrow cBool 4; try dsimp only [setn, addE, goneL] at H
 replace H := H.nilrow (cInt .i64) 3; try dsimp only [setn, addE, goneL] at H
 refine loop_cut (fun i_ a w_ => (i_ = 2 ∧ ∃ (x758 : (List Nd) × (List (Nd × Int)) × (List Bool) × (List Int)), ∃ (A738 : Option Addr) (c739 : Nat) (A743 : Option Addr) (c744 : Nat) (A747 : Option Addr) (c748 : Nat), Fr a 143 [(2, .pointer (some ⟨g18, 0, none⟩)), (13, .pointer (some ⟨g168, 0, none⟩)), (15, .pointer (some ⟨g463, 0, none⟩))] ∧ Hp S Fa w0 w_ [.box g18 26 [.int .i64 0, .slice none 0 0, .slice none 0 0, .slice none 0 0], .box g168 102 [.int .i64 aProps, .slice A738 (List.length x758.1) c739, .map (some g169)], .row true cNode 57 A738 c739 x758.1, .mp Try.prog 57 g169 (List.map (fun p_ => (ndV p_.1, (fun u_ : Int => .int .i64 u_) p_.2)) x758.2.1), .box g463 26 [.int .i64 aProps, .slice A743 (List.length x758.2.2.1) c744, .slice A747 (List.length x758.2.2.2) c748, .slice none 0 0], .row true cBool 4 A743 c744 x758.2.2.1, .row true (cInt .i64) 3 A747 c748 x758.2.2.2] ∧ x750 = Sum.inl x758)) ?_ ?_
 ·
  refine loopV (fun m757 a w756 => ∃ (s597 : List Nd) (s600 : List (Nd × Int)) (out602 : List Bool) (out606 : List Int) (x609 : Int), ∃ (A598 : Option Addr) (c599 : Nat) (A603 : Option Addr) (c604 : Nat) (A607 : Option Addr) (c608 : Nat), Fr a 143 [(1, .pointer (some ⟨g13, 0, none⟩)), (2, .pointer (some ⟨g18, 0, none⟩)), (6, .slice A44 (List.length r35.1) c45), (9, .slice (some ⟨g47, 0, none⟩) (List.length x120.1) 256), (13, .pointer (some ⟨g168, 0, none⟩)), (15, .pointer (some ⟨g463, 0, none⟩)), (74, .slice A117 (List.length x120.2) c118), (75, .int .i64 (((List.length x120.2) : Nat) : Int)), (76, .int .i64 x609)] ∧ Hp S Fa w0 w756 [.ro false cBool A1 aAccept, .ro false (cInt .i64) A5 aGuard, .ro false cNode A9 aNodes, .box g13 26 [.int .i64 aProps, .slice A1 (List.length aAccept) c2, .slice A5 (List.length aGuard) c6, .slice A9 (List.length aNodes) c10], .box g18 26 [.int .i64 0, .slice none 0 0, .slice none 0 0, .slice none 0 0], .row true (cInt .i64) 3 A44 c45 r35.1, .rowx true (cInt .i64) 86 (some ⟨g47, 0, none⟩) 256 x120.1 (List.drop (Int.toNat (((List.length aAccept) : Nat) : Int)) (List.replicate 256 (0 : Int)) ++ []), .box g168 102 [.int .i64 aProps, .slice A598 (List.length s597) c599, .map (some g169)], .row true cNode 57 A598 c599 s597, .mp Try.prog 57 g169 (List.map (fun p_ => (ndV p_.1, (fun u_ : Int => .int .i64 u_) p_.2)) s600), .box g463 26 [.int .i64 aProps, .slice A603 (List.length out602) c604, .slice A607 (List.length out606) c608, .slice none 0 0], .row true cBool 4 A603 c604 out602, .row true (cInt .i64) 3 A607 c608 out606, .row true (cInt .i64) 3 A117 c118 x120.2] ∧ canon_least_l7 N aProps aAccept aGuard aNodes r35 x120 m757 s597 s600 out602 out606 x609 = some x750) N ?_ ?_
  ·
   exact ⟨[], ([] : List (Nd × Int)), [], [], 0, none, 0, none, 0, none, 0, E.pick _ ⟨rfl, rfl, rfl, rfl, rfl, rfl, rfl, rfl, rfl, trivial⟩, H.sel [0, 1, 2, 3, 4, 5, 6, 8, 11, 9, 10, 12, 13, 7] rfl, hL751⟩
  clear E H hL751; intro m757 a w756 hI_
  obtain ⟨s597, s600, out602, out606, x609, A598, c599, A603, c604, A607, c608, E, H, hP⟩ := hI_
  obtain ⟨m749, rfl⟩ : ∃ q_, m757 = q_ + 1 := by cases m757 with | zero => rw [canon_least_l7] at hP; cases hP | succ q_ => exact ⟨q_, rfl⟩
  rw [canon_least_l7] at hP
  refine wp_seq ?_
  refine wp_region_lit ?_
  refine vr tbok 1 [] [(1, .pointer (some ⟨g13, 0, none⟩)), (2, .pointer (some ⟨g18, 0, none⟩)), (6, .slice A44 (List.length r35.1) c45), (9, .slice (some ⟨g47, 0, none⟩) (List.length x120.1) 256), (13, .pointer (some ⟨g168, 0, none⟩)), (15, .pointer (some ⟨g463, 0, none⟩)), (74, .slice A117 (List.length x120.2) c118), (75, .int .i64 (((List.length x120.2) : Nat) : Int)), (76, .int .i64 x609), (77, .bool (decide (x609 < (((List.length x120.2) : Nat) : Int))))] [] E (by kernel_rfl) trivial ?_
  clear E; intro a E
  refine wpList_nil ?_
  refine th_n ?_
  refine wp_seq ?_
  refine E.cases (t := 77) rfl (fun hb_ E_ => ?_) (fun hb_ E_ => ?_)
  ·
   replace E := E_; clear E_
   have h759 : x609 < (((List.length x120.2) : Nat) : Int) := of_decide_eq_true hb_
   clear hb_; replace hP := ite_t h759 hP
   refine c_true E rfl ?_
   refine wp_skip ?_
   refine th_n ?_
   refine wp_seq ?_
   refine wp_block ?_
   refine wp_seq ?_
   refine wp_region_lit ?_
   obtain ⟨g760, hP⟩ := ask_inv hP
   obtain ⟨b761, e_b761⟩ := H.raddr 13 rfl (idx_pos g760)
   subst e_b761
   refine vr tbok 3 [.int .i64 (List.getD x120.2 (Int.toNat x609) 0)] [(1, .pointer (some ⟨g13, 0, none⟩)), (2, .pointer (some ⟨g18, 0, none⟩)), (6, .slice A44 (List.length r35.1) c45), (9, .slice (some ⟨g47, 0, none⟩) (List.length x120.1) 256), (13, .pointer (some ⟨g168, 0, none⟩)), (15, .pointer (some ⟨g463, 0, none⟩)), (17, .int .i64 (List.getD x120.2 (Int.toNat x609) 0)), (74, .slice (some ⟨b761, 0, none⟩) (List.length x120.2) c118), (75, .int .i64 (((List.length x120.2) : Nat) : Int)), (76, .int .i64 x609)] [0 ≤ x609 ∧ x609 < (((List.length x120.2) : Nat) : Int), World.cell? w756 ⟨b761, 0 + (Int.toNat x609) * 1, none⟩ = some (.int .i64 (List.getD x120.2 (Int.toNat x609) 0))] E (by kernel_rfl) ⟨g760, Rds.at1 (H.rd 13 rds_row) 0 g760⟩ ?_
   clear E; intro a E
   refine wpList_nil ?_
   refine th_n ?_
   refine wp_seq ?_
   obtain ⟨g763, hP⟩ := ask_inv hP
   obtain ⟨b764, o765, e_b764⟩ := (H.rd 1 rds_ro).addr (idx_pos g763)
   subst e_b764
   obtain ⟨r766, h767, hP⟩ := bind_inv hP
   have HR781 := H
   refine dr_start (S := fun w_ => Chg (atL []) w756 w_) (by kernel_rfl) ?_
   intro w778 hc779
   have HS780 : Chg (atL []) w756 w778 := hc779.mono (fun _ _ h_ => h_.elim)
   replace H := H.ext hc779
   refine dr tbok (by kernel_rfl) [0, 1, 2, 3, 4, 5, 6, 7, 8] [.int .i64 aProps, .slice A9 (List.length aNodes) c10, .slice (some ⟨b764, o765, none⟩) (List.length aGuard) c6, .int .i64 (List.getD aGuard (Int.toNat (List.getD x120.2 (Int.toNat x609) 0)) 0)] [(1, .pointer (some ⟨g13, 0, none⟩)), (2, .pointer (some ⟨g18, 0, none⟩)), (6, .slice A44 (List.length r35.1) c45), (9, .slice (some ⟨g47, 0, none⟩) (List.length x120.1) 256), (13, .pointer (some ⟨g168, 0, none⟩)), (15, .pointer (some ⟨g463, 0, none⟩)), (17, .int .i64 (List.getD x120.2 (Int.toNat x609) 0)), (74, .slice (some ⟨b761, 0, none⟩) (List.length x120.2) c118), (75, .int .i64 (((List.length x120.2) : Nat) : Int)), (76, .int .i64 x609), (82, .int .i64 aProps), (84, .slice A9 (List.length aNodes) c10), (89, .int .i64 (List.getD aGuard (Int.toNat (List.getD x120.2 (Int.toNat x609) 0)) 0))] (fun w_ => [World.cell? w_ ⟨g13, 0, none⟩ = some (.int .i64 aProps), World.cell? w_ ⟨g13, 3, none⟩ = some (.slice A9 (List.length aNodes) c10), World.cell? w_ ⟨g13, 2, none⟩ = some (.slice (some ⟨b764, o765, none⟩) (List.length aGuard) c6), 0 ≤ (List.getD x120.2 (Int.toNat x609) 0) ∧ (List.getD x120.2 (Int.toNat x609) 0) < (((List.length aGuard) : Nat) : Int), World.cell? w_ ⟨b764, o765 + (Int.toNat (List.getD x120.2 (Int.toNat x609) 0)) * 1, none⟩ = some (.int .i64 (List.getD aGuard (Int.toNat (List.getD x120.2 (Int.toNat x609) 0)) 0))]) 6 E (fun _ _ => by kernel_rfl) (fun w_ hS_ => ⟨(HR781.boxk [] hS_ 3 rfl rfl).cell (j := 0) rfl, (HR781.boxk [] hS_ 3 rfl rfl).cell (j := 3) rfl, (HR781.boxk [] hS_ 3 rfl rfl).cell (j := 2) rfl, g763, Rds.at1 (HR781.rdk [] hS_ 1 rds_ro rfl) 0 g763⟩) (by kernel_rfl) HS780 ?_
   clear E; intro a E
   refine wpAnyH_all (rs := [9]) (by kernel_rfl) (by simp) ?_
   refine all1 ?_
   refine wpOp_of_list rfl ?_
   obtain ⟨Fa782, Hc783, hb784⟩ := H.call [] [(2, false)] rfl rfl trivial
   refine e_call E rfl rfl Try.func61 rfl rfl rfl (guard_Table_calls A9 c10 aProps aNodes (List.getD aGuard (Int.toNat (List.getD x120.2 (Int.toNat x609) 0)) 0) hk11 Hc783 h767) ?_
   rintro v785 w786 a ⟨A789, c790, rfl, HR787⟩ E_
   replace E := E_ _ rfl; clear E_
   obtain ⟨H_, hc788⟩ := hb784 _ _ HR787 rfl
   replace HS780 := HS780.ext (callS_ext hc788)
   replace H := H_; clear H_; try dsimp only [setn, addE, goneL] at H
   refine wpList_nil ?_
   refine th_n ⟨HS780, ?_⟩
   refine dr tbok (by kernel_rfl) [10, 11, 12, 13, 14] [] [(1, .pointer (some ⟨g13, 0, none⟩)), (2, .pointer (some ⟨g18, 0, none⟩)), (6, .slice A44 (List.length r35.1) c45), (9, .slice (some ⟨g47, 0, none⟩) (List.length x120.1) 256), (13, .pointer (some ⟨g168, 0, none⟩)), (15, .pointer (some ⟨g463, 0, none⟩)), (17, .int .i64 (List.getD x120.2 (Int.toNat x609) 0)), (18, .slice A789 (List.length r766.1) c790), (74, .slice (some ⟨b761, 0, none⟩) (List.length x120.2) c118), (75, .int .i64 (((List.length x120.2) : Nat) : Int)), (76, .int .i64 x609)] (fun w_ => []) 0 E (fun _ _ => by kernel_rfl) (fun w_ hS_ => trivial) (by kernel_rfl) HS780 ?_
   clear E; intro a E
   refine dr_done (by kernel_rfl) ?_
   clear HS780 HR781
   refine th_n ?_
   refine wp_seq ?_
   refine wp_seq ?_
   refine wp_region_lit ?_
   refine vr tbok 3 [] [(1, .pointer (some ⟨g13, 0, none⟩)), (2, .pointer (some ⟨g18, 0, none⟩)), (6, .slice A44 (List.length r35.1) c45), (9, .slice (some ⟨g47, 0, none⟩) (List.length x120.1) 256), (13, .pointer (some ⟨g168, 0, none⟩)), (15, .pointer (some ⟨g463, 0, none⟩)), (17, .int .i64 (List.getD x120.2 (Int.toNat x609) 0)), (18, .slice A789 (List.length r766.1) c790), (74, .slice (some ⟨b761, 0, none⟩) (List.length x120.2) c118), (75, .int .i64 (((List.length x120.2) : Nat) : Int)), (76, .int .i64 x609), (93, .slice A789 (List.length r766.1) c790), (94, .int .i64 (((List.length r766.1) : Nat) : Int)), (95, .int .i64 0)] [] E (by kernel_rfl) trivial ?_
   clear E; intro a E
   refine wpList_nil ?_
   refine th_n ?_
   refine wp_block ?_
   obtain ⟨x827, hL828, hK829⟩ := bind_inv hP
   clear hP
   refine loop_cut (fun i_ a w_ => (i_ = 4 ∧ ∃ (x832 : List Int), ∃ (A824 : Option Addr) (c825 : Nat), Fr a 143 [(1, .pointer (some ⟨g13, 0, none⟩)), (2, .pointer (some ⟨g18, 0, none⟩)), (6, .slice A44 (List.length r35.1) c45), (9, .slice (some ⟨g47, 0, none⟩) (List.length x120.1) 256), (13, .pointer (some ⟨g168, 0, none⟩)), (15, .pointer (some ⟨g463, 0, none⟩)), (17, .int .i64 (List.getD x120.2 (Int.toNat x609) 0)), (18, .slice A824 (List.length x832) c825), (74, .slice (some ⟨b761, 0, none⟩) (List.length x120.2) c118), (75, .int .i64 (((List.length x120.2) : Nat) : Int)), (76, .int .i64 x609)] ∧ Hp S Fa w0 w_ [.ro false cBool A1 aAccept, .ro false (cInt .i64) (some ⟨b764, o765, none⟩) aGuard, .ro false cNode A9 aNodes, .box g13 26 [.int .i64 aProps, .slice A1 (List.length aAccept) c2, .slice (some ⟨b764, o765, none⟩) (List.length aGuard) c6, .slice A9 (List.length aNodes) c10], .box g18 26 [.int .i64 0, .slice none 0 0, .slice none 0 0, .slice none 0 0], .row true (cInt .i64) 3 A44 c45 r35.1, .rowx true (cInt .i64) 86 (some ⟨g47, 0, none⟩) 256 x120.1 (List.drop (Int.toNat (((List.length aAccept) : Nat) : Int)) (List.replicate 256 (0 : Int)) ++ []), .row true cNode 57 A598 c599 s597, .mp Try.prog 57 g169 (List.map (fun p_ => (ndV p_.1, (fun u_ : Int => .int .i64 u_) p_.2)) s600), .box g168 102 [.int .i64 aProps, .slice A598 (List.length s597) c599, .map (some g169)], .row true cBool 4 A603 c604 out602, .row true (cInt .i64) 3 A607 c608 out606, .box g463 26 [.int .i64 aProps, .slice A603 (List.length out602) c604, .slice A607 (List.length out606) c608, .slice none 0 0], .row true (cInt .i64) 3 A824 c825 x832, .row true (cInt .i64) 3 (some ⟨b761, 0, none⟩) c118 x120.2] ∧ x827 = x832)) ?_ ?_
   ·
    refine loopV (fun m831 a w830 => ∃ (x805 : List Int) (x808 : Int), ∃ (A806 : Option Addr) (c807 : Nat), Fr a 143 [(1, .pointer (some ⟨g13, 0, none⟩)), (2, .pointer (some ⟨g18, 0, none⟩)), (6, .slice A44 (List.length r35.1) c45), (9, .slice (some ⟨g47, 0, none⟩) (List.length x120.1) 256), (13, .pointer (some ⟨g168, 0, none⟩)), (15, .pointer (some ⟨g463, 0, none⟩)), (17, .int .i64 (List.getD x120.2 (Int.toNat x609) 0)), (18, .slice A806 (List.length x805) c807), (74, .slice (some ⟨b761, 0, none⟩) (List.length x120.2) c118), (75, .int .i64 (((List.length x120.2) : Nat) : Int)), (76, .int .i64 x609), (93, .slice A806 (List.length x805) c807), (94, .int .i64 (((List.length r766.1) : Nat) : Int)), (95, .int .i64 x808)] ∧ Hp S Fa w0 w830 [.ro false cBool A1 aAccept, .ro false (cInt .i64) (some ⟨b764, o765, none⟩) aGuard, .ro false cNode A9 aNodes, .box g13 26 [.int .i64 aProps, .slice A1 (List.length aAccept) c2, .slice (some ⟨b764, o765, none⟩) (List.length aGuard) c6, .slice A9 (List.length aNodes) c10], .box g18 26 [.int .i64 0, .slice none 0 0, .slice none 0 0, .slice none 0 0], .row true (cInt .i64) 3 A44 c45 r35.1, .rowx true (cInt .i64) 86 (some ⟨g47, 0, none⟩) 256 x120.1 (List.drop (Int.toNat (((List.length aAccept) : Nat) : Int)) (List.replicate 256 (0 : Int)) ++ []), .row true cNode 57 A598 c599 s597, .mp Try.prog 57 g169 (List.map (fun p_ => (ndV p_.1, (fun u_ : Int => .int .i64 u_) p_.2)) s600), .box g168 102 [.int .i64 aProps, .slice A598 (List.length s597) c599, .map (some g169)], .row true cBool 4 A603 c604 out602, .row true (cInt .i64) 3 A607 c608 out606, .box g463 26 [.int .i64 aProps, .slice A603 (List.length out602) c604, .slice A607 (List.length out606) c608, .slice none 0 0], .row true (cInt .i64) 3 A806 c807 x805, .row true (cInt .i64) 3 (some ⟨b761, 0, none⟩) c118 x120.2] ∧ canon_least_l8 N r35 x120 r766 m831 x805 x808 = some x827) N ?_ ?_
    ·
     exact ⟨r766.1, 0, A789, c790, E.pick _ ⟨rfl, rfl, rfl, rfl, rfl, rfl, rfl, rfl, rfl, rfl, rfl, rfl, rfl, rfl, trivial⟩, H.sel [0, 1, 2, 3, 4, 5, 6, 8, 9, 7, 11, 12, 10, 14, 13] rfl, hL828⟩
    clear E H hL828; intro m831 a w830 hI_
    obtain ⟨x805, x808, A806, c807, E, H, hP⟩ := hI_
    obtain ⟨m826, rfl⟩ : ∃ q_, m831 = q_ + 1 := by cases m831 with | zero => rw [canon_least_l8] at hP; cases hP | succ q_ => exact ⟨q_, rfl⟩
    rw [canon_least_l8] at hP
    refine wp_seq ?_
    refine wp_region_lit ?_
    refine vr tbok 1 [] [(1, .pointer (some ⟨g13, 0, none⟩)), (2, .pointer (some ⟨g18, 0, none⟩)), (6, .slice A44 (List.length r35.1) c45), (9, .slice (some ⟨g47, 0, none⟩) (List.length x120.1) 256), (13, .pointer (some ⟨g168, 0, none⟩)), (15, .pointer (some ⟨g463, 0, none⟩)), (17, .int .i64 (List.getD x120.2 (Int.toNat x609) 0)), (18, .slice A806 (List.length x805) c807), (74, .slice (some ⟨b761, 0, none⟩) (List.length x120.2) c118), (75, .int .i64 (((List.length x120.2) : Nat) : Int)), (76, .int .i64 x609), (93, .slice A806 (List.length x805) c807), (94, .int .i64 (((List.length r766.1) : Nat) : Int)), (95, .int .i64 x808), (96, .bool (decide (x808 < (((List.length r766.1) : Nat) : Int))))] [] E (by kernel_rfl) trivial ?_
    clear E; intro a E
    refine wpList_nil ?_
    refine th_n ?_
    refine wp_seq ?_
    refine E.cases (t := 96) rfl (fun hb_ E_ => ?_) (fun hb_ E_ => ?_)
    ·
     replace E := E_; clear E_
     have h833 : x808 < (((List.length r766.1) : Nat) : Int) := of_decide_eq_true hb_
     clear hb_; replace hP := ite_t h833 hP
     refine c_true E rfl ?_
     refine wp_skip ?_
     refine th_n ?_
     refine wp_seq ?_
     refine wp_block ?_
     refine wp_seq ?_
     refine wp_region_lit ?_
     obtain ⟨g834, hP⟩ := ask_inv hP
     obtain ⟨b835, e_b835⟩ := H.raddr 13 rfl (idx_pos g834)
     subst e_b835
     refine vr tbok 5 [.int .i64 (List.getD x805 (Int.toNat x808) 0)] [(1, .pointer (some ⟨g13, 0, none⟩)), (2, .pointer (some ⟨g18, 0, none⟩)), (6, .slice A44 (List.length r35.1) c45), (9, .slice (some ⟨g47, 0, none⟩) (List.length x120.1) 256), (13, .pointer (some ⟨g168, 0, none⟩)), (15, .pointer (some ⟨g463, 0, none⟩)), (17, .int .i64 (List.getD x120.2 (Int.toNat x609) 0)), (18, .slice (some ⟨b835, 0, none⟩) (List.length x805) c807), (20, .int .i64 x808), (21, .int .i64 (List.getD x805 (Int.toNat x808) 0)), (74, .slice (some ⟨b761, 0, none⟩) (List.length x120.2) c118), (75, .int .i64 (((List.length x120.2) : Nat) : Int)), (76, .int .i64 x609), (93, .slice (some ⟨b835, 0, none⟩) (List.length x805) c807), (94, .int .i64 (((List.length r766.1) : Nat) : Int)), (95, .int .i64 x808)] [0 ≤ x808 ∧ x808 < (((List.length x805) : Nat) : Int), World.cell? w830 ⟨b835, 0 + (Int.toNat x808) * 1, none⟩ = some (.int .i64 (List.getD x805 (Int.toNat x808) 0))] E (by kernel_rfl) ⟨g834, Rds.at1 (H.rd 13 rds_row) 0 g834⟩ ?_
     clear E; intro a E
     refine wpList_nil ?_
     refine th_n ?_
     refine wp_region_lit ?_
     obtain ⟨g837, hP⟩ := ask_inv hP
     obtain ⟨b838, e_b838⟩ := H.raddr 5 rfl (idx_pos g837)
     subst e_b838
     obtain ⟨g840, hP⟩ := ask_inv hP
     obtain ⟨g841, hP⟩ := ask_inv hP
     refine vr tbok 11 [.int .i64 (List.getD r35.1 (Int.toNat (List.getD x805 (Int.toNat x808) 0)) 0), .int .i64 (List.getD x120.1 (Int.toNat (List.getD r35.1 (Int.toNat (List.getD x805 (Int.toNat x808) 0)) 0)) 0), .int .i64 ((List.getD x120.1 (Int.toNat (List.getD r35.1 (Int.toNat (List.getD x805 (Int.toNat x808) 0)) 0)) 0) - 1)] [(1, .pointer (some ⟨g13, 0, none⟩)), (2, .pointer (some ⟨g18, 0, none⟩)), (6, .slice (some ⟨b838, 0, none⟩) (List.length r35.1) c45), (9, .slice (some ⟨g47, 0, none⟩) (List.length x120.1) 256), (13, .pointer (some ⟨g168, 0, none⟩)), (15, .pointer (some ⟨g463, 0, none⟩)), (17, .int .i64 (List.getD x120.2 (Int.toNat x609) 0)), (18, .slice (some ⟨b835, 0, none⟩) (List.length x805) c807), (74, .slice (some ⟨b761, 0, none⟩) (List.length x120.2) c118), (75, .int .i64 (((List.length x120.2) : Nat) : Int)), (76, .int .i64 x609), (93, .slice (some ⟨b835, 0, none⟩) (List.length x805) c807), (94, .int .i64 (((List.length r766.1) : Nat) : Int)), (95, .int .i64 x808), (109, .int .i64 ((List.getD x120.1 (Int.toNat (List.getD r35.1 (Int.toNat (List.getD x805 (Int.toNat x808) 0)) 0)) 0) - 1)), (110, .pointer (some ⟨b835, 0 + (Int.toNat x808) * 1, none⟩))] [0 ≤ (List.getD x805 (Int.toNat x808) 0) ∧ (List.getD x805 (Int.toNat x808) 0) < (((List.length r35.1) : Nat) : Int), World.cell? w830 ⟨b838, 0 + (Int.toNat (List.getD x805 (Int.toNat x808) 0)) * 1, none⟩ = some (.int .i64 (List.getD r35.1 (Int.toNat (List.getD x805 (Int.toNat x808) 0)) 0)), 0 ≤ (List.getD r35.1 (Int.toNat (List.getD x805 (Int.toNat x808) 0)) 0) ∧ (List.getD r35.1 (Int.toNat (List.getD x805 (Int.toNat x808) 0)) 0) < (((List.length x120.1) : Nat) : Int), World.cell? w830 ⟨g47, 0 + (Int.toNat (List.getD r35.1 (Int.toNat (List.getD x805 (Int.toNat x808) 0)) 0)) * 1, none⟩ = some (.int .i64 (List.getD x120.1 (Int.toNat (List.getD r35.1 (Int.toNat (List.getD x805 (Int.toNat x808) 0)) 0)) 0)), IntKind.i64.wrap ((List.getD x120.1 (Int.toNat (List.getD r35.1 (Int.toNat (List.getD x805 (Int.toNat x808) 0)) 0)) 0) - 1) = (List.getD x120.1 (Int.toNat (List.getD r35.1 (Int.toNat (List.getD x805 (Int.toNat x808) 0)) 0)) 0) - 1, 0 ≤ x808 ∧ x808 < (((List.length x805) : Nat) : Int)] E (by kernel_rfl) ⟨g837, Rds.at1 (H.rd 5 rds_row) 0 g837, g840, Rds.at1 (H.rd 6 rds_rowx) 0 g840, wrap_in g841, g834⟩ ?_
     clear E; intro a E
     refine h_set (g := b835) (i := x808) ((List.getD x120.1 (Int.toNat (List.getD r35.1 (Int.toNat (List.getD x805 (Int.toNat x808) 0)) 0)) 0) - 1) H 13 rfl E rfl rfl rfl rfl tbok rfl (fun _ HF_ => rfl) rfl g834 rfl ?_
     clear E; intro w842 a hc843 H_ E
     replace H := H_; clear H_; try dsimp only [setn, addE, goneL] at H
     have hn844 : (List.length x805) = (List.length (List.set x805 (Int.toNat x808) ((List.getD x120.1 (Int.toNat (List.getD r35.1 (Int.toNat (List.getD x805 (Int.toNat x808) 0)) 0)) 0) - 1))) := by simp only [List.length_set]
     replace E := E.same (t := 18) (u := .slice (some ⟨b835, 0, none⟩) (List.length (List.set x805 (Int.toNat x808) ((List.getD x120.1 (Int.toNat (List.getD r35.1 (Int.toNat (List.getD x805 (Int.toNat x808) 0)) 0)) 0) - 1))) c807) rfl (congrArg (fun n_ => Value.slice (some ⟨b835, 0, none⟩) n_ c807) hn844)
     replace E := E.same (t := 93) (u := .slice (some ⟨b835, 0, none⟩) (List.length (List.set x805 (Int.toNat x808) ((List.getD x120.1 (Int.toNat (List.getD r35.1 (Int.toNat (List.getD x805 (Int.toNat x808) 0)) 0)) 0) - 1))) c807) rfl (congrArg (fun n_ => Value.slice (some ⟨b835, 0, none⟩) n_ c807) hn844)
     refine wpList_nil ?_
     refine bl_n ?_
     refine th_n ?_
     refine wp_region_lit ?_
     obtain ⟨g845, hP⟩ := ask_inv hP
     refine vr tbok 2 [.int .i64 (x808 + 1)] [(1, .pointer (some ⟨g13, 0, none⟩)), (2, .pointer (some ⟨g18, 0, none⟩)), (6, .slice (some ⟨b838, 0, none⟩) (List.length r35.1) c45), (9, .slice (some ⟨g47, 0, none⟩) (List.length x120.1) 256), (13, .pointer (some ⟨g168, 0, none⟩)), (15, .pointer (some ⟨g463, 0, none⟩)), (17, .int .i64 (List.getD x120.2 (Int.toNat x609) 0)), (18, .slice (some ⟨b835, 0, none⟩) (List.length (List.set x805 (Int.toNat x808) ((List.getD x120.1 (Int.toNat (List.getD r35.1 (Int.toNat (List.getD x805 (Int.toNat x808) 0)) 0)) 0) - 1))) c807), (74, .slice (some ⟨b761, 0, none⟩) (List.length x120.2) c118), (75, .int .i64 (((List.length x120.2) : Nat) : Int)), (76, .int .i64 x609), (93, .slice (some ⟨b835, 0, none⟩) (List.length (List.set x805 (Int.toNat x808) ((List.getD x120.1 (Int.toNat (List.getD r35.1 (Int.toNat (List.getD x805 (Int.toNat x808) 0)) 0)) 0) - 1))) c807), (94, .int .i64 (((List.length r766.1) : Nat) : Int)), (95, .int .i64 (x808 + 1))] [IntKind.i64.wrap (x808 + 1) = x808 + 1] E (by kernel_rfl) (wrap_in g845) ?_
     clear E; intro a E
     refine wpList_nil ?_
     exact th_n ⟨m826, Nat.lt_succ_self _, List.set x805 (Int.toNat x808) ((List.getD x120.1 (Int.toNat (List.getD r35.1 (Int.toNat (List.getD x805 (Int.toNat x808) 0)) 0)) 0) - 1), x808 + 1, (some ⟨b835, 0, none⟩), c807, E.pick _ ⟨rfl, rfl, rfl, rfl, rfl, rfl, rfl, rfl, rfl, rfl, rfl, rfl, rfl, rfl, trivial⟩, H.sel [0, 1, 2, 3, 4, 5, 6, 7, 8, 9, 10, 11, 12, 13, 14] rfl, hP⟩
    replace E := E_; clear E_
    have h846 : ¬ (x808 < (((List.length r766.1) : Nat) : Int)) := of_decide_eq_false hb_
    clear hb_; replace hP := ite_f h846 hP
    refine c_false E rfl ?_
    refine wp_exit ?_
    refine th_exit ?_
    have hx_ := Option.some.inj hP
    refine th_exit (.inl ⟨4, rfl, ?_⟩)
    exact ⟨rfl, x805, A806, c807, E.pick _ ⟨rfl, rfl, rfl, rfl, rfl, rfl, rfl, rfl, rfl, rfl, rfl, trivial⟩, H.sel [0, 1, 2, 3, 4, 5, 6, 7, 8, 9, 10, 11, 12, 13, 14] rfl, hx_.symm⟩
   clear E H hL828; intro i_ a w830 hM_
   obtain ⟨rfl, x832, A824, c825, E, H, hx_⟩ := hM_
   subst hx_; have hP := hK829; clear hK829
   refine bl_hit ?_
   refine th_n ?_
   refine wp_seq ?_
   refine wp_region_lit ?_
   refine vr tbok 2 [] [(1, .pointer (some ⟨g13, 0, none⟩)), (2, .pointer (some ⟨g18, 0, none⟩)), (6, .slice A44 (List.length r35.1) c45), (9, .slice (some ⟨g47, 0, none⟩) (List.length x120.1) 256), (13, .pointer (some ⟨g168, 0, none⟩)), (15, .pointer (some ⟨g463, 0, none⟩)), (17, .int .i64 (List.getD x120.2 (Int.toNat x609) 0)), (74, .slice (some ⟨b761, 0, none⟩) (List.length x120.2) c118), (75, .int .i64 (((List.length x120.2) : Nat) : Int)), (76, .int .i64 x609), (113, .pointer (some ⟨g168, 0, none⟩)), (114, .slice A824 (List.length x827) c825)] [] E (by kernel_rfl) trivial ?_
   clear E; intro a E
   obtain ⟨r847, h848, hP⟩ := bind_inv hP
   obtain ⟨Fa849, Hc850, hb851⟩ := H.call [9, 7, 8] [(13, false)] rfl rfl ⟨flat_plain, trivial⟩
   refine e_call E rfl rfl Try.func62 rfl rfl rfl (guard_Store_Add_calls g168 A598 c599 g169 A824 c825 aProps s597 s600 x827 (H.rcap 13 rfl) Hc850 h848) ?_
   intro v857 w856 a hR858 E_
   obtain ⟨x_, A861, c862, hr_, rfl, HR860⟩ := hR858
   subst hr_
   replace E := E_ _ rfl; clear E_
   obtain ⟨H_, hc859⟩ := hb851 _ _ HR860 rfl
   replace H := H_; clear H_; try dsimp only [setn, addE, goneL] at H
   refine vr tbok 5 [] [(1, .pointer (some ⟨g13, 0, none⟩)), (2, .pointer (some ⟨g18, 0, none⟩)), (6, .slice A44 (List.length r35.1) c45), (9, .slice (some ⟨g47, 0, none⟩) (List.length x120.1) 256), (13, .pointer (some ⟨g168, 0, none⟩)), (15, .pointer (some ⟨g463, 0, none⟩)), (17, .int .i64 (List.getD x120.2 (Int.toNat x609) 0)), (22, .int .i64 r847.1), (23, .int .i64 r847.2.1), (74, .slice (some ⟨b761, 0, none⟩) (List.length x120.2) c118), (75, .int .i64 (((List.length x120.2) : Nat) : Int)), (76, .int .i64 x609)] [] E (by kernel_rfl) trivial ?_
   clear E; intro a E
   refine wpList_nil ?_
   refine th_n ?_
   refine wp_seq ?_
   refine wp_seq ?_
   refine wp_region_lit ?_
   refine vr tbok 2 [] [(1, .pointer (some ⟨g13, 0, none⟩)), (2, .pointer (some ⟨g18, 0, none⟩)), (6, .slice A44 (List.length r35.1) c45), (9, .slice (some ⟨g47, 0, none⟩) (List.length x120.1) 256), (13, .pointer (some ⟨g168, 0, none⟩)), (15, .pointer (some ⟨g463, 0, none⟩)), (17, .int .i64 (List.getD x120.2 (Int.toNat x609) 0)), (22, .int .i64 r847.1), (23, .int .i64 r847.2.1), (74, .slice (some ⟨b761, 0, none⟩) (List.length x120.2) c118), (75, .int .i64 (((List.length x120.2) : Nat) : Int)), (76, .int .i64 x609), (119, .bool ((r847.2.1 : Int) != 0))] [] E (by kernel_rfl) trivial ?_
   clear E; intro a E
   refine wpList_nil ?_
   refine th_n ?_
   refine E.cases (t := 119) rfl (fun hb_ E_ => ?_) (fun hb_ E_ => ?_)
   ·
    replace E := E_; clear E_
    have h866 : ¬ ((r847.2.1 : Int) = 0) := bne_iff_ne.1 hb_
    clear hb_; replace hP := ite_f h866 hP
    refine c_true E rfl ?_
    refine wp_seq ?_
    refine wp_region_lit ?_
    refine e_build (ps := []) (v := .agg #[.int .i64 0, .slice none 0 0, .slice none 0 0, .slice none 0 0]) E rfl rfl tbok rfl (by kernel_rfl) rfl ?_
    clear E; intro a E
    refine vr tbok 1 [] [(2, .pointer (some ⟨g18, 0, none⟩)), (120, .agg #[.int .i64 0, .slice none 0 0, .slice none 0 0, .slice none 0 0]), (121, .int .i64 r847.2.1)] [] E (by kernel_rfl) trivial ?_
    clear E; intro a E
    refine h_store (g := g18) (off := 0) H 4 rfl E rfl rfl rfl rfl tbok rfl rfl rfl rfl rfl ?_
    clear E; intro w867 a hc868 H_ E
    replace H := H_; clear H_; try dsimp only [setn, addE, goneL] at H
    refine vr tbok 1 [] [(2, .pointer (some ⟨g18, 0, none⟩)), (3, .int .i64 r847.2.1)] [] E (by kernel_rfl) trivial ?_
    clear E; intro a E
    refine wpList_nil ?_
    refine th_n ?_
    refine wp_ret ?_
    refine th_ret ?_
    refine bl_ret ?_
    refine th_ret ?_
    refine th_ret ?_
    refine .inr ⟨rfl, ?_⟩
    refine bl_ret ?_
    refine th_ret ?_
    replace H := H.nilrow cBool 4; try dsimp only [setn, addE, goneL] at H
    replace H := H.nilrow (cInt .i64) 3; try dsimp only [setn, addE, goneL] at H
    replace H := H.nilrow cNode 57; try dsimp only [setn, addE, goneL] at H
    have hx_ := Option.some.inj hP; subst hx_
    have hP : some (((0, [], [], []), r847.2.1)) = some r := hK752
    obtain rfl := Option.some.inj hP
    refine retV E [.cell 2 26, .tmp 3] [.agg #[.int .i64 0, .slice none 0 0, .slice none 0 0, .slice none 0 0], .int .i64 r847.2.1] rfl ⟨⟨_, rfl, run_loadBx tbok (H.box 4 rfl) rfl rfl rfl 0 rfl rfl⟩, rfl, trivial⟩ (.inl rfl) ?_
    exact ⟨_, rfl, none, 0, none, 0, none, 0, rfl, H.sel [18, 19, 20] rfl⟩
   replace E := E_; clear E_
   have h872 : (r847.2.1 : Int) = 0 := bne_eq_false_iff_eq.1 hb_
   clear hb_; replace hP := ite_t h872 hP
   refine c_false E rfl ?_
   refine wp_skip ?_
   refine th_n ?_
   refine wp_seq ?_
   obtain ⟨g873, hP⟩ := ask_inv hP
   obtain ⟨b874, o875, e_b874⟩ := (H.rd 0 rds_ro).addr (idx_pos g873)
   subst e_b874
   obtain ⟨g881, hP⟩ := ask_inv hP
   refine meet_cut (fun a w891 => ∃ (A889 : Option Addr) (c890 : Nat), Fr a 143 [(1, .pointer (some ⟨g13, 0, none⟩)), (2, .pointer (some ⟨g18, 0, none⟩)), (6, .slice A44 (List.length r35.1) c45), (9, .slice (some ⟨g47, 0, none⟩) (List.length x120.1) 256), (13, .pointer (some ⟨g168, 0, none⟩)), (15, .pointer (some ⟨g463, 0, none⟩)), (22, .int .i64 r847.1), (74, .slice (some ⟨b761, 0, none⟩) (List.length x120.2) c118), (75, .int .i64 (((List.length x120.2) : Nat) : Int)), (76, .int .i64 x609)] ∧ Hp S Fa w0 w891 [.ro false cBool (some ⟨b874, o875, none⟩) aAccept, .ro false (cInt .i64) (some ⟨b764, o765, none⟩) aGuard, .ro false cNode A9 aNodes, .box g13 26 [.int .i64 aProps, .slice (some ⟨b874, o875, none⟩) (List.length aAccept) c2, .slice (some ⟨b764, o765, none⟩) (List.length aGuard) c6, .slice A9 (List.length aNodes) c10], .box g18 26 [.int .i64 0, .slice none 0 0, .slice none 0 0, .slice none 0 0], .row true (cInt .i64) 3 A44 c45 r35.1, .rowx true (cInt .i64) 86 (some ⟨g47, 0, none⟩) 256 x120.1 (List.drop (Int.toNat (((List.length aAccept) : Nat) : Int)) (List.replicate 256 (0 : Int)) ++ []), .row true cNode 57 A861 c862 r847.2.2.1, .mp Try.prog 57 g169 (List.map (fun p_ => (ndV p_.1, (fun u_ : Int => .int .i64 u_) p_.2)) r847.2.2.2), .box g168 102 [.int .i64 aProps, .slice A861 (List.length r847.2.2.1) c862, .map (some g169)], .box g463 26 [.int .i64 aProps, .slice A889 (List.length (out602 ++ ([(List.getD aAccept (Int.toNat (List.getD x120.2 (Int.toNat x609) 0)) false)] : List Bool))) c890, .slice A607 (List.length out606) c608, .slice none 0 0], .row true cBool 4 A889 c890 (out602 ++ ([(List.getD aAccept (Int.toNat (List.getD x120.2 (Int.toNat x609) 0)) false)] : List Bool)), .row true (cInt .i64) 3 A607 c608 out606, .row true (cInt .i64) 3 (some ⟨b761, 0, none⟩) c118 x120.2]) ?_ ?_
   ·
    have HR895 := H
    refine dr_start (S := fun w_ => Chg (atL [.row true cBool 4 A603 c604 out602, .box g463 26 [.int .i64 aProps, .slice A603 (List.length out602) c604, .slice A607 (List.length out606) c608, .slice none 0 0]]) w856 w_) (by kernel_rfl) ?_
    intro w892 hc893
    have HS894 : Chg (atL [.row true cBool 4 A603 c604 out602, .box g463 26 [.int .i64 aProps, .slice A603 (List.length out602) c604, .slice A607 (List.length out606) c608, .slice none 0 0]]) w856 w892 := hc893.mono (fun _ _ h_ => h_.elim)
    replace H := H.ext hc893
    refine dr tbok (by kernel_rfl) [0, 2, 3, 4, 5, 6] [.slice (some ⟨b874, o875, none⟩) (List.length aAccept) c2, .bool (List.getD aAccept (Int.toNat (List.getD x120.2 (Int.toNat x609) 0)) false)] [(1, .pointer (some ⟨g13, 0, none⟩)), (2, .pointer (some ⟨g18, 0, none⟩)), (6, .slice A44 (List.length r35.1) c45), (9, .slice (some ⟨g47, 0, none⟩) (List.length x120.1) 256), (13, .pointer (some ⟨g168, 0, none⟩)), (15, .pointer (some ⟨g463, 0, none⟩)), (22, .int .i64 r847.1), (74, .slice (some ⟨b761, 0, none⟩) (List.length x120.2) c118), (75, .int .i64 (((List.length x120.2) : Nat) : Int)), (76, .int .i64 x609), (122, .pointer (some ⟨g463, 1, none⟩)), (128, .bool (List.getD aAccept (Int.toNat (List.getD x120.2 (Int.toNat x609) 0)) false))] (fun w_ => [World.cell? w_ ⟨g13, 1, none⟩ = some (.slice (some ⟨b874, o875, none⟩) (List.length aAccept) c2), 0 ≤ (List.getD x120.2 (Int.toNat x609) 0) ∧ (List.getD x120.2 (Int.toNat x609) 0) < (((List.length aAccept) : Nat) : Int), World.cell? w_ ⟨b874, o875 + (Int.toNat (List.getD x120.2 (Int.toNat x609) 0)) * 1, none⟩ = some (.bool (List.getD aAccept (Int.toNat (List.getD x120.2 (Int.toNat x609) 0)) false))]) 5 E (fun _ _ => by kernel_rfl) (fun w_ hS_ => ⟨(HR895.boxk [10, 12] hS_ 3 rfl rfl).cell (j := 1) rfl, g873, Rds.at1 (HR895.rdk [10, 12] hS_ 0 rds_ro rfl) false g873⟩) (by kernel_rfl) HS894 ?_
    clear E; intro a E
    refine wpAnyH_all (rs := [1, 7]) (by kernel_rfl) (by simp) ?_
    refine all2 ?_ ?_
    ·
     refine wpOp_of_list rfl ?_
     refine vr tbok 1 [.slice A603 (List.length out602) c604] [(1, .pointer (some ⟨g13, 0, none⟩)), (2, .pointer (some ⟨g18, 0, none⟩)), (6, .slice A44 (List.length r35.1) c45), (9, .slice (some ⟨g47, 0, none⟩) (List.length x120.1) 256), (13, .pointer (some ⟨g168, 0, none⟩)), (15, .pointer (some ⟨g463, 0, none⟩)), (22, .int .i64 r847.1), (74, .slice (some ⟨b761, 0, none⟩) (List.length x120.2) c118), (75, .int .i64 (((List.length x120.2) : Nat) : Int)), (76, .int .i64 x609), (122, .pointer (some ⟨g463, 1, none⟩)), (123, .slice A603 (List.length out602) c604), (128, .bool (List.getD aAccept (Int.toNat (List.getD x120.2 (Int.toNat x609) 0)) false))] [World.cell? w892 ⟨g463, 1, none⟩ = some (.slice A603 (List.length out602) c604)] E (by kernel_rfl) ((H.box 12 rfl).cell (j := 1) rfl) ?_
     clear E; intro a E
     refine wpList_nil ?_
     refine th_n ⟨HS894, ?_⟩
     refine wpAnyH_all (rs := [7]) (by kernel_rfl) (by simp) ?_
     refine all1 ?_
     refine wpOp_of_list rfl ?_
     refine h_buildSlice (ps := [(0, .bool (List.getD aAccept (Int.toNat (List.getD x120.2 (Int.toNat x609) 0)) false))]) (cs := [.bool (List.getD aAccept (Int.toNat (List.getD x120.2 (Int.toNat x609) 0)) false)]) H E rfl rfl tbok rfl rfl (by kernel_rfl) ?_
     intro w897 g896 a hc898 hg900 H_ E_
     replace E := E_ _ rfl; clear E_
     have hin901 : ∀ q_, q_ < w856.heap.size → q_ = g896 → (atL [.row true cBool 4 A603 c604 out602, .box g463 26 [.int .i64 aProps, .slice A603 (List.length out602) c604, .slice A607 (List.length out606) c608, .slice none 0 0]]) q_ := fun q_ h1_ h2_ => by have hs_ := HS894.size; have h4_ : q_ = g896 := h2_; exfalso; omega
     replace HS894 := HS894.ext hc898
     replace H := H_; clear H_; try dsimp only [setn, addE, goneL] at H
     refine wpList_nil ?_
     refine th_n ⟨HS894, ?_⟩
     refine wpAnyH_all (rs := [8]) (by kernel_rfl) (by simp) ?_
     refine all1 ?_
     refine wpOp_of_list rfl ?_
     refine h_append cBool (xs := out602) (ys := ([(List.getD aAccept (Int.toNat (List.getD x120.2 (Int.toNat x609) 0)) false)] : List Bool)) (false : Bool) H 10 rfl E rfl rfl tbok rfl rfl rfl rfl rfl (fun _ _ => rfl) rfl rfl (fun _ HF_ => HF_.srcB 18 rfl (⟨_, _, rfl, rfl, rfl⟩)) g881 ?_
     intro w902 A903 c904 a hc905 hA906 H_ E_
     replace E := E_ _ rfl; clear E_
     have hin907 : ∀ q_, q_ < w856.heap.size → At A903 q_ → (atL [.row true cBool 4 A603 c604 out602, .box g463 26 [.int .i64 aProps, .slice A603 (List.length out602) c604, .slice A607 (List.length out606) c608, .slice none 0 0]]) q_ := fun q_ h1_ h2_ => (hA906 q_ h2_).elim ((fun _ _ h_ => Or.inl h_) q_ h1_) (fun h3_ => by have hs_ := HS894.size; exfalso; omega)
     replace HS894 := HS894.trans hc905 (fun k_ hk_ h_ => (fun _ _ h_ => Or.inl h_) k_ hk_ h_)
     replace H := H_; clear H_; try dsimp only [setn, addE, goneL] at H
     refine wpList_nil ?_
     refine th_n ⟨HS894, ?_⟩
     refine dr tbok (by kernel_rfl) [9] [] [(1, .pointer (some ⟨g13, 0, none⟩)), (2, .pointer (some ⟨g18, 0, none⟩)), (6, .slice A44 (List.length r35.1) c45), (9, .slice (some ⟨g47, 0, none⟩) (List.length x120.1) 256), (13, .pointer (some ⟨g168, 0, none⟩)), (15, .pointer (some ⟨g463, 0, none⟩)), (22, .int .i64 r847.1), (74, .slice (some ⟨b761, 0, none⟩) (List.length x120.2) c118), (75, .int .i64 (((List.length x120.2) : Nat) : Int)), (76, .int .i64 x609), (130, .slice A903 (List.length (out602 ++ ([(List.getD aAccept (Int.toNat (List.getD x120.2 (Int.toNat x609) 0)) false)] : List Bool))) c904), (131, .pointer (some ⟨g463, 1, none⟩))] (fun w_ => []) 1 E (fun _ _ => by kernel_rfl) (fun w_ hS_ => trivial) (by kernel_rfl) HS894 ?_
     clear E; intro a E
     refine wpAnyH_all (rs := [10]) (by kernel_rfl) (by simp) ?_
     refine all1 ?_
     refine wpOp_of_list rfl ?_
     refine h_store (g := g463) (off := 1) H 12 rfl E rfl rfl rfl rfl tbok rfl rfl rfl rfl rfl ?_
     clear E; intro w908 a hc909 H_ E
     replace HS894 := HS894.trans hc909 (fun k_ hk_ h_ => (fun _ _ h_ => Or.inr (Or.inl h_)) k_ hk_ h_)
     replace H := H_; clear H_; try dsimp only [setn, addE, goneL] at H
     refine wpList_nil ?_
     refine th_n ⟨HS894, ?_⟩
     refine dr_done (by kernel_rfl) ?_
     exact .inl ⟨rfl, A903, c904, E.pick _ ⟨rfl, rfl, rfl, rfl, rfl, rfl, rfl, rfl, rfl, rfl, trivial⟩, H.sel [0, 1, 2, 3, 4, 5, 6, 16, 17, 15, 12, 10, 11, 14] rfl⟩
    refine wpOp_of_list rfl ?_
    refine h_buildSlice (ps := [(0, .bool (List.getD aAccept (Int.toNat (List.getD x120.2 (Int.toNat x609) 0)) false))]) (cs := [.bool (List.getD aAccept (Int.toNat (List.getD x120.2 (Int.toNat x609) 0)) false)]) H E rfl rfl tbok rfl rfl (by kernel_rfl) ?_
    intro w911 g910 a hc912 hg914 H_ E_
    replace E := E_ _ rfl; clear E_
    have hin915 : ∀ q_, q_ < w856.heap.size → q_ = g910 → (atL [.row true cBool 4 A603 c604 out602, .box g463 26 [.int .i64 aProps, .slice A603 (List.length out602) c604, .slice A607 (List.length out606) c608, .slice none 0 0]]) q_ := fun q_ h1_ h2_ => by have hs_ := HS894.size; have h4_ : q_ = g910 := h2_; exfalso; omega
    replace HS894 := HS894.ext hc912
    replace H := H_; clear H_; try dsimp only [setn, addE, goneL] at H
    refine wpList_nil ?_
    refine th_n ⟨HS894, ?_⟩
    refine wpAnyH_all (rs := [1]) (by kernel_rfl) (by simp) ?_
    refine all1 ?_
    refine wpOp_of_list rfl ?_
    refine vr tbok 1 [.slice A603 (List.length out602) c604] [(1, .pointer (some ⟨g13, 0, none⟩)), (2, .pointer (some ⟨g18, 0, none⟩)), (6, .slice A44 (List.length r35.1) c45), (9, .slice (some ⟨g47, 0, none⟩) (List.length x120.1) 256), (13, .pointer (some ⟨g168, 0, none⟩)), (15, .pointer (some ⟨g463, 0, none⟩)), (22, .int .i64 r847.1), (74, .slice (some ⟨b761, 0, none⟩) (List.length x120.2) c118), (75, .int .i64 (((List.length x120.2) : Nat) : Int)), (76, .int .i64 x609), (122, .pointer (some ⟨g463, 1, none⟩)), (123, .slice A603 (List.length out602) c604), (129, .slice (some ⟨g910, 0, none⟩) 1 1)] [World.cell? w911 ⟨g463, 1, none⟩ = some (.slice A603 (List.length out602) c604)] E (by kernel_rfl) ((H.box 12 rfl).cell (j := 1) rfl) ?_
    clear E; intro a E
    refine wpList_nil ?_
    refine th_n ⟨HS894, ?_⟩
    refine wpAnyH_all (rs := [8]) (by kernel_rfl) (by simp) ?_
    refine all1 ?_
    refine wpOp_of_list rfl ?_
    refine h_append cBool (xs := out602) (ys := ([(List.getD aAccept (Int.toNat (List.getD x120.2 (Int.toNat x609) 0)) false)] : List Bool)) (false : Bool) H 10 rfl E rfl rfl tbok rfl rfl rfl rfl rfl (fun _ _ => rfl) rfl rfl (fun _ HF_ => HF_.srcB 18 rfl (⟨_, _, rfl, rfl, rfl⟩)) g881 ?_
    intro w916 A917 c918 a hc919 hA920 H_ E_
    replace E := E_ _ rfl; clear E_
    have hin921 : ∀ q_, q_ < w856.heap.size → At A917 q_ → (atL [.row true cBool 4 A603 c604 out602, .box g463 26 [.int .i64 aProps, .slice A603 (List.length out602) c604, .slice A607 (List.length out606) c608, .slice none 0 0]]) q_ := fun q_ h1_ h2_ => (hA920 q_ h2_).elim ((fun _ _ h_ => Or.inl h_) q_ h1_) (fun h3_ => by have hs_ := HS894.size; exfalso; omega)
    replace HS894 := HS894.trans hc919 (fun k_ hk_ h_ => (fun _ _ h_ => Or.inl h_) k_ hk_ h_)
    replace H := H_; clear H_; try dsimp only [setn, addE, goneL] at H
    refine wpList_nil ?_
    refine th_n ⟨HS894, ?_⟩
    refine dr tbok (by kernel_rfl) [9] [] [(1, .pointer (some ⟨g13, 0, none⟩)), (2, .pointer (some ⟨g18, 0, none⟩)), (6, .slice A44 (List.length r35.1) c45), (9, .slice (some ⟨g47, 0, none⟩) (List.length x120.1) 256), (13, .pointer (some ⟨g168, 0, none⟩)), (15, .pointer (some ⟨g463, 0, none⟩)), (22, .int .i64 r847.1), (74, .slice (some ⟨b761, 0, none⟩) (List.length x120.2) c118), (75, .int .i64 (((List.length x120.2) : Nat) : Int)), (76, .int .i64 x609), (130, .slice A917 (List.length (out602 ++ ([(List.getD aAccept (Int.toNat (List.getD x120.2 (Int.toNat x609) 0)) false)] : List Bool))) c918), (131, .pointer (some ⟨g463, 1, none⟩))] (fun w_ => []) 1 E (fun _ _ => by kernel_rfl) (fun w_ hS_ => trivial) (by kernel_rfl) HS894 ?_
    clear E; intro a E
    refine wpAnyH_all (rs := [10]) (by kernel_rfl) (by simp) ?_
    refine all1 ?_
    refine wpOp_of_list rfl ?_
    refine h_store (g := g463) (off := 1) H 12 rfl E rfl rfl rfl rfl tbok rfl rfl rfl rfl rfl ?_
    clear E; intro w922 a hc923 H_ E
    replace HS894 := HS894.trans hc923 (fun k_ hk_ h_ => (fun _ _ h_ => Or.inr (Or.inl h_)) k_ hk_ h_)
    replace H := H_; clear H_; try dsimp only [setn, addE, goneL] at H
    refine wpList_nil ?_
    refine th_n ⟨HS894, ?_⟩
    refine dr_done (by kernel_rfl) ?_
    exact .inl ⟨rfl, A917, c918, E.pick _ ⟨rfl, rfl, rfl, rfl, rfl, rfl, rfl, rfl, rfl, rfl, trivial⟩, H.sel [0, 1, 2, 3, 4, 5, 6, 16, 17, 15, 12, 10, 11, 14] rfl⟩
   clear E H; rintro a w891 ⟨A889, c890, E, H⟩
   refine th_n ?_
   refine wp_region_lit ?_
   refine vr tbok 3 [.slice A607 (List.length out606) c608] [(1, .pointer (some ⟨g13, 0, none⟩)), (2, .pointer (some ⟨g18, 0, none⟩)), (6, .slice A44 (List.length r35.1) c45), (9, .slice (some ⟨g47, 0, none⟩) (List.length x120.1) 256), (13, .pointer (some ⟨g168, 0, none⟩)), (15, .pointer (some ⟨g463, 0, none⟩)), (74, .slice (some ⟨b761, 0, none⟩) (List.length x120.2) c118), (75, .int .i64 (((List.length x120.2) : Nat) : Int)), (76, .int .i64 x609), (133, .slice A607 (List.length out606) c608), (134, .int .i64 r847.1)] [World.cell? w891 ⟨g463, 2, none⟩ = some (.slice A607 (List.length out606) c608)] E (by kernel_rfl) ((H.box 10 rfl).cell (j := 2) rfl) ?_
   clear E; intro a E
   refine h_buildSlice (ps := [(0, .int .i64 r847.1)]) (cs := [.int .i64 r847.1]) H E rfl rfl tbok rfl rfl (by kernel_rfl) ?_
   intro w925 g924 a hc926 hg928 H_ E_
   replace E := E_ _ rfl; clear E_
   replace H := H_; clear H_; try dsimp only [setn, addE, goneL] at H
   obtain ⟨g929, hP⟩ := ask_inv hP
   refine h_append (cInt .i64) (xs := out606) (ys := ([r847.1] : List Int)) (0 : Int) H 12 rfl E rfl rfl tbok rfl rfl rfl rfl rfl (fun _ _ => rfl) rfl rfl (fun _ HF_ => HF_.srcB 14 rfl (⟨_, _, rfl, rfl, rfl⟩)) g929 ?_
   intro w930 A931 c932 a hc933 hA934 H_ E_
   replace E := E_ _ rfl; clear E_
   replace H := H_; clear H_; try dsimp only [setn, addE, goneL] at H
   refine vr tbok 1 [] [(1, .pointer (some ⟨g13, 0, none⟩)), (2, .pointer (some ⟨g18, 0, none⟩)), (6, .slice A44 (List.length r35.1) c45), (9, .slice (some ⟨g47, 0, none⟩) (List.length x120.1) 256), (13, .pointer (some ⟨g168, 0, none⟩)), (15, .pointer (some ⟨g463, 0, none⟩)), (74, .slice (some ⟨b761, 0, none⟩) (List.length x120.2) c118), (75, .int .i64 (((List.length x120.2) : Nat) : Int)), (76, .int .i64 x609), (136, .slice A931 (List.length (out606 ++ ([r847.1] : List Int))) c932), (137, .pointer (some ⟨g463, 2, none⟩))] [] E (by kernel_rfl) trivial ?_
   clear E; intro a E
   refine h_store (g := g463) (off := 2) H 10 rfl E rfl rfl rfl rfl tbok rfl rfl rfl rfl rfl ?_
   clear E; intro w935 a hc936 H_ E
   replace H := H_; clear H_; try dsimp only [setn, addE, goneL] at H
   refine wpList_nil ?_
   refine bl_n ?_
   refine th_n ?_
   refine wp_region_lit ?_
   obtain ⟨g937, hP⟩ := ask_inv hP
   refine vr tbok 2 [.int .i64 (x609 + 1)] [(1, .pointer (some ⟨g13, 0, none⟩)), (2, .pointer (some ⟨g18, 0, none⟩)), (6, .slice A44 (List.length r35.1) c45), (9, .slice (some ⟨g47, 0, none⟩) (List.length x120.1) 256), (13, .pointer (some ⟨g168, 0, none⟩)), (15, .pointer (some ⟨g463, 0, none⟩)), (74, .slice (some ⟨b761, 0, none⟩) (List.length x120.2) c118), (75, .int .i64 (((List.length x120.2) : Nat) : Int)), (76, .int .i64 (x609 + 1))] [IntKind.i64.wrap (x609 + 1) = x609 + 1] E (by kernel_rfl) (wrap_in g937) ?_
   clear E; intro a E
   refine wpList_nil ?_
   exact th_n ⟨m749, Nat.lt_succ_self _, r847.2.2.1, r847.2.2.2, out602 ++ ([(List.getD aAccept (Int.toNat (List.getD x120.2 (Int.toNat x609) 0)) false)] : List Bool), out606 ++ ([r847.1] : List Int), x609 + 1, A861, c862, A889, c890, A931, c932, E.pick _ ⟨rfl, rfl, rfl, rfl, rfl, rfl, rfl, rfl, rfl, trivial⟩, H.sel [0, 1, 2, 3, 4, 5, 6, 9, 7, 8, 10, 11, 12, 13] rfl, hP⟩
  replace E := E_; clear E_
  have h938 : ¬ (x609 < (((List.length x120.2) : Nat) : Int)) := of_decide_eq_false hb_
  clear hb_; replace hP := ite_f h938 hP
  refine c_false E rfl ?_
  refine wp_exit ?_
  refine th_exit ?_
  have hx_ := Option.some.inj hP
  refine th_exit (.inl ⟨2, rfl, ?_⟩)
  exact ⟨rfl, (s597, s600, out602, out606), A598, c599, A603, c604, A607, c608, E.pick _ ⟨rfl, rfl, rfl, trivial⟩, H.sel [4, 7, 8, 9, 10, 11, 12] rfl, hx_.symm⟩
 clear E H hL751; intro i_ a w756 hM_
 obtain ⟨rfl, x758, A738, c739, A743, c744, A747, c748, E, H, hx_⟩ := hM_
 subst hx_; have hP := elim_l hK752
 clear hK752
 refine bl_hit ?_
 refine th_n ?_
 refine wp_seq ?_
 refine wp_region_lit ?_
 refine vr tbok 1 [] [(2, .pointer (some ⟨g18, 0, none⟩)), (15, .pointer (some ⟨g463, 0, none⟩)), (139, .pointer (some ⟨g168, 0, none⟩))] [] E (by kernel_rfl) trivial ?_
 clear E; intro a E
 obtain ⟨r940, h941, hP⟩ := bind_inv hP
 obtain ⟨Fa942, Hc943, hb944⟩ := H.call [1, 2, 3] [] rfl rfl ⟨flat_plain, trivial⟩
 refine e_call E rfl rfl Try.func63 rfl rfl rfl (guard_Store_Nodes_calls g168 A738 c739 g169 aProps x758.1 x758.2.1  Hc943 h941) ?_
 intro v950 w949 a hR951 E_
 obtain ⟨x_, A954, c955, hr_, rfl, HR953⟩ := hR951
 subst hr_
 replace E := E_ _ rfl; clear E_
 obtain ⟨H_, hc952⟩ := hb944 _ _ HR953 rfl
 replace H := H_; clear H_; try dsimp only [setn, addE, goneL] at H
 refine vr tbok 1 [] [(2, .pointer (some ⟨g18, 0, none⟩)), (15, .pointer (some ⟨g463, 0, none⟩)), (140, .slice A954 (List.length r940) c955), (141, .pointer (some ⟨g463, 3, none⟩))] [] E (by kernel_rfl) trivial ?_
 clear E; intro a E
 refine h_store (g := g463) (off := 3) H 4 rfl E rfl rfl rfl rfl tbok rfl rfl rfl rfl rfl ?_
 clear E; intro w960 a hc961 H_ E
 replace H := H_; clear H_; try dsimp only [setn, addE, goneL] at H
 refine wpList_nil ?_
 refine th_n ?_
 refine wp_seq ?_
 refine wp_region_lit ?_
 refine vr tbok 1 [.agg #[.int .i64 aProps, .slice A743 (List.length x758.2.2.1) c744, .slice A747 (List.length x758.2.2.2) c748, .slice A954 (List.length r940) c955]] [(2, .pointer (some ⟨g18, 0, none⟩)), (142, .agg #[.int .i64 aProps, .slice A743 (List.length x758.2.2.1) c744, .slice A747 (List.length x758.2.2.2) c748, .slice A954 (List.length r940) c955])] [cellsAt w960 g463 (0) [.int .i64 aProps, .slice A743 (List.length x758.2.2.1) c744, .slice A747 (List.length x758.2.2.2) c748, .slice A954 (List.length r940) c955]] E (by kernel_rfl) ((H.box 4 rfl).sub 0 _ rfl) ?_
 clear E; intro a E
 refine h_store (g := g18) (off := 0) H 0 rfl E rfl rfl rfl rfl tbok rfl rfl rfl rfl rfl ?_
 clear E; intro w962 a hc963 H_ E
 replace H := H_; clear H_; try dsimp only [setn, addE, goneL] at H
 refine vr tbok 1 [] [(2, .pointer (some ⟨g18, 0, none⟩)), (3, .int .i64 0)] [] E (by kernel_rfl) trivial ?_
 clear E; intro a E
 refine wpList_nil ?_
 refine th_n ?_
 refine wp_ret ?_
 obtain rfl := Option.some.inj hP
 refine retV E [.cell 2 26, .tmp 3] [.agg #[.int .i64 aProps, .slice A743 (List.length x758.2.2.1) c744, .slice A747 (List.length x758.2.2.2) c748, .slice A954 (List.length r940) c955], .int .i64 0] rfl ⟨⟨_, rfl, run_loadBx tbok (H.box 0 rfl) rfl rfl rfl 0 rfl rfl⟩, rfl, trivial⟩ (.inl rfl) ?_
 exact ⟨_, rfl, A743, c744, A747, c748, A954, c955, rfl, H.sel [5, 6, 7] rfl⟩

end Go.V
