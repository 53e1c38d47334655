/- Plain functions, and the calls that give them. -/
import Derived.Test.YthlbijcgnekcbaaA1
set_option linter.all false
set_option linter.unusedVariables false
set_option linter.unnecessarySimpa false
set_option linter.unusedSimpArgs false
namespace Go.V
open Go Go.Proofs
/-! (*rejoinder/guard.Store).Add -/
def guard_Store_Add_l0 (N : Nat) (snodes : List Nd) (sat : List (Nd × Int)) (where_ : List Int) : Nat → Int → Option (Unit ⊕ (Int × Int × (List Nd) × (List (Nd × Int))))
  | 0, _ => none
  | m160 + 1, x149 =>
    if x149 < (((List.length where_) : Nat) : Int) then
      ask (idx x149 (List.length where_)) <|
      if (List.getD where_ (Int.toNat x149) 0) < 0 then
        some (Sum.inr (0, 2, snodes, sat))
      else
        if 1048575 < (List.getD where_ (Int.toNat x149) 0) then
          some (Sum.inr (0, 2, snodes, sat))
        else
          ask (in64 (x149 + 1)) <|
          guard_Store_Add_l0 N snodes sat where_ m160 (x149 + 1)
    else
      some (Sum.inl ())
def guard_Store_Add (N : Nat) (sn : Int) (snodes : List Nd) (sat : List (Nd × Int)) (where_ : List Int) : Option (Int × Int × (List Nd) × (List (Nd × Int))) :=
  Option.bind (guard_Store_none N sn snodes sat) fun r118 =>
  if r118 = true then
    some (0, 1, snodes, sat)
  else
    ask (0 ≤ sn) <|
    if ((((List.length where_) : Nat) : Int) : Int) = shlV .i64 1 sn then
      Option.bind (guard_Store_Add_l0 N snodes sat where_ N 0) fun x161 =>
      Sum.elim (fun x166 =>
        Option.bind (guard_Store_add N N sn snodes sat where_ 0) fun r185 =>
        if 4096 < (((List.length r185.2.1) : Nat) : Int) then
          ask (0 ≤ (((List.length snodes) : Nat) : Int) ∧ (((List.length snodes) : Nat) : Int) ≤ (((List.length r185.2.1) : Nat) : Int)) <|
          some (0, 11, List.take (Int.toNat (((List.length snodes) : Nat) : Int)) r185.2.1, List.filter (fun p_ => decide (p_.2 < (((List.length snodes) : Nat) : Int))) r185.2.2)
        else
          some (r185.1, 0, r185.2.1, r185.2.2))
       (fun x177 =>
        some x177) x161
    else
      some (0, 2, snodes, sat)
set_option maxRecDepth 100000 in
set_option maxHeartbeats 4000000 in
theorem guard_Store_Add_calls {N : Nat} {S Fa : Nat → Prop} {w0 : World} {r : Int × Int × (List Nd) × (List (Nd × Int))} (g1 : Nat) (A3 : Option Addr) (c4 : Nat) (g6 : Nat) (A8 : Option Addr) (c9 : Nat) (sn : Int) (snodes : List Nd) (sat : List (Nd × Int)) (where_ : List Int) (hk10 : List.length where_ ≤ c9) (H : Hp S Fa w0 w0 [.box g1 44 [.int .i64 sn, .slice A3 (List.length snodes) c4, .map (some g6)], .row true cNode 64 A3 c4 snodes, .mp Try.prog 64 g6 (List.map (fun p_ => (ndV p_.1, (fun u_ : Int => .int .i64 u_) p_.2)) sat), .ro false (cInt .i64) A8 where_]) (hP : guard_Store_Add N sn snodes sat where_ = some r) :
    Calls Try.prog 17 #[.pointer (some ⟨g1, 0, none⟩), .slice A8 (List.length where_) c9] w0 fun e w' => ∃ v, e = .returned v ∧ (∃ (x_ : Int × Int × (List Nd) × (List (Nd × Int))) (A15 : Option Addr) (c16 : Nat), r = x_ ∧ v = .tuple #[.int .i64 x_.1, .int .i64 x_.2.1] ∧ Hp S Fa w0 w' [.box g1 44 [.int .i64 sn, .slice A15 (List.length x_.2.2.1) c16, .map (some g6)], .row true cNode 64 A15 c16 x_.2.2.1, .mp Try.prog 64 g6 (List.map (fun p_ => (ndV p_.1, (fun u_ : Int => .int .i64 u_) p_.2)) x_.2.2.2)]) := by
 refine enterV (n := 63) Try.func17 rfl rfl rfl ?_
 intro a E
 replace E := E.pick [(0, .pointer (some ⟨g1, 0, none⟩)), (1, .slice A8 (List.length where_) c9)] ⟨rfl, rfl, trivial⟩
 rw [guard_Store_Add] at hP
 refine wp_seq ?_
 refine wp_region_lit ?_
 refine vn tbok 2 [] [] [] E (by kernel_rfl) (by kernel_rfl) trivial ?_
 clear E; intro a E
 refine wpList_nil ?_
 refine th_n ?_
 refine wp_seq ?_
 refine wp_seq ?_
 refine wp_region_lit ?_
 refine vn tbok 1 [] [(10, .pointer (some ⟨g1, 0, none⟩))] [] E (by kernel_rfl) (by kernel_rfl) trivial ?_
 clear E; intro a E
 obtain ⟨r118, h119, hP⟩ := bind_inv hP
 obtain ⟨Fa120, Hc121, hb122⟩ := H.call [0, 1, 2] [] rfl rfl ⟨flat_plain, trivial⟩
 refine e_call E rfl rfl Try.func31 rfl rfl rfl (guard_Store_none_calls g1 A3 c4 g6 sn snodes sat  Hc121 h119) ?_
 intro v128 w127 a hR129 E_
 obtain ⟨x_, hr_, rfl, HR131⟩ := hR129
 subst hr_
 replace E := E_ _ rfl; clear E_
 obtain ⟨H_, hc130⟩ := hb122 _ _ HR131 rfl
 replace H := H_; clear H_; try dsimp only [setn, addE, goneL] at H
 refine wpList_nil ?_
 refine th_n ?_
 refine E.cases (t := 11) rfl (fun hb_ E_ => ?_) (fun hb_ E_ => ?_)
 ·
  replace E := E_; clear E_
  have h135 : r118 = true := hb_
  clear hb_; replace hP := ite_t h135 hP
  refine c_true E rfl ?_
  refine wp_seq ?_
  refine wp_region_lit ?_
  refine vn tbok 2 [] [(4, .int .i64 0), (5, .int .i64 1)] [] E (by kernel_rfl) (by kernel_rfl) trivial ?_
  clear E; intro a E
  refine wpList_nil ?_
  refine th_n ?_
  refine wp_ret ?_
  refine th_ret ?_
  obtain rfl := Option.some.inj hP
  refine ret2 E rfl rfl rfl ?_
  exact ⟨_, rfl, ⟨(0, 1, snodes, sat), A3, c4, rfl, rfl, H.sel [6, 4, 5] rfl⟩⟩
 replace E := E_; clear E_
 have h136 : ¬ (r118 = true) := (ne_true_of_eq_false hb_)
 clear hb_; replace hP := ite_f h136 hP
 refine c_false E rfl ?_
 refine wp_skip ?_
 refine th_n ?_
 refine wp_seq ?_
 refine wp_seq ?_
 refine wp_region_lit ?_
 obtain ⟨g137, hP⟩ := ask_inv hP
 refine vn tbok 8 [.int .i64 sn, .int .i64 (shlV .i64 1 sn)] [(19, .bool (((((List.length where_) : Nat) : Int) : Int) != (shlV .i64 1 sn)))] [World.cell? w127 ⟨g1, 0, none⟩ = some (.int .i64 sn), 0 ≤ sn ∧ IntKind.i64.wrap (1 * 2 ^ (min (Int.toNat sn) (IntKind.bits .i64))) = shlV .i64 1 sn] E (by kernel_rfl) (by kernel_rfl) ⟨(H.box 6 rfl).cell (j := 0) rfl, ⟨g137, rfl⟩⟩ ?_
 clear E; intro a E
 refine wpList_nil ?_
 refine th_n ?_
 refine E.cases (t := 19) rfl (fun hb_ E_ => ?_) (fun hb_ E_ => ?_)
 ·
  replace E := E_; clear E_
  have h138 : ¬ (((((List.length where_) : Nat) : Int) : Int) = shlV .i64 1 sn) := bne_iff_ne.1 hb_
  clear hb_; replace hP := ite_f h138 hP
  refine c_true E rfl ?_
  refine wp_seq ?_
  refine wp_region_lit ?_
  refine vn tbok 2 [] [(4, .int .i64 0), (5, .int .i64 2)] [] E (by kernel_rfl) (by kernel_rfl) trivial ?_
  clear E; intro a E
  refine wpList_nil ?_
  refine th_n ?_
  refine wp_ret ?_
  refine th_ret ?_
  obtain rfl := Option.some.inj hP
  refine ret2 E rfl rfl rfl ?_
  exact ⟨_, rfl, ⟨(0, 2, snodes, sat), A3, c4, rfl, rfl, H.sel [6, 4, 5] rfl⟩⟩
 replace E := E_; clear E_
 have h139 : ((((List.length where_) : Nat) : Int) : Int) = shlV .i64 1 sn := bne_eq_false_iff_eq.1 hb_
 clear hb_; replace hP := ite_t h139 hP
 refine c_false E rfl ?_
 refine wp_skip ?_
 refine th_n ?_
 refine wp_seq ?_
 refine wp_seq ?_
 refine wp_region_lit ?_
 refine vn tbok 3 [] [(20, .slice A8 (List.length where_) c9), (21, .int .i64 (((List.length where_) : Nat) : Int)), (22, .int .i64 0)] [] E (by kernel_rfl) (by kernel_rfl) trivial ?_
 clear E; intro a E
 refine wpList_nil ?_
 refine th_n ?_
 refine wp_block ?_
 obtain ⟨x161, hL162, hK163⟩ := bind_inv hP
 clear hP
 refine loop_cut (fun i_ a w_ => (i_ = 0 ∧ ∃ (x166 : Unit), Fr a 63 [(0, .pointer (some ⟨g1, 0, none⟩)), (1, .slice A8 (List.length where_) c9)] ∧ Hp S Fa w0 w_ [.row true cNode 64 A3 c4 snodes, .mp Try.prog 64 g6 (List.map (fun p_ => (ndV p_.1, (fun u_ : Int => .int .i64 u_) p_.2)) sat), .box g1 44 [.int .i64 sn, .slice A3 (List.length snodes) c4, .map (some g6)], .ro false (cInt .i64) A8 where_] ∧ x161 = Sum.inl x166)) ?_ ?_
 ·
  refine loopV (fun m165 a w164 => ∃ (x149 : Int), Fr a 63 [(0, .pointer (some ⟨g1, 0, none⟩)), (1, .slice A8 (List.length where_) c9), (20, .slice A8 (List.length where_) c9), (21, .int .i64 (((List.length where_) : Nat) : Int)), (22, .int .i64 x149)] ∧ Hp S Fa w0 w164 [.row true cNode 64 A3 c4 snodes, .mp Try.prog 64 g6 (List.map (fun p_ => (ndV p_.1, (fun u_ : Int => .int .i64 u_) p_.2)) sat), .box g1 44 [.int .i64 sn, .slice A3 (List.length snodes) c4, .map (some g6)], .ro false (cInt .i64) A8 where_] ∧ guard_Store_Add_l0 N snodes sat where_ m165 x149 = some x161) N ?_ ?_
  ·
   exact ⟨0, E.pick _ ⟨rfl, rfl, rfl, rfl, rfl, trivial⟩, H.sel [4, 5, 6, 3] rfl, hL162⟩
  clear E H hL162; intro m165 a w164 hI_
  obtain ⟨x149, E, H, hP⟩ := hI_
  obtain ⟨m160, rfl⟩ : ∃ q_, m165 = q_ + 1 := by cases m165 with | zero => rw [guard_Store_Add_l0] at hP; cases hP | succ q_ => exact ⟨q_, rfl⟩
  rw [guard_Store_Add_l0] at hP
  refine wp_seq ?_
  refine wp_region_lit ?_
  refine vn tbok 1 [] [(23, .bool (decide (x149 < (((List.length where_) : Nat) : Int))))] [] E (by kernel_rfl) (by kernel_rfl) trivial ?_
  clear E; intro a E
  refine wpList_nil ?_
  refine th_n ?_
  refine wp_seq ?_
  refine E.cases (t := 23) rfl (fun hb_ E_ => ?_) (fun hb_ E_ => ?_)
  ·
   replace E := E_; clear E_
   have h167 : x149 < (((List.length where_) : Nat) : Int) := of_decide_eq_true hb_
   clear hb_; replace hP := ite_t h167 hP
   refine c_true E rfl ?_
   refine wp_skip ?_
   refine th_n ?_
   refine wp_seq ?_
   refine wp_block ?_
   refine wp_seq ?_
   refine wp_region_lit ?_
   obtain ⟨g168, hP⟩ := ask_inv hP
   obtain ⟨b169, o170, e_b169⟩ := (H.rd 3 rds_ro).addr (idx_pos g168)
   subst e_b169
   refine vn tbok 3 [.int .i64 (List.getD where_ (Int.toNat x149) 0)] [(7, .int .i64 (List.getD where_ (Int.toNat x149) 0))] [0 ≤ x149 ∧ x149 < (((List.length where_) : Nat) : Int), World.cell? w164 ⟨b169, o170 + (Int.toNat x149) * 1, none⟩ = some (.int .i64 (List.getD where_ (Int.toNat x149) 0))] E (by kernel_rfl) (by kernel_rfl) ⟨g168, Rds.at1 (H.rd 3 rds_ro) 0 g168⟩ ?_
   clear E; intro a E
   refine wpList_nil ?_
   refine th_n ?_
   refine wp_seq ?_
   refine wp_region_lit ?_
   refine vn tbok 3 [] [(28, .bool (decide ((List.getD where_ (Int.toNat x149) 0) < 0)))] [] E (by kernel_rfl) (by kernel_rfl) trivial ?_
   clear E; intro a E
   refine E.cases (t := 28) rfl (fun hb_ E_ => ?_) (fun hb_ E_ => ?_)
   ·
    replace E := E_; clear E_
    have h171 : (List.getD where_ (Int.toNat x149) 0) < 0 := of_decide_eq_true hb_
    clear hb_; replace hP := ite_t h171 hP
    refine vn tbok 3 [] [(31, .bool true)] [] E (by kernel_rfl) (by kernel_rfl) trivial ?_
    clear E; intro a E
    refine wpList_nil ?_
    refine th_n ?_
    refine c_true E rfl ?_
    refine wp_seq ?_
    refine wp_region_lit ?_
    refine vn tbok 2 [] [(4, .int .i64 0), (5, .int .i64 2)] [] E (by kernel_rfl) (by kernel_rfl) trivial ?_
    clear E; intro a E
    refine wpList_nil ?_
    refine th_n ?_
    refine wp_ret ?_
    refine bl_ret ?_
    refine th_ret ?_
    refine th_ret ?_
    refine .inr ⟨rfl, ?_⟩
    refine bl_ret ?_
    refine th_ret ?_
    have hx_ := Option.some.inj hP; subst hx_
    have hP : some ((0, 2, snodes, sat)) = some r := hK163
    obtain rfl := Option.some.inj hP
    refine ret2 E rfl rfl rfl ?_
    exact ⟨_, rfl, ⟨(0, 2, snodes, sat), A3, c4, rfl, rfl, H.sel [2, 0, 1] rfl⟩⟩
   replace E := E_; clear E_
   have h172 : ¬ ((List.getD where_ (Int.toNat x149) 0) < 0) := of_decide_eq_false hb_
   clear hb_; replace hP := ite_f h172 hP
   refine vn tbok 3 [] [(31, .bool (decide (1048575 < (List.getD where_ (Int.toNat x149) 0))))] [] E (by kernel_rfl) (by kernel_rfl) trivial ?_
   clear E; intro a E
   refine wpList_nil ?_
   refine th_n ?_
   refine E.cases (t := 31) rfl (fun hb_ E_ => ?_) (fun hb_ E_ => ?_)
   ·
    replace E := E_; clear E_
    have h173 : 1048575 < (List.getD where_ (Int.toNat x149) 0) := of_decide_eq_true hb_
    clear hb_; replace hP := ite_t h173 hP
    refine c_true E rfl ?_
    refine wp_seq ?_
    refine wp_region_lit ?_
    refine vn tbok 2 [] [(4, .int .i64 0), (5, .int .i64 2)] [] E (by kernel_rfl) (by kernel_rfl) trivial ?_
    clear E; intro a E
    refine wpList_nil ?_
    refine th_n ?_
    refine wp_ret ?_
    refine bl_ret ?_
    refine th_ret ?_
    refine th_ret ?_
    refine .inr ⟨rfl, ?_⟩
    refine bl_ret ?_
    refine th_ret ?_
    have hx_ := Option.some.inj hP; subst hx_
    have hP : some ((0, 2, snodes, sat)) = some r := hK163
    obtain rfl := Option.some.inj hP
    refine ret2 E rfl rfl rfl ?_
    exact ⟨_, rfl, ⟨(0, 2, snodes, sat), A3, c4, rfl, rfl, H.sel [2, 0, 1] rfl⟩⟩
   replace E := E_; clear E_
   have h174 : ¬ (1048575 < (List.getD where_ (Int.toNat x149) 0)) := of_decide_eq_false hb_
   clear hb_; replace hP := ite_f h174 hP
   refine c_false E rfl ?_
   refine wp_skip ?_
   refine bl_n ?_
   refine th_n ?_
   refine wp_region_lit ?_
   obtain ⟨g175, hP⟩ := ask_inv hP
   refine vn tbok 2 [.int .i64 (x149 + 1)] [(22, .int .i64 (x149 + 1))] [IntKind.i64.wrap (x149 + 1) = x149 + 1] E (by kernel_rfl) (by kernel_rfl) (wrap_in g175) ?_
   clear E; intro a E
   refine wpList_nil ?_
   exact th_n ⟨m160, Nat.lt_succ_self _, x149 + 1, E.pick _ ⟨rfl, rfl, rfl, rfl, rfl, trivial⟩, H.sel [0, 1, 2, 3] rfl, hP⟩
  replace E := E_; clear E_
  have h176 : ¬ (x149 < (((List.length where_) : Nat) : Int)) := of_decide_eq_false hb_
  clear hb_; replace hP := ite_f h176 hP
  refine c_false E rfl ?_
  refine wp_exit ?_
  refine th_exit ?_
  have hx_ := Option.some.inj hP
  refine th_exit (.inl ⟨0, rfl, ?_⟩)
  exact ⟨rfl, (), E.pick _ ⟨rfl, rfl, trivial⟩, H.sel [0, 1, 2, 3] rfl, hx_.symm⟩
 clear E H hL162; intro i_ a w164 hM_
 obtain ⟨rfl, x166, E, H, hx_⟩ := hM_
 subst hx_; have hP := elim_l hK163
 clear hK163
 refine bl_hit ?_
 refine th_n ?_
 refine wp_seq ?_
 refine wp_region_lit ?_
 refine vn tbok 5 [.slice A3 (List.length snodes) c4] [(37, .int .i64 (((List.length snodes) : Nat) : Int))] [World.cell? w164 ⟨g1, 1, none⟩ = some (.slice A3 (List.length snodes) c4)] E (by kernel_rfl) (by kernel_rfl) ((H.box 2 rfl).cell (j := 1) rfl) ?_
 clear E; intro a E
 refine h_alloc H E rfl rfl tbok rfl ?_
 intro w179 g178 a hc180 hg182 H_ E_
 replace E := E_ _ rfl; clear E_
 replace H := H_; clear H_; try dsimp only [setn, addE, goneL] at H
 refine h_store (g := g178) (off := 0) H 4 rfl E rfl rfl rfl rfl tbok rfl rfl rfl rfl rfl ?_
 clear E; intro w183 a hc184 H_ E
 replace H := H_; clear H_; try dsimp only [setn, addE, goneL] at H
 refine wpList_nil ?_
 refine th_n ?_
 refine wp_seq ?_
 refine wp_region_lit ?_
 refine vn tbok 2 [] [(38, .pointer (some ⟨g1, 0, none⟩)), (39, .slice A8 (List.length where_) c9)] [] E (by kernel_rfl) (by kernel_rfl) trivial ?_
 clear E; intro a E
 obtain ⟨r185, h186, hP⟩ := bind_inv hP
 obtain ⟨Fa187, Hc188, hb189⟩ := H.call [2, 0, 1] [(3, false)] rfl rfl ⟨flat_plain, trivial⟩
 refine e_call E rfl rfl Try.func32 rfl rfl rfl (guard_Store_add_calls N _ _ _ g1 A3 c4 g6 A8 c9 sn snodes sat where_ 0 _ hk10 Hc188 h186) ?_
 intro v195 w194 a hR196 E_
 obtain ⟨x_, A199, c200, hr_, rfl, HR198⟩ := hR196
 subst hr_
 replace E := E_ _ rfl; clear E_
 obtain ⟨H_, hc197⟩ := hb189 _ _ HR198 rfl
 replace H := H_; clear H_; try dsimp only [setn, addE, goneL] at H
 refine vn tbok 1 [] [(9, .int .i64 r185.1)] [] E (by kernel_rfl) (by kernel_rfl) trivial ?_
 clear E; intro a E
 refine wpList_nil ?_
 refine th_n ?_
 refine wp_seq ?_
 refine wp_seq ?_
 refine wp_region_lit ?_
 refine vn tbok 6 [.slice A199 (List.length r185.2.1) c200] [(46, .bool (decide (4096 < (((List.length r185.2.1) : Nat) : Int))))] [World.cell? w194 ⟨g1, 1, none⟩ = some (.slice A199 (List.length r185.2.1) c200)] E (by kernel_rfl) (by kernel_rfl) ((H.box 5 rfl).cell (j := 1) rfl) ?_
 clear E; intro a E
 refine wpList_nil ?_
 refine th_n ?_
 refine E.cases (t := 46) rfl (fun hb_ E_ => ?_) (fun hb_ E_ => ?_)
 ·
  replace E := E_; clear E_
  have h204 : 4096 < (((List.length r185.2.1) : Nat) : Int) := of_decide_eq_true hb_
  clear hb_; replace hP := ite_t h204 hP
  refine c_true E rfl ?_
  refine wp_seq ?_
  obtain ⟨g205, hP⟩ := ask_inv hP
  have HR211 := H
  refine dr_start (S := fun w_ => Chg (atL [.box g1 44 [.int .i64 sn, .slice A199 (List.length r185.2.1) c200, .map (some g6)]]) w194 w_) (by kernel_rfl) ?_
  intro w208 hc209
  have HS210 : Chg (atL [.box g1 44 [.int .i64 sn, .slice A199 (List.length r185.2.1) c200, .map (some g6)]]) w194 w208 := hc209.mono (fun _ _ h_ => h_.elim)
  replace H := H.ext hc209
  refine dn tbok (by kernel_rfl) [0, 1, 2, 3, 5] [.int .i64 (((List.length snodes) : Nat) : Int)] [(47, .pointer (some ⟨g1, 0, none⟩)), (50, .pointer (some ⟨g1, 1, none⟩)), (52, .int .i64 (((List.length snodes) : Nat) : Int))] (fun w_ => [World.cell? w_ ⟨g178, 0, none⟩ = some (.int .i64 (((List.length snodes) : Nat) : Int))]) 5 E (fun _ _ => by kernel_rfl) (by kernel_rfl) (fun w_ hS_ => ((HR211.boxk [5] hS_ 4 rfl rfl).cell (j := 0) rfl)) (by kernel_rfl) HS210 ?_
  clear E; intro a E
  refine wpAnyH_all (rs := [4]) (by kernel_rfl) (by simp) ?_
  refine all1 ?_
  refine wpOp_of_list rfl ?_
  refine vn tbok 1 [.slice A199 (List.length r185.2.1) c200] [(51, .slice A199 (List.length r185.2.1) c200)] [World.cell? w208 ⟨g1, 1, none⟩ = some (.slice A199 (List.length r185.2.1) c200)] E (by kernel_rfl) (by kernel_rfl) ((H.box 5 rfl).cell (j := 1) rfl) ?_
  clear E; intro a E
  refine wpList_nil ?_
  refine th_n ⟨HS210, ?_⟩
  refine wpAnyH_all (rs := [6]) (by kernel_rfl) (by simp) ?_
  refine all1 ?_
  refine wpOp_of_list rfl ?_
  refine vn tbok 1 [] [(53, .slice A199 (Int.toNat (((List.length snodes) : Nat) : Int)) c200)] [0 ≤ (((List.length snodes) : Nat) : Int) ∧ (((List.length snodes) : Nat) : Int) ≤ ((c200 : Nat) : Int)] E (by kernel_rfl) (by kernel_rfl) (cut_le g205 (H.rcap 6 rfl)) ?_
  clear E; intro a E
  replace H := H.cutRow 6 rfl (Int.toNat (((List.length snodes) : Nat) : Int)); try dsimp only [setn, addE, goneL] at H
  replace E := E.same (t := 53) (u := .slice A199 (List.length (List.take (Int.toNat (((List.length snodes) : Nat) : Int)) r185.2.1)) c200) rfl (congrArg (fun n_ => Value.slice A199 n_ c200) (take_len g205))
  refine wpList_nil ?_
  refine th_n ⟨HS210, ?_⟩
  refine dn tbok (by kernel_rfl) [7, 8] [] [(55, .pointer (some ⟨g1, 1, none⟩))] (fun w_ => []) 1 E (fun _ _ => by kernel_rfl) (by kernel_rfl) (fun w_ hS_ => trivial) (by kernel_rfl) HS210 ?_
  clear E; intro a E
  refine wpAnyH_all (rs := [9]) (by kernel_rfl) (by simp) ?_
  refine all1 ?_
  refine wpOp_of_list rfl ?_
  refine h_store (g := g1) (off := 1) H 5 rfl E rfl rfl rfl rfl tbok rfl rfl rfl rfl rfl ?_
  clear E; intro w212 a hc213 H_ E
  replace HS210 := HS210.trans hc213 (fun k_ hk_ h_ => (fun _ _ h_ => Or.inl h_) k_ hk_ h_)
  replace H := H_; clear H_; try dsimp only [setn, addE, goneL] at H
  refine wpList_nil ?_
  refine th_n ⟨HS210, ?_⟩
  refine dr_done (by kernel_rfl) ?_
  clear HS210 HR211
  refine th_n ?_
  refine wp_seq ?_
  refine wp_region_lit ?_
  refine vn tbok 4 [.map (some g6)] [(59, .map (some g6))] [World.cell? w212 ⟨g1, 2, none⟩ = some (.map (some g6))] E (by kernel_rfl) (by kernel_rfl) ((H.box 5 rfl).cell (j := 2) rfl) ?_
  clear E; intro a E
  refine e_makeFunc (vs := [.pointer (some ⟨g178, 0, none⟩)]) E rfl rfl rfl rfl ?_
  clear E; intro a E
  refine h_delFunc (was := (((List.length snodes) : Nat) : Int)) (kvs := r185.2.2) H 7 4 rfl rfl E rfl rfl rfl rfl ?_
  intro w214 a hc215 H_ E_
  replace E := E_ _ rfl; clear E_
  replace H := H_; clear H_; try dsimp only [setn, addE, goneL] at H
  refine wpList_nil ?_
  refine th_n ?_
  refine wp_seq ?_
  refine wp_region_lit ?_
  refine vn tbok 2 [] [(4, .int .i64 0), (5, .int .i64 11)] [] E (by kernel_rfl) (by kernel_rfl) trivial ?_
  clear E; intro a E
  refine wpList_nil ?_
  refine th_n ?_
  refine wp_ret ?_
  refine th_ret ?_
  obtain rfl := Option.some.inj hP
  refine ret2 E rfl rfl rfl ?_
  exact ⟨_, rfl, ⟨(0, 11, List.take (Int.toNat (((List.length snodes) : Nat) : Int)) r185.2.1, List.filter (fun p_ => decide (p_.2 < (((List.length snodes) : Nat) : Int))) r185.2.2), A199, c200, rfl, rfl, H.sel [5, 6, 7] rfl⟩⟩
 replace E := E_; clear E_
 have h216 : ¬ (4096 < (((List.length r185.2.1) : Nat) : Int)) := of_decide_eq_false hb_
 clear hb_; replace hP := ite_f h216 hP
 refine c_false E rfl ?_
 refine wp_skip ?_
 refine th_n ?_
 refine wp_seq ?_
 refine wp_region_lit ?_
 refine vn tbok 3 [] [(4, .int .i64 r185.1), (5, .int .i64 0)] [] E (by kernel_rfl) (by kernel_rfl) trivial ?_
 clear E; intro a E
 refine wpList_nil ?_
 refine th_n ?_
 refine wp_ret ?_
 obtain rfl := Option.some.inj hP
 refine ret2 E rfl rfl rfl ?_
 exact ⟨_, rfl, ⟨(r185.1, 0, r185.2.1, r185.2.2), A199, c200, rfl, rfl, H.sel [5, 6, 7] rfl⟩⟩

/-! (*rejoinder/rejoinderref14.Store).add -/
def ref14_Store_add_l0 (N : Nat) (where_ : List Int) : Nat → (List Int) → (List Int) → Int → Option ((List Int) × (List Int))
  | 0, _, _, _ => none
  | m200 + 1, lo152, hi156, i159 =>
    if i159 < (((List.length where_) : Nat) : Int) then
      ask (idx i159 (List.length where_)) <|
      ask (List.length lo152 + List.length ([(List.getD where_ (Int.toNat i159) 0)] : List Int) ≤ 1000000000) <|
      ask (in64 (i159 + 1)) <|
      ask (idx (i159 + 1) (List.length where_)) <|
      ask (List.length hi156 + List.length ([(List.getD where_ (Int.toNat (i159 + 1)) 0)] : List Int) ≤ 1000000000) <|
      ask (in64 (i159 + 2)) <|
      ref14_Store_add_l0 N where_ m200 (lo152 ++ ([(List.getD where_ (Int.toNat i159) 0)] : List Int)) (hi156 ++ ([(List.getD where_ (Int.toNat (i159 + 1)) 0)] : List Int)) (i159 + 2)
    else
      some (lo152, hi156)
def ref14_Store_add_l1 (N : Nat) (p : Int) (r240 : Int × (List Nd)) (r258 : Int × (List Nd)) : Nat → Int → Option (Unit ⊕ (Int × (List Nd)))
  | 0, _ => none
  | m309 + 1, i296 =>
    if i296 < (((List.length r258.2) : Nat) : Int) then
      ask (idx i296 (List.length r258.2)) <|
      if (List.getD r258.2 (Int.toNat i296) (default : Nd)) = (⟨p, r240.1, r258.1⟩ : Nd) then
        some (Sum.inr (i296, r258.2))
      else
        ask (in64 (i296 + 1)) <|
        ref14_Store_add_l1 N p r240 r258 m309 (i296 + 1)
    else
      some (Sum.inl ())
def ref14_Store_add (N : Nat) : Nat → Int → (List Nd) → (List Int) → Int → Option (Int × (List Nd))
  | 0, _, _, _, _ => none
  | m10 + 1, sN, sNodes, where_, p =>
  if ((((List.length where_) : Nat) : Int) : Int) = 1 then
    ask (idx (0 : Int) (List.length where_)) <|
    ask (in64 ((-1) - (List.getD where_ (Int.toNat (0 : Int)) 0))) <|
    some ((-1) - (List.getD where_ (Int.toNat (0 : Int)) 0), sNodes)
  else
    Option.bind (ref14_Store_add_l0 N where_ N [] [] 0) fun x201 =>
    ask (in64 (p + 1)) <|
    Option.bind (ref14_Store_add N m10 sN sNodes x201.1 (p + 1)) fun r240 =>
    Option.bind (ref14_Store_add N m10 sN r240.2 x201.2 (p + 1)) fun r258 =>
    if (r240.1 : Int) = r258.1 then
      some (r240.1, r258.2)
    else
      Option.bind (ref14_Store_add_l1 N p r240 r258 N 0) fun x310 =>
      Sum.elim (fun x315 =>
        ask (List.length r258.2 + List.length ([(⟨p, r240.1, r258.1⟩ : Nd)] : List Nd) ≤ 1000000000) <|
        ask (in64 ((((List.length (r258.2 ++ ([(⟨p, r240.1, r258.1⟩ : Nd)] : List Nd))) : Nat) : Int) - 1)) <|
        some ((((List.length (r258.2 ++ ([(⟨p, r240.1, r258.1⟩ : Nd)] : List Nd))) : Nat) : Int) - 1, r258.2 ++ ([(⟨p, r240.1, r258.1⟩ : Nd)] : List Nd)))
       (fun x328 =>
        some x328) x310
set_option maxRecDepth 100000 in
set_option maxHeartbeats 4000000 in
theorem ref14_Store_add_calls {N : Nat} : ∀ (m_ : Nat) (S Fa : Nat → Prop) (w0 : World) (g1 : Nat) (A3 : Option Addr) (c4 : Nat) (A6 : Option Addr) (c7 : Nat) (sN : Int) (sNodes : List Nd) (where_ : List Int) (p : Int) (r : Int × (List Nd)) (hk8 : List.length where_ ≤ c7) (H : Hp S Fa w0 w0 [.box g1 61 [.int .i64 sN, .slice A3 (List.length sNodes) c4], .row true cNode 64 A3 c4 sNodes, .ro false (cInt .i64) A6 where_]) (hP : ref14_Store_add N m_ sN sNodes where_ p = some r),
    Calls Try.prog 35 #[.pointer (some ⟨g1, 0, none⟩), .slice A6 (List.length where_) c7, .int .i64 p] w0 fun e w' => ∃ v, e = .returned v ∧ (∃ (x_ : Int × (List Nd)) (A13 : Option Addr) (c14 : Nat), r = x_ ∧ v = .int .i64 x_.1 ∧ Hp S Fa w0 w' [.box g1 61 [.int .i64 sN, .slice A13 (List.length x_.2) c14], .row true cNode 64 A13 c14 x_.2]) := by
 intro m10; induction m10 with
 | zero => intros; rename_i hP; rw [ref14_Store_add] at hP; cases hP
 | succ m10 ih_ =>
 intro S Fa w0 g1 A3 c4 A6 c7 sN sNodes where_ p r hk8 H hP
 refine enterV (n := 95) Try.func35 rfl rfl rfl ?_
 intro a E
 replace E := E.pick [(0, .pointer (some ⟨g1, 0, none⟩)), (1, .slice A6 (List.length where_) c7), (2, .int .i64 p)] ⟨rfl, rfl, rfl, trivial⟩
 rw [ref14_Store_add] at hP
 refine wp_seq ?_
 refine wp_region_lit ?_
 refine vn tbok 1 [] [] [] E (by kernel_rfl) (by kernel_rfl) trivial ?_
 clear E; intro a E
 refine wpList_nil ?_
 refine th_n ?_
 refine wp_seq ?_
 refine wp_seq ?_
 refine wp_region_lit ?_
 refine vn tbok 3 [] [(16, .bool (((((List.length where_) : Nat) : Int) : Int) == 1))] [] E (by kernel_rfl) (by kernel_rfl) trivial ?_
 clear E; intro a E
 refine wpList_nil ?_
 refine th_n ?_
 refine E.cases (t := 16) rfl (fun hb_ E_ => ?_) (fun hb_ E_ => ?_)
 ·
  replace E := E_; clear E_
  have h115 : ((((List.length where_) : Nat) : Int) : Int) = 1 := eq_of_beq hb_
  clear hb_; replace hP := ite_t h115 hP
  refine c_true E rfl ?_
  refine wp_seq ?_
  refine wp_region_lit ?_
  obtain ⟨g116, hP⟩ := ask_inv hP
  obtain ⟨b117, o118, e_b117⟩ := (H.rd 2 rds_ro).addr (idx_pos g116)
  subst e_b117
  obtain ⟨g119, hP⟩ := ask_inv hP
  refine vn tbok 5 [.int .i64 (List.getD where_ (Int.toNat (0 : Int)) 0), .int .i64 ((-1) - (List.getD where_ (Int.toNat (0 : Int)) 0))] [(6, .int .i64 ((-1) - (List.getD where_ (Int.toNat (0 : Int)) 0)))] [0 ≤ (0 : Int) ∧ (0 : Int) < (((List.length where_) : Nat) : Int), World.cell? w0 ⟨b117, o118 + (Int.toNat (0 : Int)) * 1, none⟩ = some (.int .i64 (List.getD where_ (Int.toNat (0 : Int)) 0)), IntKind.i64.wrap ((-1) - (List.getD where_ (Int.toNat (0 : Int)) 0)) = (-1) - (List.getD where_ (Int.toNat (0 : Int)) 0)] E (by kernel_rfl) (by kernel_rfl) ⟨g116, Rds.at1 (H.rd 2 rds_ro) 0 g116, wrap_in g119⟩ ?_
  clear E; intro a E
  refine wpList_nil ?_
  refine th_n ?_
  refine wp_ret ?_
  refine th_ret ?_
  obtain rfl := Option.some.inj hP
  refine ret1 E rfl rfl ?_
  exact ⟨_, rfl, ⟨((-1) - (List.getD where_ (Int.toNat (0 : Int)) 0), sNodes), A3, c4, rfl, rfl, H.sel [0, 1] rfl⟩⟩
 replace E := E_; clear E_
 have h120 : ¬ (((((List.length where_) : Nat) : Int) : Int) = 1) := ne_of_beq_false hb_
 clear hb_; replace hP := ite_f h120 hP
 refine c_false E rfl ?_
 refine wp_skip ?_
 refine th_n ?_
 refine wp_seq ?_
 refine wp_region_lit ?_
 refine vn tbok 1 [] [(7, .slice none 0 0)] [] E (by kernel_rfl) (by kernel_rfl) trivial ?_
 clear E; intro a E
 refine wpList_nil ?_
 refine th_n ?_
 refine wp_seq ?_
 refine wp_region_lit ?_
 refine vn tbok 1 [] [(8, .slice none 0 0)] [] E (by kernel_rfl) (by kernel_rfl) trivial ?_
 clear E; intro a E
 refine wpList_nil ?_
 refine th_n ?_
 refine wp_seq ?_
 refine wp_seq ?_
 refine wp_region_lit ?_
 refine vn tbok 1 [] [(9, .int .i64 0)] [] E (by kernel_rfl) (by kernel_rfl) trivial ?_
 clear E; intro a E
 refine wpList_nil ?_
 refine th_n ?_
 refine wp_block ?_
 obtain ⟨x201, hL202, hK203⟩ := bind_inv hP
 clear hP
 replace H := H.nilrow (cInt .i64) 3; try dsimp only [setn, addE, goneL] at H
 replace H := H.nilrow (cInt .i64) 3; try dsimp only [setn, addE, goneL] at H
 refine loop_cut (fun i_ a w_ => (i_ = 0 ∧ ∃ (x208 : (List Int) × (List Int)), ∃ (A194 : Option Addr) (c195 : Nat) (A198 : Option Addr) (c199 : Nat), Fr a 95 [(0, .pointer (some ⟨g1, 0, none⟩)), (2, .int .i64 p), (7, .slice A194 (List.length x208.1) c195), (8, .slice A198 (List.length x208.2) c199)] ∧ Hp S Fa w0 w_ [.row true cNode 64 A3 c4 sNodes, .box g1 61 [.int .i64 sN, .slice A3 (List.length sNodes) c4], .row true (cInt .i64) 3 A194 c195 x208.1, .row true (cInt .i64) 3 A198 c199 x208.2] ∧ x201 = x208)) ?_ ?_
 ·
  refine loopV (fun m207 a w206 => ∃ (lo152 : List Int) (hi156 : List Int) (i159 : Int), ∃ (A153 : Option Addr) (c154 : Nat) (A157 : Option Addr) (c158 : Nat), Fr a 95 [(0, .pointer (some ⟨g1, 0, none⟩)), (1, .slice A6 (List.length where_) c7), (2, .int .i64 p), (7, .slice A153 (List.length lo152) c154), (8, .slice A157 (List.length hi156) c158), (9, .int .i64 i159)] ∧ Hp S Fa w0 w206 [.row true cNode 64 A3 c4 sNodes, .box g1 61 [.int .i64 sN, .slice A3 (List.length sNodes) c4], .ro false (cInt .i64) A6 where_, .row true (cInt .i64) 3 A153 c154 lo152, .row true (cInt .i64) 3 A157 c158 hi156] ∧ ref14_Store_add_l0 N where_ m207 lo152 hi156 i159 = some x201) N ?_ ?_
  ·
   exact ⟨[], [], 0, none, 0, none, 0, E.pick _ ⟨rfl, rfl, rfl, rfl, rfl, rfl, trivial⟩, H.sel [1, 0, 2, 3, 4] rfl, hL202⟩
  clear E H hL202; intro m207 a w206 hI_
  obtain ⟨lo152, hi156, i159, A153, c154, A157, c158, E, H, hP⟩ := hI_
  obtain ⟨m200, rfl⟩ : ∃ q_, m207 = q_ + 1 := by cases m207 with | zero => rw [ref14_Store_add_l0] at hP; cases hP | succ q_ => exact ⟨q_, rfl⟩
  rw [ref14_Store_add_l0] at hP
  refine wp_seq ?_
  refine wp_seq ?_
  refine wp_region_lit ?_
  refine vn tbok 4 [] [(24, .bool (decide (i159 < (((List.length where_) : Nat) : Int))))] [] E (by kernel_rfl) (by kernel_rfl) trivial ?_
  clear E; intro a E
  refine wpList_nil ?_
  refine th_n ?_
  refine E.cases (t := 24) rfl (fun hb_ E_ => ?_) (fun hb_ E_ => ?_)
  ·
   replace E := E_; clear E_
   have h209 : i159 < (((List.length where_) : Nat) : Int) := of_decide_eq_true hb_
   clear hb_; replace hP := ite_t h209 hP
   refine c_true E rfl ?_
   refine wp_skip ?_
   refine th_n ?_
   refine wp_seq ?_
   refine wp_block ?_
   refine wp_seq ?_
   refine wp_region_lit ?_
   obtain ⟨g210, hP⟩ := ask_inv hP
   obtain ⟨b211, o212, e_b211⟩ := (H.rd 2 rds_ro).addr (idx_pos g210)
   subst e_b211
   refine vn tbok 5 [.int .i64 (List.getD where_ (Int.toNat i159) 0)] [(27, .slice A153 (List.length lo152) c154), (31, .int .i64 (List.getD where_ (Int.toNat i159) 0))] [0 ≤ i159 ∧ i159 < (((List.length where_) : Nat) : Int), World.cell? w206 ⟨b211, o212 + (Int.toNat i159) * 1, none⟩ = some (.int .i64 (List.getD where_ (Int.toNat i159) 0))] E (by kernel_rfl) (by kernel_rfl) ⟨g210, Rds.at1 (H.rd 2 rds_ro) 0 g210⟩ ?_
   clear E; intro a E
   refine h_buildSlice (ps := [(0, .int .i64 (List.getD where_ (Int.toNat i159) 0))]) (cs := [.int .i64 (List.getD where_ (Int.toNat i159) 0)]) H E rfl rfl tbok rfl rfl (by kernel_rfl) ?_
   intro w214 g213 a hc215 hg217 H_ E_
   replace E := E_ _ rfl; clear E_
   replace H := H_; clear H_; try dsimp only [setn, addE, goneL] at H
   obtain ⟨g218, hP⟩ := ask_inv hP
   refine h_append (cInt .i64) (xs := lo152) (ys := ([(List.getD where_ (Int.toNat i159) 0)] : List Int)) (0 : Int) H 3 rfl E rfl rfl tbok rfl rfl rfl rfl rfl (fun _ _ => rfl) rfl rfl (fun _ HF_ => HF_.srcB 5 rfl (⟨_, _, rfl, rfl, rfl⟩)) g218 ?_
   intro w219 A220 c221 a hc222 hA223 H_ E_
   replace E := E_ _ rfl; clear E_
   replace H := H_; clear H_; try dsimp only [setn, addE, goneL] at H
   refine vn tbok 1 [] [(7, .slice A220 (List.length (lo152 ++ ([(List.getD where_ (Int.toNat i159) 0)] : List Int))) c221)] [] E (by kernel_rfl) (by kernel_rfl) trivial ?_
   clear E; intro a E
   refine wpList_nil ?_
   refine th_n ?_
   refine wp_region_lit ?_
   obtain ⟨g224, hP⟩ := ask_inv hP
   obtain ⟨g225, hP⟩ := ask_inv hP
   refine vn tbok 6 [.int .i64 (i159 + 1), .int .i64 (List.getD where_ (Int.toNat (i159 + 1)) 0)] [(34, .slice A157 (List.length hi156) c158), (39, .int .i64 (List.getD where_ (Int.toNat (i159 + 1)) 0))] [IntKind.i64.wrap (i159 + 1) = i159 + 1, 0 ≤ (i159 + 1) ∧ (i159 + 1) < (((List.length where_) : Nat) : Int), World.cell? w219 ⟨b211, o212 + (Int.toNat (i159 + 1)) * 1, none⟩ = some (.int .i64 (List.getD where_ (Int.toNat (i159 + 1)) 0))] E (by kernel_rfl) (by kernel_rfl) ⟨wrap_in g224, g225, Rds.at1 (H.rd 2 rds_ro) 0 g225⟩ ?_
   clear E; intro a E
   refine h_buildSlice (ps := [(0, .int .i64 (List.getD where_ (Int.toNat (i159 + 1)) 0))]) (cs := [.int .i64 (List.getD where_ (Int.toNat (i159 + 1)) 0)]) H E rfl rfl tbok rfl rfl (by kernel_rfl) ?_
   intro w227 g226 a hc228 hg230 H_ E_
   replace E := E_ _ rfl; clear E_
   replace H := H_; clear H_; try dsimp only [setn, addE, goneL] at H
   obtain ⟨g231, hP⟩ := ask_inv hP
   refine h_append (cInt .i64) (xs := hi156) (ys := ([(List.getD where_ (Int.toNat (i159 + 1)) 0)] : List Int)) (0 : Int) H 4 rfl E rfl rfl tbok rfl rfl rfl rfl rfl (fun _ _ => rfl) rfl rfl (fun _ HF_ => HF_.srcB 6 rfl (⟨_, _, rfl, rfl, rfl⟩)) g231 ?_
   intro w232 A233 c234 a hc235 hA236 H_ E_
   replace E := E_ _ rfl; clear E_
   replace H := H_; clear H_; try dsimp only [setn, addE, goneL] at H
   refine vn tbok 1 [] [(8, .slice A233 (List.length (hi156 ++ ([(List.getD where_ (Int.toNat (i159 + 1)) 0)] : List Int))) c234)] [] E (by kernel_rfl) (by kernel_rfl) trivial ?_
   clear E; intro a E
   refine wpList_nil ?_
   refine bl_n ?_
   refine th_n ?_
   refine wp_region_lit ?_
   obtain ⟨g237, hP⟩ := ask_inv hP
   refine vn tbok 3 [.int .i64 (i159 + 2)] [(9, .int .i64 (i159 + 2))] [IntKind.i64.wrap (i159 + 2) = i159 + 2] E (by kernel_rfl) (by kernel_rfl) (wrap_in g237) ?_
   clear E; intro a E
   refine wpList_nil ?_
   exact th_n ⟨m200, Nat.lt_succ_self _, lo152 ++ ([(List.getD where_ (Int.toNat i159) 0)] : List Int), hi156 ++ ([(List.getD where_ (Int.toNat (i159 + 1)) 0)] : List Int), i159 + 2, A220, c221, A233, c234, E.pick _ ⟨rfl, rfl, rfl, rfl, rfl, rfl, trivial⟩, H.sel [0, 1, 2, 3, 4] rfl, hP⟩
  replace E := E_; clear E_
  have h238 : ¬ (i159 < (((List.length where_) : Nat) : Int)) := of_decide_eq_false hb_
  clear hb_; replace hP := ite_f h238 hP
  refine c_false E rfl ?_
  refine wp_exit ?_
  refine th_exit ?_
  have hx_ := Option.some.inj hP
  refine th_exit (.inl ⟨0, rfl, ?_⟩)
  exact ⟨rfl, (lo152, hi156), A153, c154, A157, c158, E.pick _ ⟨rfl, rfl, rfl, rfl, trivial⟩, H.sel [0, 1, 3, 4] rfl, hx_.symm⟩
 clear E H hL202; intro i_ a w206 hM_
 obtain ⟨rfl, x208, A194, c195, A198, c199, E, H, hx_⟩ := hM_
 subst hx_; have hP := hK203; clear hK203
 refine bl_hit ?_
 refine th_n ?_
 refine wp_seq ?_
 refine wp_region_lit ?_
 obtain ⟨g239, hP⟩ := ask_inv hP
 refine vn tbok 4 [.int .i64 (p + 1)] [(42, .pointer (some ⟨g1, 0, none⟩)), (43, .slice A194 (List.length x201.1) c195), (45, .int .i64 (p + 1))] [IntKind.i64.wrap (p + 1) = p + 1] E (by kernel_rfl) (by kernel_rfl) (wrap_in g239) ?_
 clear E; intro a E
 obtain ⟨r240, h241, hP⟩ := bind_inv hP
 obtain ⟨Fa242, Hc243, hb244⟩ := H.call [1, 0] [(2, false)] rfl rfl ⟨flat_plain, trivial⟩
 refine e_call E rfl rfl Try.func35 rfl rfl rfl (ih_ _ _ _ g1 A3 c4 A194 c195 sN sNodes x201.1 (p + 1) _ (H.rcap 2 rfl) Hc243 h241) ?_
 intro v250 w249 a hR251 E_
 obtain ⟨x_, A254, c255, hr_, rfl, HR253⟩ := hR251
 subst hr_
 replace E := E_ _ rfl; clear E_
 obtain ⟨H_, hc252⟩ := hb244 _ _ HR253 rfl
 replace H := H_; clear H_; try dsimp only [setn, addE, goneL] at H
 refine vn tbok 1 [] [(10, .int .i64 r240.1)] [] E (by kernel_rfl) (by kernel_rfl) trivial ?_
 clear E; intro a E
 refine wpList_nil ?_
 refine th_n ?_
 refine wp_seq ?_
 refine wp_region_lit ?_
 refine vn tbok 4 [.int .i64 (p + 1)] [(47, .pointer (some ⟨g1, 0, none⟩)), (48, .slice A198 (List.length x201.2) c199), (50, .int .i64 (p + 1))] [IntKind.i64.wrap (p + 1) = p + 1] E (by kernel_rfl) (by kernel_rfl) (wrap_in g239) ?_
 clear E; intro a E
 obtain ⟨r258, h259, hP⟩ := bind_inv hP
 obtain ⟨Fa260, Hc261, hb262⟩ := H.call [4, 5] [(3, false)] rfl rfl ⟨flat_plain, trivial⟩
 refine e_call E rfl rfl Try.func35 rfl rfl rfl (ih_ _ _ _ g1 A254 c255 A198 c199 sN r240.2 x201.2 (p + 1) _ (H.rcap 3 rfl) Hc261 h259) ?_
 intro v268 w267 a hR269 E_
 obtain ⟨x_, A272, c273, hr_, rfl, HR271⟩ := hR269
 subst hr_
 replace E := E_ _ rfl; clear E_
 obtain ⟨H_, hc270⟩ := hb262 _ _ HR271 rfl
 replace H := H_; clear H_; try dsimp only [setn, addE, goneL] at H
 refine vn tbok 1 [] [(11, .int .i64 r258.1)] [] E (by kernel_rfl) (by kernel_rfl) trivial ?_
 clear E; intro a E
 refine wpList_nil ?_
 refine th_n ?_
 refine wp_seq ?_
 refine wp_seq ?_
 refine wp_region_lit ?_
 refine vn tbok 3 [] [(54, .bool ((r240.1 : Int) == r258.1))] [] E (by kernel_rfl) (by kernel_rfl) trivial ?_
 clear E; intro a E
 refine wpList_nil ?_
 refine th_n ?_
 refine E.cases (t := 54) rfl (fun hb_ E_ => ?_) (fun hb_ E_ => ?_)
 ·
  replace E := E_; clear E_
  have h276 : (r240.1 : Int) = r258.1 := eq_of_beq hb_
  clear hb_; replace hP := ite_t h276 hP
  refine c_true E rfl ?_
  refine wp_seq ?_
  refine wp_region_lit ?_
  refine vn tbok 2 [] [(6, .int .i64 r240.1)] [] E (by kernel_rfl) (by kernel_rfl) trivial ?_
  clear E; intro a E
  refine wpList_nil ?_
  refine th_n ?_
  refine wp_ret ?_
  refine th_ret ?_
  obtain rfl := Option.some.inj hP
  refine ret1 E rfl rfl ?_
  exact ⟨_, rfl, ⟨(r240.1, r258.2), A272, c273, rfl, rfl, H.sel [6, 7] rfl⟩⟩
 replace E := E_; clear E_
 have h277 : ¬ ((r240.1 : Int) = r258.1) := ne_of_beq_false hb_
 clear hb_; replace hP := ite_f h277 hP
 refine c_false E rfl ?_
 refine wp_skip ?_
 refine th_n ?_
 refine wp_seq ?_
 refine wp_region_lit ?_
 refine vn tbok 3 [] [(56, .int .i64 p), (57, .int .i64 r240.1), (58, .int .i64 r258.1)] [] E (by kernel_rfl) (by kernel_rfl) trivial ?_
 clear E; intro a E
 refine e_build (ps := [(0, .int .i64 p), (1, .int .i64 r240.1), (2, .int .i64 r258.1)]) (v := .agg #[.int .i64 p, .int .i64 r240.1, .int .i64 r258.1]) E rfl rfl tbok rfl (by kernel_rfl) rfl ?_
 clear E; intro a E
 refine h_alloc H E rfl rfl tbok rfl ?_
 intro w279 g278 a hc280 hg282 H_ E_
 replace E := E_ _ rfl; clear E_
 replace H := H_; clear H_; try dsimp only [setn, addE, goneL] at H
 refine h_store (g := g278) (off := 0) H 8 rfl E rfl rfl rfl rfl tbok rfl rfl rfl rfl rfl ?_
 clear E; intro w283 a hc284 H_ E
 replace H := H_; clear H_; try dsimp only [setn, addE, goneL] at H
 refine wpList_nil ?_
 refine th_n ?_
 refine wp_seq ?_
 refine wp_seq ?_
 refine wp_region_lit ?_
 refine vn tbok 1 [] [(13, .int .i64 0)] [] E (by kernel_rfl) (by kernel_rfl) trivial ?_
 clear E; intro a E
 refine wpList_nil ?_
 refine th_n ?_
 refine wp_block ?_
 obtain ⟨x310, hL311, hK312⟩ := bind_inv hP
 clear hP
 refine loop_cut (fun i_ a w_ => (i_ = 2 ∧ ∃ (x315 : Unit), Fr a 95 [(0, .pointer (some ⟨g1, 0, none⟩)), (12, .pointer (some ⟨g278, 0, none⟩))] ∧ Hp S Fa w0 w_ [.row true cNode 64 A272 c273 r258.2, .box g1 61 [.int .i64 sN, .slice A272 (List.length r258.2) c273], .box g278 64 [.int .i64 p, .int .i64 r240.1, .int .i64 r258.1]] ∧ x310 = Sum.inl x315)) ?_ ?_
 ·
  refine loopV (fun m314 a w313 => ∃ (i296 : Int), Fr a 95 [(0, .pointer (some ⟨g1, 0, none⟩)), (12, .pointer (some ⟨g278, 0, none⟩)), (13, .int .i64 i296)] ∧ Hp S Fa w0 w313 [.row true cNode 64 A272 c273 r258.2, .box g1 61 [.int .i64 sN, .slice A272 (List.length r258.2) c273], .box g278 64 [.int .i64 p, .int .i64 r240.1, .int .i64 r258.1]] ∧ ref14_Store_add_l1 N p r240 r258 m314 i296 = some x310) N ?_ ?_
  ·
   exact ⟨0, E.pick _ ⟨rfl, rfl, rfl, trivial⟩, H.sel [7, 6, 8] rfl, hL311⟩
  clear E H hL311; intro m314 a w313 hI_
  obtain ⟨i296, E, H, hP⟩ := hI_
  obtain ⟨m309, rfl⟩ : ∃ q_, m314 = q_ + 1 := by cases m314 with | zero => rw [ref14_Store_add_l1] at hP; cases hP | succ q_ => exact ⟨q_, rfl⟩
  rw [ref14_Store_add_l1] at hP
  refine wp_seq ?_
  refine wp_seq ?_
  refine wp_region_lit ?_
  refine vn tbok 7 [.slice A272 (List.length r258.2) c273] [(66, .bool (decide (i296 < (((List.length r258.2) : Nat) : Int))))] [World.cell? w313 ⟨g1, 1, none⟩ = some (.slice A272 (List.length r258.2) c273)] E (by kernel_rfl) (by kernel_rfl) ((H.box 1 rfl).cell (j := 1) rfl) ?_
  clear E; intro a E
  refine wpList_nil ?_
  refine th_n ?_
  refine E.cases (t := 66) rfl (fun hb_ E_ => ?_) (fun hb_ E_ => ?_)
  ·
   replace E := E_; clear E_
   have h316 : i296 < (((List.length r258.2) : Nat) : Int) := of_decide_eq_true hb_
   clear hb_; replace hP := ite_t h316 hP
   refine c_true E rfl ?_
   refine wp_skip ?_
   refine th_n ?_
   refine wp_seq ?_
   refine wp_block ?_
   refine wp_seq ?_
   obtain ⟨g317, hP⟩ := ask_inv hP
   obtain ⟨b318, e_b318⟩ := H.raddr 0 rfl (idx_pos g317)
   subst e_b318
   have HR323 := H
   refine dr_start (S := fun w_ => Chg (atL []) w313 w_) (by kernel_rfl) ?_
   intro w320 hc321
   have HS322 : Chg (atL []) w313 w320 := hc321.mono (fun _ _ h_ => h_.elim)
   replace H := H.ext hc321
   refine dn tbok (by kernel_rfl) [0, 1, 2, 3, 4, 5, 6, 7] [.slice (some ⟨b318, 0, none⟩) (List.length r258.2) c273, .agg #[.int .i64 ((List.getD r258.2 (Int.toNat i296) (default : Nd)).P), .int .i64 ((List.getD r258.2 (Int.toNat i296) (default : Nd)).Lo), .int .i64 ((List.getD r258.2 (Int.toNat i296) (default : Nd)).Hi)], .agg #[.int .i64 p, .int .i64 r240.1, .int .i64 r258.1]] [(75, .agg #[.int .i64 ((List.getD r258.2 (Int.toNat i296) (default : Nd)).P), .int .i64 ((List.getD r258.2 (Int.toNat i296) (default : Nd)).Lo), .int .i64 ((List.getD r258.2 (Int.toNat i296) (default : Nd)).Hi)]), (76, .agg #[.int .i64 p, .int .i64 r240.1, .int .i64 r258.1])] (fun w_ => [World.cell? w_ ⟨g1, 1, none⟩ = some (.slice (some ⟨b318, 0, none⟩) (List.length r258.2) c273), 0 ≤ i296 ∧ i296 < (((List.length r258.2) : Nat) : Int), cellsAt w_ b318 (0 + (Int.toNat i296) * 3) [.int .i64 ((List.getD r258.2 (Int.toNat i296) (default : Nd)).P), .int .i64 ((List.getD r258.2 (Int.toNat i296) (default : Nd)).Lo), .int .i64 ((List.getD r258.2 (Int.toNat i296) (default : Nd)).Hi)], cellsAt w_ g278 (0) [.int .i64 p, .int .i64 r240.1, .int .i64 r258.1]]) 1 E (fun _ _ => by kernel_rfl) (by kernel_rfl) (fun w_ hS_ => ⟨(HR323.boxk [] hS_ 1 rfl rfl).cell (j := 1) rfl, g317, Rds.atP (HR323.rdk [] hS_ 0 rds_row rfl) (default : Nd) g317, (HR323.boxk [] hS_ 2 rfl rfl).sub 0 _ rfl⟩) (by kernel_rfl) HS322 ?_
   clear E; intro a E
   refine wpAnyH_all (rs := [8]) (by kernel_rfl) (by simp) ?_
   refine all1 ?_
   refine wpOp_of_list rfl ?_
   refine e_eqS E rfl rfl rfl rfl grdNd (eqNd (List.getD r258.2 (Int.toNat i296) (default : Nd)) (⟨p, r240.1, r258.1⟩ : Nd) _) (decide ((List.getD r258.2 (Int.toNat i296) (default : Nd)) = (⟨p, r240.1, r258.1⟩ : Nd))) (.inl ⟨rfl, rfl⟩) rfl ?_
   clear E; intro a E
   refine wpList_nil ?_
   refine th_n ⟨HS322, ?_⟩
   refine dr_done (by kernel_rfl) ?_
   clear HS322 HR323
   refine th_n ?_
   refine E.cases (t := 77) rfl (fun hb_ E_ => ?_) (fun hb_ E_ => ?_)
   ·
    replace E := E_; clear E_
    have h324 : (List.getD r258.2 (Int.toNat i296) (default : Nd)) = (⟨p, r240.1, r258.1⟩ : Nd) := of_decide_eq_true hb_
    clear hb_; replace hP := ite_t h324 hP
    refine c_true E rfl ?_
    refine wp_seq ?_
    refine wp_region_lit ?_
    refine vn tbok 2 [] [(6, .int .i64 i296)] [] E (by kernel_rfl) (by kernel_rfl) trivial ?_
    clear E; intro a E
    refine wpList_nil ?_
    refine th_n ?_
    refine wp_ret ?_
    refine bl_ret ?_
    refine th_ret ?_
    refine th_ret ?_
    refine .inr ⟨rfl, ?_⟩
    refine bl_ret ?_
    refine th_ret ?_
    have hx_ := Option.some.inj hP; subst hx_
    have hP : some ((i296, r258.2)) = some r := hK312
    obtain rfl := Option.some.inj hP
    refine ret1 E rfl rfl ?_
    exact ⟨_, rfl, ⟨(i296, r258.2), (some ⟨b318, 0, none⟩), c273, rfl, rfl, H.sel [1, 0] rfl⟩⟩
   replace E := E_; clear E_
   have h325 : ¬ ((List.getD r258.2 (Int.toNat i296) (default : Nd)) = (⟨p, r240.1, r258.1⟩ : Nd)) := of_decide_eq_false hb_
   clear hb_; replace hP := ite_f h325 hP
   refine c_false E rfl ?_
   refine wp_skip ?_
   refine bl_n ?_
   refine th_n ?_
   refine wp_region_lit ?_
   obtain ⟨g326, hP⟩ := ask_inv hP
   refine vn tbok 3 [.int .i64 (i296 + 1)] [(13, .int .i64 (i296 + 1))] [IntKind.i64.wrap (i296 + 1) = i296 + 1] E (by kernel_rfl) (by kernel_rfl) (wrap_in g326) ?_
   clear E; intro a E
   refine wpList_nil ?_
   exact th_n ⟨m309, Nat.lt_succ_self _, i296 + 1, E.pick _ ⟨rfl, rfl, rfl, trivial⟩, H.sel [0, 1, 2] rfl, hP⟩
  replace E := E_; clear E_
  have h327 : ¬ (i296 < (((List.length r258.2) : Nat) : Int)) := of_decide_eq_false hb_
  clear hb_; replace hP := ite_f h327 hP
  refine c_false E rfl ?_
  refine wp_exit ?_
  refine th_exit ?_
  have hx_ := Option.some.inj hP
  refine th_exit (.inl ⟨2, rfl, ?_⟩)
  exact ⟨rfl, (), E.pick _ ⟨rfl, rfl, trivial⟩, H.sel [0, 1, 2] rfl, hx_.symm⟩
 clear E H hL311; intro i_ a w313 hM_
 obtain ⟨rfl, x315, E, H, hx_⟩ := hM_
 subst hx_; have hP := elim_l hK312
 clear hK312
 refine bl_hit ?_
 refine th_n ?_
 refine wp_seq ?_
 obtain ⟨g334, hP⟩ := ask_inv hP
 refine meet_cut (fun a w344 => ∃ (A342 : Option Addr) (c343 : Nat), Fr a 95 [(0, .pointer (some ⟨g1, 0, none⟩))] ∧ Hp S Fa w0 w344 [.box g1 61 [.int .i64 sN, .slice A342 (List.length (r258.2 ++ ([(⟨p, r240.1, r258.1⟩ : Nd)] : List Nd))) c343], .row true cNode 64 A342 c343 (r258.2 ++ ([(⟨p, r240.1, r258.1⟩ : Nd)] : List Nd))]) ?_ ?_
 ·
  have HR348 := H
  refine dr_start (S := fun w_ => Chg (atL [.row true cNode 64 A272 c273 r258.2, .box g1 61 [.int .i64 sN, .slice A272 (List.length r258.2) c273]]) w313 w_) (by kernel_rfl) ?_
  intro w345 hc346
  have HS347 : Chg (atL [.row true cNode 64 A272 c273 r258.2, .box g1 61 [.int .i64 sN, .slice A272 (List.length r258.2) c273]]) w313 w345 := hc346.mono (fun _ _ h_ => h_.elim)
  replace H := H.ext hc346
  refine dn tbok (by kernel_rfl) [0, 1, 2, 3, 5] [.agg #[.int .i64 p, .int .i64 r240.1, .int .i64 r258.1]] [(79, .pointer (some ⟨g1, 0, none⟩)), (82, .pointer (some ⟨g1, 1, none⟩)), (84, .agg #[.int .i64 p, .int .i64 r240.1, .int .i64 r258.1])] (fun w_ => [cellsAt w_ g278 (0) [.int .i64 p, .int .i64 r240.1, .int .i64 r258.1]]) 6 E (fun _ _ => by kernel_rfl) (by kernel_rfl) (fun w_ hS_ => ((HR348.boxk [0, 1] hS_ 2 rfl rfl).sub 0 _ rfl)) (by kernel_rfl) HS347 ?_
  clear E; intro a E
  refine wpAnyH_all (rs := [4, 6]) (by kernel_rfl) (by simp) ?_
  refine all2 ?_ ?_
  ·
   refine wpOp_of_list rfl ?_
   refine vn tbok 1 [.slice A272 (List.length r258.2) c273] [(83, .slice A272 (List.length r258.2) c273)] [World.cell? w345 ⟨g1, 1, none⟩ = some (.slice A272 (List.length r258.2) c273)] E (by kernel_rfl) (by kernel_rfl) ((H.box 1 rfl).cell (j := 1) rfl) ?_
   clear E; intro a E
   refine wpList_nil ?_
   refine th_n ⟨HS347, ?_⟩
   refine wpAnyH_all (rs := [6]) (by kernel_rfl) (by simp) ?_
   refine all1 ?_
   refine wpOp_of_list rfl ?_
   refine h_buildSlice (ps := [(0, .agg #[.int .i64 p, .int .i64 r240.1, .int .i64 r258.1])]) (cs := [.int .i64 p, .int .i64 r240.1, .int .i64 r258.1]) H E rfl rfl tbok rfl rfl (by kernel_rfl) ?_
   intro w350 g349 a hc351 hg353 H_ E_
   replace E := E_ _ rfl; clear E_
   have hin354 : ∀ q_, q_ < w313.heap.size → q_ = g349 → (atL [.row true cNode 64 A272 c273 r258.2, .box g1 61 [.int .i64 sN, .slice A272 (List.length r258.2) c273]]) q_ := fun q_ h1_ h2_ => by have hs_ := HS347.size; have h4_ : q_ = g349 := h2_; exfalso; omega
   replace HS347 := HS347.ext hc351
   replace H := H_; clear H_; try dsimp only [setn, addE, goneL] at H
   refine wpList_nil ?_
   refine th_n ⟨HS347, ?_⟩
   refine wpAnyH_all (rs := [7]) (by kernel_rfl) (by simp) ?_
   refine all1 ?_
   refine wpOp_of_list rfl ?_
   refine h_append cNode (xs := r258.2) (ys := ([(⟨p, r240.1, r258.1⟩ : Nd)] : List Nd)) ((default : Nd) : Nd) H 0 rfl E rfl rfl tbok rfl rfl rfl rfl rfl (fun _ _ => rfl) rfl rfl (fun _ HF_ => HF_.srcB 3 rfl (⟨_, _, rfl, rfl, rfl⟩)) g334 ?_
   intro w355 A356 c357 a hc358 hA359 H_ E_
   replace E := E_ _ rfl; clear E_
   have hin360 : ∀ q_, q_ < w313.heap.size → At A356 q_ → (atL [.row true cNode 64 A272 c273 r258.2, .box g1 61 [.int .i64 sN, .slice A272 (List.length r258.2) c273]]) q_ := fun q_ h1_ h2_ => (hA359 q_ h2_).elim ((fun _ _ h_ => Or.inl h_) q_ h1_) (fun h3_ => by have hs_ := HS347.size; exfalso; omega)
   replace HS347 := HS347.trans hc358 (fun k_ hk_ h_ => (fun _ _ h_ => Or.inl h_) k_ hk_ h_)
   replace H := H_; clear H_; try dsimp only [setn, addE, goneL] at H
   refine wpList_nil ?_
   refine th_n ⟨HS347, ?_⟩
   refine dn tbok (by kernel_rfl) [8, 9] [] [(88, .pointer (some ⟨g1, 1, none⟩))] (fun w_ => []) 1 E (fun _ _ => by kernel_rfl) (by kernel_rfl) (fun w_ hS_ => trivial) (by kernel_rfl) HS347 ?_
   clear E; intro a E
   refine wpAnyH_all (rs := [10]) (by kernel_rfl) (by simp) ?_
   refine all1 ?_
   refine wpOp_of_list rfl ?_
   refine h_store (g := g1) (off := 1) H 1 rfl E rfl rfl rfl rfl tbok rfl rfl rfl rfl rfl ?_
   clear E; intro w361 a hc362 H_ E
   replace HS347 := HS347.trans hc362 (fun k_ hk_ h_ => (fun _ _ h_ => Or.inr (Or.inl h_)) k_ hk_ h_)
   replace H := H_; clear H_; try dsimp only [setn, addE, goneL] at H
   refine wpList_nil ?_
   refine th_n ⟨HS347, ?_⟩
   refine dr_done (by kernel_rfl) ?_
   exact .inl ⟨rfl, A356, c357, E.pick _ ⟨rfl, trivial⟩, H.sel [1, 0] rfl⟩
  refine wpOp_of_list rfl ?_
  refine h_buildSlice (ps := [(0, .agg #[.int .i64 p, .int .i64 r240.1, .int .i64 r258.1])]) (cs := [.int .i64 p, .int .i64 r240.1, .int .i64 r258.1]) H E rfl rfl tbok rfl rfl (by kernel_rfl) ?_
  intro w364 g363 a hc365 hg367 H_ E_
  replace E := E_ _ rfl; clear E_
  have hin368 : ∀ q_, q_ < w313.heap.size → q_ = g363 → (atL [.row true cNode 64 A272 c273 r258.2, .box g1 61 [.int .i64 sN, .slice A272 (List.length r258.2) c273]]) q_ := fun q_ h1_ h2_ => by have hs_ := HS347.size; have h4_ : q_ = g363 := h2_; exfalso; omega
  replace HS347 := HS347.ext hc365
  replace H := H_; clear H_; try dsimp only [setn, addE, goneL] at H
  refine wpList_nil ?_
  refine th_n ⟨HS347, ?_⟩
  refine wpAnyH_all (rs := [4]) (by kernel_rfl) (by simp) ?_
  refine all1 ?_
  refine wpOp_of_list rfl ?_
  refine vn tbok 1 [.slice A272 (List.length r258.2) c273] [(83, .slice A272 (List.length r258.2) c273)] [World.cell? w364 ⟨g1, 1, none⟩ = some (.slice A272 (List.length r258.2) c273)] E (by kernel_rfl) (by kernel_rfl) ((H.box 1 rfl).cell (j := 1) rfl) ?_
  clear E; intro a E
  refine wpList_nil ?_
  refine th_n ⟨HS347, ?_⟩
  refine wpAnyH_all (rs := [7]) (by kernel_rfl) (by simp) ?_
  refine all1 ?_
  refine wpOp_of_list rfl ?_
  refine h_append cNode (xs := r258.2) (ys := ([(⟨p, r240.1, r258.1⟩ : Nd)] : List Nd)) ((default : Nd) : Nd) H 0 rfl E rfl rfl tbok rfl rfl rfl rfl rfl (fun _ _ => rfl) rfl rfl (fun _ HF_ => HF_.srcB 3 rfl (⟨_, _, rfl, rfl, rfl⟩)) g334 ?_
  intro w369 A370 c371 a hc372 hA373 H_ E_
  replace E := E_ _ rfl; clear E_
  have hin374 : ∀ q_, q_ < w313.heap.size → At A370 q_ → (atL [.row true cNode 64 A272 c273 r258.2, .box g1 61 [.int .i64 sN, .slice A272 (List.length r258.2) c273]]) q_ := fun q_ h1_ h2_ => (hA373 q_ h2_).elim ((fun _ _ h_ => Or.inl h_) q_ h1_) (fun h3_ => by have hs_ := HS347.size; exfalso; omega)
  replace HS347 := HS347.trans hc372 (fun k_ hk_ h_ => (fun _ _ h_ => Or.inl h_) k_ hk_ h_)
  replace H := H_; clear H_; try dsimp only [setn, addE, goneL] at H
  refine wpList_nil ?_
  refine th_n ⟨HS347, ?_⟩
  refine dn tbok (by kernel_rfl) [8, 9] [] [(88, .pointer (some ⟨g1, 1, none⟩))] (fun w_ => []) 1 E (fun _ _ => by kernel_rfl) (by kernel_rfl) (fun w_ hS_ => trivial) (by kernel_rfl) HS347 ?_
  clear E; intro a E
  refine wpAnyH_all (rs := [10]) (by kernel_rfl) (by simp) ?_
  refine all1 ?_
  refine wpOp_of_list rfl ?_
  refine h_store (g := g1) (off := 1) H 1 rfl E rfl rfl rfl rfl tbok rfl rfl rfl rfl rfl ?_
  clear E; intro w375 a hc376 H_ E
  replace HS347 := HS347.trans hc376 (fun k_ hk_ h_ => (fun _ _ h_ => Or.inr (Or.inl h_)) k_ hk_ h_)
  replace H := H_; clear H_; try dsimp only [setn, addE, goneL] at H
  refine wpList_nil ?_
  refine th_n ⟨HS347, ?_⟩
  refine dr_done (by kernel_rfl) ?_
  exact .inl ⟨rfl, A370, c371, E.pick _ ⟨rfl, trivial⟩, H.sel [1, 0] rfl⟩
 clear E H; rintro a w344 ⟨A342, c343, E, H⟩
 refine th_n ?_
 refine wp_seq ?_
 refine wp_region_lit ?_
 obtain ⟨g377, hP⟩ := ask_inv hP
 refine vn tbok 7 [.slice A342 (List.length (r258.2 ++ ([(⟨p, r240.1, r258.1⟩ : Nd)] : List Nd))) c343, .int .i64 ((((List.length (r258.2 ++ ([(⟨p, r240.1, r258.1⟩ : Nd)] : List Nd))) : Nat) : Int) - 1)] [(6, .int .i64 ((((List.length (r258.2 ++ ([(⟨p, r240.1, r258.1⟩ : Nd)] : List Nd))) : Nat) : Int) - 1))] [World.cell? w344 ⟨g1, 1, none⟩ = some (.slice A342 (List.length (r258.2 ++ ([(⟨p, r240.1, r258.1⟩ : Nd)] : List Nd))) c343), IntKind.i64.wrap ((((List.length (r258.2 ++ ([(⟨p, r240.1, r258.1⟩ : Nd)] : List Nd))) : Nat) : Int) - 1) = (((List.length (r258.2 ++ ([(⟨p, r240.1, r258.1⟩ : Nd)] : List Nd))) : Nat) : Int) - 1] E (by kernel_rfl) (by kernel_rfl) ⟨(H.box 0 rfl).cell (j := 1) rfl, wrap_in g377⟩ ?_
 clear E; intro a E
 refine wpList_nil ?_
 refine th_n ?_
 refine wp_ret ?_
 obtain rfl := Option.some.inj hP
 refine ret1 E rfl rfl ?_
 exact ⟨_, rfl, ⟨((((List.length (r258.2 ++ ([(⟨p, r240.1, r258.1⟩ : Nd)] : List Nd))) : Nat) : Int) - 1, r258.2 ++ ([(⟨p, r240.1, r258.1⟩ : Nd)] : List Nd)), A342, c343, rfl, rfl, H.sel [0, 1] rfl⟩⟩

/-! (*rejoinder/rejoinderref14.Store).Add -/
def ref14_Store_Add_l0 (N : Nat) (sNodes : List Nd) (where_ : List Int) : Nat → Int → Option (Unit ⊕ (Int × Int × (List Nd)))
  | 0, _ => none
  | m139 + 1, i128 =>
    if i128 < (((List.length where_) : Nat) : Int) then
      ask (idx i128 (List.length where_)) <|
      if (List.getD where_ (Int.toNat i128) 0) < 0 then
        some (Sum.inr (0, 2, sNodes))
      else
        if 1048575 < (List.getD where_ (Int.toNat i128) 0) then
          some (Sum.inr (0, 2, sNodes))
        else
          ask (in64 (i128 + 1)) <|
          ref14_Store_Add_l0 N sNodes where_ m139 (i128 + 1)
    else
      some (Sum.inl ())
def ref14_Store_Add (N : Nat) (sN : Int) (sNodes : List Nd) (where_ : List Int) : Option (Int × Int × (List Nd)) :=
  ask (0 ≤ sN) <|
  if ((((List.length where_) : Nat) : Int) : Int) = shlV .i64 1 sN then
    Option.bind (ref14_Store_Add_l0 N sNodes where_ N 0) fun x140 =>
    Sum.elim (fun x145 =>
      ask (List.length ([] : List Nd) + List.length sNodes ≤ 1000000000) <|
      Option.bind (ref14_Store_add N N sN (([] : List Nd) ++ sNodes) where_ 0) fun r170 =>
      if 4096 < (((List.length r170.2) : Nat) : Int) then
        some (0, 11, sNodes)
      else
        some (r170.1, 0, r170.2))
     (fun x156 =>
      some x156) x140
  else
    some (0, 2, sNodes)
set_option maxRecDepth 100000 in
set_option maxHeartbeats 4000000 in
theorem ref14_Store_Add_calls {N : Nat} {S Fa : Nat → Prop} {w0 : World} {r : Int × Int × (List Nd)} (g1 : Nat) (A3 : Option Addr) (c4 : Nat) (A6 : Option Addr) (c7 : Nat) (sN : Int) (sNodes : List Nd) (where_ : List Int) (hk8 : List.length where_ ≤ c7) (H : Hp S Fa w0 w0 [.box g1 61 [.int .i64 sN, .slice A3 (List.length sNodes) c4], .row true cNode 64 A3 c4 sNodes, .ro false (cInt .i64) A6 where_]) (hP : ref14_Store_Add N sN sNodes where_ = some r) :
    Calls Try.prog 23 #[.pointer (some ⟨g1, 0, none⟩), .slice A6 (List.length where_) c7] w0 fun e w' => ∃ v, e = .returned v ∧ (∃ (x_ : Int × Int × (List Nd)) (A14 : Option Addr) (c15 : Nat), r = x_ ∧ v = .tuple #[.int .i64 x_.1, .int .i64 x_.2.1] ∧ Hp S Fa w0 w' [.box g1 61 [.int .i64 sN, .slice A14 (List.length x_.2.2) c15], .row true cNode 64 A14 c15 x_.2.2]) := by
 refine enterV (n := 59) Try.func23 rfl rfl rfl ?_
 intro a E
 replace E := E.pick [(0, .pointer (some ⟨g1, 0, none⟩)), (1, .slice A6 (List.length where_) c7)] ⟨rfl, rfl, trivial⟩
 rw [ref14_Store_Add] at hP
 refine wp_seq ?_
 refine wp_region_lit ?_
 refine vn tbok 2 [] [] [] E (by kernel_rfl) (by kernel_rfl) trivial ?_
 clear E; intro a E
 refine wpList_nil ?_
 refine th_n ?_
 refine wp_seq ?_
 refine wp_seq ?_
 refine wp_region_lit ?_
 obtain ⟨g116, hP⟩ := ask_inv hP
 refine vn tbok 8 [.int .i64 sN, .int .i64 (shlV .i64 1 sN)] [(16, .bool (((((List.length where_) : Nat) : Int) : Int) != (shlV .i64 1 sN)))] [World.cell? w0 ⟨g1, 0, none⟩ = some (.int .i64 sN), 0 ≤ sN ∧ IntKind.i64.wrap (1 * 2 ^ (min (Int.toNat sN) (IntKind.bits .i64))) = shlV .i64 1 sN] E (by kernel_rfl) (by kernel_rfl) ⟨(H.box 0 rfl).cell (j := 0) rfl, ⟨g116, rfl⟩⟩ ?_
 clear E; intro a E
 refine wpList_nil ?_
 refine th_n ?_
 refine E.cases (t := 16) rfl (fun hb_ E_ => ?_) (fun hb_ E_ => ?_)
 ·
  replace E := E_; clear E_
  have h117 : ¬ (((((List.length where_) : Nat) : Int) : Int) = shlV .i64 1 sN) := bne_iff_ne.1 hb_
  clear hb_; replace hP := ite_f h117 hP
  refine c_true E rfl ?_
  refine wp_seq ?_
  refine wp_region_lit ?_
  refine vn tbok 2 [] [(4, .int .i64 0), (5, .int .i64 2)] [] E (by kernel_rfl) (by kernel_rfl) trivial ?_
  clear E; intro a E
  refine wpList_nil ?_
  refine th_n ?_
  refine wp_ret ?_
  refine th_ret ?_
  obtain rfl := Option.some.inj hP
  refine ret2 E rfl rfl rfl ?_
  exact ⟨_, rfl, ⟨(0, 2, sNodes), A3, c4, rfl, rfl, H.sel [0, 1] rfl⟩⟩
 replace E := E_; clear E_
 have h118 : ((((List.length where_) : Nat) : Int) : Int) = shlV .i64 1 sN := bne_eq_false_iff_eq.1 hb_
 clear hb_; replace hP := ite_t h118 hP
 refine c_false E rfl ?_
 refine wp_skip ?_
 refine th_n ?_
 refine wp_seq ?_
 refine wp_seq ?_
 refine wp_region_lit ?_
 refine vn tbok 1 [] [(6, .int .i64 0)] [] E (by kernel_rfl) (by kernel_rfl) trivial ?_
 clear E; intro a E
 refine wpList_nil ?_
 refine th_n ?_
 refine wp_block ?_
 obtain ⟨x140, hL141, hK142⟩ := bind_inv hP
 clear hP
 refine loop_cut (fun i_ a w_ => (i_ = 0 ∧ ∃ (x145 : Unit), Fr a 59 [(0, .pointer (some ⟨g1, 0, none⟩)), (1, .slice A6 (List.length where_) c7)] ∧ Hp S Fa w0 w_ [.row true cNode 64 A3 c4 sNodes, .box g1 61 [.int .i64 sN, .slice A3 (List.length sNodes) c4], .ro false (cInt .i64) A6 where_] ∧ x140 = Sum.inl x145)) ?_ ?_
 ·
  refine loopV (fun m144 a w143 => ∃ (i128 : Int), Fr a 59 [(0, .pointer (some ⟨g1, 0, none⟩)), (1, .slice A6 (List.length where_) c7), (6, .int .i64 i128)] ∧ Hp S Fa w0 w143 [.row true cNode 64 A3 c4 sNodes, .box g1 61 [.int .i64 sN, .slice A3 (List.length sNodes) c4], .ro false (cInt .i64) A6 where_] ∧ ref14_Store_Add_l0 N sNodes where_ m144 i128 = some x140) N ?_ ?_
  ·
   exact ⟨0, E.pick _ ⟨rfl, rfl, rfl, trivial⟩, H.sel [1, 0, 2] rfl, hL141⟩
  clear E H hL141; intro m144 a w143 hI_
  obtain ⟨i128, E, H, hP⟩ := hI_
  obtain ⟨m139, rfl⟩ : ∃ q_, m144 = q_ + 1 := by cases m144 with | zero => rw [ref14_Store_Add_l0] at hP; cases hP | succ q_ => exact ⟨q_, rfl⟩
  rw [ref14_Store_Add_l0] at hP
  refine wp_seq ?_
  refine wp_seq ?_
  refine wp_region_lit ?_
  refine vn tbok 4 [] [(20, .bool (decide (i128 < (((List.length where_) : Nat) : Int))))] [] E (by kernel_rfl) (by kernel_rfl) trivial ?_
  clear E; intro a E
  refine wpList_nil ?_
  refine th_n ?_
  refine E.cases (t := 20) rfl (fun hb_ E_ => ?_) (fun hb_ E_ => ?_)
  ·
   replace E := E_; clear E_
   have h146 : i128 < (((List.length where_) : Nat) : Int) := of_decide_eq_true hb_
   clear hb_; replace hP := ite_t h146 hP
   refine c_true E rfl ?_
   refine wp_skip ?_
   refine th_n ?_
   refine wp_seq ?_
   refine wp_block ?_
   refine wp_seq ?_
   refine wp_region_lit ?_
   obtain ⟨g147, hP⟩ := ask_inv hP
   obtain ⟨b148, o149, e_b148⟩ := (H.rd 2 rds_ro).addr (idx_pos g147)
   subst e_b148
   refine vn tbok 6 [.int .i64 (List.getD where_ (Int.toNat i128) 0)] [(28, .bool (decide ((List.getD where_ (Int.toNat i128) 0) < 0)))] [0 ≤ i128 ∧ i128 < (((List.length where_) : Nat) : Int), World.cell? w143 ⟨b148, o149 + (Int.toNat i128) * 1, none⟩ = some (.int .i64 (List.getD where_ (Int.toNat i128) 0))] E (by kernel_rfl) (by kernel_rfl) ⟨g147, Rds.at1 (H.rd 2 rds_ro) 0 g147⟩ ?_
   clear E; intro a E
   refine E.cases (t := 28) rfl (fun hb_ E_ => ?_) (fun hb_ E_ => ?_)
   ·
    replace E := E_; clear E_
    have h150 : (List.getD where_ (Int.toNat i128) 0) < 0 := of_decide_eq_true hb_
    clear hb_; replace hP := ite_t h150 hP
    refine vn tbok 6 [] [(34, .bool true)] [] E (by kernel_rfl) (by kernel_rfl) trivial ?_
    clear E; intro a E
    refine wpList_nil ?_
    refine th_n ?_
    refine c_true E rfl ?_
    refine wp_seq ?_
    refine wp_region_lit ?_
    refine vn tbok 2 [] [(4, .int .i64 0), (5, .int .i64 2)] [] E (by kernel_rfl) (by kernel_rfl) trivial ?_
    clear E; intro a E
    refine wpList_nil ?_
    refine th_n ?_
    refine wp_ret ?_
    refine bl_ret ?_
    refine th_ret ?_
    refine th_ret ?_
    refine .inr ⟨rfl, ?_⟩
    refine bl_ret ?_
    refine th_ret ?_
    have hx_ := Option.some.inj hP; subst hx_
    have hP : some ((0, 2, sNodes)) = some r := hK142
    obtain rfl := Option.some.inj hP
    refine ret2 E rfl rfl rfl ?_
    exact ⟨_, rfl, ⟨(0, 2, sNodes), A3, c4, rfl, rfl, H.sel [1, 0] rfl⟩⟩
   replace E := E_; clear E_
   have h151 : ¬ ((List.getD where_ (Int.toNat i128) 0) < 0) := of_decide_eq_false hb_
   clear hb_; replace hP := ite_f h151 hP
   refine vn tbok 6 [.int .i64 (List.getD where_ (Int.toNat i128) 0)] [(34, .bool (decide (1048575 < (List.getD where_ (Int.toNat i128) 0))))] [0 ≤ i128 ∧ i128 < (((List.length where_) : Nat) : Int), World.cell? w143 ⟨b148, o149 + (Int.toNat i128) * 1, none⟩ = some (.int .i64 (List.getD where_ (Int.toNat i128) 0))] E (by kernel_rfl) (by kernel_rfl) ⟨g147, Rds.at1 (H.rd 2 rds_ro) 0 g147⟩ ?_
   clear E; intro a E
   refine wpList_nil ?_
   refine th_n ?_
   refine E.cases (t := 34) rfl (fun hb_ E_ => ?_) (fun hb_ E_ => ?_)
   ·
    replace E := E_; clear E_
    have h152 : 1048575 < (List.getD where_ (Int.toNat i128) 0) := of_decide_eq_true hb_
    clear hb_; replace hP := ite_t h152 hP
    refine c_true E rfl ?_
    refine wp_seq ?_
    refine wp_region_lit ?_
    refine vn tbok 2 [] [(4, .int .i64 0), (5, .int .i64 2)] [] E (by kernel_rfl) (by kernel_rfl) trivial ?_
    clear E; intro a E
    refine wpList_nil ?_
    refine th_n ?_
    refine wp_ret ?_
    refine bl_ret ?_
    refine th_ret ?_
    refine th_ret ?_
    refine .inr ⟨rfl, ?_⟩
    refine bl_ret ?_
    refine th_ret ?_
    have hx_ := Option.some.inj hP; subst hx_
    have hP : some ((0, 2, sNodes)) = some r := hK142
    obtain rfl := Option.some.inj hP
    refine ret2 E rfl rfl rfl ?_
    exact ⟨_, rfl, ⟨(0, 2, sNodes), A3, c4, rfl, rfl, H.sel [1, 0] rfl⟩⟩
   replace E := E_; clear E_
   have h153 : ¬ (1048575 < (List.getD where_ (Int.toNat i128) 0)) := of_decide_eq_false hb_
   clear hb_; replace hP := ite_f h153 hP
   refine c_false E rfl ?_
   refine wp_skip ?_
   refine bl_n ?_
   refine th_n ?_
   refine wp_region_lit ?_
   obtain ⟨g154, hP⟩ := ask_inv hP
   refine vn tbok 3 [.int .i64 (i128 + 1)] [(6, .int .i64 (i128 + 1))] [IntKind.i64.wrap (i128 + 1) = i128 + 1] E (by kernel_rfl) (by kernel_rfl) (wrap_in g154) ?_
   clear E; intro a E
   refine wpList_nil ?_
   exact th_n ⟨m139, Nat.lt_succ_self _, i128 + 1, E.pick _ ⟨rfl, rfl, rfl, trivial⟩, H.sel [0, 1, 2] rfl, hP⟩
  replace E := E_; clear E_
  have h155 : ¬ (i128 < (((List.length where_) : Nat) : Int)) := of_decide_eq_false hb_
  clear hb_; replace hP := ite_f h155 hP
  refine c_false E rfl ?_
  refine wp_exit ?_
  refine th_exit ?_
  have hx_ := Option.some.inj hP
  refine th_exit (.inl ⟨0, rfl, ?_⟩)
  exact ⟨rfl, (), E.pick _ ⟨rfl, rfl, trivial⟩, H.sel [0, 1, 2] rfl, hx_.symm⟩
 clear E H hL141; intro i_ a w143 hM_
 obtain ⟨rfl, x145, E, H, hx_⟩ := hM_
 subst hx_; have hP := elim_l hK142
 clear hK142
 refine bl_hit ?_
 refine th_n ?_
 refine wp_seq ?_
 refine wp_region_lit ?_
 refine vn tbok 5 [.slice A3 (List.length sNodes) c4] [(7, .slice A3 (List.length sNodes) c4)] [World.cell? w143 ⟨g1, 1, none⟩ = some (.slice A3 (List.length sNodes) c4)] E (by kernel_rfl) (by kernel_rfl) ((H.box 1 rfl).cell (j := 1) rfl) ?_
 clear E; intro a E
 refine wpList_nil ?_
 refine th_n ?_
 refine wp_seq ?_
 refine wp_region_lit ?_
 refine vn tbok 1 [] [(39, .pointer (some ⟨g1, 0, none⟩))] [] E (by kernel_rfl) (by kernel_rfl) trivial ?_
 clear E; intro a E
 refine h_buildSlice (ps := []) (cs := []) H E rfl rfl tbok rfl rfl (by kernel_rfl) ?_
 intro w158 g157 a hc159 hg161 H_ E_
 replace E := E_ _ rfl; clear E_
 replace H := H_; clear H_; try dsimp only [setn, addE, goneL] at H
 refine vn tbok 1 [] [(41, .slice A3 (List.length sNodes) c4)] [] E (by kernel_rfl) (by kernel_rfl) trivial ?_
 clear E; intro a E
 replace H := H.boxRow cNode true ([] : List Nd) 3 rfl (fun _ _ => rfl) (Nat.le_of_ble_eq_true rfl); try dsimp only [setn, addE, goneL] at H
 replace H := H.rowx 3 rfl; try dsimp only [setn, addE, goneL] at H
 obtain ⟨g162, hP⟩ := ask_inv hP
 refine h_append cNode (xs := ([] : List Nd)) (ys := sNodes) ((default : Nd) : Nd) H 3 rfl E rfl rfl tbok rfl rfl rfl rfl rfl (fun _ _ => rfl) rfl rfl (fun _ HF_ => HF_.srcF flat_plain 0 rds_row) g162 ?_
 intro w163 A164 c165 a hc166 hA167 H_ E_
 replace E := E_ _ rfl; clear E_
 replace H := H_; clear H_; try dsimp only [setn, addE, goneL] at H
 refine vn tbok 2 [] [(44, .pointer (some ⟨g1, 1, none⟩))] [] E (by kernel_rfl) (by kernel_rfl) trivial ?_
 clear E; intro a E
 refine h_store (g := g1) (off := 1) H 1 rfl E rfl rfl rfl rfl tbok rfl rfl rfl rfl rfl ?_
 clear E; intro w168 a hc169 H_ E
 replace H := H_; clear H_; try dsimp only [setn, addE, goneL] at H
 refine wpList_nil ?_
 refine th_n ?_
 refine wp_seq ?_
 refine wp_region_lit ?_
 refine vn tbok 2 [] [(45, .pointer (some ⟨g1, 0, none⟩)), (46, .slice A6 (List.length where_) c7)] [] E (by kernel_rfl) (by kernel_rfl) trivial ?_
 clear E; intro a E
 obtain ⟨r170, h171, hP⟩ := bind_inv hP
 obtain ⟨Fa172, Hc173, hb174⟩ := H.call [1, 3] [(2, false)] rfl rfl ⟨flat_plain, trivial⟩
 refine e_call E rfl rfl Try.func35 rfl rfl rfl (ref14_Store_add_calls N _ _ _ g1 A164 c165 A6 c7 sN (([] : List Nd) ++ sNodes) where_ 0 _ hk8 Hc173 h171) ?_
 intro v180 w179 a hR181 E_
 obtain ⟨x_, A184, c185, hr_, rfl, HR183⟩ := hR181
 subst hr_
 replace E := E_ _ rfl; clear E_
 obtain ⟨H_, hc182⟩ := hb174 _ _ HR183 rfl
 replace H := H_; clear H_; try dsimp only [setn, addE, goneL] at H
 refine vn tbok 1 [] [(8, .int .i64 r170.1)] [] E (by kernel_rfl) (by kernel_rfl) trivial ?_
 clear E; intro a E
 refine wpList_nil ?_
 refine th_n ?_
 refine wp_seq ?_
 refine wp_seq ?_
 refine wp_region_lit ?_
 refine vn tbok 6 [.slice A184 (List.length r170.2) c185] [(53, .bool (decide (4096 < (((List.length r170.2) : Nat) : Int))))] [World.cell? w179 ⟨g1, 1, none⟩ = some (.slice A184 (List.length r170.2) c185)] E (by kernel_rfl) (by kernel_rfl) ((H.box 4 rfl).cell (j := 1) rfl) ?_
 clear E; intro a E
 refine wpList_nil ?_
 refine th_n ?_
 refine E.cases (t := 53) rfl (fun hb_ E_ => ?_) (fun hb_ E_ => ?_)
 ·
  replace E := E_; clear E_
  have h188 : 4096 < (((List.length r170.2) : Nat) : Int) := of_decide_eq_true hb_
  clear hb_; replace hP := ite_t h188 hP
  refine c_true E rfl ?_
  refine wp_seq ?_
  refine wp_region_lit ?_
  refine vn tbok 4 [] [(55, .slice A3 (List.length sNodes) c4), (57, .pointer (some ⟨g1, 1, none⟩))] [] E (by kernel_rfl) (by kernel_rfl) trivial ?_
  clear E; intro a E
  refine h_store (g := g1) (off := 1) H 4 rfl E rfl rfl rfl rfl tbok rfl rfl rfl rfl rfl ?_
  clear E; intro w189 a hc190 H_ E
  replace H := H_; clear H_; try dsimp only [setn, addE, goneL] at H
  refine wpList_nil ?_
  refine th_n ?_
  refine wp_seq ?_
  refine wp_region_lit ?_
  refine vn tbok 2 [] [(4, .int .i64 0), (5, .int .i64 11)] [] E (by kernel_rfl) (by kernel_rfl) trivial ?_
  clear E; intro a E
  refine wpList_nil ?_
  refine th_n ?_
  refine wp_ret ?_
  refine th_ret ?_
  obtain rfl := Option.some.inj hP
  refine ret2 E rfl rfl rfl ?_
  exact ⟨_, rfl, ⟨(0, 11, sNodes), A3, c4, rfl, rfl, H.sel [4, 0] rfl⟩⟩
 replace E := E_; clear E_
 have h191 : ¬ (4096 < (((List.length r170.2) : Nat) : Int)) := of_decide_eq_false hb_
 clear hb_; replace hP := ite_f h191 hP
 refine c_false E rfl ?_
 refine wp_skip ?_
 refine th_n ?_
 refine wp_seq ?_
 refine wp_region_lit ?_
 refine vn tbok 3 [] [(4, .int .i64 r170.1), (5, .int .i64 0)] [] E (by kernel_rfl) (by kernel_rfl) trivial ?_
 clear E; intro a E
 refine wpList_nil ?_
 refine th_n ?_
 refine wp_ret ?_
 obtain rfl := Option.some.inj hP
 refine ret2 E rfl rfl rfl ?_
 exact ⟨_, rfl, ⟨(r170.1, 0, r170.2), A184, c185, rfl, rfl, H.sel [4, 5] rfl⟩⟩

end Go.V
