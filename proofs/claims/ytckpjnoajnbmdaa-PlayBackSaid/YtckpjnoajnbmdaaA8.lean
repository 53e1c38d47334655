/- Plain functions, and the calls that give them. -/
import Derived.Test.YtckpjnoajnbmdaaA7
set_option linter.all false
set_option linter.unusedVariables false
set_option linter.unnecessarySimpa false
set_option linter.unusedSimpArgs false
namespace Go.V
open Go Go.Proofs
/-! rejoinder/rejoinderlaw25.begun -/
def law25_begun (N : Nat) (aProps : Int) (aAccept : List Bool) (aGuard : List Int) (aNodes : List Nd) (s : Int × Int) : Option ((Bool × (List Int) × (List (List Int)) × (List Int) × Bool) ⊕ ((List Bool) × (List Int) × (List Nd) × Bool × (List Int) × (List (List Int)) × (List Int) × Bool × (List Int) × (List (List Int)) × (List Int) × Bool)) :=
  Option.bind (strat_Of N aProps aAccept aGuard aNodes (s.1, s.2)) fun r183 =>
  Option.bind (play_New N aProps aAccept aGuard aNodes (s.1, s.2) r183.1.1 r183.1.2.1 r183.1.2.2.1 r183.1.2.2.2) fun r208 =>
  Sum.elim (fun x236 =>
    if (r183.2 : Int) = 0 then
      if (x236 : Int) = 0 then
        some (Sum.inl (r183.1.1, r183.1.2.1, r183.1.2.2.1, r183.1.2.2.2, false))
      else
        some (Sum.inl (r183.1.1, r183.1.2.1, r183.1.2.2.1, r183.1.2.2.2, false))
    else
      some (Sum.inl (r183.1.1, r183.1.2.1, r183.1.2.2.1, r183.1.2.2.2, false)))
   (fun x237 =>
    if (r183.2 : Int) = 0 then
      if (x237.2.2.2.2.2.2 : Int) = 0 then
        some (Sum.inr (x237.1, x237.2.1, x237.2.2.1, r183.1.1, x237.2.2.2.1, x237.2.2.2.2.1, x237.2.2.2.2.2.1, r183.1.1, r183.1.2.1, r183.1.2.2.1, r183.1.2.2.2, true))
      else
        some (Sum.inr (x237.1, x237.2.1, x237.2.2.1, r183.1.1, x237.2.2.2.1, x237.2.2.2.2.1, x237.2.2.2.2.2.1, r183.1.1, r183.1.2.1, r183.1.2.2.1, r183.1.2.2.2, false))
    else
      some (Sum.inr (x237.1, x237.2.1, x237.2.2.1, r183.1.1, x237.2.2.2.1, x237.2.2.2.2.1, x237.2.2.2.2.2.1, r183.1.1, r183.1.2.1, r183.1.2.2.1, r183.1.2.2.2, false))) r208
set_option maxRecDepth 100000 in
set_option maxHeartbeats 4000000 in
theorem law25_begun_calls {N : Nat} {S Fa : Nat → Prop} {w0 : World} {r : (Bool × (List Int) × (List (List Int)) × (List Int) × Bool) ⊕ ((List Bool) × (List Int) × (List Nd) × Bool × (List Int) × (List (List Int)) × (List Int) × Bool × (List Int) × (List (List Int)) × (List Int) × Bool)} (A1 : Option Addr) (c2 : Nat) (A5 : Option Addr) (c6 : Nat) (A9 : Option Addr) (c10 : Nat) (aProps : Int) (aAccept : List Bool) (aGuard : List Int) (aNodes : List Nd) (s : Int × Int) (hk3 : List.length aAccept ≤ c2) (hk7 : List.length aGuard ≤ c6) (hk11 : List.length aNodes ≤ c10) (H : Hp S Fa w0 w0 [.ro false cBool A1 aAccept, .ro false (cInt .i64) A5 aGuard, .ro false cNode A9 aNodes]) (hP : law25_begun N aProps aAccept aGuard aNodes s = some r) :
    Calls Try.prog 24 #[.agg #[.int .i64 aProps, .slice A1 (List.length aAccept) c2, .slice A5 (List.length aGuard) c6, .slice A9 (List.length aNodes) c10], .agg #[.int .u8 s.1, .int .u8 s.2]] w0 fun e w' => ∃ v, e = .returned v ∧ ((∃ (x_ : Bool × (List Int) × (List (List Int)) × (List Int) × Bool) (A16 : Option Addr) (c17 : Nat) (A20 : Option Addr) (c21 : Nat) (A24 : Option Addr) (c25 : Nat), r = Sum.inl x_ ∧ v = .tuple #[.pointer none, .agg #[.bool x_.1, .slice A16 (List.length x_.2.1) c17, .slice A20 (List.length x_.2.2.1) c21, .slice A24 (List.length x_.2.2.2.1) c25], .bool x_.2.2.2.2] ∧ Hp S Fa w0 w' [.row true (cInt .i64) 3 A16 c17 x_.2.1, .row true (cSl (cInt .u8)) 31 A20 c21 x_.2.2.1, .row true (cInt .u8) 27 A24 c25 x_.2.2.2.1]) ∨ (∃ (x_ : (List Bool) × (List Int) × (List Nd) × Bool × (List Int) × (List (List Int)) × (List Int) × Bool × (List Int) × (List (List Int)) × (List Int) × Bool) (g28 : Nat) (A31 : Option Addr) (c32 : Nat) (A35 : Option Addr) (c36 : Nat) (A39 : Option Addr) (c40 : Nat) (A44 : Option Addr) (c45 : Nat) (A48 : Option Addr) (c49 : Nat) (A52 : Option Addr) (c53 : Nat) (A57 : Option Addr) (c58 : Nat) (A61 : Option Addr) (c62 : Nat) (A65 : Option Addr) (c66 : Nat), r = Sum.inr x_ ∧ v = .tuple #[.pointer (some ⟨g28, 0, none⟩), .agg #[.bool x_.2.2.2.2.2.2.2.1, .slice A57 (List.length x_.2.2.2.2.2.2.2.2.1) c58, .slice A61 (List.length x_.2.2.2.2.2.2.2.2.2.1) c62, .slice A65 (List.length x_.2.2.2.2.2.2.2.2.2.2.1) c66], .bool x_.2.2.2.2.2.2.2.2.2.2.2] ∧ Hp S Fa w0 w' [.box g28 74 [.int .i64 aProps, .slice A31 (List.length x_.1) c32, .slice A35 (List.length x_.2.1) c36, .slice A39 (List.length x_.2.2.1) c40, .int .u8 s.1, .int .u8 s.2, .bool x_.2.2.2.1, .slice A44 (List.length x_.2.2.2.2.1) c45, .slice A48 (List.length x_.2.2.2.2.2.1) c49, .slice A52 (List.length x_.2.2.2.2.2.2.1) c53, .int .i64 0, .slice none 0 0, .bool true], .row true cBool 4 A31 c32 x_.1, .row true (cInt .i64) 3 A35 c36 x_.2.1, .row true cNode 90 A39 c40 x_.2.2.1, .row true (cInt .i64) 3 A44 c45 x_.2.2.2.2.1, .row true (cSl (cInt .u8)) 31 A48 c49 x_.2.2.2.2.2.1, .row true (cInt .u8) 27 A52 c53 x_.2.2.2.2.2.2.1, .row true (cInt .i64) 3 A57 c58 x_.2.2.2.2.2.2.2.2.1, .row true (cSl (cInt .u8)) 31 A61 c62 x_.2.2.2.2.2.2.2.2.2.1, .row true (cInt .u8) 27 A65 c66 x_.2.2.2.2.2.2.2.2.2.2.1])) := by
 refine enterV (n := 36) Try.func24 rfl rfl rfl ?_
 intro a E
 replace E := E.pick [(0, .agg #[.int .i64 aProps, .slice A1 (List.length aAccept) c2, .slice A5 (List.length aGuard) c6, .slice A9 (List.length aNodes) c10]), (1, .agg #[.int .u8 s.1, .int .u8 s.2])] ⟨rfl, rfl, trivial⟩
 rw [law25_begun] at hP
 refine wp_seq ?_
 refine wp_region_lit ?_
 refine h_box H E rfl rfl rfl ?_
 intro w169 g168 a hc170 hg172 H_ E_
 replace E := E_ _ rfl; clear E_
 replace H := H_; clear H_; try dsimp only [setn, addE, goneL] at H
 refine h_box H E rfl rfl rfl ?_
 intro w174 g173 a hc175 hg177 H_ E_
 replace E := E_ _ rfl; clear E_
 replace H := H_; clear H_; try dsimp only [setn, addE, goneL] at H
 refine vr tbok 1 [] [(2, .pointer (some ⟨g168, 0, none⟩)), (3, .pointer (some ⟨g173, 0, none⟩))] [] E (by kernel_rfl) trivial ?_
 clear E; intro a E
 refine h_alloc H E rfl rfl tbok rfl ?_
 intro w179 g178 a hc180 hg182 H_ E_
 replace E := E_ _ rfl; clear E_
 replace H := H_; clear H_; try dsimp only [setn, addE, goneL] at H
 refine vr tbok 1 [] [(2, .pointer (some ⟨g168, 0, none⟩)), (3, .pointer (some ⟨g173, 0, none⟩)), (5, .pointer (some ⟨g178, 0, none⟩))] [] E (by kernel_rfl) trivial ?_
 clear E; intro a E
 refine wpList_nil ?_
 refine th_n ?_
 refine wp_seq ?_
 refine wp_region_lit ?_
 refine vr tbok 2 [.agg #[.int .i64 aProps, .slice A1 (List.length aAccept) c2, .slice A5 (List.length aGuard) c6, .slice A9 (List.length aNodes) c10], .agg #[.int .u8 s.1, .int .u8 s.2]] [(2, .pointer (some ⟨g168, 0, none⟩)), (3, .pointer (some ⟨g173, 0, none⟩)), (5, .pointer (some ⟨g178, 0, none⟩)), (12, .agg #[.int .i64 aProps, .slice A1 (List.length aAccept) c2, .slice A5 (List.length aGuard) c6, .slice A9 (List.length aNodes) c10]), (13, .agg #[.int .u8 s.1, .int .u8 s.2])] [cellsAt w179 g168 (0) [.int .i64 aProps, .slice A1 (List.length aAccept) c2, .slice A5 (List.length aGuard) c6, .slice A9 (List.length aNodes) c10], cellsAt w179 g173 (0) [.int .u8 s.1, .int .u8 s.2]] E (by kernel_rfl) ⟨(H.box 3 rfl).sub 0 _ rfl, (H.box 4 rfl).sub 0 _ rfl⟩ ?_
 clear E; intro a E
 obtain ⟨r183, h184, hP⟩ := bind_inv hP
 obtain ⟨Fa185, Hc186, hb187⟩ := H.call [] [(0, false), (1, false), (2, false)] rfl rfl trivial
 refine e_call E rfl rfl Try.func59 rfl rfl rfl (strat_Of_calls A1 c2 A5 c6 A9 c10 aProps aAccept aGuard aNodes (s.1, s.2) hk3 hk7 hk11 Hc186 h184) ?_
 rintro v188 w189 a ⟨A192, c193, A195, c196, A198, c199, rfl, HR190⟩ E_
 replace E := E_ _ rfl; clear E_
 obtain ⟨H_, hc191⟩ := hb187 _ _ HR190 rfl
 replace H := H_; clear H_; try dsimp only [setn, addE, goneL] at H
 refine vr tbok 3 [] [(2, .pointer (some ⟨g168, 0, none⟩)), (3, .pointer (some ⟨g173, 0, none⟩)), (5, .pointer (some ⟨g178, 0, none⟩)), (15, .agg #[.bool r183.1.1, .slice A192 (List.length r183.1.2.1) c193, .slice A195 (List.length r183.1.2.2.1) c196, .slice A198 (List.length r183.1.2.2.2) c199]), (16, .int .i64 r183.2)] [] E (by kernel_rfl) trivial ?_
 clear E; intro a E
 refine h_alloc H E rfl rfl tbok rfl ?_
 intro w202 g201 a hc203 hg205 H_ E_
 replace E := E_ _ rfl; clear E_
 replace H := H_; clear H_; try dsimp only [setn, addE, goneL] at H
 refine h_store (g := g201) (off := 0) H 9 rfl E rfl rfl rfl rfl tbok rfl rfl rfl rfl rfl ?_
 clear E; intro w206 a hc207 H_ E
 replace H := H_; clear H_; try dsimp only [setn, addE, goneL] at H
 refine vr tbok 1 [] [(2, .pointer (some ⟨g168, 0, none⟩)), (3, .pointer (some ⟨g173, 0, none⟩)), (5, .pointer (some ⟨g178, 0, none⟩)), (7, .pointer (some ⟨g201, 0, none⟩)), (8, .int .i64 r183.2)] [] E (by kernel_rfl) trivial ?_
 clear E; intro a E
 refine wpList_nil ?_
 refine th_n ?_
 refine wp_seq ?_
 refine wp_region_lit ?_
 refine vr tbok 3 [.agg #[.int .i64 aProps, .slice A1 (List.length aAccept) c2, .slice A5 (List.length aGuard) c6, .slice A9 (List.length aNodes) c10], .agg #[.int .u8 s.1, .int .u8 s.2], .agg #[.bool r183.1.1, .slice A192 (List.length r183.1.2.1) c193, .slice A195 (List.length r183.1.2.2.1) c196, .slice A198 (List.length r183.1.2.2.2) c199]] [(5, .pointer (some ⟨g178, 0, none⟩)), (7, .pointer (some ⟨g201, 0, none⟩)), (8, .int .i64 r183.2), (18, .agg #[.int .i64 aProps, .slice A1 (List.length aAccept) c2, .slice A5 (List.length aGuard) c6, .slice A9 (List.length aNodes) c10]), (19, .agg #[.int .u8 s.1, .int .u8 s.2]), (20, .agg #[.bool r183.1.1, .slice A192 (List.length r183.1.2.1) c193, .slice A195 (List.length r183.1.2.2.1) c196, .slice A198 (List.length r183.1.2.2.2) c199])] [cellsAt w206 g168 (0) [.int .i64 aProps, .slice A1 (List.length aAccept) c2, .slice A5 (List.length aGuard) c6, .slice A9 (List.length aNodes) c10], cellsAt w206 g173 (0) [.int .u8 s.1, .int .u8 s.2], cellsAt w206 g201 (0) [.bool r183.1.1, .slice A192 (List.length r183.1.2.1) c193, .slice A195 (List.length r183.1.2.2.1) c196, .slice A198 (List.length r183.1.2.2.2) c199]] E (by kernel_rfl) ⟨(H.box 3 rfl).sub 0 _ rfl, (H.box 4 rfl).sub 0 _ rfl, (H.box 9 rfl).sub 0 _ rfl⟩ ?_
 clear E; intro a E
 obtain ⟨r208, h209, hP⟩ := bind_inv hP
 obtain ⟨Fa210, Hc211, hb212⟩ := H.call [] [(0, false), (1, false), (2, false), (6, false), (7, false), (8, false)] rfl rfl trivial
 refine e_call E rfl rfl Try.func13 rfl rfl rfl (play_New_calls A1 c2 A5 c6 A9 c10 A192 c193 A195 c196 A198 c199 aProps aAccept aGuard aNodes (s.1, s.2) r183.1.1 r183.1.2.1 r183.1.2.2.1 r183.1.2.2.2 hk3 hk7 hk11 (H.rcap 6 rfl) (H.rcap 7 rfl) (H.rcap 8 rfl) Hc211 h209) ?_
 intro v218 w217 a hR219 E_
 rcases hR219 with ⟨x_, hr_, rfl, HR221⟩ | ⟨x_, g222, A223, c224, A225, c226, A227, c228, A229, c230, A231, c232, A233, c234, hr_, rfl, HR235⟩
 ·
  subst hr_; have hP := elim_l hP
  obtain ⟨x236, hxx_⟩ : ∃ y_, y_ = x_ := ⟨_, rfl⟩; subst hxx_
  replace E := E_ _ rfl; clear E_
  obtain ⟨H_, hc220⟩ := hb212 _ _ HR221 rfl
  replace H := H_; clear H_; try dsimp only [setn, addE, goneL] at H
  refine vr tbok 5 [] [(5, .pointer (some ⟨g178, 0, none⟩)), (7, .pointer (some ⟨g201, 0, none⟩)), (8, .int .i64 r183.2), (9, .pointer none), (10, .int .i64 x236)] [] E (by kernel_rfl) trivial ?_
  clear E; intro a E
  refine wpList_nil ?_
  refine th_n ?_
  refine wp_seq ?_
  by_cases h238 : (r183.2 : Int) = 0
  ·
   replace hP := ite_t h238 hP
   by_cases h239 : (x236 : Int) = 0
   ·
    replace hP := ite_t h239 hP
    have HR245 := H
    refine dr_start (S := fun w_ => Chg (atL [.box g178 33 [.bool false, .slice none 0 0, .slice none 0 0, .slice none 0 0]]) w217 w_) (by kernel_rfl) ?_
    intro w242 hc243
    have HS244 : Chg (atL [.box g178 33 [.bool false, .slice none 0 0, .slice none 0 0, .slice none 0 0]]) w217 w242 := hc243.mono (fun _ _ h_ => h_.elim)
    replace H := H.ext hc243
    refine dr tbok (by kernel_rfl) [0, 1, 2, 3, 4] [.agg #[.bool r183.1.1, .slice A192 (List.length r183.1.2.1) c193, .slice A195 (List.length r183.1.2.2.1) c196, .slice A198 (List.length r183.1.2.2.2) c199]] [(5, .pointer (some ⟨g178, 0, none⟩)), (9, .pointer none), (10, .int .i64 x236), (24, .pointer none), (25, .agg #[.bool r183.1.1, .slice A192 (List.length r183.1.2.1) c193, .slice A195 (List.length r183.1.2.2.1) c196, .slice A198 (List.length r183.1.2.2.2) c199]), (28, .bool ((r183.2 : Int) == 0))] (fun w_ => [cellsAt w_ g201 (0) [.bool r183.1.1, .slice A192 (List.length r183.1.2.1) c193, .slice A195 (List.length r183.1.2.2.1) c196, .slice A198 (List.length r183.1.2.2.2) c199]]) 10 E (fun _ _ => by kernel_rfl) (fun w_ hS_ => ((HR245.boxk [5] hS_ 9 rfl rfl).sub 0 _ rfl)) (by kernel_rfl) HS244 ?_
    clear E; intro a E
    replace E := E.same (t := 28) (u := .bool true) rfl (congrArg Value.bool (beq_iff_eq.2 h238))
    refine dr tbok (by kernel_rfl) [5, 6, 7, 8] [] [(5, .pointer (some ⟨g178, 0, none⟩)), (9, .pointer none), (24, .pointer none), (25, .agg #[.bool r183.1.1, .slice A192 (List.length r183.1.2.1) c193, .slice A195 (List.length r183.1.2.2.1) c196, .slice A198 (List.length r183.1.2.2.2) c199]), (28, .bool true), (32, .bool ((x236 : Int) == 0))] (fun w_ => []) 6 E (fun _ _ => by kernel_rfl) (fun w_ hS_ => trivial) (by kernel_rfl) HS244 ?_
    clear E; intro a E
    replace E := E.same (t := 32) (u := .bool true) rfl (congrArg Value.bool (beq_iff_eq.2 h239))
    refine dr tbok (by kernel_rfl) [9, 10, 11, 12] [] [(4, .pointer none), (5, .pointer (some ⟨g178, 0, none⟩)), (25, .agg #[.bool r183.1.1, .slice A192 (List.length r183.1.2.1) c193, .slice A195 (List.length r183.1.2.2.1) c196, .slice A198 (List.length r183.1.2.2.2) c199]), (28, .bool true), (32, .bool true), (35, .bool false)] (fun w_ => []) 2 E (fun _ _ => by kernel_rfl) (fun w_ hS_ => trivial) (by kernel_rfl) HS244 ?_
    clear E; intro a E
    refine wpAnyH_all (rs := [13]) (by kernel_rfl) (by simp) ?_
    refine all1 ?_
    refine wpOp_of_list rfl ?_
    refine h_store (g := g178) (off := 0) H 5 rfl E rfl rfl rfl rfl tbok rfl rfl rfl rfl rfl ?_
    clear E; intro w246 a hc247 H_ E
    replace HS244 := HS244.trans hc247 (fun k_ hk_ h_ => (fun _ _ h_ => Or.inl h_) k_ hk_ h_)
    replace H := H_; clear H_; try dsimp only [setn, addE, goneL] at H
    refine wpList_nil ?_
    refine th_n ⟨HS244, ?_⟩
    refine dr tbok (by kernel_rfl) [14] [] [(4, .pointer none), (5, .pointer (some ⟨g178, 0, none⟩)), (6, .bool false), (28, .bool true), (32, .bool true)] (fun w_ => []) 0 E (fun _ _ => by kernel_rfl) (fun w_ hS_ => trivial) (by kernel_rfl) HS244 ?_
    clear E; intro a E
    refine dr_done (by kernel_rfl) ?_
    clear HS244 HR245
    refine th_n ?_
    refine wp_ret ?_
    obtain rfl := Option.some.inj hP
    refine retV E [.tmp 4, .cell 5 33, .tmp 6] [.pointer none, .agg #[.bool r183.1.1, .slice A192 (List.length r183.1.2.1) c193, .slice A195 (List.length r183.1.2.2.1) c196, .slice A198 (List.length r183.1.2.2.2) c199], .bool false] rfl ⟨rfl, ⟨_, rfl, run_loadBx tbok (H.box 5 rfl) rfl rfl rfl 0 rfl rfl⟩, rfl, trivial⟩ (.inl rfl) ?_
    exact ⟨_, rfl, .inl ⟨(r183.1.1, r183.1.2.1, r183.1.2.2.1, r183.1.2.2.2, false), A192, c193, A195, c196, A198, c199, rfl, rfl, H.sel [6, 7, 8] rfl⟩⟩
   replace hP := ite_f h239 hP
   have HR253 := H
   refine dr_start (S := fun w_ => Chg (atL [.box g178 33 [.bool false, .slice none 0 0, .slice none 0 0, .slice none 0 0]]) w217 w_) (by kernel_rfl) ?_
   intro w250 hc251
   have HS252 : Chg (atL [.box g178 33 [.bool false, .slice none 0 0, .slice none 0 0, .slice none 0 0]]) w217 w250 := hc251.mono (fun _ _ h_ => h_.elim)
   replace H := H.ext hc251
   refine dr tbok (by kernel_rfl) [0, 1, 2, 3, 4] [.agg #[.bool r183.1.1, .slice A192 (List.length r183.1.2.1) c193, .slice A195 (List.length r183.1.2.2.1) c196, .slice A198 (List.length r183.1.2.2.2) c199]] [(5, .pointer (some ⟨g178, 0, none⟩)), (9, .pointer none), (10, .int .i64 x236), (24, .pointer none), (25, .agg #[.bool r183.1.1, .slice A192 (List.length r183.1.2.1) c193, .slice A195 (List.length r183.1.2.2.1) c196, .slice A198 (List.length r183.1.2.2.2) c199]), (28, .bool ((r183.2 : Int) == 0))] (fun w_ => [cellsAt w_ g201 (0) [.bool r183.1.1, .slice A192 (List.length r183.1.2.1) c193, .slice A195 (List.length r183.1.2.2.1) c196, .slice A198 (List.length r183.1.2.2.2) c199]]) 10 E (fun _ _ => by kernel_rfl) (fun w_ hS_ => ((HR253.boxk [5] hS_ 9 rfl rfl).sub 0 _ rfl)) (by kernel_rfl) HS252 ?_
   clear E; intro a E
   replace E := E.same (t := 28) (u := .bool true) rfl (congrArg Value.bool (beq_iff_eq.2 h238))
   refine dr tbok (by kernel_rfl) [5, 6, 7, 8] [] [(5, .pointer (some ⟨g178, 0, none⟩)), (9, .pointer none), (24, .pointer none), (25, .agg #[.bool r183.1.1, .slice A192 (List.length r183.1.2.1) c193, .slice A195 (List.length r183.1.2.2.1) c196, .slice A198 (List.length r183.1.2.2.2) c199]), (28, .bool true), (32, .bool ((x236 : Int) == 0))] (fun w_ => []) 6 E (fun _ _ => by kernel_rfl) (fun w_ hS_ => trivial) (by kernel_rfl) HS252 ?_
   clear E; intro a E
   replace E := E.same (t := 32) (u := .bool false) rfl (congrArg Value.bool (beq_eq_false_iff_ne.2 h239))
   refine dr tbok (by kernel_rfl) [9, 10, 11, 12] [] [(4, .pointer none), (5, .pointer (some ⟨g178, 0, none⟩)), (25, .agg #[.bool r183.1.1, .slice A192 (List.length r183.1.2.1) c193, .slice A195 (List.length r183.1.2.2.1) c196, .slice A198 (List.length r183.1.2.2.2) c199]), (28, .bool true), (32, .bool false), (35, .bool false)] (fun w_ => []) 2 E (fun _ _ => by kernel_rfl) (fun w_ hS_ => trivial) (by kernel_rfl) HS252 ?_
   clear E; intro a E
   refine wpAnyH_all (rs := [13]) (by kernel_rfl) (by simp) ?_
   refine all1 ?_
   refine wpOp_of_list rfl ?_
   refine h_store (g := g178) (off := 0) H 5 rfl E rfl rfl rfl rfl tbok rfl rfl rfl rfl rfl ?_
   clear E; intro w254 a hc255 H_ E
   replace HS252 := HS252.trans hc255 (fun k_ hk_ h_ => (fun _ _ h_ => Or.inl h_) k_ hk_ h_)
   replace H := H_; clear H_; try dsimp only [setn, addE, goneL] at H
   refine wpList_nil ?_
   refine th_n ⟨HS252, ?_⟩
   refine dr tbok (by kernel_rfl) [14] [] [(4, .pointer none), (5, .pointer (some ⟨g178, 0, none⟩)), (6, .bool false), (28, .bool true), (32, .bool false)] (fun w_ => []) 0 E (fun _ _ => by kernel_rfl) (fun w_ hS_ => trivial) (by kernel_rfl) HS252 ?_
   clear E; intro a E
   refine dr_done (by kernel_rfl) ?_
   clear HS252 HR253
   refine th_n ?_
   refine wp_ret ?_
   obtain rfl := Option.some.inj hP
   refine retV E [.tmp 4, .cell 5 33, .tmp 6] [.pointer none, .agg #[.bool r183.1.1, .slice A192 (List.length r183.1.2.1) c193, .slice A195 (List.length r183.1.2.2.1) c196, .slice A198 (List.length r183.1.2.2.2) c199], .bool false] rfl ⟨rfl, ⟨_, rfl, run_loadBx tbok (H.box 5 rfl) rfl rfl rfl 0 rfl rfl⟩, rfl, trivial⟩ (.inl rfl) ?_
   exact ⟨_, rfl, .inl ⟨(r183.1.1, r183.1.2.1, r183.1.2.2.1, r183.1.2.2.2, false), A192, c193, A195, c196, A198, c199, rfl, rfl, H.sel [6, 7, 8] rfl⟩⟩
  replace hP := ite_f h238 hP
  have HR261 := H
  refine dr_start (S := fun w_ => Chg (atL [.box g178 33 [.bool false, .slice none 0 0, .slice none 0 0, .slice none 0 0]]) w217 w_) (by kernel_rfl) ?_
  intro w258 hc259
  have HS260 : Chg (atL [.box g178 33 [.bool false, .slice none 0 0, .slice none 0 0, .slice none 0 0]]) w217 w258 := hc259.mono (fun _ _ h_ => h_.elim)
  replace H := H.ext hc259
  refine dr tbok (by kernel_rfl) [0, 1, 2, 3, 4] [.agg #[.bool r183.1.1, .slice A192 (List.length r183.1.2.1) c193, .slice A195 (List.length r183.1.2.2.1) c196, .slice A198 (List.length r183.1.2.2.2) c199]] [(5, .pointer (some ⟨g178, 0, none⟩)), (9, .pointer none), (10, .int .i64 x236), (24, .pointer none), (25, .agg #[.bool r183.1.1, .slice A192 (List.length r183.1.2.1) c193, .slice A195 (List.length r183.1.2.2.1) c196, .slice A198 (List.length r183.1.2.2.2) c199]), (28, .bool ((r183.2 : Int) == 0))] (fun w_ => [cellsAt w_ g201 (0) [.bool r183.1.1, .slice A192 (List.length r183.1.2.1) c193, .slice A195 (List.length r183.1.2.2.1) c196, .slice A198 (List.length r183.1.2.2.2) c199]]) 10 E (fun _ _ => by kernel_rfl) (fun w_ hS_ => ((HR261.boxk [5] hS_ 9 rfl rfl).sub 0 _ rfl)) (by kernel_rfl) HS260 ?_
  clear E; intro a E
  replace E := E.same (t := 28) (u := .bool false) rfl (congrArg Value.bool (beq_eq_false_iff_ne.2 h238))
  refine dr tbok (by kernel_rfl) [5, 6, 7, 8, 9, 10, 11, 12] [] [(4, .pointer none), (5, .pointer (some ⟨g178, 0, none⟩)), (25, .agg #[.bool r183.1.1, .slice A192 (List.length r183.1.2.1) c193, .slice A195 (List.length r183.1.2.2.1) c196, .slice A198 (List.length r183.1.2.2.2) c199]), (28, .bool false), (35, .bool false)] (fun w_ => []) 2 E (fun _ _ => by kernel_rfl) (fun w_ hS_ => trivial) (by kernel_rfl) HS260 ?_
  clear E; intro a E
  refine wpAnyH_all (rs := [13]) (by kernel_rfl) (by simp) ?_
  refine all1 ?_
  refine wpOp_of_list rfl ?_
  refine h_store (g := g178) (off := 0) H 5 rfl E rfl rfl rfl rfl tbok rfl rfl rfl rfl rfl ?_
  clear E; intro w262 a hc263 H_ E
  replace HS260 := HS260.trans hc263 (fun k_ hk_ h_ => (fun _ _ h_ => Or.inl h_) k_ hk_ h_)
  replace H := H_; clear H_; try dsimp only [setn, addE, goneL] at H
  refine wpList_nil ?_
  refine th_n ⟨HS260, ?_⟩
  refine dr tbok (by kernel_rfl) [14] [] [(4, .pointer none), (5, .pointer (some ⟨g178, 0, none⟩)), (6, .bool false), (28, .bool false)] (fun w_ => []) 0 E (fun _ _ => by kernel_rfl) (fun w_ hS_ => trivial) (by kernel_rfl) HS260 ?_
  clear E; intro a E
  refine dr_done (by kernel_rfl) ?_
  clear HS260 HR261
  refine th_n ?_
  refine wp_ret ?_
  obtain rfl := Option.some.inj hP
  refine retV E [.tmp 4, .cell 5 33, .tmp 6] [.pointer none, .agg #[.bool r183.1.1, .slice A192 (List.length r183.1.2.1) c193, .slice A195 (List.length r183.1.2.2.1) c196, .slice A198 (List.length r183.1.2.2.2) c199], .bool false] rfl ⟨rfl, ⟨_, rfl, run_loadBx tbok (H.box 5 rfl) rfl rfl rfl 0 rfl rfl⟩, rfl, trivial⟩ (.inl rfl) ?_
  exact ⟨_, rfl, .inl ⟨(r183.1.1, r183.1.2.1, r183.1.2.2.1, r183.1.2.2.2, false), A192, c193, A195, c196, A198, c199, rfl, rfl, H.sel [6, 7, 8] rfl⟩⟩
 subst hr_; have hP := (elim_r hP)
 obtain ⟨x237, hxx_⟩ : ∃ y_, y_ = x_ := ⟨_, rfl⟩; subst hxx_
 replace E := E_ _ rfl; clear E_
 obtain ⟨H_, hc220⟩ := hb212 _ _ HR235 rfl
 replace H := H_; clear H_; try dsimp only [setn, addE, goneL] at H
 refine vr tbok 5 [] [(5, .pointer (some ⟨g178, 0, none⟩)), (7, .pointer (some ⟨g201, 0, none⟩)), (8, .int .i64 r183.2), (9, .pointer (some ⟨g222, 0, none⟩)), (10, .int .i64 x237.2.2.2.2.2.2)] [] E (by kernel_rfl) trivial ?_
 clear E; intro a E
 refine wpList_nil ?_
 refine th_n ?_
 refine wp_seq ?_
 by_cases h271 : (r183.2 : Int) = 0
 ·
  replace hP := ite_t h271 hP
  by_cases h272 : (x237.2.2.2.2.2.2 : Int) = 0
  ·
   replace hP := ite_t h272 hP
   have HR278 := H
   refine dr_start (S := fun w_ => Chg (atL [.box g178 33 [.bool false, .slice none 0 0, .slice none 0 0, .slice none 0 0]]) w217 w_) (by kernel_rfl) ?_
   intro w275 hc276
   have HS277 : Chg (atL [.box g178 33 [.bool false, .slice none 0 0, .slice none 0 0, .slice none 0 0]]) w217 w275 := hc276.mono (fun _ _ h_ => h_.elim)
   replace H := H.ext hc276
   refine dr tbok (by kernel_rfl) [0, 1, 2, 3, 4] [.agg #[.bool r183.1.1, .slice A192 (List.length r183.1.2.1) c193, .slice A195 (List.length r183.1.2.2.1) c196, .slice A198 (List.length r183.1.2.2.2) c199]] [(5, .pointer (some ⟨g178, 0, none⟩)), (9, .pointer (some ⟨g222, 0, none⟩)), (10, .int .i64 x237.2.2.2.2.2.2), (24, .pointer (some ⟨g222, 0, none⟩)), (25, .agg #[.bool r183.1.1, .slice A192 (List.length r183.1.2.1) c193, .slice A195 (List.length r183.1.2.2.1) c196, .slice A198 (List.length r183.1.2.2.2) c199]), (28, .bool ((r183.2 : Int) == 0))] (fun w_ => [cellsAt w_ g201 (0) [.bool r183.1.1, .slice A192 (List.length r183.1.2.1) c193, .slice A195 (List.length r183.1.2.2.1) c196, .slice A198 (List.length r183.1.2.2.2) c199]]) 10 E (fun _ _ => by kernel_rfl) (fun w_ hS_ => ((HR278.boxk [5] hS_ 9 rfl rfl).sub 0 _ rfl)) (by kernel_rfl) HS277 ?_
   clear E; intro a E
   replace E := E.same (t := 28) (u := .bool true) rfl (congrArg Value.bool (beq_iff_eq.2 h271))
   refine dr tbok (by kernel_rfl) [5, 6, 7, 8] [] [(5, .pointer (some ⟨g178, 0, none⟩)), (9, .pointer (some ⟨g222, 0, none⟩)), (24, .pointer (some ⟨g222, 0, none⟩)), (25, .agg #[.bool r183.1.1, .slice A192 (List.length r183.1.2.1) c193, .slice A195 (List.length r183.1.2.2.1) c196, .slice A198 (List.length r183.1.2.2.2) c199]), (28, .bool true), (32, .bool ((x237.2.2.2.2.2.2 : Int) == 0))] (fun w_ => []) 6 E (fun _ _ => by kernel_rfl) (fun w_ hS_ => trivial) (by kernel_rfl) HS277 ?_
   clear E; intro a E
   replace E := E.same (t := 32) (u := .bool true) rfl (congrArg Value.bool (beq_iff_eq.2 h272))
   refine dr tbok (by kernel_rfl) [9, 10, 11, 12] [] [(4, .pointer (some ⟨g222, 0, none⟩)), (5, .pointer (some ⟨g178, 0, none⟩)), (25, .agg #[.bool r183.1.1, .slice A192 (List.length r183.1.2.1) c193, .slice A195 (List.length r183.1.2.2.1) c196, .slice A198 (List.length r183.1.2.2.2) c199]), (28, .bool true), (32, .bool true), (35, .bool true)] (fun w_ => []) 2 E (fun _ _ => by kernel_rfl) (fun w_ hS_ => trivial) (by kernel_rfl) HS277 ?_
   clear E; intro a E
   refine wpAnyH_all (rs := [13]) (by kernel_rfl) (by simp) ?_
   refine all1 ?_
   refine wpOp_of_list rfl ?_
   refine h_store (g := g178) (off := 0) H 5 rfl E rfl rfl rfl rfl tbok rfl rfl rfl rfl rfl ?_
   clear E; intro w279 a hc280 H_ E
   replace HS277 := HS277.trans hc280 (fun k_ hk_ h_ => (fun _ _ h_ => Or.inl h_) k_ hk_ h_)
   replace H := H_; clear H_; try dsimp only [setn, addE, goneL] at H
   refine wpList_nil ?_
   refine th_n ⟨HS277, ?_⟩
   refine dr tbok (by kernel_rfl) [14] [] [(4, .pointer (some ⟨g222, 0, none⟩)), (5, .pointer (some ⟨g178, 0, none⟩)), (6, .bool true), (28, .bool true), (32, .bool true)] (fun w_ => []) 0 E (fun _ _ => by kernel_rfl) (fun w_ hS_ => trivial) (by kernel_rfl) HS277 ?_
   clear E; intro a E
   refine dr_done (by kernel_rfl) ?_
   clear HS277 HR278
   refine th_n ?_
   refine wp_ret ?_
   obtain rfl := Option.some.inj hP
   refine retV E [.tmp 4, .cell 5 33, .tmp 6] [.pointer (some ⟨g222, 0, none⟩), .agg #[.bool r183.1.1, .slice A192 (List.length r183.1.2.1) c193, .slice A195 (List.length r183.1.2.2.1) c196, .slice A198 (List.length r183.1.2.2.2) c199], .bool true] rfl ⟨rfl, ⟨_, rfl, run_loadBx tbok (H.box 5 rfl) rfl rfl rfl 0 rfl rfl⟩, rfl, trivial⟩ (.inl rfl) ?_
   exact ⟨_, rfl, .inr (⟨(x237.1, x237.2.1, x237.2.2.1, r183.1.1, x237.2.2.2.1, x237.2.2.2.2.1, x237.2.2.2.2.2.1, r183.1.1, r183.1.2.1, r183.1.2.2.1, r183.1.2.2.2, true), g222, A223, c224, A225, c226, A227, c228, A229, c230, A231, c232, A233, c234, A192, c193, A195, c196, A198, c199, rfl, rfl, H.sel [10, 11, 12, 13, 14, 15, 16, 6, 7, 8] rfl⟩)⟩
  replace hP := ite_f h272 hP
  have HR286 := H
  refine dr_start (S := fun w_ => Chg (atL [.box g178 33 [.bool false, .slice none 0 0, .slice none 0 0, .slice none 0 0]]) w217 w_) (by kernel_rfl) ?_
  intro w283 hc284
  have HS285 : Chg (atL [.box g178 33 [.bool false, .slice none 0 0, .slice none 0 0, .slice none 0 0]]) w217 w283 := hc284.mono (fun _ _ h_ => h_.elim)
  replace H := H.ext hc284
  refine dr tbok (by kernel_rfl) [0, 1, 2, 3, 4] [.agg #[.bool r183.1.1, .slice A192 (List.length r183.1.2.1) c193, .slice A195 (List.length r183.1.2.2.1) c196, .slice A198 (List.length r183.1.2.2.2) c199]] [(5, .pointer (some ⟨g178, 0, none⟩)), (9, .pointer (some ⟨g222, 0, none⟩)), (10, .int .i64 x237.2.2.2.2.2.2), (24, .pointer (some ⟨g222, 0, none⟩)), (25, .agg #[.bool r183.1.1, .slice A192 (List.length r183.1.2.1) c193, .slice A195 (List.length r183.1.2.2.1) c196, .slice A198 (List.length r183.1.2.2.2) c199]), (28, .bool ((r183.2 : Int) == 0))] (fun w_ => [cellsAt w_ g201 (0) [.bool r183.1.1, .slice A192 (List.length r183.1.2.1) c193, .slice A195 (List.length r183.1.2.2.1) c196, .slice A198 (List.length r183.1.2.2.2) c199]]) 10 E (fun _ _ => by kernel_rfl) (fun w_ hS_ => ((HR286.boxk [5] hS_ 9 rfl rfl).sub 0 _ rfl)) (by kernel_rfl) HS285 ?_
  clear E; intro a E
  replace E := E.same (t := 28) (u := .bool true) rfl (congrArg Value.bool (beq_iff_eq.2 h271))
  refine dr tbok (by kernel_rfl) [5, 6, 7, 8] [] [(5, .pointer (some ⟨g178, 0, none⟩)), (9, .pointer (some ⟨g222, 0, none⟩)), (24, .pointer (some ⟨g222, 0, none⟩)), (25, .agg #[.bool r183.1.1, .slice A192 (List.length r183.1.2.1) c193, .slice A195 (List.length r183.1.2.2.1) c196, .slice A198 (List.length r183.1.2.2.2) c199]), (28, .bool true), (32, .bool ((x237.2.2.2.2.2.2 : Int) == 0))] (fun w_ => []) 6 E (fun _ _ => by kernel_rfl) (fun w_ hS_ => trivial) (by kernel_rfl) HS285 ?_
  clear E; intro a E
  replace E := E.same (t := 32) (u := .bool false) rfl (congrArg Value.bool (beq_eq_false_iff_ne.2 h272))
  refine dr tbok (by kernel_rfl) [9, 10, 11, 12] [] [(4, .pointer (some ⟨g222, 0, none⟩)), (5, .pointer (some ⟨g178, 0, none⟩)), (25, .agg #[.bool r183.1.1, .slice A192 (List.length r183.1.2.1) c193, .slice A195 (List.length r183.1.2.2.1) c196, .slice A198 (List.length r183.1.2.2.2) c199]), (28, .bool true), (32, .bool false), (35, .bool false)] (fun w_ => []) 2 E (fun _ _ => by kernel_rfl) (fun w_ hS_ => trivial) (by kernel_rfl) HS285 ?_
  clear E; intro a E
  refine wpAnyH_all (rs := [13]) (by kernel_rfl) (by simp) ?_
  refine all1 ?_
  refine wpOp_of_list rfl ?_
  refine h_store (g := g178) (off := 0) H 5 rfl E rfl rfl rfl rfl tbok rfl rfl rfl rfl rfl ?_
  clear E; intro w287 a hc288 H_ E
  replace HS285 := HS285.trans hc288 (fun k_ hk_ h_ => (fun _ _ h_ => Or.inl h_) k_ hk_ h_)
  replace H := H_; clear H_; try dsimp only [setn, addE, goneL] at H
  refine wpList_nil ?_
  refine th_n ⟨HS285, ?_⟩
  refine dr tbok (by kernel_rfl) [14] [] [(4, .pointer (some ⟨g222, 0, none⟩)), (5, .pointer (some ⟨g178, 0, none⟩)), (6, .bool false), (28, .bool true), (32, .bool false)] (fun w_ => []) 0 E (fun _ _ => by kernel_rfl) (fun w_ hS_ => trivial) (by kernel_rfl) HS285 ?_
  clear E; intro a E
  refine dr_done (by kernel_rfl) ?_
  clear HS285 HR286
  refine th_n ?_
  refine wp_ret ?_
  obtain rfl := Option.some.inj hP
  refine retV E [.tmp 4, .cell 5 33, .tmp 6] [.pointer (some ⟨g222, 0, none⟩), .agg #[.bool r183.1.1, .slice A192 (List.length r183.1.2.1) c193, .slice A195 (List.length r183.1.2.2.1) c196, .slice A198 (List.length r183.1.2.2.2) c199], .bool false] rfl ⟨rfl, ⟨_, rfl, run_loadBx tbok (H.box 5 rfl) rfl rfl rfl 0 rfl rfl⟩, rfl, trivial⟩ (.inl rfl) ?_
  exact ⟨_, rfl, .inr (⟨(x237.1, x237.2.1, x237.2.2.1, r183.1.1, x237.2.2.2.1, x237.2.2.2.2.1, x237.2.2.2.2.2.1, r183.1.1, r183.1.2.1, r183.1.2.2.1, r183.1.2.2.2, false), g222, A223, c224, A225, c226, A227, c228, A229, c230, A231, c232, A233, c234, A192, c193, A195, c196, A198, c199, rfl, rfl, H.sel [10, 11, 12, 13, 14, 15, 16, 6, 7, 8] rfl⟩)⟩
 replace hP := ite_f h271 hP
 have HR294 := H
 refine dr_start (S := fun w_ => Chg (atL [.box g178 33 [.bool false, .slice none 0 0, .slice none 0 0, .slice none 0 0]]) w217 w_) (by kernel_rfl) ?_
 intro w291 hc292
 have HS293 : Chg (atL [.box g178 33 [.bool false, .slice none 0 0, .slice none 0 0, .slice none 0 0]]) w217 w291 := hc292.mono (fun _ _ h_ => h_.elim)
 replace H := H.ext hc292
 refine dr tbok (by kernel_rfl) [0, 1, 2, 3, 4] [.agg #[.bool r183.1.1, .slice A192 (List.length r183.1.2.1) c193, .slice A195 (List.length r183.1.2.2.1) c196, .slice A198 (List.length r183.1.2.2.2) c199]] [(5, .pointer (some ⟨g178, 0, none⟩)), (9, .pointer (some ⟨g222, 0, none⟩)), (10, .int .i64 x237.2.2.2.2.2.2), (24, .pointer (some ⟨g222, 0, none⟩)), (25, .agg #[.bool r183.1.1, .slice A192 (List.length r183.1.2.1) c193, .slice A195 (List.length r183.1.2.2.1) c196, .slice A198 (List.length r183.1.2.2.2) c199]), (28, .bool ((r183.2 : Int) == 0))] (fun w_ => [cellsAt w_ g201 (0) [.bool r183.1.1, .slice A192 (List.length r183.1.2.1) c193, .slice A195 (List.length r183.1.2.2.1) c196, .slice A198 (List.length r183.1.2.2.2) c199]]) 10 E (fun _ _ => by kernel_rfl) (fun w_ hS_ => ((HR294.boxk [5] hS_ 9 rfl rfl).sub 0 _ rfl)) (by kernel_rfl) HS293 ?_
 clear E; intro a E
 replace E := E.same (t := 28) (u := .bool false) rfl (congrArg Value.bool (beq_eq_false_iff_ne.2 h271))
 refine dr tbok (by kernel_rfl) [5, 6, 7, 8, 9, 10, 11, 12] [] [(4, .pointer (some ⟨g222, 0, none⟩)), (5, .pointer (some ⟨g178, 0, none⟩)), (25, .agg #[.bool r183.1.1, .slice A192 (List.length r183.1.2.1) c193, .slice A195 (List.length r183.1.2.2.1) c196, .slice A198 (List.length r183.1.2.2.2) c199]), (28, .bool false), (35, .bool false)] (fun w_ => []) 2 E (fun _ _ => by kernel_rfl) (fun w_ hS_ => trivial) (by kernel_rfl) HS293 ?_
 clear E; intro a E
 refine wpAnyH_all (rs := [13]) (by kernel_rfl) (by simp) ?_
 refine all1 ?_
 refine wpOp_of_list rfl ?_
 refine h_store (g := g178) (off := 0) H 5 rfl E rfl rfl rfl rfl tbok rfl rfl rfl rfl rfl ?_
 clear E; intro w295 a hc296 H_ E
 replace HS293 := HS293.trans hc296 (fun k_ hk_ h_ => (fun _ _ h_ => Or.inl h_) k_ hk_ h_)
 replace H := H_; clear H_; try dsimp only [setn, addE, goneL] at H
 refine wpList_nil ?_
 refine th_n ⟨HS293, ?_⟩
 refine dr tbok (by kernel_rfl) [14] [] [(4, .pointer (some ⟨g222, 0, none⟩)), (5, .pointer (some ⟨g178, 0, none⟩)), (6, .bool false), (28, .bool false)] (fun w_ => []) 0 E (fun _ _ => by kernel_rfl) (fun w_ hS_ => trivial) (by kernel_rfl) HS293 ?_
 clear E; intro a E
 refine dr_done (by kernel_rfl) ?_
 clear HS293 HR294
 refine th_n ?_
 refine wp_ret ?_
 obtain rfl := Option.some.inj hP
 refine retV E [.tmp 4, .cell 5 33, .tmp 6] [.pointer (some ⟨g222, 0, none⟩), .agg #[.bool r183.1.1, .slice A192 (List.length r183.1.2.1) c193, .slice A195 (List.length r183.1.2.2.1) c196, .slice A198 (List.length r183.1.2.2.2) c199], .bool false] rfl ⟨rfl, ⟨_, rfl, run_loadBx tbok (H.box 5 rfl) rfl rfl rfl 0 rfl rfl⟩, rfl, trivial⟩ (.inl rfl) ?_
 exact ⟨_, rfl, .inr (⟨(x237.1, x237.2.1, x237.2.2.1, r183.1.1, x237.2.2.2.1, x237.2.2.2.2.1, x237.2.2.2.2.2.1, r183.1.1, r183.1.2.1, r183.1.2.2.1, r183.1.2.2.2, false), g222, A223, c224, A225, c226, A227, c228, A229, c230, A231, c232, A233, c234, A192, c193, A195, c196, A198, c199, rfl, rfl, H.sel [10, 11, 12, 13, 14, 15, 16, 6, 7, 8] rfl⟩)⟩

/-! (*rejoinder/play.Referee).none -/
def play_Referee_none (N : Nat) (raProps : Int) (raAccept : List Bool) (raGuard : List Int) (raNodes : List Nd) (rs : Int × Int) (rxWins : Bool) (rxRanks : List Int) (rxReply : List (List Int)) (rxChoice : List Int) (rq : Int) (rrounds : List (Int × Int)) (rmade : Bool) : Option Bool :=
  some (!rmade)
set_option maxRecDepth 100000 in
set_option maxHeartbeats 4000000 in
theorem play_Referee_none_calls {N : Nat} {S Fa : Nat → Prop} {w0 : World} {r : Bool} (g1 : Nat) (A3 : Option Addr) (c4 : Nat) (A7 : Option Addr) (c8 : Nat) (A11 : Option Addr) (c12 : Nat) (A15 : Option Addr) (c16 : Nat) (A19 : Option Addr) (c20 : Nat) (A23 : Option Addr) (c24 : Nat) (A27 : Option Addr) (c28 : Nat) (raProps : Int) (raAccept : List Bool) (raGuard : List Int) (raNodes : List Nd) (rs : Int × Int) (rxWins : Bool) (rxRanks : List Int) (rxReply : List (List Int)) (rxChoice : List Int) (rq : Int) (rrounds : List (Int × Int)) (rmade : Bool) (hk5 : List.length raAccept ≤ c4) (hk9 : List.length raGuard ≤ c8) (hk13 : List.length raNodes ≤ c12) (hk17 : List.length rxRanks ≤ c16) (hk21 : List.length rxReply ≤ c20) (hk25 : List.length rxChoice ≤ c24) (H : Hp S Fa w0 w0 [.box g1 74 [.int .i64 raProps, .slice A3 (List.length raAccept) c4, .slice A7 (List.length raGuard) c8, .slice A11 (List.length raNodes) c12, .int .u8 rs.1, .int .u8 rs.2, .bool rxWins, .slice A15 (List.length rxRanks) c16, .slice A19 (List.length rxReply) c20, .slice A23 (List.length rxChoice) c24, .int .i64 rq, .slice A27 (List.length rrounds) c28, .bool rmade], .row true cS98 99 A27 c28 rrounds, .ro false cBool A3 raAccept, .ro false (cInt .i64) A7 raGuard, .ro false cNode A11 raNodes, .ro false (cInt .i64) A15 rxRanks, .ro false (cSl (cInt .u8)) A19 rxReply, .ro false (cInt .u8) A23 rxChoice]) (hP : play_Referee_none N raProps raAccept raGuard raNodes rs rxWins rxRanks rxReply rxChoice rq rrounds rmade = some r) :
    Calls Try.prog 60 #[.pointer (some ⟨g1, 0, none⟩)] w0 fun e w' => ∃ v, e = .returned v ∧ (∃ (x_ : Bool), r = x_ ∧ v = .bool x_ ∧ Hp S Fa w0 w' [.row true cS98 99 A27 c28 rrounds, .box g1 74 [.int .i64 raProps, .slice A3 (List.length raAccept) c4, .slice A7 (List.length raGuard) c8, .slice A11 (List.length raNodes) c12, .int .u8 rs.1, .int .u8 rs.2, .bool rxWins, .slice A15 (List.length rxRanks) c16, .slice A19 (List.length rxReply) c20, .slice A23 (List.length rxChoice) c24, .int .i64 rq, .slice A27 (List.length rrounds) c28, .bool rmade]]) := by
 refine enterV (n := 12) Try.func60 rfl rfl rfl ?_
 intro a E
 replace E := E.pick [(0, .pointer (some ⟨g1, 0, none⟩))] ⟨rfl, trivial⟩
 rw [play_Referee_none] at hP
 refine wp_seq ?_
 refine wp_region_lit ?_
 refine vr tbok 1 [] [(0, .pointer (some ⟨g1, 0, none⟩))] [] E (by kernel_rfl) trivial ?_
 clear E; intro a E
 refine wpList_nil ?_
 refine th_n ?_
 refine wp_seq ?_
 refine wp_region_lit ?_
 refine vr tbok 10 [.bool rmade] [(2, .bool (!rmade))] [World.cell? w0 ⟨g1, 12, none⟩ = some (.bool rmade)] E (by kernel_rfl) ((H.box 0 rfl).cell (j := 12) rfl) ?_
 clear E; intro a E
 refine wpList_nil ?_
 refine th_n ?_
 refine wp_ret ?_
 obtain rfl := Option.some.inj hP
 refine ret1 E rfl rfl ?_
 exact ⟨_, rfl, ⟨!rmade, rfl, rfl, H.sel [1, 0] rfl⟩⟩

/-! (*rejoinder/play.Referee).State -/
def play_Referee_State (N : Nat) (raProps : Int) (raAccept : List Bool) (raGuard : List Int) (raNodes : List Nd) (rs : Int × Int) (rxWins : Bool) (rxRanks : List Int) (rxReply : List (List Int)) (rxChoice : List Int) (rq : Int) (rrounds : List (Int × Int)) (rmade : Bool) : Option Int :=
  Option.bind (play_Referee_none N raProps raAccept raGuard raNodes (rs.1, rs.2) rxWins rxRanks rxReply rxChoice rq rrounds rmade) fun r131 =>
  if r131 = true then
    some 0
  else
    some rq
set_option maxRecDepth 100000 in
set_option maxHeartbeats 4000000 in
theorem play_Referee_State_calls {N : Nat} {S Fa : Nat → Prop} {w0 : World} {r : Int} (g1 : Nat) (A3 : Option Addr) (c4 : Nat) (A7 : Option Addr) (c8 : Nat) (A11 : Option Addr) (c12 : Nat) (A15 : Option Addr) (c16 : Nat) (A19 : Option Addr) (c20 : Nat) (A23 : Option Addr) (c24 : Nat) (A27 : Option Addr) (c28 : Nat) (raProps : Int) (raAccept : List Bool) (raGuard : List Int) (raNodes : List Nd) (rs : Int × Int) (rxWins : Bool) (rxRanks : List Int) (rxReply : List (List Int)) (rxChoice : List Int) (rq : Int) (rrounds : List (Int × Int)) (rmade : Bool) (hk5 : List.length raAccept ≤ c4) (hk9 : List.length raGuard ≤ c8) (hk13 : List.length raNodes ≤ c12) (hk17 : List.length rxRanks ≤ c16) (hk21 : List.length rxReply ≤ c20) (hk25 : List.length rxChoice ≤ c24) (H : Hp S Fa w0 w0 [.box g1 74 [.int .i64 raProps, .slice A3 (List.length raAccept) c4, .slice A7 (List.length raGuard) c8, .slice A11 (List.length raNodes) c12, .int .u8 rs.1, .int .u8 rs.2, .bool rxWins, .slice A15 (List.length rxRanks) c16, .slice A19 (List.length rxReply) c20, .slice A23 (List.length rxChoice) c24, .int .i64 rq, .slice A27 (List.length rrounds) c28, .bool rmade], .row true cS98 99 A27 c28 rrounds, .ro false cBool A3 raAccept, .ro false (cInt .i64) A7 raGuard, .ro false cNode A11 raNodes, .ro false (cInt .i64) A15 rxRanks, .ro false (cSl (cInt .u8)) A19 rxReply, .ro false (cInt .u8) A23 rxChoice]) (hP : play_Referee_State N raProps raAccept raGuard raNodes rs rxWins rxRanks rxReply rxChoice rq rrounds rmade = some r) :
    Calls Try.prog 28 #[.pointer (some ⟨g1, 0, none⟩)] w0 fun e w' => ∃ v, e = .returned v ∧ (∃ (x_ : Int), r = x_ ∧ v = .int .i64 x_ ∧ Hp S Fa w0 w' [.row true cS98 99 A27 c28 rrounds, .box g1 74 [.int .i64 raProps, .slice A3 (List.length raAccept) c4, .slice A7 (List.length raGuard) c8, .slice A11 (List.length raNodes) c12, .int .u8 rs.1, .int .u8 rs.2, .bool rxWins, .slice A15 (List.length rxRanks) c16, .slice A19 (List.length rxReply) c20, .slice A23 (List.length rxChoice) c24, .int .i64 rq, .slice A27 (List.length rrounds) c28, .bool rmade]]) := by
 refine enterV (n := 9) Try.func28 rfl rfl rfl ?_
 intro a E
 replace E := E.pick [(0, .pointer (some ⟨g1, 0, none⟩))] ⟨rfl, trivial⟩
 rw [play_Referee_State] at hP
 refine wp_seq ?_
 refine wp_region_lit ?_
 refine vr tbok 1 [] [(0, .pointer (some ⟨g1, 0, none⟩))] [] E (by kernel_rfl) trivial ?_
 clear E; intro a E
 refine wpList_nil ?_
 refine th_n ?_
 refine wp_seq ?_
 refine wp_seq ?_
 refine wp_region_lit ?_
 refine vr tbok 1 [] [(0, .pointer (some ⟨g1, 0, none⟩)), (3, .pointer (some ⟨g1, 0, none⟩))] [] E (by kernel_rfl) trivial ?_
 clear E; intro a E
 obtain ⟨r131, h132, hP⟩ := bind_inv hP
 obtain ⟨Fa133, Hc134, hb135⟩ := H.call [0, 1] [(2, false), (3, false), (4, false), (5, false), (6, false), (7, false)] rfl rfl ⟨flat_plain, trivial⟩
 refine e_call E rfl rfl Try.func60 rfl rfl rfl (play_Referee_none_calls g1 A3 c4 A7 c8 A11 c12 A15 c16 A19 c20 A23 c24 A27 c28 raProps raAccept raGuard raNodes (rs.1, rs.2) rxWins rxRanks rxReply rxChoice rq rrounds rmade hk5 hk9 hk13 hk17 hk21 hk25 Hc134 h132) ?_
 intro v141 w140 a hR142 E_
 obtain ⟨x_, hr_, rfl, HR144⟩ := hR142
 subst hr_
 replace E := E_ _ rfl; clear E_
 obtain ⟨H_, hc143⟩ := hb135 _ _ HR144 rfl
 replace H := H_; clear H_; try dsimp only [setn, addE, goneL] at H
 refine wpList_nil ?_
 refine th_n ?_
 refine E.cases (t := 4) rfl (fun hb_ E_ => ?_) (fun hb_ E_ => ?_)
 ·
  replace E := E_; clear E_
  have h147 : r131 = true := hb_
  clear hb_; replace hP := ite_t h147 hP
  refine c_true E rfl ?_
  refine wp_seq ?_
  refine wp_region_lit ?_
  refine vr tbok 1 [] [(2, .int .i64 0)] [] E (by kernel_rfl) trivial ?_
  clear E; intro a E
  refine wpList_nil ?_
  refine th_n ?_
  refine wp_ret ?_
  refine th_ret ?_
  obtain rfl := Option.some.inj hP
  refine ret1 E rfl rfl ?_
  exact ⟨_, rfl, ⟨0, rfl, rfl, H.sel [8, 9] rfl⟩⟩
 replace E := E_; clear E_
 have h148 : ¬ (r131 = true) := (ne_true_of_eq_false hb_)
 clear hb_; replace hP := ite_f h148 hP
 refine c_false E rfl ?_
 refine wp_skip ?_
 refine th_n ?_
 refine wp_seq ?_
 refine wp_region_lit ?_
 refine vr tbok 5 [.int .i64 rq] [(2, .int .i64 rq)] [World.cell? w140 ⟨g1, 10, none⟩ = some (.int .i64 rq)] E (by kernel_rfl) ((H.box 9 rfl).cell (j := 10) rfl) ?_
 clear E; intro a E
 refine wpList_nil ?_
 refine th_n ?_
 refine wp_ret ?_
 obtain rfl := Option.some.inj hP
 refine ret1 E rfl rfl ?_
 exact ⟨_, rfl, ⟨rq, rfl, rfl, H.sel [8, 9] rfl⟩⟩

/-! (*rejoinder/play.Referee).Rank -/
def play_Referee_Rank (N : Nat) (raProps : Int) (raAccept : List Bool) (raGuard : List Int) (raNodes : List Nd) (rs : Int × Int) (rxWins : Bool) (rxRanks : List Int) (rxReply : List (List Int)) (rxChoice : List Int) (rq : Int) (rrounds : List (Int × Int)) (rmade : Bool) : Option Int :=
  Option.bind (play_Referee_none N raProps raAccept raGuard raNodes (rs.1, rs.2) rxWins rxRanks rxReply rxChoice rq rrounds rmade) fun r131 =>
  if r131 = true then
    some 0
  else
    ask (idx rq (List.length rxRanks)) <|
    some (List.getD rxRanks (Int.toNat rq) 0)
set_option maxRecDepth 100000 in
set_option maxHeartbeats 4000000 in
theorem play_Referee_Rank_calls {N : Nat} {S Fa : Nat → Prop} {w0 : World} {r : Int} (g1 : Nat) (A3 : Option Addr) (c4 : Nat) (A7 : Option Addr) (c8 : Nat) (A11 : Option Addr) (c12 : Nat) (A15 : Option Addr) (c16 : Nat) (A19 : Option Addr) (c20 : Nat) (A23 : Option Addr) (c24 : Nat) (A27 : Option Addr) (c28 : Nat) (raProps : Int) (raAccept : List Bool) (raGuard : List Int) (raNodes : List Nd) (rs : Int × Int) (rxWins : Bool) (rxRanks : List Int) (rxReply : List (List Int)) (rxChoice : List Int) (rq : Int) (rrounds : List (Int × Int)) (rmade : Bool) (hk5 : List.length raAccept ≤ c4) (hk9 : List.length raGuard ≤ c8) (hk13 : List.length raNodes ≤ c12) (hk17 : List.length rxRanks ≤ c16) (hk21 : List.length rxReply ≤ c20) (hk25 : List.length rxChoice ≤ c24) (H : Hp S Fa w0 w0 [.box g1 74 [.int .i64 raProps, .slice A3 (List.length raAccept) c4, .slice A7 (List.length raGuard) c8, .slice A11 (List.length raNodes) c12, .int .u8 rs.1, .int .u8 rs.2, .bool rxWins, .slice A15 (List.length rxRanks) c16, .slice A19 (List.length rxReply) c20, .slice A23 (List.length rxChoice) c24, .int .i64 rq, .slice A27 (List.length rrounds) c28, .bool rmade], .row true cS98 99 A27 c28 rrounds, .ro false cBool A3 raAccept, .ro false (cInt .i64) A7 raGuard, .ro false cNode A11 raNodes, .ro false (cInt .i64) A15 rxRanks, .ro false (cSl (cInt .u8)) A19 rxReply, .ro false (cInt .u8) A23 rxChoice]) (hP : play_Referee_Rank N raProps raAccept raGuard raNodes rs rxWins rxRanks rxReply rxChoice rq rrounds rmade = some r) :
    Calls Try.prog 26 #[.pointer (some ⟨g1, 0, none⟩)] w0 fun e w' => ∃ v, e = .returned v ∧ (∃ (x_ : Int), r = x_ ∧ v = .int .i64 x_ ∧ Hp S Fa w0 w' [.row true cS98 99 A27 c28 rrounds, .box g1 74 [.int .i64 raProps, .slice A3 (List.length raAccept) c4, .slice A7 (List.length raGuard) c8, .slice A11 (List.length raNodes) c12, .int .u8 rs.1, .int .u8 rs.2, .bool rxWins, .slice A15 (List.length rxRanks) c16, .slice A19 (List.length rxReply) c20, .slice A23 (List.length rxChoice) c24, .int .i64 rq, .slice A27 (List.length rrounds) c28, .bool rmade]]) := by
 refine enterV (n := 16) Try.func26 rfl rfl rfl ?_
 intro a E
 replace E := E.pick [(0, .pointer (some ⟨g1, 0, none⟩))] ⟨rfl, trivial⟩
 rw [play_Referee_Rank] at hP
 refine wp_seq ?_
 refine wp_region_lit ?_
 refine vr tbok 1 [] [(0, .pointer (some ⟨g1, 0, none⟩))] [] E (by kernel_rfl) trivial ?_
 clear E; intro a E
 refine wpList_nil ?_
 refine th_n ?_
 refine wp_seq ?_
 refine wp_seq ?_
 refine wp_region_lit ?_
 refine vr tbok 1 [] [(0, .pointer (some ⟨g1, 0, none⟩)), (3, .pointer (some ⟨g1, 0, none⟩))] [] E (by kernel_rfl) trivial ?_
 clear E; intro a E
 obtain ⟨r131, h132, hP⟩ := bind_inv hP
 obtain ⟨Fa133, Hc134, hb135⟩ := H.call [0, 1] [(2, false), (3, false), (4, false), (5, false), (6, false), (7, false)] rfl rfl ⟨flat_plain, trivial⟩
 refine e_call E rfl rfl Try.func60 rfl rfl rfl (play_Referee_none_calls g1 A3 c4 A7 c8 A11 c12 A15 c16 A19 c20 A23 c24 A27 c28 raProps raAccept raGuard raNodes (rs.1, rs.2) rxWins rxRanks rxReply rxChoice rq rrounds rmade hk5 hk9 hk13 hk17 hk21 hk25 Hc134 h132) ?_
 intro v141 w140 a hR142 E_
 obtain ⟨x_, hr_, rfl, HR144⟩ := hR142
 subst hr_
 replace E := E_ _ rfl; clear E_
 obtain ⟨H_, hc143⟩ := hb135 _ _ HR144 rfl
 replace H := H_; clear H_; try dsimp only [setn, addE, goneL] at H
 refine wpList_nil ?_
 refine th_n ?_
 refine E.cases (t := 4) rfl (fun hb_ E_ => ?_) (fun hb_ E_ => ?_)
 ·
  replace E := E_; clear E_
  have h147 : r131 = true := hb_
  clear hb_; replace hP := ite_t h147 hP
  refine c_true E rfl ?_
  refine wp_seq ?_
  refine wp_region_lit ?_
  refine vr tbok 1 [] [(2, .int .i64 0)] [] E (by kernel_rfl) trivial ?_
  clear E; intro a E
  refine wpList_nil ?_
  refine th_n ?_
  refine wp_ret ?_
  refine th_ret ?_
  obtain rfl := Option.some.inj hP
  refine ret1 E rfl rfl ?_
  exact ⟨_, rfl, ⟨0, rfl, rfl, H.sel [8, 9] rfl⟩⟩
 replace E := E_; clear E_
 have h148 : ¬ (r131 = true) := (ne_true_of_eq_false hb_)
 clear hb_; replace hP := ite_f h148 hP
 refine c_false E rfl ?_
 refine wp_skip ?_
 refine th_n ?_
 refine wp_seq ?_
 obtain ⟨g149, hP⟩ := ask_inv hP
 obtain ⟨b150, o151, e_b150⟩ := (H.rd 5 rds_ro).addr (idx_pos g149)
 subst e_b150
 have HR155 := H
 refine dr_start (S := fun w_ => Chg (atL []) w140 w_) (by kernel_rfl) ?_
 intro w152 hc153
 have HS154 : Chg (atL []) w140 w152 := hc153.mono (fun _ _ h_ => h_.elim)
 replace H := H.ext hc153
 refine dr tbok (by kernel_rfl) [0, 1, 2, 3, 4, 5, 6, 7, 8, 9, 10, 11] [.slice (some ⟨b150, o151, none⟩) (List.length rxRanks) c16, .int .i64 rq, .int .i64 (List.getD rxRanks (Int.toNat rq) 0)] [(2, .int .i64 (List.getD rxRanks (Int.toNat rq) 0))] (fun w_ => [World.cell? w_ ⟨g1, 7, none⟩ = some (.slice (some ⟨b150, o151, none⟩) (List.length rxRanks) c16), World.cell? w_ ⟨g1, 10, none⟩ = some (.int .i64 rq), 0 ≤ rq ∧ rq < (((List.length rxRanks) : Nat) : Int), World.cell? w_ ⟨b150, o151 + (Int.toNat rq) * 1, none⟩ = some (.int .i64 (List.getD rxRanks (Int.toNat rq) 0))]) 0 E (fun _ _ => by kernel_rfl) (fun w_ hS_ => ⟨(HR155.boxk [] hS_ 9 rfl rfl).cell (j := 7) rfl, (HR155.boxk [] hS_ 9 rfl rfl).cell (j := 10) rfl, g149, Rds.at1 (HR155.rdk [] hS_ 5 rds_ro rfl) 0 g149⟩) (by kernel_rfl) HS154 ?_
 clear E; intro a E
 refine dr_done (by kernel_rfl) ?_
 clear HS154 HR155
 refine th_n ?_
 refine wp_ret ?_
 obtain rfl := Option.some.inj hP
 refine ret1 E rfl rfl ?_
 exact ⟨_, rfl, ⟨(List.getD rxRanks (Int.toNat rq) 0), rfl, rfl, H.sel [8, 9] rfl⟩⟩

/-! (*rejoinder/play.Referee).Over -/
def play_Referee_Over (N : Nat) (raProps : Int) (raAccept : List Bool) (raGuard : List Int) (raNodes : List Nd) (rs : Int × Int) (rxWins : Bool) (rxRanks : List Int) (rxReply : List (List Int)) (rxChoice : List Int) (rq : Int) (rrounds : List (Int × Int)) (rmade : Bool) : Option Bool :=
  Option.bind (play_Referee_none N raProps raAccept raGuard raNodes (rs.1, rs.2) rxWins rxRanks rxReply rxChoice rq rrounds rmade) fun r131 =>
  if r131 = true then
    some false
  else
    ask (idx rq (List.length raAccept)) <|
    some (List.getD raAccept (Int.toNat rq) false)
set_option maxRecDepth 100000 in
set_option maxHeartbeats 4000000 in
theorem play_Referee_Over_calls {N : Nat} {S Fa : Nat → Prop} {w0 : World} {r : Bool} (g1 : Nat) (A3 : Option Addr) (c4 : Nat) (A7 : Option Addr) (c8 : Nat) (A11 : Option Addr) (c12 : Nat) (A15 : Option Addr) (c16 : Nat) (A19 : Option Addr) (c20 : Nat) (A23 : Option Addr) (c24 : Nat) (A27 : Option Addr) (c28 : Nat) (raProps : Int) (raAccept : List Bool) (raGuard : List Int) (raNodes : List Nd) (rs : Int × Int) (rxWins : Bool) (rxRanks : List Int) (rxReply : List (List Int)) (rxChoice : List Int) (rq : Int) (rrounds : List (Int × Int)) (rmade : Bool) (hk5 : List.length raAccept ≤ c4) (hk9 : List.length raGuard ≤ c8) (hk13 : List.length raNodes ≤ c12) (hk17 : List.length rxRanks ≤ c16) (hk21 : List.length rxReply ≤ c20) (hk25 : List.length rxChoice ≤ c24) (H : Hp S Fa w0 w0 [.box g1 74 [.int .i64 raProps, .slice A3 (List.length raAccept) c4, .slice A7 (List.length raGuard) c8, .slice A11 (List.length raNodes) c12, .int .u8 rs.1, .int .u8 rs.2, .bool rxWins, .slice A15 (List.length rxRanks) c16, .slice A19 (List.length rxReply) c20, .slice A23 (List.length rxChoice) c24, .int .i64 rq, .slice A27 (List.length rrounds) c28, .bool rmade], .row true cS98 99 A27 c28 rrounds, .ro false cBool A3 raAccept, .ro false (cInt .i64) A7 raGuard, .ro false cNode A11 raNodes, .ro false (cInt .i64) A15 rxRanks, .ro false (cSl (cInt .u8)) A19 rxReply, .ro false (cInt .u8) A23 rxChoice]) (hP : play_Referee_Over N raProps raAccept raGuard raNodes rs rxWins rxRanks rxReply rxChoice rq rrounds rmade = some r) :
    Calls Try.prog 27 #[.pointer (some ⟨g1, 0, none⟩)] w0 fun e w' => ∃ v, e = .returned v ∧ (∃ (x_ : Bool), r = x_ ∧ v = .bool x_ ∧ Hp S Fa w0 w' [.row true cS98 99 A27 c28 rrounds, .box g1 74 [.int .i64 raProps, .slice A3 (List.length raAccept) c4, .slice A7 (List.length raGuard) c8, .slice A11 (List.length raNodes) c12, .int .u8 rs.1, .int .u8 rs.2, .bool rxWins, .slice A15 (List.length rxRanks) c16, .slice A19 (List.length rxReply) c20, .slice A23 (List.length rxChoice) c24, .int .i64 rq, .slice A27 (List.length rrounds) c28, .bool rmade]]) := by
 refine enterV (n := 19) Try.func27 rfl rfl rfl ?_
 intro a E
 replace E := E.pick [(0, .pointer (some ⟨g1, 0, none⟩))] ⟨rfl, trivial⟩
 rw [play_Referee_Over] at hP
 refine wp_seq ?_
 refine wp_region_lit ?_
 refine vr tbok 1 [] [(0, .pointer (some ⟨g1, 0, none⟩))] [] E (by kernel_rfl) trivial ?_
 clear E; intro a E
 refine wpList_nil ?_
 refine th_n ?_
 refine wp_seq ?_
 obtain ⟨r131, h132, hP⟩ := bind_inv hP
 by_cases h147 : r131 = true
 ·
  replace hP := ite_t h147 hP
  have HR151 := H
  refine dr_start (S := fun w_ => Chg (atL [.box g1 74 [.int .i64 raProps, .slice A3 (List.length raAccept) c4, .slice A7 (List.length raGuard) c8, .slice A11 (List.length raNodes) c12, .int .u8 rs.1, .int .u8 rs.2, .bool rxWins, .slice A15 (List.length rxRanks) c16, .slice A19 (List.length rxReply) c20, .slice A23 (List.length rxChoice) c24, .int .i64 rq, .slice A27 (List.length rrounds) c28, .bool rmade], .row true cS98 99 A27 c28 rrounds]) w0 w_) (by kernel_rfl) ?_
  intro w148 hc149
  have HS150 : Chg (atL [.box g1 74 [.int .i64 raProps, .slice A3 (List.length raAccept) c4, .slice A7 (List.length raGuard) c8, .slice A11 (List.length raNodes) c12, .int .u8 rs.1, .int .u8 rs.2, .bool rxWins, .slice A15 (List.length rxRanks) c16, .slice A19 (List.length rxReply) c20, .slice A23 (List.length rxChoice) c24, .int .i64 rq, .slice A27 (List.length rrounds) c28, .bool rmade], .row true cS98 99 A27 c28 rrounds]) w0 w148 := hc149.mono (fun _ _ h_ => h_.elim)
  replace H := H.ext hc149
  refine dr tbok (by kernel_rfl) [0] [] [(0, .pointer (some ⟨g1, 0, none⟩)), (3, .pointer (some ⟨g1, 0, none⟩))] (fun w_ => []) 16 E (fun _ _ => by kernel_rfl) (fun w_ hS_ => trivial) (by kernel_rfl) HS150 ?_
  clear E; intro a E
  refine wpAnyH_all (rs := [1]) (by kernel_rfl) (by simp) ?_
  refine all1 ?_
  refine wpOp_of_list rfl ?_
  obtain ⟨Fa152, Hc153, hb154⟩ := H.call [0, 1] [(2, false), (3, false), (4, false), (5, false), (6, false), (7, false)] rfl rfl ⟨flat_plain, trivial⟩
  refine e_call E rfl rfl Try.func60 rfl rfl rfl (play_Referee_none_calls g1 A3 c4 A7 c8 A11 c12 A15 c16 A19 c20 A23 c24 A27 c28 raProps raAccept raGuard raNodes (rs.1, rs.2) rxWins rxRanks rxReply rxChoice rq rrounds rmade hk5 hk9 hk13 hk17 hk21 hk25 Hc153 h132) ?_
  intro v160 w159 a hR161 E_
  obtain ⟨x_, hr_, rfl, HR163⟩ := hR161
  subst hr_
  replace E := E_ _ rfl; clear E_
  obtain ⟨H_, hc162⟩ := hb154 _ _ HR163 rfl
  replace HS150 := HS150.trans hc162 (fun k_ hk_ h_ => h_.elim (fun h_ => by have hs_ := HS150.size; exfalso; omega) (fun h_ => h_.elim (fun h_ => (fun _ _ h_ => Or.inl h_) k_ hk_ h_) (fun h_ => h_.elim (fun h_ => (fun _ _ h_ => Or.inr (Or.inl h_)) k_ hk_ h_) (fun h_ => h_.elim))))
  replace H := H_; clear H_; try dsimp only [setn, addE, goneL] at H
  refine wpList_nil ?_
  refine th_n ⟨HS150, ?_⟩
  refine dr tbok (by kernel_rfl) [2, 3] [] [(0, .pointer (some ⟨g1, 0, none⟩)), (6, .bool (!r131))] (fun w_ => []) 13 E (fun _ _ => by kernel_rfl) (fun w_ hS_ => trivial) (by kernel_rfl) HS150 ?_
  clear E; intro a E
  replace E := E.same (t := 6) (u := .bool false) rfl (congrArg Value.bool (not_t' (h147)))
  refine dr tbok (by kernel_rfl) [4, 5, 6, 7, 8, 9, 10, 11, 12, 13, 14, 15, 16] [] [(2, .bool false), (6, .bool false)] (fun w_ => []) 0 E (fun _ _ => by kernel_rfl) (fun w_ hS_ => trivial) (by kernel_rfl) HS150 ?_
  clear E; intro a E
  refine dr_done (by kernel_rfl) ?_
  clear HS150 HR151
  refine th_n ?_
  refine wp_ret ?_
  obtain rfl := Option.some.inj hP
  refine ret1 E rfl rfl ?_
  exact ⟨_, rfl, ⟨false, rfl, rfl, H.sel [8, 9] rfl⟩⟩
 replace hP := ite_f h147 hP
 obtain ⟨g166, hP⟩ := ask_inv hP
 obtain ⟨b167, o168, e_b167⟩ := (H.rd 2 rds_ro).addr (idx_pos g166)
 subst e_b167
 refine meet_cut (fun a w169 => Fr a 19 [(2, .bool (List.getD raAccept (Int.toNat rq) false))] ∧ Hp S Fa w0 w169 [.ro false cBool (some ⟨b167, o168, none⟩) raAccept, .ro false (cInt .i64) A7 raGuard, .ro false cNode A11 raNodes, .ro false (cInt .i64) A15 rxRanks, .ro false (cSl (cInt .u8)) A19 rxReply, .ro false (cInt .u8) A23 rxChoice, .row true cS98 99 A27 c28 rrounds, .box g1 74 [.int .i64 raProps, .slice (some ⟨b167, o168, none⟩) (List.length raAccept) c4, .slice A7 (List.length raGuard) c8, .slice A11 (List.length raNodes) c12, .int .u8 rs.1, .int .u8 rs.2, .bool rxWins, .slice A15 (List.length rxRanks) c16, .slice A19 (List.length rxReply) c20, .slice A23 (List.length rxChoice) c24, .int .i64 rq, .slice A27 (List.length rrounds) c28, .bool rmade]]) ?_ ?_
 ·
  have HR173 := H
  refine dr_start (S := fun w_ => Chg (atL [.box g1 74 [.int .i64 raProps, .slice (some ⟨b167, o168, none⟩) (List.length raAccept) c4, .slice A7 (List.length raGuard) c8, .slice A11 (List.length raNodes) c12, .int .u8 rs.1, .int .u8 rs.2, .bool rxWins, .slice A15 (List.length rxRanks) c16, .slice A19 (List.length rxReply) c20, .slice A23 (List.length rxChoice) c24, .int .i64 rq, .slice A27 (List.length rrounds) c28, .bool rmade], .row true cS98 99 A27 c28 rrounds]) w0 w_) (by kernel_rfl) ?_
  intro w170 hc171
  have HS172 : Chg (atL [.box g1 74 [.int .i64 raProps, .slice (some ⟨b167, o168, none⟩) (List.length raAccept) c4, .slice A7 (List.length raGuard) c8, .slice A11 (List.length raNodes) c12, .int .u8 rs.1, .int .u8 rs.2, .bool rxWins, .slice A15 (List.length rxRanks) c16, .slice A19 (List.length rxReply) c20, .slice A23 (List.length rxChoice) c24, .int .i64 rq, .slice A27 (List.length rrounds) c28, .bool rmade], .row true cS98 99 A27 c28 rrounds]) w0 w170 := hc171.mono (fun _ _ h_ => h_.elim)
  replace H := H.ext hc171
  refine dr tbok (by kernel_rfl) [0] [] [(0, .pointer (some ⟨g1, 0, none⟩)), (3, .pointer (some ⟨g1, 0, none⟩))] (fun w_ => []) 16 E (fun _ _ => by kernel_rfl) (fun w_ hS_ => trivial) (by kernel_rfl) HS172 ?_
  clear E; intro a E
  refine wpAnyH_all (rs := [1]) (by kernel_rfl) (by simp) ?_
  refine all1 ?_
  refine wpOp_of_list rfl ?_
  obtain ⟨Fa174, Hc175, hb176⟩ := H.call [0, 1] [(2, false), (3, false), (4, false), (5, false), (6, false), (7, false)] rfl rfl ⟨flat_plain, trivial⟩
  refine e_call E rfl rfl Try.func60 rfl rfl rfl (play_Referee_none_calls g1 (some ⟨b167, o168, none⟩) c4 A7 c8 A11 c12 A15 c16 A19 c20 A23 c24 A27 c28 raProps raAccept raGuard raNodes (rs.1, rs.2) rxWins rxRanks rxReply rxChoice rq rrounds rmade hk5 hk9 hk13 hk17 hk21 hk25 Hc175 h132) ?_
  intro v182 w181 a hR183 E_
  obtain ⟨x_, hr_, rfl, HR185⟩ := hR183
  subst hr_
  replace E := E_ _ rfl; clear E_
  obtain ⟨H_, hc184⟩ := hb176 _ _ HR185 rfl
  replace HS172 := HS172.trans hc184 (fun k_ hk_ h_ => h_.elim (fun h_ => by have hs_ := HS172.size; exfalso; omega) (fun h_ => h_.elim (fun h_ => (fun _ _ h_ => Or.inl h_) k_ hk_ h_) (fun h_ => h_.elim (fun h_ => (fun _ _ h_ => Or.inr (Or.inl h_)) k_ hk_ h_) (fun h_ => h_.elim))))
  replace H := H_; clear H_; try dsimp only [setn, addE, goneL] at H
  refine wpList_nil ?_
  refine th_n ⟨HS172, ?_⟩
  refine dr tbok (by kernel_rfl) [2, 3] [] [(0, .pointer (some ⟨g1, 0, none⟩)), (6, .bool (!r131))] (fun w_ => []) 13 E (fun _ _ => by kernel_rfl) (fun w_ hS_ => trivial) (by kernel_rfl) HS172 ?_
  clear E; intro a E
  replace E := E.same (t := 6) (u := .bool true) rfl (congrArg Value.bool (not_f' ((eq_false_of_ne_true h147))))
  refine dr tbok (by kernel_rfl) [4, 5, 6, 7, 9, 10, 11] [] [(6, .bool true), (10, .pointer (some ⟨g1, 1, none⟩)), (14, .pointer (some ⟨g1, 10, none⟩))] (fun w_ => []) 6 E (fun _ _ => by kernel_rfl) (fun w_ hS_ => trivial) (by kernel_rfl) HS172 ?_
  clear E; intro a E
  refine wpAnyH_all (rs := [8, 12]) (by kernel_rfl) (by simp) ?_
  refine all2 ?_ ?_
  ·
   refine wpOp_of_list rfl ?_
   refine vr tbok 1 [.slice (some ⟨b167, o168, none⟩) (List.length raAccept) c4] [(6, .bool true), (10, .pointer (some ⟨g1, 1, none⟩)), (11, .slice (some ⟨b167, o168, none⟩) (List.length raAccept) c4), (14, .pointer (some ⟨g1, 10, none⟩))] [World.cell? w181 ⟨g1, 1, none⟩ = some (.slice (some ⟨b167, o168, none⟩) (List.length raAccept) c4)] E (by kernel_rfl) ((H.box 9 rfl).cell (j := 1) rfl) ?_
   clear E; intro a E
   refine wpList_nil ?_
   refine th_n ⟨HS172, ?_⟩
   refine wpAnyH_all (rs := [12]) (by kernel_rfl) (by simp) ?_
   refine all1 ?_
   refine wpOp_of_list rfl ?_
   refine vr tbok 1 [.int .i64 rq] [(6, .bool true), (11, .slice (some ⟨b167, o168, none⟩) (List.length raAccept) c4), (14, .pointer (some ⟨g1, 10, none⟩)), (15, .int .i64 rq)] [World.cell? w181 ⟨g1, 10, none⟩ = some (.int .i64 rq)] E (by kernel_rfl) ((H.box 9 rfl).cell (j := 10) rfl) ?_
   clear E; intro a E
   refine wpList_nil ?_
   refine th_n ⟨HS172, ?_⟩
   refine dr tbok (by kernel_rfl) [13, 14, 15, 16] [.bool (List.getD raAccept (Int.toNat rq) false)] [(2, .bool (List.getD raAccept (Int.toNat rq) false)), (6, .bool true)] (fun w_ => [0 ≤ rq ∧ rq < (((List.length raAccept) : Nat) : Int), World.cell? w_ ⟨b167, o168 + (Int.toNat rq) * 1, none⟩ = some (.bool (List.getD raAccept (Int.toNat rq) false))]) 0 E (fun _ _ => by kernel_rfl) (fun w_ hS_ => ⟨g166, Rds.at1 (HR173.rdk [0, 1] hS_ 2 rds_ro rfl) false g166⟩) (by kernel_rfl) HS172 ?_
   clear E; intro a E
   refine dr_done (by kernel_rfl) ?_
   exact .inl ⟨rfl, E.pick _ ⟨rfl, trivial⟩, H.sel [2, 3, 4, 5, 6, 7, 8, 9] rfl⟩
  refine wpOp_of_list rfl ?_
  refine vr tbok 1 [.int .i64 rq] [(6, .bool true), (10, .pointer (some ⟨g1, 1, none⟩)), (14, .pointer (some ⟨g1, 10, none⟩)), (15, .int .i64 rq)] [World.cell? w181 ⟨g1, 10, none⟩ = some (.int .i64 rq)] E (by kernel_rfl) ((H.box 9 rfl).cell (j := 10) rfl) ?_
  clear E; intro a E
  refine wpList_nil ?_
  refine th_n ⟨HS172, ?_⟩
  refine wpAnyH_all (rs := [8]) (by kernel_rfl) (by simp) ?_
  refine all1 ?_
  refine wpOp_of_list rfl ?_
  refine vr tbok 1 [.slice (some ⟨b167, o168, none⟩) (List.length raAccept) c4] [(6, .bool true), (10, .pointer (some ⟨g1, 1, none⟩)), (11, .slice (some ⟨b167, o168, none⟩) (List.length raAccept) c4), (15, .int .i64 rq)] [World.cell? w181 ⟨g1, 1, none⟩ = some (.slice (some ⟨b167, o168, none⟩) (List.length raAccept) c4)] E (by kernel_rfl) ((H.box 9 rfl).cell (j := 1) rfl) ?_
  clear E; intro a E
  refine wpList_nil ?_
  refine th_n ⟨HS172, ?_⟩
  refine dr tbok (by kernel_rfl) [13, 14, 15, 16] [.bool (List.getD raAccept (Int.toNat rq) false)] [(2, .bool (List.getD raAccept (Int.toNat rq) false)), (6, .bool true)] (fun w_ => [0 ≤ rq ∧ rq < (((List.length raAccept) : Nat) : Int), World.cell? w_ ⟨b167, o168 + (Int.toNat rq) * 1, none⟩ = some (.bool (List.getD raAccept (Int.toNat rq) false))]) 0 E (fun _ _ => by kernel_rfl) (fun w_ hS_ => ⟨g166, Rds.at1 (HR173.rdk [0, 1] hS_ 2 rds_ro rfl) false g166⟩) (by kernel_rfl) HS172 ?_
  clear E; intro a E
  refine dr_done (by kernel_rfl) ?_
  exact .inl ⟨rfl, E.pick _ ⟨rfl, trivial⟩, H.sel [2, 3, 4, 5, 6, 7, 8, 9] rfl⟩
 clear E H; rintro a w169 ⟨E, H⟩
 refine th_n ?_
 refine wp_ret ?_
 obtain rfl := Option.some.inj hP
 refine ret1 E rfl rfl ?_
 exact ⟨_, rfl, ⟨(List.getD raAccept (Int.toNat rq) false), rfl, rfl, H.sel [6, 7] rfl⟩⟩

end Go.V
