/- Plain functions, and the calls that give them. -/
import Derived.Test.YtihindpnnbllkaaA3
set_option linter.all false
set_option linter.unusedVariables false
set_option linter.unnecessarySimpa false
set_option linter.unusedSimpArgs false
set_option maxRecDepth 100000
set_option maxHeartbeats 4000000
namespace Go.V
open Go Go.Proofs
/-! slices.Clone[[]int,int] -/
def slices_Clone_int_int_some (N : Nat) (s : List Int) : Option (List Int) :=
  ask (List.length ([] : List Int) + List.length s ≤ 1000000000) <|
  some (([] : List Int) ++ s)
def slices_Clone_int_int_nil (N : Nat) : Option (List Int) :=
  some []
def slices_Clone_int_int (N : Nat) (xs : List Int) : Option (List Int) := slices_Clone_int_int_some N xs
theorem slices_Clone_int_int_some_calls {N : Nat} {S Fa : Nat → Prop} {w0 : World} {r : List Int} (A1 : Addr) (c2 : Nat) (s : List Int) (hk3 : List.length s ≤ c2) (H : Hp S Fa w0 w0 [.ro false (cInt .i64) (some A1) s]) (hP : slices_Clone_int_int_some N s = some r) :
    Calls Try.prog 63 #[.slice (some A1) s.length c2] w0 fun e w' => ∃ v, e = .returned v ∧ ∃ (A16 : Option Addr) (c17 : Nat), v = .slice A16 r.length c17 ∧ Hp S Fa w0 w' [.row true (cInt .i64) 3 A16 c17 r] := by
 refine enterV (n := 8) Try.func63 rfl rfl rfl ?_
 intro a E
 replace E := E.pick [(0, .slice (some A1) s.length c2)] ⟨rfl, trivial⟩
 rw [slices_Clone_int_int_some] at hP
 refine sr_ <| vp 1 [] E ?_
 clear E; intro a E
 refine nn_ <| wp_seq <| sr_ <| vp 1 [(3, .slice (some A1) s.length c2)] E ?_
 clear E; intro a E
 refine e_eqNil E rfl rfl tbok rfl rfl rfl rfl ?_
 clear E; intro a E
 refine nn_ <| c_false E rfl ?_
 refine wp_skip <| th_n <| sr_ <| h_buildSlice (ps := []) (cs := []) H E rfl rfl tbok rfl rfl (by kernel_rfl) ?_
 clear H E; intro w6 g5 a hc7 hg9 H E; replace E := E _ rfl; try dsimp only [setn, addE, goneL] at H
 refine vp 1 [(6, .slice (some A1) s.length c2)] E ?_
 clear E; intro a E
 replace H := H.boxRow (cInt .i64) true ([] : List Int) 1 rfl (fun _ _ => rfl) (Nat.le_of_ble_eq_true rfl); try dsimp only [setn, addE, goneL] at H
 replace H := H.rowx 1 rfl; try dsimp only [setn, addE, goneL] at H
 obtain ⟨g10, hP⟩ := ask_inv hP
 refine h_append (cInt .i64) (xs := ([] : List Int)) (ys := s) (0 : Int) H 1 rfl E rfl rfl tbok rfl rfl rfl rfl rfl (fun _ _ => rfl) rfl rfl (fun _ HF_ => HF_.srcF flat_plain 0 rds_ro) g10 ?_
 clear H E; intro w11 A12 c13 a hc14 hA15 H E; replace E := E _ rfl; try dsimp only [setn, addE, goneL] at H
 refine vp 1 [(2, .slice A12 (List.length (([] : List Int) ++ s)) c13)] E ?_
 clear E; intro a E
 refine nn_ <| wp_ret ?_
 obtain rfl := Option.some.inj hP
 refine ret1 E rfl rfl ?_
 exact ⟨_, rfl, A12, c13, rfl, H.sel [1] rfl⟩

theorem slices_Clone_int_int_nil_callsC {N : Nat} {S Fa : Nat → Prop} {w0 : World} {r : List Int} (c0 : Nat) (H : Hp S Fa w0 w0 []) (hP : slices_Clone_int_int_nil N  = some r) :
    Calls Try.prog 63 #[.slice none 0 c0] w0 fun e w' => ∃ v, e = .returned v ∧ ∃ (A2 : Option Addr) (c3 : Nat), v = .slice A2 r.length c3 ∧ Hp S Fa w0 w' [.row true (cInt .i64) 3 A2 c3 r] := by
 refine enterV (n := 8) Try.func63 rfl rfl rfl ?_
 intro a E
 replace E := E.pick [(0, .slice none 0 c0)] ⟨rfl, trivial⟩
 rw [slices_Clone_int_int_nil] at hP
 refine sr_ <| vp 1 [] E ?_
 clear E; intro a E
 refine nn_ <| wp_seq <| sr_ <| vp 1 [(3, .slice none 0 c0)] E ?_
 clear E; intro a E
 refine e_eqNil E rfl rfl tbok rfl rfl rfl rfl ?_
 clear E; intro a E
 refine nn_ <| c_true E rfl ?_
 refine sr_ <| vp 1 [(2, .slice none 0 0)] E ?_
 clear E; intro a E
 refine nn_ <| wp_ret <| th_ret ?_
 replace H := H.nilrow (cInt .i64) 3; try dsimp only [setn, addE, goneL] at H
 obtain rfl := Option.some.inj hP
 refine ret1 E rfl rfl ?_
 exact ⟨_, rfl, none, 0, rfl, H.sel [0] rfl⟩

theorem slices_Clone_int_int_calls {N : Nat} {S Fa : Nat → Prop} {w0 : World} {r : List Int} (A1 : Option Addr) (c2 : Nat) (xs : List Int) (hk : List.length xs ≤ c2) (H : Hp S Fa w0 w0 [.ro false (cInt .i64) A1 xs]) (hP : slices_Clone_int_int N xs = some r) :
    Calls Try.prog 63 #[.slice A1 xs.length c2] w0 fun e w' => ∃ v, e = .returned v ∧ ∃ (A9 : Option Addr) (c9 : Nat), v = .slice A9 r.length c9 ∧ Hp S Fa w0 w' [.row true (cInt .i64) 3 A9 c9 r] := by
  cases A1 with
  | some ad => exact slices_Clone_int_int_some_calls ad c2 xs hk H hP
  | none =>
    obtain rfl := (H.rd 0 rds_ro).nil
    have h2 : c2 = c2 := rfl
    rw [slices_Clone_int_int, slices_Clone_int_int_some] at hP
    obtain ⟨_, hr⟩ := ask_inv hP
    obtain rfl : [] = r := Option.some.inj hr
    exact slices_Clone_int_int_nil_callsC (N := N) c2 (H.sel [] rfl) rfl

/-! (*rejoinder/guard.Store).none -/
def guard_Store_none (N : Nat) (sn : Int) (snodes : List Nd) (sat : List (Nd × Int)) : Option Bool :=
  some false
theorem guard_Store_none_calls {N : Nat} {S Fa : Nat → Prop} {w0 : World} {r : Bool} (g1 : Nat) (A3 : Option Addr) (c4 : Nat) (g6 : Nat) (sn : Int) (snodes : List Nd) (sat : List (Nd × Int)) (H : Hp S Fa w0 w0 [.box g1 120 [.int .i64 sn, .slice A3 snodes.length c4, .map (some g6)], .row true cNode 49 A3 c4 snodes, .mp Try.prog 49 g6 (List.map (fun p_ => (ndV p_.1, (fun u_ : Int => .int .i64 u_) p_.2)) sat)]) (hP : guard_Store_none N sn snodes sat = some r) :
    Calls Try.prog 83 #[.pointer (some ⟨g1, 0, none⟩)] w0 fun e w' => ∃ v, e = .returned v ∧ (∃ (x_ : Bool), r = x_ ∧ v = .bool x_ ∧ Hp S Fa w0 w' [.row true cNode 49 A3 c4 snodes, .mp Try.prog 49 g6 (List.map (fun p_ => (ndV p_.1, (fun u_ : Int => .int .i64 u_) p_.2)) sat), .box g1 120 [.int .i64 sn, .slice A3 snodes.length c4, .map (some g6)]]) := by
 refine enterV (n := 12) Try.func83 rfl rfl rfl ?_
 intro a E
 replace E := E.pick [(0, .pointer (some ⟨g1, 0, none⟩))] ⟨rfl, trivial⟩
 rw [guard_Store_none] at hP
 refine sr_ <| vp 1 [] E ?_
 clear E; intro a E
 refine nn_ <| sr_ <| vq 10 [.map (some g6)] [(2, .bool false)] [World.cell? w0 ⟨g1, 2, none⟩ = some (.map (some g6))] E ((H.box 0 rfl).cell (j := 2) rfl) ?_
 clear E; intro a E
 refine nn_ <| wp_ret ?_
 obtain rfl := Option.some.inj hP
 refine ret1 E rfl rfl ?_
 exact ⟨_, rfl, ⟨false, rfl, rfl, H.sel [1, 2, 0] rfl⟩⟩

/-! (*rejoinder/guard.Store).add -/
def guard_Store_add_l0 (N : Nat) (where_ : List Int) : Nat → (List Int) → (List Int) → Int → Option ((List Int) × (List Int))
  | 0, _, _, _ => none
  | m247 + 1, lo200, hi203, i206 =>
    if i206 < (where_.length : Int) then
      ask (idx i206 where_.length) <|
      ask (List.length lo200 + List.length ([(List.getD where_ i206.toNat 0)] : List Int) ≤ 1000000000) <|
      ask (in64 (i206 + 1)) <|
      ask (idx (i206 + 1) where_.length) <|
      ask (List.length hi203 + List.length ([(List.getD where_ (Int.toNat (i206 + 1)) 0)] : List Int) ≤ 1000000000) <|
      ask (in64 (i206 + 2)) <|
      guard_Store_add_l0 N where_ m247 (lo200 ++ ([(List.getD where_ i206.toNat 0)] : List Int)) (hi203 ++ ([(List.getD where_ (Int.toNat (i206 + 1)) 0)] : List Int)) (i206 + 2)
    else
      some (lo200, hi203)
def guard_Store_add (N : Nat) : Nat → Int → (List Nd) → (List (Nd × Int)) → (List Int) → Int → Option (Int × (List Nd) × (List (Nd × Int)))
  | 0, _, _, _, _, _ => none
  | m12 + 1, sn, snodes, sat, where_, p =>
  if ((where_.length : Int) : Int) = 1 then
    ask (idx (0 : Int) where_.length) <|
    ask (in64 ((-1) - (List.getD where_ (Int.toNat (0 : Int)) 0))) <|
    some ((-1) - (List.getD where_ (Int.toNat (0 : Int)) 0), snodes, sat)
  else
    ask (0 ≤ (0 : Int) ∧ (0 : Int) ≤ (IntKind.i64.wrap (Int.tdiv (where_.length : Int) 2)) ∧ (IntKind.i64.wrap (Int.tdiv (where_.length : Int) 2)) ≤ 1000000000) <|
    Option.bind (guard_Store_add_l0 N where_ N (List.replicate (Int.toNat (0 : Int)) (0 : Int)) (List.replicate (Int.toNat (0 : Int)) (0 : Int)) 0) fun x248 =>
    ask (in64 (p + 1)) <|
    Option.bind (guard_Store_add N m12 sn snodes sat x248.1 (p + 1)) fun r367 =>
    Option.bind (guard_Store_add N m12 sn r367.2.1 r367.2.2 x248.2 (p + 1)) fun r388 =>
    if (r367.1 : Int) = r388.1 then
      some (r367.1, r388.2.1, r388.2.2)
    else
      ask (ndOk (⟨p, r367.1, r388.1⟩ : Nd)) <|
      if (Option.isSome (mget r388.2.2 (⟨p, r367.1, r388.1⟩ : Nd))) = true then
        some ((Option.getD (mget r388.2.2 (⟨p, r367.1, r388.1⟩ : Nd)) 0), r388.2.1, r388.2.2)
      else
        ask (mget r388.2.2 (⟨p, r367.1, r388.1⟩ : Nd) = none) <|
        ask (List.length r388.2.1 + List.length ([(⟨p, r367.1, r388.1⟩ : Nd)] : List Nd) ≤ 1000000000) <|
        some ((r388.2.1.length : Int), r388.2.1 ++ ([(⟨p, r367.1, r388.1⟩ : Nd)] : List Nd), r388.2.2 ++ [((⟨p, r367.1, r388.1⟩ : Nd), (r388.2.1.length : Int))])
theorem guard_Store_add_calls {N : Nat} : ∀ (m_ : Nat) (S Fa : Nat → Prop) (w0 : World) (g1 : Nat) (A3 : Option Addr) (c4 : Nat) (g6 : Nat) (A8 : Option Addr) (c9 : Nat) (sn : Int) (snodes : List Nd) (sat : List (Nd × Int)) (where_ : List Int) (p : Int) (r : Int × (List Nd) × (List (Nd × Int))) (hk10 : List.length where_ ≤ c9) (H : Hp S Fa w0 w0 [.box g1 120 [.int .i64 sn, .slice A3 snodes.length c4, .map (some g6)], .row true cNode 49 A3 c4 snodes, .mp Try.prog 49 g6 (List.map (fun p_ => (ndV p_.1, (fun u_ : Int => .int .i64 u_) p_.2)) sat), .ro false (cInt .i64) A8 where_]) (hP : guard_Store_add N m_ sn snodes sat where_ p = some r),
    Calls Try.prog 84 #[.pointer (some ⟨g1, 0, none⟩), .slice A8 where_.length c9, .int .i64 p] w0 fun e w' => ∃ v, e = .returned v ∧ (∃ (x_ : Int × (List Nd) × (List (Nd × Int))) (A15 : Option Addr) (c16 : Nat), r = x_ ∧ v = .int .i64 x_.1 ∧ Hp S Fa w0 w' [.box g1 120 [.int .i64 sn, .slice A15 x_.2.1.length c16, .map (some g6)], .row true cNode 49 A15 c16 x_.2.1, .mp Try.prog 49 g6 (List.map (fun p_ => (ndV p_.1, (fun u_ : Int => .int .i64 u_) p_.2)) x_.2.2)]) := by
 intro m12; induction m12 with
 | zero => intros; rename_i hP; rw [guard_Store_add] at hP; cases hP
 | succ m12 ih_ =>
 intro S Fa w0 g1 A3 c4 g6 A8 c9 sn snodes sat where_ p r hk10 H hP
 refine enterV (n := 103) Try.func84 rfl rfl rfl ?_
 intro a E
 replace E := E.pick [(0, .pointer (some ⟨g1, 0, none⟩)), (1, .slice A8 where_.length c9), (2, .int .i64 p)] ⟨rfl, rfl, rfl, trivial⟩
 rw [guard_Store_add] at hP
 refine sr_ <| vp 1 [] E ?_
 clear E; intro a E
 refine nn_ <| wp_seq <| sr_ <| vp 3 [(16, .bool (((where_.length : Int) : Int) == 1))] E ?_
 clear E; intro a E
 refine nn_ ?_
 revert E; refine csE 16 rfl (fun hb_ E => ?_) fun hb_ E => ?_
 ·
  have h118 : ((where_.length : Int) : Int) = 1 := eq_of_beq hb_
  replace hP := ite_t h118 hP
  refine c_true E rfl <| sr_ ?_
  obtain ⟨g119, hP⟩ := ask_inv hP
  obtain ⟨b120, o121, e_b120⟩ := (H.rd 3 rds_ro).addr (idx_pos g119)
  subst e_b120
  obtain ⟨g122, hP⟩ := ask_inv hP
  refine vq 5 [.int .i64 (List.getD where_ (Int.toNat (0 : Int)) 0), .int .i64 ((-1) - (List.getD where_ (Int.toNat (0 : Int)) 0))] [(6, .int .i64 ((-1) - (List.getD where_ (Int.toNat (0 : Int)) 0)))] [0 ≤ (0 : Int) ∧ (0 : Int) < (where_.length : Int), World.cell? w0 ⟨b120, o121 + (Int.toNat (0 : Int)) * 1, none⟩ = some (.int .i64 (List.getD where_ (Int.toNat (0 : Int)) 0)), IntKind.i64.wrap ((-1) - (List.getD where_ (Int.toNat (0 : Int)) 0)) = (-1) - (List.getD where_ (Int.toNat (0 : Int)) 0)] E ⟨g119, Rds.at1 (H.rd 3 rds_ro) 0 g119, wrap_in g122⟩ ?_
  clear E; intro a E
  refine nn_ <| wp_ret <| th_ret ?_
  obtain rfl := Option.some.inj hP
  refine ret1 E rfl rfl ?_
  exact ⟨_, rfl, ⟨((-1) - (List.getD where_ (Int.toNat (0 : Int)) 0), snodes, sat), A3, c4, rfl, rfl, H.sel [0, 1, 2] rfl⟩⟩
 have h123 : ¬ (((where_.length : Int) : Int) = 1) := ne_of_beq_false hb_
 replace hP := ite_f h123 hP
 refine c_false E rfl <| wp_skip <| th_n <| sr_ <| vq 4 [.int .i64 (IntKind.i64.wrap (Int.tdiv (where_.length : Int) 2))] [(7, .int .i64 (IntKind.i64.wrap (Int.tdiv (where_.length : Int) 2)))] [(2 : Int) ≠ 0 ∧ IntKind.i64.wrap (Int.tdiv (where_.length : Int) 2) = IntKind.i64.wrap (Int.tdiv (where_.length : Int) 2)] E (⟨by decide, rfl⟩) ?_
 clear E; intro a E
 refine nn_ <| wp_seq ?_
 obtain ⟨g124, hP⟩ := ask_inv hP
 refine meet_cut (fun a w139 => ∃ (A136 : Option Addr) (A138 : Option Addr), Fr a 103 [(0, .pointer (some ⟨g1, 0, none⟩)), (1, .slice A8 where_.length c9), (2, .int .i64 p), (8, .slice A136 (List.length (List.replicate (Int.toNat (0 : Int)) (0 : Int))) (Int.toNat (IntKind.i64.wrap (Int.tdiv (where_.length : Int) 2)))), (9, .slice A138 (List.length (List.replicate (Int.toNat (0 : Int)) (0 : Int))) (Int.toNat (IntKind.i64.wrap (Int.tdiv (where_.length : Int) 2))))] ∧ Hp S Fa w0 w139 [.row true cNode 49 A3 c4 snodes, .mp Try.prog 49 g6 (List.map (fun p_ => (ndV p_.1, (fun u_ : Int => .int .i64 u_) p_.2)) sat), .box g1 120 [.int .i64 sn, .slice A3 snodes.length c4, .map (some g6)], .ro false (cInt .i64) A8 where_, .rowx true (cInt .i64) 3 A136 (Int.toNat (IntKind.i64.wrap (Int.tdiv (where_.length : Int) 2))) (List.replicate (Int.toNat (0 : Int)) (0 : Int)) (List.replicate (Int.toNat (IntKind.i64.wrap (Int.tdiv (where_.length : Int) 2)) - Int.toNat (0 : Int)) (0 : Int)), .rowx true (cInt .i64) 3 A138 (Int.toNat (IntKind.i64.wrap (Int.tdiv (where_.length : Int) 2))) (List.replicate (Int.toNat (0 : Int)) (0 : Int)) (List.replicate (Int.toNat (IntKind.i64.wrap (Int.tdiv (where_.length : Int) 2)) - Int.toNat (0 : Int)) (0 : Int))]) ?_ ?_
 ·
  have HR143 := H
  refine dr_start (S := fun w_ => Chg (atL []) w0 w_) (by kernel_rfl) ?_
  intro w140 hc141
  have HS142 : Chg (atL []) w0 w140 := hc141.mono (fun _ _ h_ => h_.elim)
  replace H := H.ext hc141
  refine dn tbok (by kernel_rfl) [0, 2] [] [(24, .int .i64 (IntKind.i64.wrap (Int.tdiv (where_.length : Int) 2))), (26, .int .i64 (IntKind.i64.wrap (Int.tdiv (where_.length : Int) 2)))] (fun w_ => []) 4 E (fun _ _ => by kernel_rfl) (by kernel_rfl) (fun w_ hS_ => trivial) (by kernel_rfl) HS142 ?_
  clear E; intro a E
  refine wpAnyH_all (rs := [1, 3]) (by kernel_rfl) (by simp) ?_
  refine all2 ?_ ?_
  ·
   refine wpOp_of_list rfl ?_
   refine h_make (cInt .i64) (0 : Int) H E rfl rfl tbok rfl rfl rfl rfl g124 rfl rfl rfl (fun _ _ => rfl) ?_
   intro w145 g144 a hc146 hg148 H_ E_
   replace E := E_ _ rfl; clear E_
   have hin149 : ∀ q_, q_ < w0.heap.size → At (some ⟨g144, 0, none⟩) q_ → (atL []) q_ := fun q_ h1_ h2_ => by have hs_ := HS142.size; have h4_ : q_ = g144 := At.of_g h2_; exfalso; omega
   replace HS142 := HS142.ext hc146
   replace H := H_; clear H_; try dsimp only [setn, addE, goneL] at H
   refine nl_ <| th_n ⟨HS142, ?_⟩
   refine dn tbok (by kernel_rfl) [4] [] [(8, .slice (some ⟨g144, 0, none⟩) (List.length (List.replicate (Int.toNat (0 : Int)) (0 : Int))) (Int.toNat (IntKind.i64.wrap (Int.tdiv (where_.length : Int) 2))))] (fun w_ => []) 2 E (fun _ _ => by kernel_rfl) (by kernel_rfl) (fun w_ hS_ => trivial) (by kernel_rfl) HS142 ?_
   clear E; intro a E
   refine wpAnyH_all (rs := [3]) (by kernel_rfl) (by simp) ?_
   refine all1 ?_
   refine wpOp_of_list rfl ?_
   refine h_make (cInt .i64) (0 : Int) H E rfl rfl tbok rfl rfl rfl rfl g124 rfl rfl rfl (fun _ _ => rfl) ?_
   intro w151 g150 a hc152 hg154 H_ E_
   replace E := E_ _ rfl; clear E_
   have hin155 : ∀ q_, q_ < w0.heap.size → At (some ⟨g150, 0, none⟩) q_ → (atL []) q_ := fun q_ h1_ h2_ => by have hs_ := HS142.size; have h4_ : q_ = g150 := At.of_g h2_; exfalso; omega
   replace HS142 := HS142.ext hc152
   replace H := H_; clear H_; try dsimp only [setn, addE, goneL] at H
   refine nl_ <| th_n ⟨HS142, ?_⟩
   refine dn tbok (by kernel_rfl) [5] [] [(9, .slice (some ⟨g150, 0, none⟩) (List.length (List.replicate (Int.toNat (0 : Int)) (0 : Int))) (Int.toNat (IntKind.i64.wrap (Int.tdiv (where_.length : Int) 2))))] (fun w_ => []) 0 E (fun _ _ => by kernel_rfl) (by kernel_rfl) (fun w_ hS_ => trivial) (by kernel_rfl) HS142 ?_
   clear E; intro a E
   refine dr_done (by kernel_rfl) ?_
   exact .inl ⟨rfl, (some ⟨g144, 0, none⟩), (some ⟨g150, 0, none⟩), E.pk, H.sel [1, 2, 0, 3, 4, 5] rfl⟩
  refine wpOp_of_list rfl ?_
  refine h_make (cInt .i64) (0 : Int) H E rfl rfl tbok rfl rfl rfl rfl g124 rfl rfl rfl (fun _ _ => rfl) ?_
  intro w157 g156 a hc158 hg160 H_ E_
  replace E := E_ _ rfl; clear E_
  have hin161 : ∀ q_, q_ < w0.heap.size → At (some ⟨g156, 0, none⟩) q_ → (atL []) q_ := fun q_ h1_ h2_ => by have hs_ := HS142.size; have h4_ : q_ = g156 := At.of_g h2_; exfalso; omega
  replace HS142 := HS142.ext hc158
  replace H := H_; clear H_; try dsimp only [setn, addE, goneL] at H
  refine nl_ <| th_n ⟨HS142, ?_⟩
  refine wpAnyH_all (rs := [1]) (by kernel_rfl) (by simp) ?_
  refine all1 ?_
  refine wpOp_of_list rfl ?_
  refine h_make (cInt .i64) (0 : Int) H E rfl rfl tbok rfl rfl rfl rfl g124 rfl rfl rfl (fun _ _ => rfl) ?_
  intro w163 g162 a hc164 hg166 H_ E_
  replace E := E_ _ rfl; clear E_
  have hin167 : ∀ q_, q_ < w0.heap.size → At (some ⟨g162, 0, none⟩) q_ → (atL []) q_ := fun q_ h1_ h2_ => by have hs_ := HS142.size; have h4_ : q_ = g162 := At.of_g h2_; exfalso; omega
  replace HS142 := HS142.ext hc164
  replace H := H_; clear H_; try dsimp only [setn, addE, goneL] at H
  refine nl_ <| th_n ⟨HS142, ?_⟩
  refine dn tbok (by kernel_rfl) [4, 5] [] [(8, .slice (some ⟨g162, 0, none⟩) (List.length (List.replicate (Int.toNat (0 : Int)) (0 : Int))) (Int.toNat (IntKind.i64.wrap (Int.tdiv (where_.length : Int) 2)))), (9, .slice (some ⟨g156, 0, none⟩) (List.length (List.replicate (Int.toNat (0 : Int)) (0 : Int))) (Int.toNat (IntKind.i64.wrap (Int.tdiv (where_.length : Int) 2))))] (fun w_ => []) 0 E (fun _ _ => by kernel_rfl) (by kernel_rfl) (fun w_ hS_ => trivial) (by kernel_rfl) HS142 ?_
  clear E; intro a E
  refine dr_done (by kernel_rfl) ?_
  exact .inl ⟨rfl, (some ⟨g162, 0, none⟩), (some ⟨g156, 0, none⟩), E.pk, H.sel [1, 2, 0, 3, 5, 4] rfl⟩
 clear E H; rintro a w139 ⟨A136, A138, E, H⟩
 refine th_n <| wp_seq <| sr_ <| vp 1 [(10, .int .i64 0)] E ?_
 clear E; intro a E
 refine nn_ <| wp_block ?_
 obtain ⟨x248, hL249, hK250⟩ := bind_inv hP
 clear hP
 replace H := H.rowx 4 rfl; try dsimp only [setn, addE, goneL] at H
 replace H := H.rowx 5 rfl; try dsimp only [setn, addE, goneL] at H
 refine loop_cut (fun i_ a w_ => (i_ = 0 ∧ ∃ (x253 : (List Int) × (List Int)), ∃ (A242 : Option Addr) (c243 : Nat) (A245 : Option Addr) (c246 : Nat), Fr a 103 [(0, .pointer (some ⟨g1, 0, none⟩)), (2, .int .i64 p), (8, .slice A242 x253.1.length c243), (9, .slice A245 x253.2.length c246)] ∧ Hp S Fa w0 w_ [.row true cNode 49 A3 c4 snodes, .mp Try.prog 49 g6 (List.map (fun p_ => (ndV p_.1, (fun u_ : Int => .int .i64 u_) p_.2)) sat), .box g1 120 [.int .i64 sn, .slice A3 snodes.length c4, .map (some g6)], .row true (cInt .i64) 3 A242 c243 x253.1, .row true (cInt .i64) 3 A245 c246 x253.2] ∧ x248 = x253)) ?_ ?_
 ·
  refine loopV (fun m252 a w251 => ∃ (lo200 : List Int) (hi203 : List Int) (i206 : Int), ∃ (A201 : Option Addr) (c202 : Nat) (A204 : Option Addr) (c205 : Nat), Fr a 103 [(0, .pointer (some ⟨g1, 0, none⟩)), (1, .slice A8 where_.length c9), (2, .int .i64 p), (8, .slice A201 lo200.length c202), (9, .slice A204 hi203.length c205), (10, .int .i64 i206)] ∧ Hp S Fa w0 w251 [.row true cNode 49 A3 c4 snodes, .mp Try.prog 49 g6 (List.map (fun p_ => (ndV p_.1, (fun u_ : Int => .int .i64 u_) p_.2)) sat), .box g1 120 [.int .i64 sn, .slice A3 snodes.length c4, .map (some g6)], .ro false (cInt .i64) A8 where_, .row true (cInt .i64) 3 A201 c202 lo200, .row true (cInt .i64) 3 A204 c205 hi203] ∧ guard_Store_add_l0 N where_ m252 lo200 hi203 i206 = some x248) N ?_ ?_
  ·
   exact ⟨List.replicate (Int.toNat (0 : Int)) (0 : Int), List.replicate (Int.toNat (0 : Int)) (0 : Int), 0, A136, (Int.toNat (IntKind.i64.wrap (Int.tdiv (where_.length : Int) 2))), A138, (Int.toNat (IntKind.i64.wrap (Int.tdiv (where_.length : Int) 2))), E.pk, H.sel (up 6) rfl, hL249⟩
  clear E H hL249; intro m252 a w251 hI_
  obtain ⟨lo200, hi203, i206, A201, c202, A204, c205, E, H, hP⟩ := hI_
  obtain ⟨m247, rfl⟩ : ∃ q_, m252 = q_ + 1 := by cases m252 with | zero => rw [guard_Store_add_l0] at hP; cases hP | succ q_ => exact ⟨q_, rfl⟩
  rw [guard_Store_add_l0] at hP
  refine wp_seq <| sr_ <| vp 4 [(31, .bool (decide (i206 < (where_.length : Int))))] E ?_
  clear E; intro a E
  refine nn_ ?_
  revert E; refine csE 31 rfl (fun hb_ E => ?_) fun hb_ E => ?_
  ·
   have h254 : i206 < (where_.length : Int) := of_decide_eq_true hb_
   replace hP := ite_t h254 hP
   refine c_true E rfl <| wp_skip <| th_n <| wp_seq <| wp_block ?_
   obtain ⟨g255, hP⟩ := ask_inv hP
   obtain ⟨b256, o257, e_b256⟩ := (H.rd 3 rds_ro).addr (idx_pos g255)
   subst e_b256
   obtain ⟨g263, hP⟩ := ask_inv hP
   obtain ⟨g269, hP⟩ := ask_inv hP
   obtain ⟨g270, hP⟩ := ask_inv hP
   obtain ⟨g276, hP⟩ := ask_inv hP
   refine meet_cut (fun a w286 => ∃ (A282 : Option Addr) (c283 : Nat) (A284 : Option Addr) (c285 : Nat), Fr a 103 [(0, .pointer (some ⟨g1, 0, none⟩)), (1, .slice (some ⟨b256, o257, none⟩) where_.length c9), (2, .int .i64 p), (8, .slice A282 (List.length (lo200 ++ ([(List.getD where_ i206.toNat 0)] : List Int))) c283), (9, .slice A284 (List.length (hi203 ++ ([(List.getD where_ (Int.toNat (i206 + 1)) 0)] : List Int))) c285), (10, .int .i64 i206)] ∧ Hp S Fa w0 w286 [.row true cNode 49 A3 c4 snodes, .mp Try.prog 49 g6 (List.map (fun p_ => (ndV p_.1, (fun u_ : Int => .int .i64 u_) p_.2)) sat), .box g1 120 [.int .i64 sn, .slice A3 snodes.length c4, .map (some g6)], .ro false (cInt .i64) (some ⟨b256, o257, none⟩) where_, .row true (cInt .i64) 3 A282 c283 (lo200 ++ ([(List.getD where_ i206.toNat 0)] : List Int)), .row true (cInt .i64) 3 A284 c285 (hi203 ++ ([(List.getD where_ (Int.toNat (i206 + 1)) 0)] : List Int))]) ?_ ?_
   ·
    have HR290 := H
    refine dr_start (S := fun w_ => Chg (atL [.row true (cInt .i64) 3 A201 c202 lo200, .row true (cInt .i64) 3 A204 c205 hi203]) w251 w_) (by kernel_rfl) ?_
    intro w287 hc288
    have HS289 : Chg (atL [.row true (cInt .i64) 3 A201 c202 lo200, .row true (cInt .i64) 3 A204 c205 hi203]) w251 w287 := hc288.mono (fun _ _ h_ => h_.elim)
    replace H := H.ext hc288
    refine dn tbok (by kernel_rfl) [0, 1, 2, 3, 4, 7, 8, 9, 10, 11, 12] [.int .i64 (List.getD where_ i206.toNat 0), .int .i64 (i206 + 1), .int .i64 (List.getD where_ (Int.toNat (i206 + 1)) 0)] [(34, .slice A201 lo200.length c202), (38, .int .i64 (List.getD where_ i206.toNat 0)), (41, .slice A204 hi203.length c205), (46, .int .i64 (List.getD where_ (Int.toNat (i206 + 1)) 0))] (fun w_ => [0 ≤ i206 ∧ i206 < (where_.length : Int), World.cell? w_ ⟨b256, o257 + i206.toNat * 1, none⟩ = some (.int .i64 (List.getD where_ i206.toNat 0)), IntKind.i64.wrap (i206 + 1) = i206 + 1, 0 ≤ (i206 + 1) ∧ (i206 + 1) < (where_.length : Int), World.cell? w_ ⟨b256, o257 + (Int.toNat (i206 + 1)) * 1, none⟩ = some (.int .i64 (List.getD where_ (Int.toNat (i206 + 1)) 0))]) 6 E (fun _ _ => by kernel_rfl) (by kernel_rfl) (fun w_ hS_ => ⟨g255, Rds.at1 (HR290.rdk [4, 5] hS_ 3 rds_ro rfl) 0 g255, wrap_in g269, g270, Rds.at1 (HR290.rdk [4, 5] hS_ 3 rds_ro rfl) 0 g270⟩) (by kernel_rfl) HS289 ?_
    clear E; intro a E
    refine wpAnyH_all (rs := [5, 13]) (by kernel_rfl) (by simp) ?_
    refine all2 ?_ ?_
    ·
     refine wpOp_of_list rfl ?_
     refine h_buildSlice (ps := [(0, .int .i64 (List.getD where_ i206.toNat 0))]) (cs := [.int .i64 (List.getD where_ i206.toNat 0)]) H E rfl rfl tbok rfl rfl (by kernel_rfl) ?_
     intro w292 g291 a hc293 hg295 H_ E_
     replace E := E_ _ rfl; clear E_
     have hin296 : ∀ q_, q_ < w251.heap.size → q_ = g291 → (atL [.row true (cInt .i64) 3 A201 c202 lo200, .row true (cInt .i64) 3 A204 c205 hi203]) q_ := fun q_ h1_ h2_ => by have hs_ := HS289.size; have h4_ : q_ = g291 := h2_; exfalso; omega
     replace HS289 := HS289.ext hc293
     replace H := H_; clear H_; try dsimp only [setn, addE, goneL] at H
     refine nl_ <| th_n ⟨HS289, ?_⟩
     refine wpAnyH_all (rs := [6, 13]) (by kernel_rfl) (by simp) ?_
     refine all2 ?_ ?_
     ·
      refine wpOp_of_list rfl ?_
      refine h_append (cInt .i64) (xs := lo200) (ys := ([(List.getD where_ i206.toNat 0)] : List Int)) (0 : Int) H 4 rfl E rfl rfl tbok rfl rfl rfl rfl rfl (fun _ _ => rfl) rfl rfl (fun _ HF_ => HF_.srcB 6 rfl (⟨_, _, rfl, rfl, rfl⟩)) g263 ?_
      intro w297 A298 c299 a hc300 hA301 H_ E_
      replace E := E_ _ rfl; clear E_
      have hin302 : ∀ q_, q_ < w251.heap.size → At A298 q_ → (atL [.row true (cInt .i64) 3 A201 c202 lo200, .row true (cInt .i64) 3 A204 c205 hi203]) q_ := fun q_ h1_ h2_ => (hA301 q_ h2_).elim ((fun _ _ h_ => Or.inl h_) q_ h1_) (fun h3_ => by have hs_ := HS289.size; exfalso; omega)
      replace HS289 := HS289.trans hc300 (fun k_ hk_ h_ => (fun _ _ h_ => Or.inl h_) k_ hk_ h_)
      replace H := H_; clear H_; try dsimp only [setn, addE, goneL] at H
      refine nl_ <| th_n ⟨HS289, ?_⟩
      refine wpAnyH_all (rs := [13]) (by kernel_rfl) (by simp) ?_
      refine all1 ?_
      refine wpOp_of_list rfl ?_
      refine h_buildSlice (ps := [(0, .int .i64 (List.getD where_ (Int.toNat (i206 + 1)) 0))]) (cs := [.int .i64 (List.getD where_ (Int.toNat (i206 + 1)) 0)]) H E rfl rfl tbok rfl rfl (by kernel_rfl) ?_
      intro w304 g303 a hc305 hg307 H_ E_
      replace E := E_ _ rfl; clear E_
      have hin308 : ∀ q_, q_ < w251.heap.size → q_ = g303 → (atL [.row true (cInt .i64) 3 A201 c202 lo200, .row true (cInt .i64) 3 A204 c205 hi203]) q_ := fun q_ h1_ h2_ => by have hs_ := HS289.size; have h4_ : q_ = g303 := h2_; exfalso; omega
      replace HS289 := HS289.ext hc305
      replace H := H_; clear H_; try dsimp only [setn, addE, goneL] at H
      refine nl_ <| th_n ⟨HS289, ?_⟩
      refine wpAnyH_all (rs := [14]) (by kernel_rfl) (by simp) ?_
      refine all1 ?_
      refine wpOp_of_list rfl ?_
      refine h_append (cInt .i64) (xs := hi203) (ys := ([(List.getD where_ (Int.toNat (i206 + 1)) 0)] : List Int)) (0 : Int) H 5 rfl E rfl rfl tbok rfl rfl rfl rfl rfl (fun _ _ => rfl) rfl rfl (fun _ HF_ => HF_.srcB 7 rfl (⟨_, _, rfl, rfl, rfl⟩)) g276 ?_
      intro w309 A310 c311 a hc312 hA313 H_ E_
      replace E := E_ _ rfl; clear E_
      have hin314 : ∀ q_, q_ < w251.heap.size → At A310 q_ → (atL [.row true (cInt .i64) 3 A201 c202 lo200, .row true (cInt .i64) 3 A204 c205 hi203]) q_ := fun q_ h1_ h2_ => (hA313 q_ h2_).elim ((fun _ _ h_ => Or.inr (Or.inl h_)) q_ h1_) (fun h3_ => by have hs_ := HS289.size; exfalso; omega)
      replace HS289 := HS289.trans hc312 (fun k_ hk_ h_ => (fun _ _ h_ => Or.inr (Or.inl h_)) k_ hk_ h_)
      replace H := H_; clear H_; try dsimp only [setn, addE, goneL] at H
      refine nl_ <| th_n ⟨HS289, ?_⟩
      refine dn tbok (by kernel_rfl) [15, 16] [] [(8, .slice A298 (List.length (lo200 ++ ([(List.getD where_ i206.toNat 0)] : List Int))) c299), (9, .slice A310 (List.length (hi203 ++ ([(List.getD where_ (Int.toNat (i206 + 1)) 0)] : List Int))) c311)] (fun w_ => []) 0 E (fun _ _ => by kernel_rfl) (by kernel_rfl) (fun w_ hS_ => trivial) (by kernel_rfl) HS289 ?_
      clear E; intro a E
      refine dr_done (by kernel_rfl) ?_
      exact .inl ⟨rfl, A298, c299, A310, c311, E.pk, H.sel (up 6) rfl⟩
     refine wpOp_of_list rfl ?_
     refine h_buildSlice (ps := [(0, .int .i64 (List.getD where_ (Int.toNat (i206 + 1)) 0))]) (cs := [.int .i64 (List.getD where_ (Int.toNat (i206 + 1)) 0)]) H E rfl rfl tbok rfl rfl (by kernel_rfl) ?_
     intro w316 g315 a hc317 hg319 H_ E_
     replace E := E_ _ rfl; clear E_
     have hin320 : ∀ q_, q_ < w251.heap.size → q_ = g315 → (atL [.row true (cInt .i64) 3 A201 c202 lo200, .row true (cInt .i64) 3 A204 c205 hi203]) q_ := fun q_ h1_ h2_ => by have hs_ := HS289.size; have h4_ : q_ = g315 := h2_; exfalso; omega
     replace HS289 := HS289.ext hc317
     replace H := H_; clear H_; try dsimp only [setn, addE, goneL] at H
     refine nl_ <| th_n ⟨HS289, ?_⟩
     refine wpAnyH_all (rs := [6]) (by kernel_rfl) (by simp) ?_
     refine all1 ?_
     refine wpOp_of_list rfl ?_
     refine h_append (cInt .i64) (xs := lo200) (ys := ([(List.getD where_ i206.toNat 0)] : List Int)) (0 : Int) H 4 rfl E rfl rfl tbok rfl rfl rfl rfl rfl (fun _ _ => rfl) rfl rfl (fun _ HF_ => HF_.srcB 6 rfl (⟨_, _, rfl, rfl, rfl⟩)) g263 ?_
     intro w321 A322 c323 a hc324 hA325 H_ E_
     replace E := E_ _ rfl; clear E_
     have hin326 : ∀ q_, q_ < w251.heap.size → At A322 q_ → (atL [.row true (cInt .i64) 3 A201 c202 lo200, .row true (cInt .i64) 3 A204 c205 hi203]) q_ := fun q_ h1_ h2_ => (hA325 q_ h2_).elim ((fun _ _ h_ => Or.inl h_) q_ h1_) (fun h3_ => by have hs_ := HS289.size; exfalso; omega)
     replace HS289 := HS289.trans hc324 (fun k_ hk_ h_ => (fun _ _ h_ => Or.inl h_) k_ hk_ h_)
     replace H := H_; clear H_; try dsimp only [setn, addE, goneL] at H
     refine nl_ <| th_n ⟨HS289, ?_⟩
     refine wpAnyH_all (rs := [14]) (by kernel_rfl) (by simp) ?_
     refine all1 ?_
     refine wpOp_of_list rfl ?_
     refine h_append (cInt .i64) (xs := hi203) (ys := ([(List.getD where_ (Int.toNat (i206 + 1)) 0)] : List Int)) (0 : Int) H 5 rfl E rfl rfl tbok rfl rfl rfl rfl rfl (fun _ _ => rfl) rfl rfl (fun _ HF_ => HF_.srcB 7 rfl (⟨_, _, rfl, rfl, rfl⟩)) g276 ?_
     intro w327 A328 c329 a hc330 hA331 H_ E_
     replace E := E_ _ rfl; clear E_
     have hin332 : ∀ q_, q_ < w251.heap.size → At A328 q_ → (atL [.row true (cInt .i64) 3 A201 c202 lo200, .row true (cInt .i64) 3 A204 c205 hi203]) q_ := fun q_ h1_ h2_ => (hA331 q_ h2_).elim ((fun _ _ h_ => Or.inr (Or.inl h_)) q_ h1_) (fun h3_ => by have hs_ := HS289.size; exfalso; omega)
     replace HS289 := HS289.trans hc330 (fun k_ hk_ h_ => (fun _ _ h_ => Or.inr (Or.inl h_)) k_ hk_ h_)
     replace H := H_; clear H_; try dsimp only [setn, addE, goneL] at H
     refine nl_ <| th_n ⟨HS289, ?_⟩
     refine dn tbok (by kernel_rfl) [15, 16] [] [(8, .slice A322 (List.length (lo200 ++ ([(List.getD where_ i206.toNat 0)] : List Int))) c323), (9, .slice A328 (List.length (hi203 ++ ([(List.getD where_ (Int.toNat (i206 + 1)) 0)] : List Int))) c329)] (fun w_ => []) 0 E (fun _ _ => by kernel_rfl) (by kernel_rfl) (fun w_ hS_ => trivial) (by kernel_rfl) HS289 ?_
     clear E; intro a E
     refine dr_done (by kernel_rfl) ?_
     exact .inl ⟨rfl, A322, c323, A328, c329, E.pk, H.sel (up 6) rfl⟩
    refine wpOp_of_list rfl ?_
    refine h_buildSlice (ps := [(0, .int .i64 (List.getD where_ (Int.toNat (i206 + 1)) 0))]) (cs := [.int .i64 (List.getD where_ (Int.toNat (i206 + 1)) 0)]) H E rfl rfl tbok rfl rfl (by kernel_rfl) ?_
    intro w334 g333 a hc335 hg337 H_ E_
    replace E := E_ _ rfl; clear E_
    have hin338 : ∀ q_, q_ < w251.heap.size → q_ = g333 → (atL [.row true (cInt .i64) 3 A201 c202 lo200, .row true (cInt .i64) 3 A204 c205 hi203]) q_ := fun q_ h1_ h2_ => by have hs_ := HS289.size; have h4_ : q_ = g333 := h2_; exfalso; omega
    replace HS289 := HS289.ext hc335
    replace H := H_; clear H_; try dsimp only [setn, addE, goneL] at H
    refine nl_ <| th_n ⟨HS289, ?_⟩
    refine wpAnyH_all (rs := [5]) (by kernel_rfl) (by simp) ?_
    refine all1 ?_
    refine wpOp_of_list rfl ?_
    refine h_buildSlice (ps := [(0, .int .i64 (List.getD where_ i206.toNat 0))]) (cs := [.int .i64 (List.getD where_ i206.toNat 0)]) H E rfl rfl tbok rfl rfl (by kernel_rfl) ?_
    intro w340 g339 a hc341 hg343 H_ E_
    replace E := E_ _ rfl; clear E_
    have hin344 : ∀ q_, q_ < w251.heap.size → q_ = g339 → (atL [.row true (cInt .i64) 3 A201 c202 lo200, .row true (cInt .i64) 3 A204 c205 hi203]) q_ := fun q_ h1_ h2_ => by have hs_ := HS289.size; have h4_ : q_ = g339 := h2_; exfalso; omega
    replace HS289 := HS289.ext hc341
    replace H := H_; clear H_; try dsimp only [setn, addE, goneL] at H
    refine nl_ <| th_n ⟨HS289, ?_⟩
    refine wpAnyH_all (rs := [6]) (by kernel_rfl) (by simp) ?_
    refine all1 ?_
    refine wpOp_of_list rfl ?_
    refine h_append (cInt .i64) (xs := lo200) (ys := ([(List.getD where_ i206.toNat 0)] : List Int)) (0 : Int) H 4 rfl E rfl rfl tbok rfl rfl rfl rfl rfl (fun _ _ => rfl) rfl rfl (fun _ HF_ => HF_.srcB 7 rfl (⟨_, _, rfl, rfl, rfl⟩)) g263 ?_
    intro w345 A346 c347 a hc348 hA349 H_ E_
    replace E := E_ _ rfl; clear E_
    have hin350 : ∀ q_, q_ < w251.heap.size → At A346 q_ → (atL [.row true (cInt .i64) 3 A201 c202 lo200, .row true (cInt .i64) 3 A204 c205 hi203]) q_ := fun q_ h1_ h2_ => (hA349 q_ h2_).elim ((fun _ _ h_ => Or.inl h_) q_ h1_) (fun h3_ => by have hs_ := HS289.size; exfalso; omega)
    replace HS289 := HS289.trans hc348 (fun k_ hk_ h_ => (fun _ _ h_ => Or.inl h_) k_ hk_ h_)
    replace H := H_; clear H_; try dsimp only [setn, addE, goneL] at H
    refine nl_ <| th_n ⟨HS289, ?_⟩
    refine wpAnyH_all (rs := [14]) (by kernel_rfl) (by simp) ?_
    refine all1 ?_
    refine wpOp_of_list rfl ?_
    refine h_append (cInt .i64) (xs := hi203) (ys := ([(List.getD where_ (Int.toNat (i206 + 1)) 0)] : List Int)) (0 : Int) H 5 rfl E rfl rfl tbok rfl rfl rfl rfl rfl (fun _ _ => rfl) rfl rfl (fun _ HF_ => HF_.srcB 6 rfl (⟨_, _, rfl, rfl, rfl⟩)) g276 ?_
    intro w351 A352 c353 a hc354 hA355 H_ E_
    replace E := E_ _ rfl; clear E_
    have hin356 : ∀ q_, q_ < w251.heap.size → At A352 q_ → (atL [.row true (cInt .i64) 3 A201 c202 lo200, .row true (cInt .i64) 3 A204 c205 hi203]) q_ := fun q_ h1_ h2_ => (hA355 q_ h2_).elim ((fun _ _ h_ => Or.inr (Or.inl h_)) q_ h1_) (fun h3_ => by have hs_ := HS289.size; exfalso; omega)
    replace HS289 := HS289.trans hc354 (fun k_ hk_ h_ => (fun _ _ h_ => Or.inr (Or.inl h_)) k_ hk_ h_)
    replace H := H_; clear H_; try dsimp only [setn, addE, goneL] at H
    refine nl_ <| th_n ⟨HS289, ?_⟩
    refine dn tbok (by kernel_rfl) [15, 16] [] [(8, .slice A346 (List.length (lo200 ++ ([(List.getD where_ i206.toNat 0)] : List Int))) c347), (9, .slice A352 (List.length (hi203 ++ ([(List.getD where_ (Int.toNat (i206 + 1)) 0)] : List Int))) c353)] (fun w_ => []) 0 E (fun _ _ => by kernel_rfl) (by kernel_rfl) (fun w_ hS_ => trivial) (by kernel_rfl) HS289 ?_
    clear E; intro a E
    refine dr_done (by kernel_rfl) ?_
    exact .inl ⟨rfl, A346, c347, A352, c353, E.pk, H.sel (up 6) rfl⟩
   clear E H; rintro a w286 ⟨A282, c283, A284, c285, E, H⟩
   refine bl_n <| th_n <| rl_ ?_
   obtain ⟨g357, hP⟩ := ask_inv hP
   refine vq 3 [.int .i64 (i206 + 2)] [(10, .int .i64 (i206 + 2))] [IntKind.i64.wrap (i206 + 2) = i206 + 2] E (wrap_in g357) ?_
   clear E; intro a E
   refine nl_ ?_
   exact th_n ⟨m247, Nat.lt_succ_self _, lo200 ++ ([(List.getD where_ i206.toNat 0)] : List Int), hi203 ++ ([(List.getD where_ (Int.toNat (i206 + 1)) 0)] : List Int), i206 + 2, A282, c283, A284, c285, E.pk, H.sel (up 6) rfl, hP⟩
  have h358 : ¬ (i206 < (where_.length : Int)) := of_decide_eq_false hb_
  replace hP := ite_f h358 hP
  refine c_false E rfl <| wp_exit <| th_exit ?_
  have hx_ := Option.some.inj hP
  refine th_exit (.inl ⟨0, rfl, ?_⟩)
  exact ⟨rfl, (lo200, hi203), A201, c202, A204, c205, E.pk, H.sel [0, 1, 2, 4, 5] rfl, hx_.symm⟩
 clear E H hL249; intro i_ a w251 hM_
 obtain ⟨rfl, x253, A242, c243, A245, c246, E, H, hx_⟩ := hM_
 subst hx_; have hP := hK250; clear hK250
 refine bl_hit <| th_n <| sr_ <| vp 1 [(49, .int .i64 p)] E ?_
 clear E; intro a E
 refine e_build (ps := [(0, .int .i64 p)]) (v := .agg #[.int .i64 p, .int .i64 0, .int .i64 0]) E rfl rfl tbok rfl (by kernel_rfl) rfl ?_
 clear E; intro a E
 refine h_alloc H E rfl rfl tbok rfl ?_
 clear H E; intro w360 g359 a hc361 hg363 H E; replace E := E _ rfl; try dsimp only [setn, addE, goneL] at H
 refine h_store (g := g359) (off := 0) H 5 rfl E rfl rfl rfl rfl tbok rfl rfl rfl rfl rfl ?_
 clear E; intro w364 a hc365 H_ E
 replace H := H_; clear H_; try dsimp only [setn, addE, goneL] at H
 refine nn_ <| sr_ ?_
 obtain ⟨g366, hP⟩ := ask_inv hP
 refine vq 4 [.int .i64 (p + 1)] [(51, .pointer (some ⟨g1, 0, none⟩)), (52, .slice A242 x248.1.length c243), (54, .int .i64 (p + 1))] [IntKind.i64.wrap (p + 1) = p + 1] E (wrap_in g366) ?_
 clear E; intro a E
 obtain ⟨r367, h368, hP⟩ := bind_inv hP
 obtain ⟨Fa369, Hc370, hb371⟩ := H.call [2, 0, 1] [(3, false)] rfl rfl ⟨flat_plain, trivial⟩
 refine e_call E rfl rfl Try.func84 rfl rfl rfl (ih_ _ _ _ g1 A3 c4 g6 A242 c243 sn snodes sat x248.1 (p + 1) _ (H.rcap 3 rfl) Hc370 h368) ?_
 intro v377 w376 a hR378 E_
 obtain ⟨x_, A381, c382, hr_, rfl, HR380⟩ := hR378
 subst hr_
 replace E := E_ _ rfl; clear E_
 obtain ⟨H_, hc379⟩ := hb371 _ _ HR380 rfl
 replace H := H_; clear H_; try dsimp only [setn, addE, goneL] at H
 refine vp 1 [(56, .pointer (some ⟨g359, 1, none⟩))] E ?_
 clear E; intro a E
 refine h_store (g := g359) (off := 1) H 5 rfl E rfl rfl rfl rfl tbok rfl rfl rfl rfl rfl ?_
 clear E; intro w386 a hc387 H_ E
 replace H := H_; clear H_; try dsimp only [setn, addE, goneL] at H
 refine nn_ <| sr_ <| vq 4 [.int .i64 (p + 1)] [(57, .pointer (some ⟨g1, 0, none⟩)), (58, .slice A245 x248.2.length c246), (60, .int .i64 (p + 1))] [IntKind.i64.wrap (p + 1) = p + 1] E (wrap_in g366) ?_
 clear E; intro a E
 obtain ⟨r388, h389, hP⟩ := bind_inv hP
 obtain ⟨Fa390, Hc391, hb392⟩ := H.call [6, 7, 8] [(4, false)] rfl rfl ⟨flat_plain, trivial⟩
 refine e_call E rfl rfl Try.func84 rfl rfl rfl (ih_ _ _ _ g1 A381 c382 g6 A245 c246 sn r367.2.1 r367.2.2 x248.2 (p + 1) _ (H.rcap 4 rfl) Hc391 h389) ?_
 intro v398 w397 a hR399 E_
 obtain ⟨x_, A402, c403, hr_, rfl, HR401⟩ := hR399
 subst hr_
 replace E := E_ _ rfl; clear E_
 obtain ⟨H_, hc400⟩ := hb392 _ _ HR401 rfl
 replace H := H_; clear H_; try dsimp only [setn, addE, goneL] at H
 refine vp 1 [(62, .pointer (some ⟨g359, 2, none⟩))] E ?_
 clear E; intro a E
 refine h_store (g := g359) (off := 2) H 5 rfl E rfl rfl rfl rfl tbok rfl rfl rfl rfl rfl ?_
 clear E; intro w407 a hc408 H_ E
 replace H := H_; clear H_; try dsimp only [setn, addE, goneL] at H
 refine nn_ <| wp_seq <| sr_ <| vq 5 [.int .i64 r367.1, .int .i64 r388.1] [(67, .bool ((r367.1 : Int) == r388.1))] [World.cell? w407 ⟨g359, 1, none⟩ = some (.int .i64 r367.1), World.cell? w407 ⟨g359, 2, none⟩ = some (.int .i64 r388.1)] E ⟨(H.box 5 rfl).cell (j := 1) rfl, (H.box 5 rfl).cell (j := 2) rfl⟩ ?_
 clear E; intro a E
 refine nn_ ?_
 revert E; refine csE 67 rfl (fun hb_ E => ?_) fun hb_ E => ?_
 ·
  have h409 : (r367.1 : Int) = r388.1 := eq_of_beq hb_
  replace hP := ite_t h409 hP
  refine c_true E rfl <| sr_ <| vq 3 [.int .i64 r367.1] [(6, .int .i64 r367.1)] [World.cell? w407 ⟨g359, 1, none⟩ = some (.int .i64 r367.1)] E ((H.box 5 rfl).cell (j := 1) rfl) ?_
  clear E; intro a E
  refine nn_ <| wp_ret <| th_ret ?_
  obtain rfl := Option.some.inj hP
  refine ret1 E rfl rfl ?_
  exact ⟨_, rfl, ⟨(r367.1, r388.2.1, r388.2.2), A402, c403, rfl, rfl, H.sel [9, 10, 11] rfl⟩⟩
 have h410 : ¬ ((r367.1 : Int) = r388.1) := ne_of_beq_false hb_
 replace hP := ite_f h410 hP
 refine c_false E rfl <| wp_skip <| th_n <| wp_seq ?_
 obtain ⟨g411, hP⟩ := ask_inv hP
 have HR415 := H
 refine dr_start (S := fun w_ => Chg (atL []) w407 w_) (by kernel_rfl) ?_
 intro w412 hc413
 have HS414 : Chg (atL []) w407 w412 := hc413.mono (fun _ _ h_ => h_.elim)
 replace H := H.ext hc413
 refine dn tbok (by kernel_rfl) [0, 1, 2, 3, 4] [.map (some g6), .agg #[.int .i64 p, .int .i64 r367.1, .int .i64 r388.1]] [(74, .map (some g6)), (75, .agg #[.int .i64 p, .int .i64 r367.1, .int .i64 r388.1])] (fun w_ => [World.cell? w_ ⟨g1, 2, none⟩ = some (.map (some g6)), cellsAt w_ g359 (0) [.int .i64 p, .int .i64 r367.1, .int .i64 r388.1]]) 6 E (fun _ _ => by kernel_rfl) (by kernel_rfl) (fun w_ hS_ => ⟨(HR415.boxk [] hS_ 9 rfl rfl).cell (j := 2) rfl, (HR415.boxk [] hS_ 5 rfl rfl).sub 0 _ rfl⟩) (by kernel_rfl) HS414 ?_
 clear E; intro a E
 refine wpAnyH_all (rs := [5]) (by kernel_rfl) (by simp) ?_
 refine all1 ?_
 refine wpOp_of_list rfl ?_
 refine h_lookupC ndV (fun u_ : Int => .int .i64 u_) (⟨p, r367.1, r388.1⟩ : Nd) 0 H 11 rfl E rfl rfl tbok rfl rfl kNd rfl rfl rfl g411 (fun _ => ⟨_, rfl⟩) ?_
 clear E; intro a E_; replace E := E_ _ rfl; clear E_
 refine nl_ <| th_n ⟨HS414, ?_⟩
 refine dn tbok (by kernel_rfl) [6, 7, 8, 9, 10] [] [(12, .int .i64 (Option.getD (mget r388.2.2 (⟨p, r367.1, r388.1⟩ : Nd)) 0)), (13, .bool (Option.isSome (mget r388.2.2 (⟨p, r367.1, r388.1⟩ : Nd))))] (fun w_ => []) 0 E (fun _ _ => by kernel_rfl) (by kernel_rfl) (fun w_ hS_ => trivial) (by kernel_rfl) HS414 ?_
 clear E; intro a E
 refine dr_done (by kernel_rfl) ?_
 clear HS414 HR415
 refine th_n <| wp_seq <| sr_ <| vp 2 [(80, .bool (!(Option.isSome (mget r388.2.2 (⟨p, r367.1, r388.1⟩ : Nd)))))] E ?_
 clear E; intro a E
 refine nn_ ?_
 revert E; refine csE 80 rfl (fun hb_ E => ?_) fun hb_ E => ?_
 ·
  have h416 : ¬ ((Option.isSome (mget r388.2.2 (⟨p, r367.1, r388.1⟩ : Nd))) = true) := (ne_true_of_eq_false (not_t hb_))
  replace hP := ite_f h416 hP
  refine c_true E rfl <| sr_ <| vq 6 [.slice A402 r388.2.1.length c403] [(12, .int .i64 (r388.2.1.length : Int))] [World.cell? w412 ⟨g1, 1, none⟩ = some (.slice A402 r388.2.1.length c403)] E ((H.box 9 rfl).cell (j := 1) rfl) ?_
  clear E; intro a E
  refine nn_ <| wp_seq ?_
  obtain ⟨g417, hP⟩ := ask_inv hP
  have HR423 := H
  refine dr_start (S := fun w_ => Chg (atL [.mp Try.prog 49 g6 (List.map (fun p_ => (ndV p_.1, (fun u_ : Int => .int .i64 u_) p_.2)) r388.2.2)]) w412 w_) (by kernel_rfl) ?_
  intro w420 hc421
  have HS422 : Chg (atL [.mp Try.prog 49 g6 (List.map (fun p_ => (ndV p_.1, (fun u_ : Int => .int .i64 u_) p_.2)) r388.2.2)]) w412 w420 := hc421.mono (fun _ _ h_ => h_.elim)
  replace H := H.ext hc421
  refine dn tbok (by kernel_rfl) [0, 1, 2, 3, 4, 5] [.map (some g6), .agg #[.int .i64 p, .int .i64 r367.1, .int .i64 r388.1]] [(89, .map (some g6)), (90, .agg #[.int .i64 p, .int .i64 r367.1, .int .i64 r388.1]), (91, .int .i64 (r388.2.1.length : Int))] (fun w_ => [World.cell? w_ ⟨g1, 2, none⟩ = some (.map (some g6)), cellsAt w_ g359 (0) [.int .i64 p, .int .i64 r367.1, .int .i64 r388.1]]) 1 E (fun _ _ => by kernel_rfl) (by kernel_rfl) (fun w_ hS_ => ⟨(HR423.boxk [11] hS_ 9 rfl rfl).cell (j := 2) rfl, (HR423.boxk [11] hS_ 5 rfl rfl).sub 0 _ rfl⟩) (by kernel_rfl) HS422 ?_
  clear E; intro a E
  refine wpAnyH_all (rs := [6]) (by kernel_rfl) (by simp) ?_
  refine all1 ?_
  refine wpOp_of_list rfl ?_
  refine h_mapUpdate ndV (fun u_ : Int => .int .i64 u_) (⟨p, r367.1, r388.1⟩ : Nd) (r388.2.1.length : Int) H 11 rfl E rfl rfl tbok rfl kNd rfl rfl rfl g411 g417 rfl ?_
  clear E; intro w424 a hc425 H_ E
  replace HS422 := HS422.trans hc425 (fun k_ hk_ h_ => (fun _ _ h_ => Or.inl h_) k_ hk_ h_)
  replace H := H_; clear H_; try dsimp only [setn, addE, goneL] at H
  refine nl_ <| th_n ⟨HS422, ?_⟩
  refine dr_done (by kernel_rfl) ?_
  clear HS422 HR423
  refine th_n ?_
  obtain ⟨g431, hP⟩ := ask_inv hP
  refine meet_cut (fun a w441 => ∃ (A439 : Option Addr) (c440 : Nat), Fr a 103 [(12, .int .i64 (r388.2.1.length : Int))] ∧ Hp S Fa w0 w441 [.box g1 120 [.int .i64 sn, .slice A439 (List.length (r388.2.1 ++ ([(⟨p, r367.1, r388.1⟩ : Nd)] : List Nd))) c440, .map (some g6)], .row true cNode 49 A439 c440 (r388.2.1 ++ ([(⟨p, r367.1, r388.1⟩ : Nd)] : List Nd)), .mp Try.prog 49 g6 (List.map (fun p_ => (ndV p_.1, (fun u_ : Int => .int .i64 u_) p_.2)) (r388.2.2 ++ [((⟨p, r367.1, r388.1⟩ : Nd), (r388.2.1.length : Int))]))]) ?_ ?_
  ·
   have HR445 := H
   refine dr_start (S := fun w_ => Chg (atL [.box g1 120 [.int .i64 sn, .slice A402 r388.2.1.length c403, .map (some g6)], .row true cNode 49 A402 c403 r388.2.1]) w424 w_) (by kernel_rfl) ?_
   intro w442 hc443
   have HS444 : Chg (atL [.box g1 120 [.int .i64 sn, .slice A402 r388.2.1.length c403, .map (some g6)], .row true cNode 49 A402 c403 r388.2.1]) w424 w442 := hc443.mono (fun _ _ h_ => h_.elim)
   replace H := H.ext hc443
   refine dn tbok (by kernel_rfl) [0, 1, 2, 3, 5] [.agg #[.int .i64 p, .int .i64 r367.1, .int .i64 r388.1]] [(92, .pointer (some ⟨g1, 0, none⟩)), (95, .pointer (some ⟨g1, 1, none⟩)), (97, .agg #[.int .i64 p, .int .i64 r367.1, .int .i64 r388.1])] (fun w_ => [cellsAt w_ g359 (0) [.int .i64 p, .int .i64 r367.1, .int .i64 r388.1]]) 6 E (fun _ _ => by kernel_rfl) (by kernel_rfl) (fun w_ hS_ => ((HR445.boxk [9, 10] hS_ 5 rfl rfl).sub 0 _ rfl)) (by kernel_rfl) HS444 ?_
   clear E; intro a E
   refine wpAnyH_all (rs := [4, 6]) (by kernel_rfl) (by simp) ?_
   refine all2 ?_ ?_
   ·
    refine wpOp_of_list rfl ?_
    refine vq 1 [.slice A402 r388.2.1.length c403] [(96, .slice A402 r388.2.1.length c403)] [World.cell? w442 ⟨g1, 1, none⟩ = some (.slice A402 r388.2.1.length c403)] E ((H.box 9 rfl).cell (j := 1) rfl) ?_
    clear E; intro a E
    refine nl_ <| th_n ⟨HS444, ?_⟩
    refine wpAnyH_all (rs := [6]) (by kernel_rfl) (by simp) ?_
    refine all1 ?_
    refine wpOp_of_list rfl ?_
    refine h_buildSlice (ps := [(0, .agg #[.int .i64 p, .int .i64 r367.1, .int .i64 r388.1])]) (cs := [.int .i64 p, .int .i64 r367.1, .int .i64 r388.1]) H E rfl rfl tbok rfl rfl (by kernel_rfl) ?_
    intro w447 g446 a hc448 hg450 H_ E_
    replace E := E_ _ rfl; clear E_
    have hin451 : ∀ q_, q_ < w424.heap.size → q_ = g446 → (atL [.box g1 120 [.int .i64 sn, .slice A402 r388.2.1.length c403, .map (some g6)], .row true cNode 49 A402 c403 r388.2.1]) q_ := fun q_ h1_ h2_ => by have hs_ := HS444.size; have h4_ : q_ = g446 := h2_; exfalso; omega
    replace HS444 := HS444.ext hc448
    replace H := H_; clear H_; try dsimp only [setn, addE, goneL] at H
    refine nl_ <| th_n ⟨HS444, ?_⟩
    refine wpAnyH_all (rs := [7]) (by kernel_rfl) (by simp) ?_
    refine all1 ?_
    refine wpOp_of_list rfl ?_
    refine h_append cNode (xs := r388.2.1) (ys := ([(⟨p, r367.1, r388.1⟩ : Nd)] : List Nd)) ((default : Nd) : Nd) H 10 rfl E rfl rfl tbok rfl rfl rfl rfl rfl (fun _ _ => rfl) rfl rfl (fun _ HF_ => HF_.srcB 12 rfl (⟨_, _, rfl, rfl, rfl⟩)) g431 ?_
    intro w452 A453 c454 a hc455 hA456 H_ E_
    replace E := E_ _ rfl; clear E_
    have hin457 : ∀ q_, q_ < w424.heap.size → At A453 q_ → (atL [.box g1 120 [.int .i64 sn, .slice A402 r388.2.1.length c403, .map (some g6)], .row true cNode 49 A402 c403 r388.2.1]) q_ := fun q_ h1_ h2_ => (hA456 q_ h2_).elim ((fun _ _ h_ => Or.inr (Or.inl h_)) q_ h1_) (fun h3_ => by have hs_ := HS444.size; exfalso; omega)
    replace HS444 := HS444.trans hc455 (fun k_ hk_ h_ => (fun _ _ h_ => Or.inr (Or.inl h_)) k_ hk_ h_)
    replace H := H_; clear H_; try dsimp only [setn, addE, goneL] at H
    refine nl_ <| th_n ⟨HS444, ?_⟩
    refine dn tbok (by kernel_rfl) [8, 9] [] [(101, .pointer (some ⟨g1, 1, none⟩))] (fun w_ => []) 1 E (fun _ _ => by kernel_rfl) (by kernel_rfl) (fun w_ hS_ => trivial) (by kernel_rfl) HS444 ?_
    clear E; intro a E
    refine wpAnyH_all (rs := [10]) (by kernel_rfl) (by simp) ?_
    refine all1 ?_
    refine wpOp_of_list rfl ?_
    refine h_store (g := g1) (off := 1) H 9 rfl E rfl rfl rfl rfl tbok rfl rfl rfl rfl rfl ?_
    clear E; intro w458 a hc459 H_ E
    replace HS444 := HS444.trans hc459 (fun k_ hk_ h_ => (fun _ _ h_ => Or.inl h_) k_ hk_ h_)
    replace H := H_; clear H_; try dsimp only [setn, addE, goneL] at H
    refine nl_ <| th_n ⟨HS444, ?_⟩
    refine dr_done (by kernel_rfl) ?_
    exact .inl ⟨rfl, A453, c454, E.pk, H.sel [9, 10, 11] rfl⟩
   refine wpOp_of_list rfl ?_
   refine h_buildSlice (ps := [(0, .agg #[.int .i64 p, .int .i64 r367.1, .int .i64 r388.1])]) (cs := [.int .i64 p, .int .i64 r367.1, .int .i64 r388.1]) H E rfl rfl tbok rfl rfl (by kernel_rfl) ?_
   intro w461 g460 a hc462 hg464 H_ E_
   replace E := E_ _ rfl; clear E_
   have hin465 : ∀ q_, q_ < w424.heap.size → q_ = g460 → (atL [.box g1 120 [.int .i64 sn, .slice A402 r388.2.1.length c403, .map (some g6)], .row true cNode 49 A402 c403 r388.2.1]) q_ := fun q_ h1_ h2_ => by have hs_ := HS444.size; have h4_ : q_ = g460 := h2_; exfalso; omega
   replace HS444 := HS444.ext hc462
   replace H := H_; clear H_; try dsimp only [setn, addE, goneL] at H
   refine nl_ <| th_n ⟨HS444, ?_⟩
   refine wpAnyH_all (rs := [4]) (by kernel_rfl) (by simp) ?_
   refine all1 ?_
   refine wpOp_of_list rfl ?_
   refine vq 1 [.slice A402 r388.2.1.length c403] [(96, .slice A402 r388.2.1.length c403)] [World.cell? w461 ⟨g1, 1, none⟩ = some (.slice A402 r388.2.1.length c403)] E ((H.box 9 rfl).cell (j := 1) rfl) ?_
   clear E; intro a E
   refine nl_ <| th_n ⟨HS444, ?_⟩
   refine wpAnyH_all (rs := [7]) (by kernel_rfl) (by simp) ?_
   refine all1 ?_
   refine wpOp_of_list rfl ?_
   refine h_append cNode (xs := r388.2.1) (ys := ([(⟨p, r367.1, r388.1⟩ : Nd)] : List Nd)) ((default : Nd) : Nd) H 10 rfl E rfl rfl tbok rfl rfl rfl rfl rfl (fun _ _ => rfl) rfl rfl (fun _ HF_ => HF_.srcB 12 rfl (⟨_, _, rfl, rfl, rfl⟩)) g431 ?_
   intro w466 A467 c468 a hc469 hA470 H_ E_
   replace E := E_ _ rfl; clear E_
   have hin471 : ∀ q_, q_ < w424.heap.size → At A467 q_ → (atL [.box g1 120 [.int .i64 sn, .slice A402 r388.2.1.length c403, .map (some g6)], .row true cNode 49 A402 c403 r388.2.1]) q_ := fun q_ h1_ h2_ => (hA470 q_ h2_).elim ((fun _ _ h_ => Or.inr (Or.inl h_)) q_ h1_) (fun h3_ => by have hs_ := HS444.size; exfalso; omega)
   replace HS444 := HS444.trans hc469 (fun k_ hk_ h_ => (fun _ _ h_ => Or.inr (Or.inl h_)) k_ hk_ h_)
   replace H := H_; clear H_; try dsimp only [setn, addE, goneL] at H
   refine nl_ <| th_n ⟨HS444, ?_⟩
   refine dn tbok (by kernel_rfl) [8, 9] [] [(101, .pointer (some ⟨g1, 1, none⟩))] (fun w_ => []) 1 E (fun _ _ => by kernel_rfl) (by kernel_rfl) (fun w_ hS_ => trivial) (by kernel_rfl) HS444 ?_
   clear E; intro a E
   refine wpAnyH_all (rs := [10]) (by kernel_rfl) (by simp) ?_
   refine all1 ?_
   refine wpOp_of_list rfl ?_
   refine h_store (g := g1) (off := 1) H 9 rfl E rfl rfl rfl rfl tbok rfl rfl rfl rfl rfl ?_
   clear E; intro w472 a hc473 H_ E
   replace HS444 := HS444.trans hc473 (fun k_ hk_ h_ => (fun _ _ h_ => Or.inl h_) k_ hk_ h_)
   replace H := H_; clear H_; try dsimp only [setn, addE, goneL] at H
   refine nl_ <| th_n ⟨HS444, ?_⟩
   refine dr_done (by kernel_rfl) ?_
   exact .inl ⟨rfl, A467, c468, E.pk, H.sel [9, 10, 11] rfl⟩
  clear E H; rintro a w441 ⟨A439, c440, E, H⟩
  refine th_n <| sr_ <| vp 2 [(6, .int .i64 (r388.2.1.length : Int))] E ?_
  clear E; intro a E
  refine nn_ <| wp_ret ?_
  obtain rfl := Option.some.inj hP
  refine ret1 E rfl rfl ?_
  exact ⟨_, rfl, ⟨((r388.2.1.length : Int), r388.2.1 ++ ([(⟨p, r367.1, r388.1⟩ : Nd)] : List Nd), r388.2.2 ++ [((⟨p, r367.1, r388.1⟩ : Nd), (r388.2.1.length : Int))]), A439, c440, rfl, rfl, H.sel [0, 1, 2] rfl⟩⟩
 have h474 : (Option.isSome (mget r388.2.2 (⟨p, r367.1, r388.1⟩ : Nd))) = true := (not_f hb_)
 replace hP := ite_t h474 hP
 refine c_false E rfl <| wp_skip <| th_n <| sr_ <| vp 2 [(6, .int .i64 (Option.getD (mget r388.2.2 (⟨p, r367.1, r388.1⟩ : Nd)) 0))] E ?_
 clear E; intro a E
 refine nn_ <| wp_ret ?_
 obtain rfl := Option.some.inj hP
 refine ret1 E rfl rfl ?_
 exact ⟨_, rfl, ⟨((Option.getD (mget r388.2.2 (⟨p, r367.1, r388.1⟩ : Nd)) 0), r388.2.1, r388.2.2), A402, c403, rfl, rfl, H.sel [9, 10, 11] rfl⟩⟩

/-! (*rejoinder/guard.Store).Add -/
def guard_Store_Add_l0 (N : Nat) (snodes : List Nd) (sat : List (Nd × Int)) (where_ : List Int) : Nat → Int → Option (Unit ⊕ (Int × Int × (List Nd) × (List (Nd × Int))))
  | 0, _ => none
  | m160 + 1, x149 =>
    if x149 < (where_.length : Int) then
      ask (idx x149 where_.length) <|
      if (List.getD where_ x149.toNat 0) < 0 then
        some (Sum.inr (0, 2, snodes, sat))
      else
        if 1048575 < (List.getD where_ x149.toNat 0) then
          some (Sum.inr (0, 2, snodes, sat))
        else
          ask (in64 (x149 + 1)) <|
          guard_Store_Add_l0 N snodes sat where_ m160 (x149 + 1)
    else
      some (Sum.inl ())
def guard_Store_Add (N : Nat) (sn : Int) (snodes : List Nd) (sat : List (Nd × Int)) (where_ : List Int) : Option (Int × Int × (List Nd) × (List (Nd × Int))) :=
  Option.bind (guard_Store_none N sn snodes sat) fun r118 =>
  if r118 = true then
    some (0, 1, snodes, sat)
  else
    ask (0 ≤ sn) <|
    if ((where_.length : Int) : Int) = shlV .i64 1 sn then
      Option.bind (guard_Store_Add_l0 N snodes sat where_ N 0) fun x161 =>
      Sum.elim (fun x166 =>
        Option.bind (guard_Store_add N N sn snodes sat where_ 0) fun r185 =>
        if 4096 < (r185.2.1.length : Int) then
          none
        else
          some (r185.1, 0, r185.2.1, r185.2.2))
       (fun x177 =>
        some x177) x161
    else
      some (0, 2, snodes, sat)
theorem guard_Store_Add_calls {N : Nat} {S Fa : Nat → Prop} {w0 : World} {r : Int × Int × (List Nd) × (List (Nd × Int))} (g1 : Nat) (A3 : Option Addr) (c4 : Nat) (g6 : Nat) (A8 : Option Addr) (c9 : Nat) (sn : Int) (snodes : List Nd) (sat : List (Nd × Int)) (where_ : List Int) (hk10 : List.length where_ ≤ c9) (H : Hp S Fa w0 w0 [.box g1 120 [.int .i64 sn, .slice A3 snodes.length c4, .map (some g6)], .row true cNode 49 A3 c4 snodes, .mp Try.prog 49 g6 (List.map (fun p_ => (ndV p_.1, (fun u_ : Int => .int .i64 u_) p_.2)) sat), .ro false (cInt .i64) A8 where_]) (hP : guard_Store_Add N sn snodes sat where_ = some r) :
    Calls Try.prog 64 #[.pointer (some ⟨g1, 0, none⟩), .slice A8 where_.length c9] w0 fun e w' => ∃ v, e = .returned v ∧ (∃ (x_ : Int × Int × (List Nd) × (List (Nd × Int))) (A15 : Option Addr) (c16 : Nat), r = x_ ∧ v = .tuple #[.int .i64 x_.1, .int .i64 x_.2.1] ∧ Hp S Fa w0 w' [.box g1 120 [.int .i64 sn, .slice A15 x_.2.2.1.length c16, .map (some g6)], .row true cNode 49 A15 c16 x_.2.2.1, .mp Try.prog 49 g6 (List.map (fun p_ => (ndV p_.1, (fun u_ : Int => .int .i64 u_) p_.2)) x_.2.2.2)]) := by
 refine enterV (n := 63) Try.func64 rfl rfl rfl ?_
 intro a E
 replace E := E.pick [(0, .pointer (some ⟨g1, 0, none⟩)), (1, .slice A8 where_.length c9)] ⟨rfl, rfl, trivial⟩
 rw [guard_Store_Add] at hP
 refine sr_ <| vp 2 [] E ?_
 clear E; intro a E
 refine nn_ <| wp_seq <| sr_ <| vp 1 [(10, .pointer (some ⟨g1, 0, none⟩))] E ?_
 clear E; intro a E
 obtain ⟨r118, h119, hP⟩ := bind_inv hP
 obtain ⟨Fa120, Hc121, hb122⟩ := H.call [0, 1, 2] [] rfl rfl ⟨flat_plain, trivial⟩
 refine e_call E rfl rfl Try.func83 rfl rfl rfl (guard_Store_none_calls g1 A3 c4 g6 sn snodes sat  Hc121 h119) ?_
 intro v128 w127 a hR129 E_
 obtain ⟨x_, hr_, rfl, HR131⟩ := hR129
 subst hr_
 replace E := E_ _ rfl; clear E_
 obtain ⟨H_, hc130⟩ := hb122 _ _ HR131 rfl
 replace H := H_; clear H_; try dsimp only [setn, addE, goneL] at H
 refine nn_ ?_
 revert E; refine csE 11 rfl (fun hb_ E => ?_) fun hb_ E => ?_
 ·
  have h135 : r118 = true := hb_
  replace hP := ite_t h135 hP
  refine c_true E rfl <| sr_ <| vp 2 [(4, .int .i64 0), (5, .int .i64 1)] E ?_
  clear E; intro a E
  refine nn_ <| wp_ret <| th_ret ?_
  obtain rfl := Option.some.inj hP
  refine ret2 E rfl rfl rfl ?_
  exact ⟨_, rfl, ⟨(0, 1, snodes, sat), A3, c4, rfl, rfl, H.sel [6, 4, 5] rfl⟩⟩
 have h136 : ¬ (r118 = true) := (ne_true_of_eq_false hb_)
 replace hP := ite_f h136 hP
 refine c_false E rfl <| wp_skip <| th_n <| wp_seq <| sr_ ?_
 obtain ⟨g137, hP⟩ := ask_inv hP
 refine vq 8 [.int .i64 sn, .int .i64 (shlV .i64 1 sn)] [(19, .bool (((where_.length : Int) : Int) != (shlV .i64 1 sn)))] [World.cell? w127 ⟨g1, 0, none⟩ = some (.int .i64 sn), 0 ≤ sn ∧ IntKind.i64.wrap (1 * 2 ^ (min sn.toNat (IntKind.bits .i64))) = shlV .i64 1 sn] E ⟨(H.box 6 rfl).cell (j := 0) rfl, ⟨g137, rfl⟩⟩ ?_
 clear E; intro a E
 refine nn_ ?_
 revert E; refine csE 19 rfl (fun hb_ E => ?_) fun hb_ E => ?_
 ·
  have h138 : ¬ (((where_.length : Int) : Int) = shlV .i64 1 sn) := bne_iff_ne.1 hb_
  replace hP := ite_f h138 hP
  refine c_true E rfl <| sr_ <| vp 2 [(4, .int .i64 0), (5, .int .i64 2)] E ?_
  clear E; intro a E
  refine nn_ <| wp_ret <| th_ret ?_
  obtain rfl := Option.some.inj hP
  refine ret2 E rfl rfl rfl ?_
  exact ⟨_, rfl, ⟨(0, 2, snodes, sat), A3, c4, rfl, rfl, H.sel [6, 4, 5] rfl⟩⟩
 have h139 : ((where_.length : Int) : Int) = shlV .i64 1 sn := bne_eq_false_iff_eq.1 hb_
 replace hP := ite_t h139 hP
 refine c_false E rfl <| wp_skip <| th_n <| wp_seq <| sr_ <| vp 3 [(20, .slice A8 where_.length c9), (21, .int .i64 (where_.length : Int)), (22, .int .i64 0)] E ?_
 clear E; intro a E
 refine nn_ <| wp_block ?_
 obtain ⟨x161, hL162, hK163⟩ := bind_inv hP
 clear hP
 refine loop_cut (fun i_ a w_ => (i_ = 0 ∧ ∃ (x166 : Unit), Fr a 63 [(0, .pointer (some ⟨g1, 0, none⟩)), (1, .slice A8 where_.length c9)] ∧ Hp S Fa w0 w_ [.row true cNode 49 A3 c4 snodes, .mp Try.prog 49 g6 (List.map (fun p_ => (ndV p_.1, (fun u_ : Int => .int .i64 u_) p_.2)) sat), .box g1 120 [.int .i64 sn, .slice A3 snodes.length c4, .map (some g6)], .ro false (cInt .i64) A8 where_] ∧ x161 = Sum.inl x166)) ?_ ?_
 ·
  refine loopV (fun m165 a w164 => ∃ (x149 : Int), Fr a 63 [(0, .pointer (some ⟨g1, 0, none⟩)), (1, .slice A8 where_.length c9), (20, .slice A8 where_.length c9), (21, .int .i64 (where_.length : Int)), (22, .int .i64 x149)] ∧ Hp S Fa w0 w164 [.row true cNode 49 A3 c4 snodes, .mp Try.prog 49 g6 (List.map (fun p_ => (ndV p_.1, (fun u_ : Int => .int .i64 u_) p_.2)) sat), .box g1 120 [.int .i64 sn, .slice A3 snodes.length c4, .map (some g6)], .ro false (cInt .i64) A8 where_] ∧ guard_Store_Add_l0 N snodes sat where_ m165 x149 = some x161) N ?_ ?_
  ·
   exact ⟨0, E.pk, H.sel [4, 5, 6, 3] rfl, hL162⟩
  clear E H hL162; intro m165 a w164 hI_
  obtain ⟨x149, E, H, hP⟩ := hI_
  obtain ⟨m160, rfl⟩ : ∃ q_, m165 = q_ + 1 := by cases m165 with | zero => rw [guard_Store_Add_l0] at hP; cases hP | succ q_ => exact ⟨q_, rfl⟩
  rw [guard_Store_Add_l0] at hP
  refine sr_ <| vp 1 [(23, .bool (decide (x149 < (where_.length : Int))))] E ?_
  clear E; intro a E
  refine nn_ <| wp_seq ?_
  revert E; refine csE 23 rfl (fun hb_ E => ?_) fun hb_ E => ?_
  ·
   have h167 : x149 < (where_.length : Int) := of_decide_eq_true hb_
   replace hP := ite_t h167 hP
   refine c_true E rfl <| wp_skip <| th_n <| wp_seq <| wp_block <| sr_ ?_
   obtain ⟨g168, hP⟩ := ask_inv hP
   obtain ⟨b169, o170, e_b169⟩ := (H.rd 3 rds_ro).addr (idx_pos g168)
   subst e_b169
   refine vq 3 [.int .i64 (List.getD where_ x149.toNat 0)] [(7, .int .i64 (List.getD where_ x149.toNat 0))] [0 ≤ x149 ∧ x149 < (where_.length : Int), World.cell? w164 ⟨b169, o170 + x149.toNat * 1, none⟩ = some (.int .i64 (List.getD where_ x149.toNat 0))] E ⟨g168, Rds.at1 (H.rd 3 rds_ro) 0 g168⟩ ?_
   clear E; intro a E
   refine nn_ <| sr_ <| vp 3 [(28, .bool (decide ((List.getD where_ x149.toNat 0) < 0)))] E ?_
   clear E; intro a E
   revert E; refine csE 28 rfl (fun hb_ E => ?_) fun hb_ E => ?_
   ·
    have h171 : (List.getD where_ x149.toNat 0) < 0 := of_decide_eq_true hb_
    replace hP := ite_t h171 hP
    refine vp 3 [(31, .bool true)] E ?_
    clear E; intro a E
    refine nn_ <| c_true E rfl ?_
    refine sr_ <| vp 2 [(4, .int .i64 0), (5, .int .i64 2)] E ?_
    clear E; intro a E
    refine nn_ <| wp_ret <| bl_ret <| th_ret <| th_ret <| .inr ⟨rfl, ?_⟩
    refine bl_ret <| th_ret ?_
    have hx_ := Option.some.inj hP; subst hx_
    have hP : some ((0, 2, snodes, sat)) = some r := hK163
    obtain rfl := Option.some.inj hP
    refine ret2 E rfl rfl rfl ?_
    exact ⟨_, rfl, ⟨(0, 2, snodes, sat), A3, c4, rfl, rfl, H.sel [2, 0, 1] rfl⟩⟩
   have h172 : ¬ ((List.getD where_ x149.toNat 0) < 0) := of_decide_eq_false hb_
   replace hP := ite_f h172 hP
   refine vp 3 [(31, .bool (decide (1048575 < (List.getD where_ x149.toNat 0))))] E ?_
   clear E; intro a E
   refine nn_ ?_
   revert E; refine csE 31 rfl (fun hb_ E => ?_) fun hb_ E => ?_
   ·
    have h173 : 1048575 < (List.getD where_ x149.toNat 0) := of_decide_eq_true hb_
    replace hP := ite_t h173 hP
    refine c_true E rfl <| sr_ <| vp 2 [(4, .int .i64 0), (5, .int .i64 2)] E ?_
    clear E; intro a E
    refine nn_ <| wp_ret <| bl_ret <| th_ret <| th_ret <| .inr ⟨rfl, ?_⟩
    refine bl_ret <| th_ret ?_
    have hx_ := Option.some.inj hP; subst hx_
    have hP : some ((0, 2, snodes, sat)) = some r := hK163
    obtain rfl := Option.some.inj hP
    refine ret2 E rfl rfl rfl ?_
    exact ⟨_, rfl, ⟨(0, 2, snodes, sat), A3, c4, rfl, rfl, H.sel [2, 0, 1] rfl⟩⟩
   have h174 : ¬ (1048575 < (List.getD where_ x149.toNat 0)) := of_decide_eq_false hb_
   replace hP := ite_f h174 hP
   refine c_false E rfl <| wp_skip <| bl_n <| th_n <| rl_ ?_
   obtain ⟨g175, hP⟩ := ask_inv hP
   refine vq 2 [.int .i64 (x149 + 1)] [(22, .int .i64 (x149 + 1))] [IntKind.i64.wrap (x149 + 1) = x149 + 1] E (wrap_in g175) ?_
   clear E; intro a E
   refine nl_ ?_
   exact th_n ⟨m160, Nat.lt_succ_self _, x149 + 1, E.pk, H.sel [0, 1, 2, 3] rfl, hP⟩
  have h176 : ¬ (x149 < (where_.length : Int)) := of_decide_eq_false hb_
  replace hP := ite_f h176 hP
  refine c_false E rfl <| wp_exit <| th_exit ?_
  have hx_ := Option.some.inj hP
  refine th_exit (.inl ⟨0, rfl, ?_⟩)
  exact ⟨rfl, (), E.pk, H.sel [0, 1, 2, 3] rfl, hx_.symm⟩
 clear E H hL162; intro i_ a w164 hM_
 obtain ⟨rfl, x166, E, H, hx_⟩ := hM_
 subst hx_; have hP := elim_l hK163
 clear hK163
 refine bl_hit <| th_n <| sr_ <| vq 5 [.slice A3 snodes.length c4] [(37, .int .i64 (snodes.length : Int))] [World.cell? w164 ⟨g1, 1, none⟩ = some (.slice A3 snodes.length c4)] E ((H.box 2 rfl).cell (j := 1) rfl) ?_
 clear E; intro a E
 refine h_alloc H E rfl rfl tbok rfl ?_
 clear H E; intro w179 g178 a hc180 hg182 H E; replace E := E _ rfl; try dsimp only [setn, addE, goneL] at H
 refine h_store (g := g178) (off := 0) H 4 rfl E rfl rfl rfl rfl tbok rfl rfl rfl rfl rfl ?_
 clear E; intro w183 a hc184 H_ E
 replace H := H_; clear H_; try dsimp only [setn, addE, goneL] at H
 refine nn_ <| sr_ <| vp 2 [(38, .pointer (some ⟨g1, 0, none⟩)), (39, .slice A8 where_.length c9)] E ?_
 clear E; intro a E
 obtain ⟨r185, h186, hP⟩ := bind_inv hP
 obtain ⟨Fa187, Hc188, hb189⟩ := H.call [2, 0, 1] [(3, false)] rfl rfl ⟨flat_plain, trivial⟩
 refine e_call E rfl rfl Try.func84 rfl rfl rfl (guard_Store_add_calls N _ _ _ g1 A3 c4 g6 A8 c9 sn snodes sat where_ 0 _ hk10 Hc188 h186) ?_
 intro v195 w194 a hR196 E_
 obtain ⟨x_, A199, c200, hr_, rfl, HR198⟩ := hR196
 subst hr_
 replace E := E_ _ rfl; clear E_
 obtain ⟨H_, hc197⟩ := hb189 _ _ HR198 rfl
 replace H := H_; clear H_; try dsimp only [setn, addE, goneL] at H
 refine vp 1 [(9, .int .i64 r185.1)] E ?_
 clear E; intro a E
 refine nn_ <| wp_seq <| sr_ <| vq 6 [.slice A199 r185.2.1.length c200] [(46, .bool (decide (4096 < (r185.2.1.length : Int))))] [World.cell? w194 ⟨g1, 1, none⟩ = some (.slice A199 r185.2.1.length c200)] E ((H.box 5 rfl).cell (j := 1) rfl) ?_
 clear E; intro a E
 refine nn_ ?_
 revert E; refine csE 46 rfl (fun hb_ E => ?_) fun hb_ E => ?_
 ·
  have h204 : 4096 < (r185.2.1.length : Int) := of_decide_eq_true hb_
  replace hP := ite_t h204 hP
  exact none_inv hP
  -- STOPPED: the operation range
 have h214 : ¬ (4096 < (r185.2.1.length : Int)) := of_decide_eq_false hb_
 replace hP := ite_f h214 hP
 refine c_false E rfl <| wp_skip <| th_n <| sr_ <| vp 3 [(4, .int .i64 r185.1), (5, .int .i64 0)] E ?_
 clear E; intro a E
 refine nn_ <| wp_ret ?_
 obtain rfl := Option.some.inj hP
 refine ret2 E rfl rfl rfl ?_
 exact ⟨_, rfl, ⟨(r185.1, 0, r185.2.1, r185.2.2), A199, c200, rfl, rfl, H.sel [5, 6, 7] rfl⟩⟩

end Go.V
