/- Plain functions, and the calls that give them. -/
import Derived.Test.YtljkomkejdngcaaA2
set_option linter.all false
set_option linter.unusedVariables false
set_option linter.unnecessarySimpa false
set_option linter.unusedSimpArgs false
namespace Go.V
open Go Go.Proofs
/-! rejoinder/watch.made -/
def watch_made_l0 (N : Nat) (aProps : Int) (aAccept : List Bool) (aGuard : List Int) (aNodes : List Nd) : Nat → (List (List Int)) → (List Bool) → Int → Option ((List (List Int)) × (List Bool))
  | 0, _, _, _ => none
  | m310 + 1, x244, not248, x251 =>
    if x251 < (((List.length aGuard) : Nat) : Int) then
      ask (idx x251 (List.length aGuard)) <|
      Option.bind (guard_Table N aProps aNodes (List.getD aGuard (Int.toNat x251) 0)) fun r323 =>
      ask (List.length x244 + List.length ([r323.1] : List (List Int)) ≤ 1000000000) <|
      ask (idx x251 (List.length aAccept)) <|
      ask (List.length not248 + List.length ([!(List.getD aAccept (Int.toNat x251) false)] : List Bool) ≤ 1000000000) <|
      ask (in64 (x251 + 1)) <|
      watch_made_l0 N aProps aAccept aGuard aNodes m310 (x244 ++ ([r323.1] : List (List Int))) (not248 ++ ([!(List.getD aAccept (Int.toNat x251) false)] : List Bool)) (x251 + 1)
    else
      some (x244, not248)
def watch_made_l1 (N : Nat) (aAccept : List Bool) (r441 : List Int) (r455 : List Int) : Nat → (List Int) → Int → Option (List Int)
  | 0, _, _ => none
  | m623 + 1, b541, x544 =>
    if x544 < (((List.length aAccept) : Nat) : Int) then
      ask (idx x544 (List.length aAccept)) <|
      ask (idx x544 (List.length r455)) <|
      if (List.getD r455 (Int.toNat x544) 0) < 0 then
        ask (List.length b541 + List.length ([3] : List Int) ≤ 1000000000) <|
        ask (in64 (x544 + 1)) <|
        watch_made_l1 N aAccept r441 r455 m623 (b541 ++ ([3] : List Int)) (x544 + 1)
      else
        ask (idx x544 (List.length r441)) <|
        if (List.getD r441 (Int.toNat x544) 0) < 0 then
          ask (List.length b541 + List.length ([2] : List Int) ≤ 1000000000) <|
          ask (in64 (x544 + 1)) <|
          watch_made_l1 N aAccept r441 r455 m623 (b541 ++ ([2] : List Int)) (x544 + 1)
        else
          if (List.getD aAccept (Int.toNat x544) false) = true then
            ask (List.length b541 + List.length ([1] : List Int) ≤ 1000000000) <|
            ask (in64 (x544 + 1)) <|
            watch_made_l1 N aAccept r441 r455 m623 (b541 ++ ([1] : List Int)) (x544 + 1)
          else
            ask (List.length b541 + List.length ([0] : List Int) ≤ 1000000000) <|
            ask (in64 (x544 + 1)) <|
            watch_made_l1 N aAccept r441 r455 m623 (b541 ++ ([0] : List Int)) (x544 + 1)
    else
      some b541
def watch_made (N : Nat) (aProps : Int) (aAccept : List Bool) (aGuard : List Int) (aNodes : List Nd) : Option ((Int × (List Bool) × (List Int) × (List Nd)) × (List Int) × (List Int)) :=
  ask (List.length ([] : List Bool) + List.length aAccept ≤ 1000000000) <|
  ask (List.length ([] : List Int) + List.length aGuard ≤ 1000000000) <|
  ask (List.length ([] : List Nd) + List.length aNodes ≤ 1000000000) <|
  Option.bind (watch_made_l0 N aProps aAccept aGuard aNodes N [] [] 0) fun x311 =>
  Option.bind (watch_backward N x311.1 aAccept) fun r441 =>
  Option.bind (watch_backward N x311.1 x311.2) fun r455 =>
  Option.bind (watch_made_l1 N aAccept r441 r455 N [] 0) fun x624 =>
  some ((aProps, ([] : List Bool) ++ aAccept, ([] : List Int) ++ aGuard, ([] : List Nd) ++ aNodes), r441, x624)
set_option maxRecDepth 100000 in
set_option maxHeartbeats 4000000 in
theorem watch_made_calls {N : Nat} {S Fa : Nat → Prop} {w0 : World} {r : (Int × (List Bool) × (List Int) × (List Nd)) × (List Int) × (List Int)} (A1 : Option Addr) (c2 : Nat) (A5 : Option Addr) (c6 : Nat) (A9 : Option Addr) (c10 : Nat) (aProps : Int) (aAccept : List Bool) (aGuard : List Int) (aNodes : List Nd) (hk3 : List.length aAccept ≤ c2) (hk7 : List.length aGuard ≤ c6) (hk11 : List.length aNodes ≤ c10) (H : Hp S Fa w0 w0 [.ro false cBool A1 aAccept, .ro false (cInt .i64) A5 aGuard, .ro false cNode A9 aNodes]) (hP : watch_made N aProps aAccept aGuard aNodes = some r) :
    Calls Try.prog 38 #[.agg #[.int .i64 aProps, .slice A1 (List.length aAccept) c2, .slice A5 (List.length aGuard) c6, .slice A9 (List.length aNodes) c10]] w0 fun e w' => ∃ v, e = .returned v ∧ (∃ (x_ : (Int × (List Bool) × (List Int) × (List Nd)) × (List Int) × (List Int)) (b14 : Nat), r = x_ ∧ v = .pointer (some ⟨b14, 0, none⟩) ∧ Hp S Fa w0 w' [.ro true cS78 (some ⟨b14, 0, none⟩) ([x_])]) := by
 refine enterV (n := 133) Try.func38 rfl rfl rfl ?_
 intro a E
 replace E := E.pick [(0, .agg #[.int .i64 aProps, .slice A1 (List.length aAccept) c2, .slice A5 (List.length aGuard) c6, .slice A9 (List.length aNodes) c10])] ⟨rfl, trivial⟩
 rw [watch_made] at hP
 refine wp_seq ?_
 refine wp_region_lit ?_
 refine h_box H E rfl rfl rfl ?_
 intro w117 g116 a hc118 hg120 H_ E_
 replace E := E_ _ rfl; clear E_
 replace H := H_; clear H_; try dsimp only [setn, addE, goneL] at H
 refine vn tbok 1 [] [] [] E (by kernel_rfl) (by kernel_rfl) trivial ?_
 clear E; intro a E
 refine wpList_nil ?_
 refine th_n ?_
 refine wp_seq ?_
 refine wp_region_lit ?_
 refine vn tbok 2 [.int .i64 aProps] [(15, .int .i64 aProps)] [World.cell? w117 ⟨g116, 0, none⟩ = some (.int .i64 aProps)] E (by kernel_rfl) (by kernel_rfl) ((H.box 3 rfl).cell (j := 0) rfl) ?_
 clear E; intro a E
 refine e_build (ps := [(0, .int .i64 aProps)]) (v := .agg #[.int .i64 aProps, .slice none 0 0, .slice none 0 0, .slice none 0 0]) E rfl rfl tbok rfl (by kernel_rfl) rfl ?_
 clear E; intro a E
 refine e_build (ps := [(0, .agg #[.int .i64 aProps, .slice none 0 0, .slice none 0 0, .slice none 0 0])]) (v := .agg #[.int .i64 aProps, .slice none 0 0, .slice none 0 0, .slice none 0 0, .slice none 0 0, .slice none 0 0]) E rfl rfl tbok rfl (by kernel_rfl) rfl ?_
 clear E; intro a E
 refine h_box H E rfl rfl rfl ?_
 intro w122 g121 a hc123 hg125 H_ E_
 replace E := E_ _ rfl; clear E_
 replace H := H_; clear H_; try dsimp only [setn, addE, goneL] at H
 refine vn tbok 1 [] [(3, .pointer (some ⟨g121, 0, none⟩))] [] E (by kernel_rfl) (by kernel_rfl) trivial ?_
 clear E; intro a E
 refine wpList_nil ?_
 refine th_n ?_
 refine wp_seq ?_
 obtain ⟨g127, hP⟩ := ask_inv hP
 have HR138 := H
 refine dr_start (S := fun w_ => Chg (atL [.box g121 79 [.int .i64 aProps, .slice none 0 0, .slice none 0 0, .slice none 0 0, .slice none 0 0, .slice none 0 0]]) w122 w_) (by kernel_rfl) ?_
 intro w135 hc136
 have HS137 : Chg (atL [.box g121 79 [.int .i64 aProps, .slice none 0 0, .slice none 0 0, .slice none 0 0, .slice none 0 0, .slice none 0 0]]) w122 w135 := hc136.mono (fun _ _ h_ => h_.elim)
 replace H := H.ext hc136
 refine dn tbok (by kernel_rfl) [0, 1, 2, 3, 4, 6, 7] [.slice A1 (List.length aAccept) c2] [(19, .pointer (some ⟨g121, 0, none⟩)), (23, .pointer (some ⟨g121, 1, none⟩)), (26, .slice A1 (List.length aAccept) c2)] (fun w_ => [World.cell? w_ ⟨g116, 1, none⟩ = some (.slice A1 (List.length aAccept) c2)]) 6 E (fun _ _ => by kernel_rfl) (by kernel_rfl) (fun w_ hS_ => ((HR138.boxk [4] hS_ 3 rfl rfl).cell (j := 1) rfl)) (by kernel_rfl) HS137 ?_
 clear E; intro a E
 refine wpAnyH_all (rs := [5]) (by kernel_rfl) (by simp) ?_
 refine all1 ?_
 refine wpOp_of_list rfl ?_
 refine vn tbok 1 [.slice none 0 0] [(24, .slice none 0 0)] [World.cell? w135 ⟨g121, 1, none⟩ = some (.slice none 0 0)] E (by kernel_rfl) (by kernel_rfl) ((H.box 4 rfl).cell (j := 1) rfl) ?_
 clear E; intro a E
 refine wpList_nil ?_
 refine th_n ⟨HS137, ?_⟩
 refine wpAnyH_all (rs := [8]) (by kernel_rfl) (by simp) ?_
 refine all1 ?_
 refine wpOp_of_list rfl ?_
 replace H := H.nilrow cBool 4; try dsimp only [setn, addE, goneL] at H
 refine h_append cBool (xs := ([] : List Bool)) (ys := aAccept) (false : Bool) H 5 rfl E rfl rfl tbok rfl rfl rfl rfl rfl (fun _ _ => rfl) rfl rfl (fun _ HF_ => HF_.srcF flat_plain 0 rds_ro) g127 ?_
 intro w140 A141 c142 a hc143 hA144 H_ E_
 replace E := E_ _ rfl; clear E_
 have hin145 : ∀ q_, q_ < w122.heap.size → At A141 q_ → (atL [.box g121 79 [.int .i64 aProps, .slice none 0 0, .slice none 0 0, .slice none 0 0, .slice none 0 0, .slice none 0 0]]) q_ := fun q_ h1_ h2_ => (hA144 q_ h2_).elim ((fun q_ _ h_ => absurd h_ (At.nil q_)) q_ h1_) (fun h3_ => by have hs_ := HS137.size; exfalso; omega)
 replace HS137 := HS137.trans hc143 (fun k_ hk_ h_ => (fun q_ _ h_ => absurd h_ (At.nil q_)) k_ hk_ h_)
 replace H := H_; clear H_; try dsimp only [setn, addE, goneL] at H
 refine wpList_nil ?_
 refine th_n ⟨HS137, ?_⟩
 refine dn tbok (by kernel_rfl) [9, 10, 11] [] [(30, .pointer (some ⟨g121, 1, none⟩))] (fun w_ => []) 1 E (fun _ _ => by kernel_rfl) (by kernel_rfl) (fun w_ hS_ => trivial) (by kernel_rfl) HS137 ?_
 clear E; intro a E
 refine wpAnyH_all (rs := [12]) (by kernel_rfl) (by simp) ?_
 refine all1 ?_
 refine wpOp_of_list rfl ?_
 refine h_store (g := g121) (off := 1) H 4 rfl E rfl rfl rfl rfl tbok rfl rfl rfl rfl rfl ?_
 clear E; intro w146 a hc147 H_ E
 replace HS137 := HS137.trans hc147 (fun k_ hk_ h_ => (fun _ _ h_ => Or.inl h_) k_ hk_ h_)
 replace H := H_; clear H_; try dsimp only [setn, addE, goneL] at H
 refine wpList_nil ?_
 refine th_n ⟨HS137, ?_⟩
 refine dr_done (by kernel_rfl) ?_
 clear HS137 HR138
 refine th_n ?_
 refine wp_seq ?_
 obtain ⟨g149, hP⟩ := ask_inv hP
 have HR160 := H
 refine dr_start (S := fun w_ => Chg (atL [.box g121 79 [.int .i64 aProps, .slice A141 (List.length (([] : List Bool) ++ aAccept)) c142, .slice none 0 0, .slice none 0 0, .slice none 0 0, .slice none 0 0]]) w146 w_) (by kernel_rfl) ?_
 intro w157 hc158
 have HS159 : Chg (atL [.box g121 79 [.int .i64 aProps, .slice A141 (List.length (([] : List Bool) ++ aAccept)) c142, .slice none 0 0, .slice none 0 0, .slice none 0 0, .slice none 0 0]]) w146 w157 := hc158.mono (fun _ _ h_ => h_.elim)
 replace H := H.ext hc158
 refine dn tbok (by kernel_rfl) [0, 1, 2, 3, 4, 6, 7] [.slice A5 (List.length aGuard) c6] [(31, .pointer (some ⟨g121, 0, none⟩)), (35, .pointer (some ⟨g121, 2, none⟩)), (38, .slice A5 (List.length aGuard) c6)] (fun w_ => [World.cell? w_ ⟨g116, 2, none⟩ = some (.slice A5 (List.length aGuard) c6)]) 6 E (fun _ _ => by kernel_rfl) (by kernel_rfl) (fun w_ hS_ => ((HR160.boxk [4] hS_ 3 rfl rfl).cell (j := 2) rfl)) (by kernel_rfl) HS159 ?_
 clear E; intro a E
 refine wpAnyH_all (rs := [5]) (by kernel_rfl) (by simp) ?_
 refine all1 ?_
 refine wpOp_of_list rfl ?_
 refine vn tbok 1 [.slice none 0 0] [(36, .slice none 0 0)] [World.cell? w157 ⟨g121, 2, none⟩ = some (.slice none 0 0)] E (by kernel_rfl) (by kernel_rfl) ((H.box 4 rfl).cell (j := 2) rfl) ?_
 clear E; intro a E
 refine wpList_nil ?_
 refine th_n ⟨HS159, ?_⟩
 refine wpAnyH_all (rs := [8]) (by kernel_rfl) (by simp) ?_
 refine all1 ?_
 refine wpOp_of_list rfl ?_
 replace H := H.nilrow (cInt .i64) 3; try dsimp only [setn, addE, goneL] at H
 refine h_append (cInt .i64) (xs := ([] : List Int)) (ys := aGuard) (0 : Int) H 6 rfl E rfl rfl tbok rfl rfl rfl rfl rfl (fun _ _ => rfl) rfl rfl (fun _ HF_ => HF_.srcF flat_plain 1 rds_ro) g149 ?_
 intro w162 A163 c164 a hc165 hA166 H_ E_
 replace E := E_ _ rfl; clear E_
 have hin167 : ∀ q_, q_ < w146.heap.size → At A163 q_ → (atL [.box g121 79 [.int .i64 aProps, .slice A141 (List.length (([] : List Bool) ++ aAccept)) c142, .slice none 0 0, .slice none 0 0, .slice none 0 0, .slice none 0 0]]) q_ := fun q_ h1_ h2_ => (hA166 q_ h2_).elim ((fun q_ _ h_ => absurd h_ (At.nil q_)) q_ h1_) (fun h3_ => by have hs_ := HS159.size; exfalso; omega)
 replace HS159 := HS159.trans hc165 (fun k_ hk_ h_ => (fun q_ _ h_ => absurd h_ (At.nil q_)) k_ hk_ h_)
 replace H := H_; clear H_; try dsimp only [setn, addE, goneL] at H
 refine wpList_nil ?_
 refine th_n ⟨HS159, ?_⟩
 refine dn tbok (by kernel_rfl) [9, 10, 11] [] [(42, .pointer (some ⟨g121, 2, none⟩))] (fun w_ => []) 1 E (fun _ _ => by kernel_rfl) (by kernel_rfl) (fun w_ hS_ => trivial) (by kernel_rfl) HS159 ?_
 clear E; intro a E
 refine wpAnyH_all (rs := [12]) (by kernel_rfl) (by simp) ?_
 refine all1 ?_
 refine wpOp_of_list rfl ?_
 refine h_store (g := g121) (off := 2) H 4 rfl E rfl rfl rfl rfl tbok rfl rfl rfl rfl rfl ?_
 clear E; intro w168 a hc169 H_ E
 replace HS159 := HS159.trans hc169 (fun k_ hk_ h_ => (fun _ _ h_ => Or.inl h_) k_ hk_ h_)
 replace H := H_; clear H_; try dsimp only [setn, addE, goneL] at H
 refine wpList_nil ?_
 refine th_n ⟨HS159, ?_⟩
 refine dr_done (by kernel_rfl) ?_
 clear HS159 HR160
 refine th_n ?_
 refine wp_seq ?_
 obtain ⟨g171, hP⟩ := ask_inv hP
 have HR182 := H
 refine dr_start (S := fun w_ => Chg (atL [.box g121 79 [.int .i64 aProps, .slice A141 (List.length (([] : List Bool) ++ aAccept)) c142, .slice A163 (List.length (([] : List Int) ++ aGuard)) c164, .slice none 0 0, .slice none 0 0, .slice none 0 0]]) w168 w_) (by kernel_rfl) ?_
 intro w179 hc180
 have HS181 : Chg (atL [.box g121 79 [.int .i64 aProps, .slice A141 (List.length (([] : List Bool) ++ aAccept)) c142, .slice A163 (List.length (([] : List Int) ++ aGuard)) c164, .slice none 0 0, .slice none 0 0, .slice none 0 0]]) w168 w179 := hc180.mono (fun _ _ h_ => h_.elim)
 replace H := H.ext hc180
 refine dn tbok (by kernel_rfl) [0, 1, 2, 3, 4, 6, 7] [.slice A9 (List.length aNodes) c10] [(43, .pointer (some ⟨g121, 0, none⟩)), (47, .pointer (some ⟨g121, 3, none⟩)), (50, .slice A9 (List.length aNodes) c10)] (fun w_ => [World.cell? w_ ⟨g116, 3, none⟩ = some (.slice A9 (List.length aNodes) c10)]) 6 E (fun _ _ => by kernel_rfl) (by kernel_rfl) (fun w_ hS_ => ((HR182.boxk [4] hS_ 3 rfl rfl).cell (j := 3) rfl)) (by kernel_rfl) HS181 ?_
 clear E; intro a E
 refine wpAnyH_all (rs := [5]) (by kernel_rfl) (by simp) ?_
 refine all1 ?_
 refine wpOp_of_list rfl ?_
 refine vn tbok 1 [.slice none 0 0] [(48, .slice none 0 0)] [World.cell? w179 ⟨g121, 3, none⟩ = some (.slice none 0 0)] E (by kernel_rfl) (by kernel_rfl) ((H.box 4 rfl).cell (j := 3) rfl) ?_
 clear E; intro a E
 refine wpList_nil ?_
 refine th_n ⟨HS181, ?_⟩
 refine wpAnyH_all (rs := [8]) (by kernel_rfl) (by simp) ?_
 refine all1 ?_
 refine wpOp_of_list rfl ?_
 replace H := H.nilrow cNode 75; try dsimp only [setn, addE, goneL] at H
 refine h_append cNode (xs := ([] : List Nd)) (ys := aNodes) ((default : Nd) : Nd) H 7 rfl E rfl rfl tbok rfl rfl rfl rfl rfl (fun _ _ => rfl) rfl rfl (fun _ HF_ => HF_.srcF flat_plain 2 rds_ro) g171 ?_
 intro w184 A185 c186 a hc187 hA188 H_ E_
 replace E := E_ _ rfl; clear E_
 have hin189 : ∀ q_, q_ < w168.heap.size → At A185 q_ → (atL [.box g121 79 [.int .i64 aProps, .slice A141 (List.length (([] : List Bool) ++ aAccept)) c142, .slice A163 (List.length (([] : List Int) ++ aGuard)) c164, .slice none 0 0, .slice none 0 0, .slice none 0 0]]) q_ := fun q_ h1_ h2_ => (hA188 q_ h2_).elim ((fun q_ _ h_ => absurd h_ (At.nil q_)) q_ h1_) (fun h3_ => by have hs_ := HS181.size; exfalso; omega)
 replace HS181 := HS181.trans hc187 (fun k_ hk_ h_ => (fun q_ _ h_ => absurd h_ (At.nil q_)) k_ hk_ h_)
 replace H := H_; clear H_; try dsimp only [setn, addE, goneL] at H
 refine wpList_nil ?_
 refine th_n ⟨HS181, ?_⟩
 refine dn tbok (by kernel_rfl) [9, 10, 11] [] [(54, .pointer (some ⟨g121, 3, none⟩))] (fun w_ => []) 1 E (fun _ _ => by kernel_rfl) (by kernel_rfl) (fun w_ hS_ => trivial) (by kernel_rfl) HS181 ?_
 clear E; intro a E
 refine wpAnyH_all (rs := [12]) (by kernel_rfl) (by simp) ?_
 refine all1 ?_
 refine wpOp_of_list rfl ?_
 refine h_store (g := g121) (off := 3) H 4 rfl E rfl rfl rfl rfl tbok rfl rfl rfl rfl rfl ?_
 clear E; intro w190 a hc191 H_ E
 replace HS181 := HS181.trans hc191 (fun k_ hk_ h_ => (fun _ _ h_ => Or.inl h_) k_ hk_ h_)
 replace H := H_; clear H_; try dsimp only [setn, addE, goneL] at H
 refine wpList_nil ?_
 refine th_n ⟨HS181, ?_⟩
 refine dr_done (by kernel_rfl) ?_
 clear HS181 HR182
 refine th_n ?_
 refine wp_seq ?_
 refine wp_region_lit ?_
 refine vn tbok 1 [] [(4, .slice none 0 0)] [] E (by kernel_rfl) (by kernel_rfl) trivial ?_
 clear E; intro a E
 refine wpList_nil ?_
 refine th_n ?_
 refine wp_seq ?_
 refine wp_region_lit ?_
 refine vn tbok 1 [] [(5, .slice none 0 0)] [] E (by kernel_rfl) (by kernel_rfl) trivial ?_
 clear E; intro a E
 refine wpList_nil ?_
 refine th_n ?_
 refine wp_seq ?_
 refine wp_seq ?_
 refine wp_region_lit ?_
 refine vn tbok 4 [.slice A5 (List.length aGuard) c6] [(56, .slice A5 (List.length aGuard) c6), (57, .int .i64 (((List.length aGuard) : Nat) : Int)), (58, .int .i64 0)] [World.cell? w190 ⟨g116, 2, none⟩ = some (.slice A5 (List.length aGuard) c6)] E (by kernel_rfl) (by kernel_rfl) ((H.box 3 rfl).cell (j := 2) rfl) ?_
 clear E; intro a E
 refine wpList_nil ?_
 refine th_n ?_
 refine wp_block ?_
 obtain ⟨x311, hL312, hK313⟩ := bind_inv hP
 clear hP
 replace H := H.nilrow (cSl (cInt .i64)) 25; try dsimp only [setn, addE, goneL] at H
 replace H := H.nilrow cBool 4; try dsimp only [setn, addE, goneL] at H
 refine loop_cut (fun i_ a w_ => (i_ = 0 ∧ ∃ (x318 : (List (List Int)) × (List Bool)), ∃ (A304 : Option Addr) (c305 : Nat) (A308 : Option Addr) (c309 : Nat), Fr a 133 [(1, .pointer (some ⟨g116, 0, none⟩)), (3, .pointer (some ⟨g121, 0, none⟩)), (4, .slice A304 (List.length x318.1) c305), (5, .slice A308 (List.length x318.2) c309)] ∧ Hp S Fa w0 w_ [.ro false cBool A1 aAccept, .ro false (cInt .i64) A5 aGuard, .ro false cNode A9 aNodes, .box g116 43 [.int .i64 aProps, .slice A1 (List.length aAccept) c2, .slice A5 (List.length aGuard) c6, .slice A9 (List.length aNodes) c10], .row true cBool 4 A141 c142 (([] : List Bool) ++ aAccept), .row true (cInt .i64) 3 A163 c164 (([] : List Int) ++ aGuard), .row true cNode 75 A185 c186 (([] : List Nd) ++ aNodes), .box g121 79 [.int .i64 aProps, .slice A141 (List.length (([] : List Bool) ++ aAccept)) c142, .slice A163 (List.length (([] : List Int) ++ aGuard)) c164, .slice A185 (List.length (([] : List Nd) ++ aNodes)) c186, .slice none 0 0, .slice none 0 0], .row true (cSl (cInt .i64)) 25 A304 c305 x318.1, .row true cBool 4 A308 c309 x318.2] ∧ x311 = x318)) ?_ ?_
 ·
  refine loopV (fun m317 a w316 => ∃ (x244 : List (List Int)) (not248 : List Bool) (x251 : Int), ∃ (A245 : Option Addr) (c246 : Nat) (A249 : Option Addr) (c250 : Nat), Fr a 133 [(1, .pointer (some ⟨g116, 0, none⟩)), (3, .pointer (some ⟨g121, 0, none⟩)), (4, .slice A245 (List.length x244) c246), (5, .slice A249 (List.length not248) c250), (56, .slice A5 (List.length aGuard) c6), (57, .int .i64 (((List.length aGuard) : Nat) : Int)), (58, .int .i64 x251)] ∧ Hp S Fa w0 w316 [.ro false cBool A1 aAccept, .ro false (cInt .i64) A5 aGuard, .ro false cNode A9 aNodes, .box g116 43 [.int .i64 aProps, .slice A1 (List.length aAccept) c2, .slice A5 (List.length aGuard) c6, .slice A9 (List.length aNodes) c10], .row true cBool 4 A141 c142 (([] : List Bool) ++ aAccept), .row true (cInt .i64) 3 A163 c164 (([] : List Int) ++ aGuard), .row true cNode 75 A185 c186 (([] : List Nd) ++ aNodes), .box g121 79 [.int .i64 aProps, .slice A141 (List.length (([] : List Bool) ++ aAccept)) c142, .slice A163 (List.length (([] : List Int) ++ aGuard)) c164, .slice A185 (List.length (([] : List Nd) ++ aNodes)) c186, .slice none 0 0, .slice none 0 0], .row true (cSl (cInt .i64)) 25 A245 c246 x244, .row true cBool 4 A249 c250 not248] ∧ watch_made_l0 N aProps aAccept aGuard aNodes m317 x244 not248 x251 = some x311) N ?_ ?_
  ·
   exact ⟨[], [], 0, none, 0, none, 0, E.pick _ ⟨rfl, rfl, rfl, rfl, rfl, rfl, rfl, trivial⟩, H.sel [0, 1, 2, 3, 5, 6, 7, 4, 8, 9] rfl, hL312⟩
  clear E H hL312; intro m317 a w316 hI_
  obtain ⟨x244, not248, x251, A245, c246, A249, c250, E, H, hP⟩ := hI_
  obtain ⟨m310, rfl⟩ : ∃ q_, m317 = q_ + 1 := by cases m317 with | zero => rw [watch_made_l0] at hP; cases hP | succ q_ => exact ⟨q_, rfl⟩
  rw [watch_made_l0] at hP
  refine wp_seq ?_
  refine wp_region_lit ?_
  refine vn tbok 1 [] [(59, .bool (decide (x251 < (((List.length aGuard) : Nat) : Int))))] [] E (by kernel_rfl) (by kernel_rfl) trivial ?_
  clear E; intro a E
  refine wpList_nil ?_
  refine th_n ?_
  refine wp_seq ?_
  refine E.cases (t := 59) rfl (fun hb_ E_ => ?_) (fun hb_ E_ => ?_)
  ·
   replace E := E_; clear E_
   have h319 : x251 < (((List.length aGuard) : Nat) : Int) := of_decide_eq_true hb_
   clear hb_; replace hP := ite_t h319 hP
   refine c_true E rfl ?_
   refine wp_skip ?_
   refine th_n ?_
   refine wp_seq ?_
   refine wp_block ?_
   refine wp_seq ?_
   refine wp_region_lit ?_
   obtain ⟨g320, hP⟩ := ask_inv hP
   obtain ⟨b321, o322, e_b321⟩ := (H.rd 1 rds_ro).addr (idx_pos g320)
   subst e_b321
   refine vn tbok 5 [.int .i64 (List.getD aGuard (Int.toNat x251) 0)] [(6, .int .i64 x251), (7, .int .i64 (List.getD aGuard (Int.toNat x251) 0))] [0 ≤ x251 ∧ x251 < (((List.length aGuard) : Nat) : Int), World.cell? w316 ⟨b321, o322 + (Int.toNat x251) * 1, none⟩ = some (.int .i64 (List.getD aGuard (Int.toNat x251) 0))] E (by kernel_rfl) (by kernel_rfl) ⟨g320, Rds.at1 (H.rd 1 rds_ro) 0 g320⟩ ?_
   clear E; intro a E
   refine wpList_nil ?_
   refine th_n ?_
   refine wp_seq ?_
   refine wp_region_lit ?_
   refine vn tbok 5 [.int .i64 aProps, .slice A9 (List.length aNodes) c10] [(65, .int .i64 aProps), (67, .slice A9 (List.length aNodes) c10), (68, .int .i64 (List.getD aGuard (Int.toNat x251) 0))] [World.cell? w316 ⟨g116, 0, none⟩ = some (.int .i64 aProps), World.cell? w316 ⟨g116, 3, none⟩ = some (.slice A9 (List.length aNodes) c10)] E (by kernel_rfl) (by kernel_rfl) ⟨(H.box 3 rfl).cell (j := 0) rfl, (H.box 3 rfl).cell (j := 3) rfl⟩ ?_
   clear E; intro a E
   obtain ⟨r323, h324, hP⟩ := bind_inv hP
   obtain ⟨Fa325, Hc326, hb327⟩ := H.call [] [(2, false)] rfl rfl trivial
   refine e_call E rfl rfl Try.func52 rfl rfl rfl (guard_Table_calls A9 c10 aProps aNodes (List.getD aGuard (Int.toNat x251) 0) hk11 Hc326 h324) ?_
   rintro v328 w329 a ⟨A332, c333, rfl, HR330⟩ E_
   replace E := E_ _ rfl; clear E_
   obtain ⟨H_, hc331⟩ := hb327 _ _ HR330 rfl
   replace H := H_; clear H_; try dsimp only [setn, addE, goneL] at H
   refine vn tbok 5 [] [(8, .slice A332 (List.length r323.1) c333)] [] E (by kernel_rfl) (by kernel_rfl) trivial ?_
   clear E; intro a E
   refine wpList_nil ?_
   refine th_n ?_
   obtain ⟨g341, hP⟩ := ask_inv hP
   obtain ⟨g347, hP⟩ := ask_inv hP
   obtain ⟨b348, o349, e_b348⟩ := (H.rd 0 rds_ro).addr (idx_pos g347)
   subst e_b348
   obtain ⟨g355, hP⟩ := ask_inv hP
   refine meet_cut (fun a w365 => ∃ (A361 : Option Addr) (c362 : Nat) (A363 : Option Addr) (c364 : Nat), Fr a 133 [(1, .pointer (some ⟨g116, 0, none⟩)), (3, .pointer (some ⟨g121, 0, none⟩)), (4, .slice A361 (List.length (x244 ++ ([r323.1] : List (List Int)))) c362), (5, .slice A363 (List.length (not248 ++ ([!(List.getD aAccept (Int.toNat x251) false)] : List Bool))) c364), (56, .slice (some ⟨b321, o322, none⟩) (List.length aGuard) c6), (57, .int .i64 (((List.length aGuard) : Nat) : Int)), (58, .int .i64 x251)] ∧ Hp S Fa w0 w365 [.ro false cBool (some ⟨b348, o349, none⟩) aAccept, .ro false (cInt .i64) (some ⟨b321, o322, none⟩) aGuard, .ro false cNode A9 aNodes, .box g116 43 [.int .i64 aProps, .slice (some ⟨b348, o349, none⟩) (List.length aAccept) c2, .slice (some ⟨b321, o322, none⟩) (List.length aGuard) c6, .slice A9 (List.length aNodes) c10], .row true cBool 4 A141 c142 (([] : List Bool) ++ aAccept), .row true (cInt .i64) 3 A163 c164 (([] : List Int) ++ aGuard), .row true cNode 75 A185 c186 (([] : List Nd) ++ aNodes), .box g121 79 [.int .i64 aProps, .slice A141 (List.length (([] : List Bool) ++ aAccept)) c142, .slice A163 (List.length (([] : List Int) ++ aGuard)) c164, .slice A185 (List.length (([] : List Nd) ++ aNodes)) c186, .slice none 0 0, .slice none 0 0], .row true (cSl (cInt .i64)) 25 A361 c362 (x244 ++ ([r323.1] : List (List Int))), .row true cBool 4 A363 c364 (not248 ++ ([!(List.getD aAccept (Int.toNat x251) false)] : List Bool))]) ?_ ?_
   ·
    have HR369 := H
    refine dr_start (S := fun w_ => Chg (atL [.row true (cSl (cInt .i64)) 25 A245 c246 x244, .row true cBool 4 A249 c250 not248]) w329 w_) (by kernel_rfl) ?_
    intro w366 hc367
    have HS368 : Chg (atL [.row true (cSl (cInt .i64)) 25 A245 c246 x244, .row true cBool 4 A249 c250 not248]) w329 w366 := hc367.mono (fun _ _ h_ => h_.elim)
    replace H := H.ext hc367
    refine dn tbok (by kernel_rfl) [0, 1, 4, 5, 6, 7, 8, 9, 10] [.slice (some ⟨b348, o349, none⟩) (List.length aAccept) c2, .bool (List.getD aAccept (Int.toNat x251) false)] [(72, .slice A245 (List.length x244) c246), (73, .slice A332 (List.length r323.1) c333), (76, .slice A249 (List.length not248) c250), (82, .bool (!(List.getD aAccept (Int.toNat x251) false)))] (fun w_ => [World.cell? w_ ⟨g116, 1, none⟩ = some (.slice (some ⟨b348, o349, none⟩) (List.length aAccept) c2), 0 ≤ x251 ∧ x251 < (((List.length aAccept) : Nat) : Int), World.cell? w_ ⟨b348, o349 + (Int.toNat x251) * 1, none⟩ = some (.bool (List.getD aAccept (Int.toNat x251) false))]) 6 E (fun _ _ => by kernel_rfl) (by kernel_rfl) (fun w_ hS_ => ⟨(HR369.boxk [8, 9] hS_ 3 rfl rfl).cell (j := 1) rfl, g347, Rds.at1 (HR369.rdk [8, 9] hS_ 0 rds_ro rfl) false g347⟩) (by kernel_rfl) HS368 ?_
    clear E; intro a E
    refine wpAnyH_all (rs := [2, 11]) (by kernel_rfl) (by simp) ?_
    refine all2 ?_ ?_
    ·
     refine wpOp_of_list rfl ?_
     refine h_buildSlice (ps := [(0, .slice A332 (List.length r323.1) c333)]) (cs := [.slice A332 (List.length r323.1) c333]) H E rfl rfl tbok rfl rfl (by kernel_rfl) ?_
     intro w371 g370 a hc372 hg374 H_ E_
     replace E := E_ _ rfl; clear E_
     have hin375 : ∀ q_, q_ < w329.heap.size → q_ = g370 → (atL [.row true (cSl (cInt .i64)) 25 A245 c246 x244, .row true cBool 4 A249 c250 not248]) q_ := fun q_ h1_ h2_ => by have hs_ := HS368.size; have h4_ : q_ = g370 := h2_; exfalso; omega
     replace HS368 := HS368.ext hc372
     replace H := H_; clear H_; try dsimp only [setn, addE, goneL] at H
     refine wpList_nil ?_
     refine th_n ⟨HS368, ?_⟩
     refine wpAnyH_all (rs := [3, 11]) (by kernel_rfl) (by simp) ?_
     refine all2 ?_ ?_
     ·
      refine wpOp_of_list rfl ?_
      have hk376 := H.rcap 10 rfl
      replace H := H.frz 10 rfl; try dsimp only [setn, addE, goneL] at H
      refine h_append (cSl (cInt .i64)) (xs := x244) (ys := ([r323.1] : List (List Int))) ([] : List Int) H 8 rfl E rfl rfl tbok rfl rfl rfl rfl rfl (fun _ _ => kSl_nil) rfl rfl (fun _ HF_ => HF_.srcB 11 rfl ⟨_, _, rfl, ⟨_, _, rfl, hk376, (HF_.roC 10 rfl)⟩, rfl⟩) g341 ?_
      intro w377 A378 c379 a hc380 hA381 H_ E_
      replace E := E_ _ rfl; clear E_
      have hin382 : ∀ q_, q_ < w329.heap.size → At A378 q_ → (atL [.row true (cSl (cInt .i64)) 25 A245 c246 x244, .row true cBool 4 A249 c250 not248]) q_ := fun q_ h1_ h2_ => (hA381 q_ h2_).elim ((fun _ _ h_ => Or.inl h_) q_ h1_) (fun h3_ => by have hs_ := HS368.size; exfalso; omega)
      replace HS368 := HS368.trans hc380 (fun k_ hk_ h_ => (fun _ _ h_ => Or.inl h_) k_ hk_ h_)
      replace H := H_; clear H_; try dsimp only [setn, addE, goneL] at H
      refine wpList_nil ?_
      refine th_n ⟨HS368, ?_⟩
      refine wpAnyH_all (rs := [11]) (by kernel_rfl) (by simp) ?_
      refine all1 ?_
      refine wpOp_of_list rfl ?_
      refine h_buildSlice (ps := [(0, .bool (!(List.getD aAccept (Int.toNat x251) false)))]) (cs := [.bool (!(List.getD aAccept (Int.toNat x251) false))]) H E rfl rfl tbok rfl rfl (by kernel_rfl) ?_
      intro w384 g383 a hc385 hg387 H_ E_
      replace E := E_ _ rfl; clear E_
      have hin388 : ∀ q_, q_ < w329.heap.size → q_ = g383 → (atL [.row true (cSl (cInt .i64)) 25 A245 c246 x244, .row true cBool 4 A249 c250 not248]) q_ := fun q_ h1_ h2_ => by have hs_ := HS368.size; have h4_ : q_ = g383 := h2_; exfalso; omega
      replace HS368 := HS368.ext hc385
      replace H := H_; clear H_; try dsimp only [setn, addE, goneL] at H
      refine wpList_nil ?_
      refine th_n ⟨HS368, ?_⟩
      refine wpAnyH_all (rs := [12]) (by kernel_rfl) (by simp) ?_
      refine all1 ?_
      refine wpOp_of_list rfl ?_
      refine h_append cBool (xs := not248) (ys := ([!(List.getD aAccept (Int.toNat x251) false)] : List Bool)) (false : Bool) H 9 rfl E rfl rfl tbok rfl rfl rfl rfl rfl (fun _ _ => rfl) rfl rfl (fun _ HF_ => HF_.srcB 12 rfl (⟨_, _, rfl, rfl, rfl⟩)) g355 ?_
      intro w389 A390 c391 a hc392 hA393 H_ E_
      replace E := E_ _ rfl; clear E_
      have hin394 : ∀ q_, q_ < w329.heap.size → At A390 q_ → (atL [.row true (cSl (cInt .i64)) 25 A245 c246 x244, .row true cBool 4 A249 c250 not248]) q_ := fun q_ h1_ h2_ => (hA393 q_ h2_).elim ((fun _ _ h_ => Or.inr (Or.inl h_)) q_ h1_) (fun h3_ => by have hs_ := HS368.size; exfalso; omega)
      replace HS368 := HS368.trans hc392 (fun k_ hk_ h_ => (fun _ _ h_ => Or.inr (Or.inl h_)) k_ hk_ h_)
      replace H := H_; clear H_; try dsimp only [setn, addE, goneL] at H
      refine wpList_nil ?_
      refine th_n ⟨HS368, ?_⟩
      refine dn tbok (by kernel_rfl) [13, 14] [] [(4, .slice A378 (List.length (x244 ++ ([r323.1] : List (List Int)))) c379), (5, .slice A390 (List.length (not248 ++ ([!(List.getD aAccept (Int.toNat x251) false)] : List Bool))) c391)] (fun w_ => []) 0 E (fun _ _ => by kernel_rfl) (by kernel_rfl) (fun w_ hS_ => trivial) (by kernel_rfl) HS368 ?_
      clear E; intro a E
      refine dr_done (by kernel_rfl) ?_
      exact .inl ⟨rfl, A378, c379, A390, c391, E.pick _ ⟨rfl, rfl, rfl, rfl, rfl, rfl, rfl, trivial⟩, H.sel [0, 1, 2, 3, 4, 5, 6, 7, 8, 9] rfl⟩
     refine wpOp_of_list rfl ?_
     refine h_buildSlice (ps := [(0, .bool (!(List.getD aAccept (Int.toNat x251) false)))]) (cs := [.bool (!(List.getD aAccept (Int.toNat x251) false))]) H E rfl rfl tbok rfl rfl (by kernel_rfl) ?_
     intro w396 g395 a hc397 hg399 H_ E_
     replace E := E_ _ rfl; clear E_
     have hin400 : ∀ q_, q_ < w329.heap.size → q_ = g395 → (atL [.row true (cSl (cInt .i64)) 25 A245 c246 x244, .row true cBool 4 A249 c250 not248]) q_ := fun q_ h1_ h2_ => by have hs_ := HS368.size; have h4_ : q_ = g395 := h2_; exfalso; omega
     replace HS368 := HS368.ext hc397
     replace H := H_; clear H_; try dsimp only [setn, addE, goneL] at H
     refine wpList_nil ?_
     refine th_n ⟨HS368, ?_⟩
     refine wpAnyH_all (rs := [3]) (by kernel_rfl) (by simp) ?_
     refine all1 ?_
     refine wpOp_of_list rfl ?_
     have hk401 := H.rcap 10 rfl
     replace H := H.frz 10 rfl; try dsimp only [setn, addE, goneL] at H
     refine h_append (cSl (cInt .i64)) (xs := x244) (ys := ([r323.1] : List (List Int))) ([] : List Int) H 8 rfl E rfl rfl tbok rfl rfl rfl rfl rfl (fun _ _ => kSl_nil) rfl rfl (fun _ HF_ => HF_.srcB 11 rfl ⟨_, _, rfl, ⟨_, _, rfl, hk401, (HF_.roC 10 rfl)⟩, rfl⟩) g341 ?_
     intro w402 A403 c404 a hc405 hA406 H_ E_
     replace E := E_ _ rfl; clear E_
     have hin407 : ∀ q_, q_ < w329.heap.size → At A403 q_ → (atL [.row true (cSl (cInt .i64)) 25 A245 c246 x244, .row true cBool 4 A249 c250 not248]) q_ := fun q_ h1_ h2_ => (hA406 q_ h2_).elim ((fun _ _ h_ => Or.inl h_) q_ h1_) (fun h3_ => by have hs_ := HS368.size; exfalso; omega)
     replace HS368 := HS368.trans hc405 (fun k_ hk_ h_ => (fun _ _ h_ => Or.inl h_) k_ hk_ h_)
     replace H := H_; clear H_; try dsimp only [setn, addE, goneL] at H
     refine wpList_nil ?_
     refine th_n ⟨HS368, ?_⟩
     refine wpAnyH_all (rs := [12]) (by kernel_rfl) (by simp) ?_
     refine all1 ?_
     refine wpOp_of_list rfl ?_
     refine h_append cBool (xs := not248) (ys := ([!(List.getD aAccept (Int.toNat x251) false)] : List Bool)) (false : Bool) H 9 rfl E rfl rfl tbok rfl rfl rfl rfl rfl (fun _ _ => rfl) rfl rfl (fun _ HF_ => HF_.srcB 12 rfl (⟨_, _, rfl, rfl, rfl⟩)) g355 ?_
     intro w408 A409 c410 a hc411 hA412 H_ E_
     replace E := E_ _ rfl; clear E_
     have hin413 : ∀ q_, q_ < w329.heap.size → At A409 q_ → (atL [.row true (cSl (cInt .i64)) 25 A245 c246 x244, .row true cBool 4 A249 c250 not248]) q_ := fun q_ h1_ h2_ => (hA412 q_ h2_).elim ((fun _ _ h_ => Or.inr (Or.inl h_)) q_ h1_) (fun h3_ => by have hs_ := HS368.size; exfalso; omega)
     replace HS368 := HS368.trans hc411 (fun k_ hk_ h_ => (fun _ _ h_ => Or.inr (Or.inl h_)) k_ hk_ h_)
     replace H := H_; clear H_; try dsimp only [setn, addE, goneL] at H
     refine wpList_nil ?_
     refine th_n ⟨HS368, ?_⟩
     refine dn tbok (by kernel_rfl) [13, 14] [] [(4, .slice A403 (List.length (x244 ++ ([r323.1] : List (List Int)))) c404), (5, .slice A409 (List.length (not248 ++ ([!(List.getD aAccept (Int.toNat x251) false)] : List Bool))) c410)] (fun w_ => []) 0 E (fun _ _ => by kernel_rfl) (by kernel_rfl) (fun w_ hS_ => trivial) (by kernel_rfl) HS368 ?_
     clear E; intro a E
     refine dr_done (by kernel_rfl) ?_
     exact .inl ⟨rfl, A403, c404, A409, c410, E.pick _ ⟨rfl, rfl, rfl, rfl, rfl, rfl, rfl, trivial⟩, H.sel [0, 1, 2, 3, 4, 5, 6, 7, 8, 9] rfl⟩
    refine wpOp_of_list rfl ?_
    refine h_buildSlice (ps := [(0, .bool (!(List.getD aAccept (Int.toNat x251) false)))]) (cs := [.bool (!(List.getD aAccept (Int.toNat x251) false))]) H E rfl rfl tbok rfl rfl (by kernel_rfl) ?_
    intro w415 g414 a hc416 hg418 H_ E_
    replace E := E_ _ rfl; clear E_
    have hin419 : ∀ q_, q_ < w329.heap.size → q_ = g414 → (atL [.row true (cSl (cInt .i64)) 25 A245 c246 x244, .row true cBool 4 A249 c250 not248]) q_ := fun q_ h1_ h2_ => by have hs_ := HS368.size; have h4_ : q_ = g414 := h2_; exfalso; omega
    replace HS368 := HS368.ext hc416
    replace H := H_; clear H_; try dsimp only [setn, addE, goneL] at H
    refine wpList_nil ?_
    refine th_n ⟨HS368, ?_⟩
    refine wpAnyH_all (rs := [2]) (by kernel_rfl) (by simp) ?_
    refine all1 ?_
    refine wpOp_of_list rfl ?_
    refine h_buildSlice (ps := [(0, .slice A332 (List.length r323.1) c333)]) (cs := [.slice A332 (List.length r323.1) c333]) H E rfl rfl tbok rfl rfl (by kernel_rfl) ?_
    intro w421 g420 a hc422 hg424 H_ E_
    replace E := E_ _ rfl; clear E_
    have hin425 : ∀ q_, q_ < w329.heap.size → q_ = g420 → (atL [.row true (cSl (cInt .i64)) 25 A245 c246 x244, .row true cBool 4 A249 c250 not248]) q_ := fun q_ h1_ h2_ => by have hs_ := HS368.size; have h4_ : q_ = g420 := h2_; exfalso; omega
    replace HS368 := HS368.ext hc422
    replace H := H_; clear H_; try dsimp only [setn, addE, goneL] at H
    refine wpList_nil ?_
    refine th_n ⟨HS368, ?_⟩
    refine wpAnyH_all (rs := [3]) (by kernel_rfl) (by simp) ?_
    refine all1 ?_
    refine wpOp_of_list rfl ?_
    have hk426 := H.rcap 10 rfl
    replace H := H.frz 10 rfl; try dsimp only [setn, addE, goneL] at H
    refine h_append (cSl (cInt .i64)) (xs := x244) (ys := ([r323.1] : List (List Int))) ([] : List Int) H 8 rfl E rfl rfl tbok rfl rfl rfl rfl rfl (fun _ _ => kSl_nil) rfl rfl (fun _ HF_ => HF_.srcB 12 rfl ⟨_, _, rfl, ⟨_, _, rfl, hk426, (HF_.roC 10 rfl)⟩, rfl⟩) g341 ?_
    intro w427 A428 c429 a hc430 hA431 H_ E_
    replace E := E_ _ rfl; clear E_
    have hin432 : ∀ q_, q_ < w329.heap.size → At A428 q_ → (atL [.row true (cSl (cInt .i64)) 25 A245 c246 x244, .row true cBool 4 A249 c250 not248]) q_ := fun q_ h1_ h2_ => (hA431 q_ h2_).elim ((fun _ _ h_ => Or.inl h_) q_ h1_) (fun h3_ => by have hs_ := HS368.size; exfalso; omega)
    replace HS368 := HS368.trans hc430 (fun k_ hk_ h_ => (fun _ _ h_ => Or.inl h_) k_ hk_ h_)
    replace H := H_; clear H_; try dsimp only [setn, addE, goneL] at H
    refine wpList_nil ?_
    refine th_n ⟨HS368, ?_⟩
    refine wpAnyH_all (rs := [12]) (by kernel_rfl) (by simp) ?_
    refine all1 ?_
    refine wpOp_of_list rfl ?_
    refine h_append cBool (xs := not248) (ys := ([!(List.getD aAccept (Int.toNat x251) false)] : List Bool)) (false : Bool) H 9 rfl E rfl rfl tbok rfl rfl rfl rfl rfl (fun _ _ => rfl) rfl rfl (fun _ HF_ => HF_.srcB 11 rfl (⟨_, _, rfl, rfl, rfl⟩)) g355 ?_
    intro w433 A434 c435 a hc436 hA437 H_ E_
    replace E := E_ _ rfl; clear E_
    have hin438 : ∀ q_, q_ < w329.heap.size → At A434 q_ → (atL [.row true (cSl (cInt .i64)) 25 A245 c246 x244, .row true cBool 4 A249 c250 not248]) q_ := fun q_ h1_ h2_ => (hA437 q_ h2_).elim ((fun _ _ h_ => Or.inr (Or.inl h_)) q_ h1_) (fun h3_ => by have hs_ := HS368.size; exfalso; omega)
    replace HS368 := HS368.trans hc436 (fun k_ hk_ h_ => (fun _ _ h_ => Or.inr (Or.inl h_)) k_ hk_ h_)
    replace H := H_; clear H_; try dsimp only [setn, addE, goneL] at H
    refine wpList_nil ?_
    refine th_n ⟨HS368, ?_⟩
    refine dn tbok (by kernel_rfl) [13, 14] [] [(4, .slice A428 (List.length (x244 ++ ([r323.1] : List (List Int)))) c429), (5, .slice A434 (List.length (not248 ++ ([!(List.getD aAccept (Int.toNat x251) false)] : List Bool))) c435)] (fun w_ => []) 0 E (fun _ _ => by kernel_rfl) (by kernel_rfl) (fun w_ hS_ => trivial) (by kernel_rfl) HS368 ?_
    clear E; intro a E
    refine dr_done (by kernel_rfl) ?_
    exact .inl ⟨rfl, A428, c429, A434, c435, E.pick _ ⟨rfl, rfl, rfl, rfl, rfl, rfl, rfl, trivial⟩, H.sel [0, 1, 2, 3, 4, 5, 6, 7, 8, 9] rfl⟩
   clear E H; rintro a w365 ⟨A361, c362, A363, c364, E, H⟩
   refine bl_n ?_
   refine th_n ?_
   refine wp_region_lit ?_
   obtain ⟨g439, hP⟩ := ask_inv hP
   refine vn tbok 2 [.int .i64 (x251 + 1)] [(58, .int .i64 (x251 + 1))] [IntKind.i64.wrap (x251 + 1) = x251 + 1] E (by kernel_rfl) (by kernel_rfl) (wrap_in g439) ?_
   clear E; intro a E
   refine wpList_nil ?_
   exact th_n ⟨m310, Nat.lt_succ_self _, x244 ++ ([r323.1] : List (List Int)), not248 ++ ([!(List.getD aAccept (Int.toNat x251) false)] : List Bool), x251 + 1, A361, c362, A363, c364, E.pick _ ⟨rfl, rfl, rfl, rfl, rfl, rfl, rfl, trivial⟩, H.sel [0, 1, 2, 3, 4, 5, 6, 7, 8, 9] rfl, hP⟩
  replace E := E_; clear E_
  have h440 : ¬ (x251 < (((List.length aGuard) : Nat) : Int)) := of_decide_eq_false hb_
  clear hb_; replace hP := ite_f h440 hP
  refine c_false E rfl ?_
  refine wp_exit ?_
  refine th_exit ?_
  have hx_ := Option.some.inj hP
  refine th_exit (.inl ⟨0, rfl, ?_⟩)
  exact ⟨rfl, (x244, not248), A245, c246, A249, c250, E.pick _ ⟨rfl, rfl, rfl, rfl, trivial⟩, H.sel [0, 1, 2, 3, 4, 5, 6, 7, 8, 9] rfl, hx_.symm⟩
 clear E H hL312; intro i_ a w316 hM_
 obtain ⟨rfl, x318, A304, c305, A308, c309, E, H, hx_⟩ := hM_
 subst hx_; have hP := hK313; clear hK313
 refine bl_hit ?_
 refine th_n ?_
 refine wp_seq ?_
 refine wp_region_lit ?_
 refine vn tbok 4 [.slice A1 (List.length aAccept) c2] [(86, .pointer (some ⟨g121, 0, none⟩)), (87, .slice A304 (List.length x311.1) c305), (89, .slice A1 (List.length aAccept) c2)] [World.cell? w316 ⟨g116, 1, none⟩ = some (.slice A1 (List.length aAccept) c2)] E (by kernel_rfl) (by kernel_rfl) ((H.box 3 rfl).cell (j := 1) rfl) ?_
 clear E; intro a E
 obtain ⟨r441, h442, hP⟩ := bind_inv hP
 obtain ⟨Fa443, Hc444, hb445⟩ := H.call [] [(8, false), (0, false)] rfl rfl trivial
 refine e_call E rfl rfl Try.func53 rfl rfl rfl (watch_backward_calls A304 c305 A1 c2 x311.1 aAccept (H.rcap 8 rfl) hk3 Hc444 h442) ?_
 rintro v446 w447 a ⟨A450, c451, rfl, HR448⟩ E_
 replace E := E_ _ rfl; clear E_
 obtain ⟨H_, hc449⟩ := hb445 _ _ HR448 rfl
 replace H := H_; clear H_; try dsimp only [setn, addE, goneL] at H
 refine vn tbok 2 [] [(92, .pointer (some ⟨g121, 4, none⟩))] [] E (by kernel_rfl) (by kernel_rfl) trivial ?_
 clear E; intro a E
 refine h_store (g := g121) (off := 4) H 7 rfl E rfl rfl rfl rfl tbok rfl rfl rfl rfl rfl ?_
 clear E; intro w453 a hc454 H_ E
 replace H := H_; clear H_; try dsimp only [setn, addE, goneL] at H
 refine wpList_nil ?_
 refine th_n ?_
 refine wp_seq ?_
 refine wp_region_lit ?_
 refine vn tbok 2 [] [(93, .slice A304 (List.length x311.1) c305), (94, .slice A308 (List.length x311.2) c309)] [] E (by kernel_rfl) (by kernel_rfl) trivial ?_
 clear E; intro a E
 obtain ⟨r455, h456, hP⟩ := bind_inv hP
 obtain ⟨Fa457, Hc458, hb459⟩ := H.call [] [(8, false), (9, false)] rfl rfl trivial
 refine e_call E rfl rfl Try.func53 rfl rfl rfl (watch_backward_calls A304 c305 A308 c309 x311.1 x311.2 (H.rcap 8 rfl) (H.rcap 9 rfl) Hc458 h456) ?_
 rintro v460 w461 a ⟨A464, c465, rfl, HR462⟩ E_
 replace E := E_ _ rfl; clear E_
 obtain ⟨H_, hc463⟩ := hb459 _ _ HR462 rfl
 replace H := H_; clear H_; try dsimp only [setn, addE, goneL] at H
 refine vn tbok 1 [] [(10, .slice A464 (List.length r455) c465)] [] E (by kernel_rfl) (by kernel_rfl) trivial ?_
 clear E; intro a E
 refine wpList_nil ?_
 refine th_n ?_
 refine wp_seq ?_
 refine wp_seq ?_
 refine wp_region_lit ?_
 refine vn tbok 4 [.slice A1 (List.length aAccept) c2] [(97, .slice A1 (List.length aAccept) c2), (98, .int .i64 (((List.length aAccept) : Nat) : Int)), (99, .int .i64 0)] [World.cell? w461 ⟨g116, 1, none⟩ = some (.slice A1 (List.length aAccept) c2)] E (by kernel_rfl) (by kernel_rfl) ((H.box 3 rfl).cell (j := 1) rfl) ?_
 clear E; intro a E
 refine wpList_nil ?_
 refine th_n ?_
 refine wp_block ?_
 obtain ⟨x624, hL625, hK626⟩ := bind_inv hP
 clear hP
 replace H := H.nilrow (cInt .u8) 29; try dsimp only [setn, addE, goneL] at H
 refine loop_cut (fun i_ a w_ => (i_ = 2 ∧ ∃ (x630 : List Int), ∃ (A621 : Option Addr) (c622 : Nat), Fr a 133 [(3, .pointer (some ⟨g121, 0, none⟩))] ∧ Hp S Fa w0 w_ [.box g121 79 [.int .i64 aProps, .slice A141 (List.length (([] : List Bool) ++ aAccept)) c142, .slice A163 (List.length (([] : List Int) ++ aGuard)) c164, .slice A185 (List.length (([] : List Nd) ++ aNodes)) c186, .slice A450 (List.length r441) c451, .slice A621 (List.length x630) c622], .row true cBool 4 A141 c142 (([] : List Bool) ++ aAccept), .row true (cInt .i64) 3 A163 c164 (([] : List Int) ++ aGuard), .row true cNode 75 A185 c186 (([] : List Nd) ++ aNodes), .row true (cInt .i64) 3 A450 c451 r441, .row true (cInt .u8) 29 A621 c622 x630] ∧ x624 = x630)) ?_ ?_
 ·
  refine loopV (fun m629 a w628 => ∃ (b541 : List Int) (x544 : Int), ∃ (A542 : Option Addr) (c543 : Nat), Fr a 133 [(3, .pointer (some ⟨g121, 0, none⟩)), (10, .slice A464 (List.length r455) c465), (97, .slice A1 (List.length aAccept) c2), (98, .int .i64 (((List.length aAccept) : Nat) : Int)), (99, .int .i64 x544)] ∧ Hp S Fa w0 w628 [.box g121 79 [.int .i64 aProps, .slice A141 (List.length (([] : List Bool) ++ aAccept)) c142, .slice A163 (List.length (([] : List Int) ++ aGuard)) c164, .slice A185 (List.length (([] : List Nd) ++ aNodes)) c186, .slice A450 (List.length r441) c451, .slice A542 (List.length b541) c543], .row true cBool 4 A141 c142 (([] : List Bool) ++ aAccept), .row true (cInt .i64) 3 A163 c164 (([] : List Int) ++ aGuard), .row true cNode 75 A185 c186 (([] : List Nd) ++ aNodes), .row true (cInt .i64) 3 A450 c451 r441, .row true (cInt .u8) 29 A542 c543 b541, .row true (cInt .i64) 3 A464 c465 r455, .ro false cBool A1 aAccept] ∧ watch_made_l1 N aAccept r441 r455 m629 b541 x544 = some x624) N ?_ ?_
  ·
   exact ⟨[], 0, none, 0, E.pick _ ⟨rfl, rfl, rfl, rfl, rfl, trivial⟩, H.sel [7, 4, 5, 6, 10, 12, 11, 0] rfl, hL625⟩
  clear E H hL625; intro m629 a w628 hI_
  obtain ⟨b541, x544, A542, c543, E, H, hP⟩ := hI_
  obtain ⟨m623, rfl⟩ : ∃ q_, m629 = q_ + 1 := by cases m629 with | zero => rw [watch_made_l1] at hP; cases hP | succ q_ => exact ⟨q_, rfl⟩
  rw [watch_made_l1] at hP
  refine wp_seq ?_
  refine wp_region_lit ?_
  refine vn tbok 1 [] [(100, .bool (decide (x544 < (((List.length aAccept) : Nat) : Int))))] [] E (by kernel_rfl) (by kernel_rfl) trivial ?_
  clear E; intro a E
  refine wpList_nil ?_
  refine th_n ?_
  refine wp_seq ?_
  refine E.cases (t := 100) rfl (fun hb_ E_ => ?_) (fun hb_ E_ => ?_)
  ·
   replace E := E_; clear E_
   have h631 : x544 < (((List.length aAccept) : Nat) : Int) := of_decide_eq_true hb_
   clear hb_; replace hP := ite_t h631 hP
   refine c_true E rfl ?_
   refine wp_skip ?_
   refine th_n ?_
   refine wp_seq ?_
   refine wp_block ?_
   refine wp_seq ?_
   refine wp_region_lit ?_
   obtain ⟨g632, hP⟩ := ask_inv hP
   obtain ⟨b633, o634, e_b633⟩ := (H.rd 7 rds_ro).addr (idx_pos g632)
   subst e_b633
   refine vn tbok 5 [.bool (List.getD aAccept (Int.toNat x544) false)] [(11, .int .i64 x544), (12, .bool (List.getD aAccept (Int.toNat x544) false))] [0 ≤ x544 ∧ x544 < (((List.length aAccept) : Nat) : Int), World.cell? w628 ⟨b633, o634 + (Int.toNat x544) * 1, none⟩ = some (.bool (List.getD aAccept (Int.toNat x544) false))] E (by kernel_rfl) (by kernel_rfl) ⟨g632, Rds.at1 (H.rd 7 rds_ro) false g632⟩ ?_
   clear E; intro a E
   refine wpList_nil ?_
   refine th_n ?_
   refine wp_seq ?_
   refine wp_region_lit ?_
   refine vn tbok 1 [] [(13, .int .u8 0)] [] E (by kernel_rfl) (by kernel_rfl) trivial ?_
   clear E; intro a E
   refine wpList_nil ?_
   refine th_n ?_
   refine wp_seq ?_
   refine wp_block ?_
   refine wp_seq ?_
   refine wp_region_lit ?_
   obtain ⟨g635, hP⟩ := ask_inv hP
   obtain ⟨b636, e_b636⟩ := H.raddr 6 rfl (idx_pos g635)
   subst e_b636
   refine vn tbok 6 [.int .i64 (List.getD r455 (Int.toNat x544) 0)] [(104, .bool (decide ((List.getD r455 (Int.toNat x544) 0) < 0)))] [0 ≤ x544 ∧ x544 < (((List.length r455) : Nat) : Int), World.cell? w628 ⟨b636, 0 + (Int.toNat x544) * 1, none⟩ = some (.int .i64 (List.getD r455 (Int.toNat x544) 0))] E (by kernel_rfl) (by kernel_rfl) ⟨g635, Rds.at1 (H.rd 6 rds_row) 0 g635⟩ ?_
   clear E; intro a E
   refine wpList_nil ?_
   refine th_n ?_
   refine E.cases (t := 104) rfl (fun hb_ E_ => ?_) (fun hb_ E_ => ?_)
   ·
    replace E := E_; clear E_
    have h638 : (List.getD r455 (Int.toNat x544) 0) < 0 := of_decide_eq_true hb_
    clear hb_; replace hP := ite_t h638 hP
    refine c_true E rfl ?_
    refine wp_region_lit ?_
    refine vn tbok 1 [] [(13, .int .u8 3)] [] E (by kernel_rfl) (by kernel_rfl) trivial ?_
    clear E; intro a E
    refine wpList_nil ?_
    refine bl_n ?_
    refine th_n ?_
    refine wp_region_lit ?_
    refine vn tbok 6 [.slice A542 (List.length b541) c543] [(121, .pointer (some ⟨g121, 0, none⟩)), (125, .slice A542 (List.length b541) c543), (126, .int .u8 3)] [World.cell? w628 ⟨g121, 5, none⟩ = some (.slice A542 (List.length b541) c543)] E (by kernel_rfl) (by kernel_rfl) ((H.box 0 rfl).cell (j := 5) rfl) ?_
    clear E; intro a E
    refine h_buildSlice (ps := [(0, .int .u8 3)]) (cs := [.int .u8 3]) H E rfl rfl tbok rfl rfl (by kernel_rfl) ?_
    intro w640 g639 a hc641 hg643 H_ E_
    replace E := E_ _ rfl; clear E_
    replace H := H_; clear H_; try dsimp only [setn, addE, goneL] at H
    obtain ⟨g644, hP⟩ := ask_inv hP
    refine h_append (cInt .u8) (xs := b541) (ys := ([3] : List Int)) (0 : Int) H 5 rfl E rfl rfl tbok rfl rfl rfl rfl rfl (fun _ _ => rfl) rfl rfl (fun _ HF_ => HF_.srcB 8 rfl (⟨_, _, rfl, rfl, rfl⟩)) g644 ?_
    intro w645 A646 c647 a hc648 hA649 H_ E_
    replace E := E_ _ rfl; clear E_
    replace H := H_; clear H_; try dsimp only [setn, addE, goneL] at H
    refine vn tbok 2 [] [(130, .pointer (some ⟨g121, 5, none⟩))] [] E (by kernel_rfl) (by kernel_rfl) trivial ?_
    clear E; intro a E
    refine h_store (g := g121) (off := 5) H 0 rfl E rfl rfl rfl rfl tbok rfl rfl rfl rfl rfl ?_
    clear E; intro w650 a hc651 H_ E
    replace H := H_; clear H_; try dsimp only [setn, addE, goneL] at H
    refine wpList_nil ?_
    refine bl_n ?_
    refine th_n ?_
    refine wp_region_lit ?_
    obtain ⟨g652, hP⟩ := ask_inv hP
    refine vn tbok 2 [.int .i64 (x544 + 1)] [(99, .int .i64 (x544 + 1))] [IntKind.i64.wrap (x544 + 1) = x544 + 1] E (by kernel_rfl) (by kernel_rfl) (wrap_in g652) ?_
    clear E; intro a E
    refine wpList_nil ?_
    exact th_n ⟨m623, Nat.lt_succ_self _, b541 ++ ([3] : List Int), x544 + 1, A646, c647, E.pick _ ⟨rfl, rfl, rfl, rfl, rfl, trivial⟩, H.sel [0, 1, 2, 3, 4, 5, 6, 7] rfl, hP⟩
   replace E := E_; clear E_
   have h653 : ¬ ((List.getD r455 (Int.toNat x544) 0) < 0) := of_decide_eq_false hb_
   clear hb_; replace hP := ite_f h653 hP
   refine c_false E rfl ?_
   refine wp_seq ?_
   refine wp_region_lit ?_
   obtain ⟨g654, hP⟩ := ask_inv hP
   obtain ⟨b655, e_b655⟩ := H.raddr 4 rfl (idx_pos g654)
   subst e_b655
   refine vn tbok 9 [.slice (some ⟨b655, 0, none⟩) (List.length r441) c451, .int .i64 (List.getD r441 (Int.toNat x544) 0)] [(110, .bool (decide ((List.getD r441 (Int.toNat x544) 0) < 0)))] [World.cell? w628 ⟨g121, 4, none⟩ = some (.slice (some ⟨b655, 0, none⟩) (List.length r441) c451), 0 ≤ x544 ∧ x544 < (((List.length r441) : Nat) : Int), World.cell? w628 ⟨b655, 0 + (Int.toNat x544) * 1, none⟩ = some (.int .i64 (List.getD r441 (Int.toNat x544) 0))] E (by kernel_rfl) (by kernel_rfl) ⟨(H.box 0 rfl).cell (j := 4) rfl, g654, Rds.at1 (H.rd 4 rds_row) 0 g654⟩ ?_
   clear E; intro a E
   refine wpList_nil ?_
   refine th_n ?_
   refine E.cases (t := 110) rfl (fun hb_ E_ => ?_) (fun hb_ E_ => ?_)
   ·
    replace E := E_; clear E_
    have h657 : (List.getD r441 (Int.toNat x544) 0) < 0 := of_decide_eq_true hb_
    clear hb_; replace hP := ite_t h657 hP
    refine c_true E rfl ?_
    refine wp_region_lit ?_
    refine vn tbok 1 [] [(13, .int .u8 2)] [] E (by kernel_rfl) (by kernel_rfl) trivial ?_
    clear E; intro a E
    refine wpList_nil ?_
    refine bl_n ?_
    refine th_n ?_
    refine wp_region_lit ?_
    refine vn tbok 6 [.slice A542 (List.length b541) c543] [(121, .pointer (some ⟨g121, 0, none⟩)), (125, .slice A542 (List.length b541) c543), (126, .int .u8 2)] [World.cell? w628 ⟨g121, 5, none⟩ = some (.slice A542 (List.length b541) c543)] E (by kernel_rfl) (by kernel_rfl) ((H.box 0 rfl).cell (j := 5) rfl) ?_
    clear E; intro a E
    refine h_buildSlice (ps := [(0, .int .u8 2)]) (cs := [.int .u8 2]) H E rfl rfl tbok rfl rfl (by kernel_rfl) ?_
    intro w659 g658 a hc660 hg662 H_ E_
    replace E := E_ _ rfl; clear E_
    replace H := H_; clear H_; try dsimp only [setn, addE, goneL] at H
    obtain ⟨g663, hP⟩ := ask_inv hP
    refine h_append (cInt .u8) (xs := b541) (ys := ([2] : List Int)) (0 : Int) H 5 rfl E rfl rfl tbok rfl rfl rfl rfl rfl (fun _ _ => rfl) rfl rfl (fun _ HF_ => HF_.srcB 8 rfl (⟨_, _, rfl, rfl, rfl⟩)) g663 ?_
    intro w664 A665 c666 a hc667 hA668 H_ E_
    replace E := E_ _ rfl; clear E_
    replace H := H_; clear H_; try dsimp only [setn, addE, goneL] at H
    refine vn tbok 2 [] [(130, .pointer (some ⟨g121, 5, none⟩))] [] E (by kernel_rfl) (by kernel_rfl) trivial ?_
    clear E; intro a E
    refine h_store (g := g121) (off := 5) H 0 rfl E rfl rfl rfl rfl tbok rfl rfl rfl rfl rfl ?_
    clear E; intro w669 a hc670 H_ E
    replace H := H_; clear H_; try dsimp only [setn, addE, goneL] at H
    refine wpList_nil ?_
    refine bl_n ?_
    refine th_n ?_
    refine wp_region_lit ?_
    obtain ⟨g671, hP⟩ := ask_inv hP
    refine vn tbok 2 [.int .i64 (x544 + 1)] [(99, .int .i64 (x544 + 1))] [IntKind.i64.wrap (x544 + 1) = x544 + 1] E (by kernel_rfl) (by kernel_rfl) (wrap_in g671) ?_
    clear E; intro a E
    refine wpList_nil ?_
    exact th_n ⟨m623, Nat.lt_succ_self _, b541 ++ ([2] : List Int), x544 + 1, A665, c666, E.pick _ ⟨rfl, rfl, rfl, rfl, rfl, trivial⟩, H.sel [0, 1, 2, 3, 4, 5, 6, 7] rfl, hP⟩
   replace E := E_; clear E_
   have h672 : ¬ ((List.getD r441 (Int.toNat x544) 0) < 0) := of_decide_eq_false hb_
   clear hb_; replace hP := ite_f h672 hP
   refine c_false E rfl ?_
   refine wp_seq ?_
   refine wp_region_lit ?_
   refine vn tbok 2 [] [(119, .bool (List.getD aAccept (Int.toNat x544) false))] [] E (by kernel_rfl) (by kernel_rfl) trivial ?_
   clear E; intro a E
   refine wpList_nil ?_
   refine th_n ?_
   refine E.cases (t := 119) rfl (fun hb_ E_ => ?_) (fun hb_ E_ => ?_)
   ·
    replace E := E_; clear E_
    have h673 : (List.getD aAccept (Int.toNat x544) false) = true := hb_
    clear hb_; replace hP := ite_t h673 hP
    refine c_true E rfl ?_
    refine wp_region_lit ?_
    refine vn tbok 1 [] [(13, .int .u8 1)] [] E (by kernel_rfl) (by kernel_rfl) trivial ?_
    clear E; intro a E
    refine wpList_nil ?_
    refine bl_n ?_
    refine th_n ?_
    refine wp_region_lit ?_
    refine vn tbok 6 [.slice A542 (List.length b541) c543] [(121, .pointer (some ⟨g121, 0, none⟩)), (125, .slice A542 (List.length b541) c543), (126, .int .u8 1)] [World.cell? w628 ⟨g121, 5, none⟩ = some (.slice A542 (List.length b541) c543)] E (by kernel_rfl) (by kernel_rfl) ((H.box 0 rfl).cell (j := 5) rfl) ?_
    clear E; intro a E
    refine h_buildSlice (ps := [(0, .int .u8 1)]) (cs := [.int .u8 1]) H E rfl rfl tbok rfl rfl (by kernel_rfl) ?_
    intro w675 g674 a hc676 hg678 H_ E_
    replace E := E_ _ rfl; clear E_
    replace H := H_; clear H_; try dsimp only [setn, addE, goneL] at H
    obtain ⟨g679, hP⟩ := ask_inv hP
    refine h_append (cInt .u8) (xs := b541) (ys := ([1] : List Int)) (0 : Int) H 5 rfl E rfl rfl tbok rfl rfl rfl rfl rfl (fun _ _ => rfl) rfl rfl (fun _ HF_ => HF_.srcB 8 rfl (⟨_, _, rfl, rfl, rfl⟩)) g679 ?_
    intro w680 A681 c682 a hc683 hA684 H_ E_
    replace E := E_ _ rfl; clear E_
    replace H := H_; clear H_; try dsimp only [setn, addE, goneL] at H
    refine vn tbok 2 [] [(130, .pointer (some ⟨g121, 5, none⟩))] [] E (by kernel_rfl) (by kernel_rfl) trivial ?_
    clear E; intro a E
    refine h_store (g := g121) (off := 5) H 0 rfl E rfl rfl rfl rfl tbok rfl rfl rfl rfl rfl ?_
    clear E; intro w685 a hc686 H_ E
    replace H := H_; clear H_; try dsimp only [setn, addE, goneL] at H
    refine wpList_nil ?_
    refine bl_n ?_
    refine th_n ?_
    refine wp_region_lit ?_
    obtain ⟨g687, hP⟩ := ask_inv hP
    refine vn tbok 2 [.int .i64 (x544 + 1)] [(99, .int .i64 (x544 + 1))] [IntKind.i64.wrap (x544 + 1) = x544 + 1] E (by kernel_rfl) (by kernel_rfl) (wrap_in g687) ?_
    clear E; intro a E
    refine wpList_nil ?_
    exact th_n ⟨m623, Nat.lt_succ_self _, b541 ++ ([1] : List Int), x544 + 1, A681, c682, E.pick _ ⟨rfl, rfl, rfl, rfl, rfl, trivial⟩, H.sel [0, 1, 2, 3, 4, 5, 6, 7] rfl, hP⟩
   replace E := E_; clear E_
   have h688 : ¬ ((List.getD aAccept (Int.toNat x544) false) = true) := (ne_true_of_eq_false hb_)
   clear hb_; replace hP := ite_f h688 hP
   refine c_false E rfl ?_
   refine wp_skip ?_
   refine bl_n ?_
   refine th_n ?_
   refine wp_region_lit ?_
   refine vn tbok 6 [.slice A542 (List.length b541) c543] [(121, .pointer (some ⟨g121, 0, none⟩)), (125, .slice A542 (List.length b541) c543), (126, .int .u8 0)] [World.cell? w628 ⟨g121, 5, none⟩ = some (.slice A542 (List.length b541) c543)] E (by kernel_rfl) (by kernel_rfl) ((H.box 0 rfl).cell (j := 5) rfl) ?_
   clear E; intro a E
   refine h_buildSlice (ps := [(0, .int .u8 0)]) (cs := [.int .u8 0]) H E rfl rfl tbok rfl rfl (by kernel_rfl) ?_
   intro w690 g689 a hc691 hg693 H_ E_
   replace E := E_ _ rfl; clear E_
   replace H := H_; clear H_; try dsimp only [setn, addE, goneL] at H
   obtain ⟨g694, hP⟩ := ask_inv hP
   refine h_append (cInt .u8) (xs := b541) (ys := ([0] : List Int)) (0 : Int) H 5 rfl E rfl rfl tbok rfl rfl rfl rfl rfl (fun _ _ => rfl) rfl rfl (fun _ HF_ => HF_.srcB 8 rfl (⟨_, _, rfl, rfl, rfl⟩)) g694 ?_
   intro w695 A696 c697 a hc698 hA699 H_ E_
   replace E := E_ _ rfl; clear E_
   replace H := H_; clear H_; try dsimp only [setn, addE, goneL] at H
   refine vn tbok 2 [] [(130, .pointer (some ⟨g121, 5, none⟩))] [] E (by kernel_rfl) (by kernel_rfl) trivial ?_
   clear E; intro a E
   refine h_store (g := g121) (off := 5) H 0 rfl E rfl rfl rfl rfl tbok rfl rfl rfl rfl rfl ?_
   clear E; intro w700 a hc701 H_ E
   replace H := H_; clear H_; try dsimp only [setn, addE, goneL] at H
   refine wpList_nil ?_
   refine bl_n ?_
   refine th_n ?_
   refine wp_region_lit ?_
   obtain ⟨g702, hP⟩ := ask_inv hP
   refine vn tbok 2 [.int .i64 (x544 + 1)] [(99, .int .i64 (x544 + 1))] [IntKind.i64.wrap (x544 + 1) = x544 + 1] E (by kernel_rfl) (by kernel_rfl) (wrap_in g702) ?_
   clear E; intro a E
   refine wpList_nil ?_
   exact th_n ⟨m623, Nat.lt_succ_self _, b541 ++ ([0] : List Int), x544 + 1, A696, c697, E.pick _ ⟨rfl, rfl, rfl, rfl, rfl, trivial⟩, H.sel [0, 1, 2, 3, 4, 5, 6, 7] rfl, hP⟩
  replace E := E_; clear E_
  have h703 : ¬ (x544 < (((List.length aAccept) : Nat) : Int)) := of_decide_eq_false hb_
  clear hb_; replace hP := ite_f h703 hP
  refine c_false E rfl ?_
  refine wp_exit ?_
  refine th_exit ?_
  have hx_ := Option.some.inj hP
  refine th_exit (.inl ⟨2, rfl, ?_⟩)
  exact ⟨rfl, b541, A542, c543, E.pick _ ⟨rfl, trivial⟩, H.sel [0, 1, 2, 3, 4, 5] rfl, hx_.symm⟩
 clear E H hL625; intro i_ a w628 hM_
 obtain ⟨rfl, x630, A621, c622, E, H, hx_⟩ := hM_
 subst hx_; have hP := hK626; clear hK626
 refine bl_hit ?_
 refine th_n ?_
 refine wp_seq ?_
 refine wp_region_lit ?_
 refine vn tbok 2 [] [(2, .pointer (some ⟨g121, 0, none⟩))] [] E (by kernel_rfl) (by kernel_rfl) trivial ?_
 clear E; intro a E
 refine wpList_nil ?_
 refine th_n ?_
 refine wp_ret ?_
 have hk704 := H.rcap 1 rfl
 replace H := H.frz 1 rfl; try dsimp only [setn, addE, goneL] at H
 have hk705 := H.rcap 2 rfl
 replace H := H.frz 2 rfl; try dsimp only [setn, addE, goneL] at H
 have hk706 := H.rcap 3 rfl
 replace H := H.frz 3 rfl; try dsimp only [setn, addE, goneL] at H
 have hk707 := H.rcap 4 rfl
 replace H := H.frz 4 rfl; try dsimp only [setn, addE, goneL] at H
 have hk708 := H.rcap 5 rfl
 replace H := H.frz 5 rfl; try dsimp only [setn, addE, goneL] at H
 replace H := H.frzbox cS78 true (((aProps, ([] : List Bool) ++ aAccept, ([] : List Int) ++ aGuard, ([] : List Nd) ++ aNodes), r441, x624) : (Int × (List Bool) × (List Int) × (List Nd)) × (List Int) × (List Int)) 0 rfl (fun _ HF_ => ⟨_, _, rfl, ⟨_, _, rfl, rfl, ⟨_, _, rfl, ⟨_, _, rfl, hk704, (HF_.roC 1 rfl)⟩, ⟨_, _, rfl, ⟨_, _, rfl, hk705, (HF_.roC 2 rfl)⟩, ⟨_, _, rfl, hk706, (HF_.roC 3 rfl)⟩⟩⟩⟩, ⟨_, _, rfl, ⟨_, _, rfl, hk707, (HF_.roC 4 rfl)⟩, ⟨_, _, rfl, hk708, (HF_.roC 5 rfl)⟩⟩⟩); try dsimp only [setn, addE, goneL] at H
 obtain rfl := Option.some.inj hP
 refine ret1 E rfl rfl ?_
 exact ⟨_, rfl, ⟨((aProps, ([] : List Bool) ++ aAccept, ([] : List Int) ++ aGuard, ([] : List Nd) ++ aNodes), r441, x624), g121, rfl, rfl, H.sel [0] rfl⟩⟩

/-! (*rejoinder/watch.Watch).none -/
def watch_Watch_none (N : Nat) (wboard : (Int × (List Bool) × (List Int) × (List Nd)) × (List Int) × (List Int)) (wcame : List Int) : Option Bool :=
  some false
set_option maxRecDepth 100000 in
set_option maxHeartbeats 4000000 in
theorem watch_Watch_none_calls {N : Nat} {S Fa : Nat → Prop} {w0 : World} {r : Bool} (g1 : Nat) (b3 : Nat) (o4 : Nat) (A6 : Option Addr) (c7 : Nat) (wboard : (Int × (List Bool) × (List Int) × (List Nd)) × (List Int) × (List Int)) (wcame : List Int) (H : Hp S Fa w0 w0 [.box g1 27 [.pointer (some ⟨b3, o4, none⟩), .slice A6 (List.length wcame) c7], .row true (cInt .i64) 3 A6 c7 wcame, .ro false cS78 (some ⟨b3, o4, none⟩) ([wboard])]) (hP : watch_Watch_none N wboard wcame = some r) :
    Calls Try.prog 32 #[.pointer (some ⟨g1, 0, none⟩)] w0 fun e w' => ∃ v, e = .returned v ∧ (∃ (x_ : Bool), r = x_ ∧ v = .bool x_ ∧ Hp S Fa w0 w' [.row true (cInt .i64) 3 A6 c7 wcame, .box g1 27 [.pointer (some ⟨b3, o4, none⟩), .slice A6 (List.length wcame) c7]]) := by
 refine enterV (n := 12) Try.func32 rfl rfl rfl ?_
 intro a E
 replace E := E.pick [(0, .pointer (some ⟨g1, 0, none⟩))] ⟨rfl, trivial⟩
 rw [watch_Watch_none] at hP
 refine wp_seq ?_
 refine wp_region_lit ?_
 refine vn tbok 1 [] [] [] E (by kernel_rfl) (by kernel_rfl) trivial ?_
 clear E; intro a E
 refine wpList_nil ?_
 refine th_n ?_
 refine wp_seq ?_
 refine wp_region_lit ?_
 refine vn tbok 10 [.pointer (some ⟨b3, o4, none⟩)] [(2, .bool false)] [World.cell? w0 ⟨g1, 0, none⟩ = some (.pointer (some ⟨b3, o4, none⟩))] E (by kernel_rfl) (by kernel_rfl) ((H.box 0 rfl).cell (j := 0) rfl) ?_
 clear E; intro a E
 refine wpList_nil ?_
 refine th_n ?_
 refine wp_ret ?_
 obtain rfl := Option.some.inj hP
 refine ret1 E rfl rfl ?_
 exact ⟨_, rfl, ⟨false, rfl, rfl, H.sel [1, 0] rfl⟩⟩

/-! (*rejoinder/watch.Watch).State -/
def watch_Watch_State (N : Nat) (wboard : (Int × (List Bool) × (List Int) × (List Nd)) × (List Int) × (List Int)) (wcame : List Int) : Option Int :=
  Option.bind (watch_Watch_none N wboard wcame) fun r110 =>
  if r110 = true then
    some 0
  else
    if ((((List.length wcame) : Nat) : Int) : Int) = 0 then
      some 0
    else
      ask (in64 ((((List.length wcame) : Nat) : Int) - 1)) <|
      ask (idx ((((List.length wcame) : Nat) : Int) - 1) (List.length wcame)) <|
      some (List.getD wcame (Int.toNat ((((List.length wcame) : Nat) : Int) - 1)) 0)
set_option maxRecDepth 100000 in
set_option maxHeartbeats 4000000 in
theorem watch_Watch_State_calls {N : Nat} {S Fa : Nat → Prop} {w0 : World} {r : Int} (g1 : Nat) (b3 : Nat) (o4 : Nat) (A6 : Option Addr) (c7 : Nat) (wboard : (Int × (List Bool) × (List Int) × (List Nd)) × (List Int) × (List Int)) (wcame : List Int) (H : Hp S Fa w0 w0 [.box g1 27 [.pointer (some ⟨b3, o4, none⟩), .slice A6 (List.length wcame) c7], .row true (cInt .i64) 3 A6 c7 wcame, .ro false cS78 (some ⟨b3, o4, none⟩) ([wboard])]) (hP : watch_Watch_State N wboard wcame = some r) :
    Calls Try.prog 13 #[.pointer (some ⟨g1, 0, none⟩)] w0 fun e w' => ∃ v, e = .returned v ∧ (∃ (x_ : Int), r = x_ ∧ v = .int .i64 x_ ∧ Hp S Fa w0 w' [.row true (cInt .i64) 3 A6 c7 wcame, .box g1 27 [.pointer (some ⟨b3, o4, none⟩), .slice A6 (List.length wcame) c7]]) := by
 refine enterV (n := 25) Try.func13 rfl rfl rfl ?_
 intro a E
 replace E := E.pick [(0, .pointer (some ⟨g1, 0, none⟩))] ⟨rfl, trivial⟩
 rw [watch_Watch_State] at hP
 refine wp_seq ?_
 refine wp_region_lit ?_
 refine vn tbok 1 [] [] [] E (by kernel_rfl) (by kernel_rfl) trivial ?_
 clear E; intro a E
 refine wpList_nil ?_
 refine th_n ?_
 refine wp_seq ?_
 refine wp_seq ?_
 refine wp_region_lit ?_
 refine vn tbok 1 [] [(3, .pointer (some ⟨g1, 0, none⟩))] [] E (by kernel_rfl) (by kernel_rfl) trivial ?_
 clear E; intro a E
 obtain ⟨r110, h111, hP⟩ := bind_inv hP
 obtain ⟨Fa112, Hc113, hb114⟩ := H.call [0, 1] [(2, false)] rfl rfl ⟨flat_plain, trivial⟩
 refine e_call E rfl rfl Try.func32 rfl rfl rfl (watch_Watch_none_calls g1 b3 o4 A6 c7 wboard wcame  Hc113 h111) ?_
 intro v120 w119 a hR121 E_
 obtain ⟨x_, hr_, rfl, HR123⟩ := hR121
 subst hr_
 replace E := E_ _ rfl; clear E_
 obtain ⟨H_, hc122⟩ := hb114 _ _ HR123 rfl
 replace H := H_; clear H_; try dsimp only [setn, addE, goneL] at H
 refine vn tbok 1 [] [(5, .bool r110)] [] E (by kernel_rfl) (by kernel_rfl) trivial ?_
 clear E; intro a E
 refine E.cases (t := 5) rfl (fun hb_ E_ => ?_) (fun hb_ E_ => ?_)
 ·
  replace E := E_; clear E_
  have h126 : r110 = true := hb_
  clear hb_; replace hP := ite_t h126 hP
  refine vn tbok 7 [] [(12, .bool true)] [] E (by kernel_rfl) (by kernel_rfl) trivial ?_
  clear E; intro a E
  refine wpList_nil ?_
  refine th_n ?_
  refine c_true E rfl ?_
  refine wp_seq ?_
  refine wp_region_lit ?_
  refine vn tbok 1 [] [(2, .int .i64 0)] [] E (by kernel_rfl) (by kernel_rfl) trivial ?_
  clear E; intro a E
  refine wpList_nil ?_
  refine th_n ?_
  refine wp_ret ?_
  refine th_ret ?_
  obtain rfl := Option.some.inj hP
  refine ret1 E rfl rfl ?_
  exact ⟨_, rfl, ⟨0, rfl, rfl, H.sel [3, 4] rfl⟩⟩
 replace E := E_; clear E_
 have h127 : ¬ (r110 = true) := (ne_true_of_eq_false hb_)
 clear hb_; replace hP := ite_f h127 hP
 refine vn tbok 7 [.slice A6 (List.length wcame) c7] [(12, .bool (((((List.length wcame) : Nat) : Int) : Int) == 0))] [World.cell? w119 ⟨g1, 1, none⟩ = some (.slice A6 (List.length wcame) c7)] E (by kernel_rfl) (by kernel_rfl) ((H.box 4 rfl).cell (j := 1) rfl) ?_
 clear E; intro a E
 refine wpList_nil ?_
 refine th_n ?_
 refine E.cases (t := 12) rfl (fun hb_ E_ => ?_) (fun hb_ E_ => ?_)
 ·
  replace E := E_; clear E_
  have h128 : ((((List.length wcame) : Nat) : Int) : Int) = 0 := eq_of_beq hb_
  clear hb_; replace hP := ite_t h128 hP
  refine c_true E rfl ?_
  refine wp_seq ?_
  refine wp_region_lit ?_
  refine vn tbok 1 [] [(2, .int .i64 0)] [] E (by kernel_rfl) (by kernel_rfl) trivial ?_
  clear E; intro a E
  refine wpList_nil ?_
  refine th_n ?_
  refine wp_ret ?_
  refine th_ret ?_
  obtain rfl := Option.some.inj hP
  refine ret1 E rfl rfl ?_
  exact ⟨_, rfl, ⟨0, rfl, rfl, H.sel [3, 4] rfl⟩⟩
 replace E := E_; clear E_
 have h129 : ¬ (((((List.length wcame) : Nat) : Int) : Int) = 0) := ne_of_beq_false hb_
 clear hb_; replace hP := ite_f h129 hP
 refine c_false E rfl ?_
 refine wp_skip ?_
 refine th_n ?_
 refine wp_seq ?_
 obtain ⟨g130, hP⟩ := ask_inv hP
 obtain ⟨g131, hP⟩ := ask_inv hP
 obtain ⟨b132, e_b132⟩ := H.raddr 3 rfl (idx_pos g131)
 subst e_b132
 have HR137 := H
 refine dr_start (S := fun w_ => Chg (atL []) w119 w_) (by kernel_rfl) ?_
 intro w134 hc135
 have HS136 : Chg (atL []) w119 w134 := hc135.mono (fun _ _ h_ => h_.elim)
 replace H := H.ext hc135
 refine dn tbok (by kernel_rfl) [0, 1, 2, 3, 4, 5, 6, 7, 8, 9, 10, 11, 12] [.slice (some ⟨b132, 0, none⟩) (List.length wcame) c7, .slice (some ⟨b132, 0, none⟩) (List.length wcame) c7, .int .i64 ((((List.length wcame) : Nat) : Int) - 1), .int .i64 (List.getD wcame (Int.toNat ((((List.length wcame) : Nat) : Int) - 1)) 0)] [(2, .int .i64 (List.getD wcame (Int.toNat ((((List.length wcame) : Nat) : Int) - 1)) 0))] (fun w_ => [World.cell? w_ ⟨g1, 1, none⟩ = some (.slice (some ⟨b132, 0, none⟩) (List.length wcame) c7), World.cell? w_ ⟨g1, 1, none⟩ = some (.slice (some ⟨b132, 0, none⟩) (List.length wcame) c7), IntKind.i64.wrap ((((List.length wcame) : Nat) : Int) - 1) = (((List.length wcame) : Nat) : Int) - 1, 0 ≤ ((((List.length wcame) : Nat) : Int) - 1) ∧ ((((List.length wcame) : Nat) : Int) - 1) < (((List.length wcame) : Nat) : Int), World.cell? w_ ⟨b132, 0 + (Int.toNat ((((List.length wcame) : Nat) : Int) - 1)) * 1, none⟩ = some (.int .i64 (List.getD wcame (Int.toNat ((((List.length wcame) : Nat) : Int) - 1)) 0))]) 0 E (fun _ _ => by kernel_rfl) (by kernel_rfl) (fun w_ hS_ => ⟨(HR137.boxk [] hS_ 4 rfl rfl).cell (j := 1) rfl, (HR137.boxk [] hS_ 4 rfl rfl).cell (j := 1) rfl, wrap_in g130, g131, Rds.at1 (HR137.rdk [] hS_ 3 rds_row rfl) 0 g131⟩) (by kernel_rfl) HS136 ?_
 clear E; intro a E
 refine dr_done (by kernel_rfl) ?_
 clear HS136 HR137
 refine th_n ?_
 refine wp_ret ?_
 obtain rfl := Option.some.inj hP
 refine ret1 E rfl rfl ?_
 exact ⟨_, rfl, ⟨(List.getD wcame (Int.toNat ((((List.length wcame) : Nat) : Int) - 1)) 0), rfl, rfl, H.sel [3, 4] rfl⟩⟩

end Go.V
