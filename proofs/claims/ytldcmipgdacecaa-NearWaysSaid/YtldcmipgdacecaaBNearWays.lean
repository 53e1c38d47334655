/- Plain functions, and the calls that give them. -/
import Derived.Test.YtldcmipgdacecaaA4
set_option linter.all false
set_option linter.unusedVariables false
set_option linter.unnecessarySimpa false
set_option linter.unusedSimpArgs false
namespace Go.V
open Go Go.Proofs
/-! rejoinder/rejoinderlaw28.NearWays -/
def law28_NearWays_j0 (N : Nat) (aa : List Int) (b : List Int) (c : List Int) (r69 : Int × Int) (r78 : Int × Int) (r87 : Int × Int) (r96 : Int × Int) : Option Bool :=
    if (r69.2 : Int) = 0 then
      if (r78.2 : Int) = 0 then
        if (r87.2 : Int) = 0 then
          if (r96.2 : Int) = 0 then
            if (r69.1 : Int) = r78.1 then
              if 0 ≤ r69.1 then
                Option.bind (kit_SameLetters N (List.take (Int.toNat (minL (((List.length aa) : Nat) : Int) [(((List.length b) : Nat) : Int), (((List.length c) : Nat) : Int), 60])) aa) (List.take (Int.toNat (minL (((List.length aa) : Nat) : Int) [(((List.length b) : Nat) : Int), (((List.length c) : Nat) : Int), 60])) b)) fun r152 =>
                if ((r69.1 : Int) == 0) = r152 then
                  ask (in64 (r69.1 + r87.1)) <|
                  if r96.1 ≤ (r69.1 + r87.1) then
                    Option.bind (law28_awake N) fun r164 =>
                    some r164
                  else
                    some false
                else
                  some false
              else
                some false
            else
              some false
          else
            some false
        else
          some false
      else
        some false
    else
      some false
def law28_NearWays (N : Nat) (aa : List Int) (b : List Int) (c : List Int) : Option Bool :=
  ask (0 ≤ (minL (((List.length aa) : Nat) : Int) [(((List.length b) : Nat) : Int), (((List.length c) : Nat) : Int), 60]) ∧ (minL (((List.length aa) : Nat) : Int) [(((List.length b) : Nat) : Int), (((List.length c) : Nat) : Int), 60]) ≤ (((List.length aa) : Nat) : Int)) <|
  ask (0 ≤ (minL (((List.length aa) : Nat) : Int) [(((List.length b) : Nat) : Int), (((List.length c) : Nat) : Int), 60]) ∧ (minL (((List.length aa) : Nat) : Int) [(((List.length b) : Nat) : Int), (((List.length c) : Nat) : Int), 60]) ≤ (((List.length b) : Nat) : Int)) <|
  ask (0 ≤ (minL (((List.length aa) : Nat) : Int) [(((List.length b) : Nat) : Int), (((List.length c) : Nat) : Int), 60]) ∧ (minL (((List.length aa) : Nat) : Int) [(((List.length b) : Nat) : Int), (((List.length c) : Nat) : Int), 60]) ≤ (((List.length c) : Nat) : Int)) <|
  Option.bind (near_Far N (List.take (Int.toNat (minL (((List.length aa) : Nat) : Int) [(((List.length b) : Nat) : Int), (((List.length c) : Nat) : Int), 60])) aa) (List.take (Int.toNat (minL (((List.length aa) : Nat) : Int) [(((List.length b) : Nat) : Int), (((List.length c) : Nat) : Int), 60])) b)) fun r69 =>
  Option.bind (near_Far N (List.take (Int.toNat (minL (((List.length aa) : Nat) : Int) [(((List.length b) : Nat) : Int), (((List.length c) : Nat) : Int), 60])) b) (List.take (Int.toNat (minL (((List.length aa) : Nat) : Int) [(((List.length b) : Nat) : Int), (((List.length c) : Nat) : Int), 60])) aa)) fun r78 =>
  Option.bind (near_Far N (List.take (Int.toNat (minL (((List.length aa) : Nat) : Int) [(((List.length b) : Nat) : Int), (((List.length c) : Nat) : Int), 60])) b) (List.take (Int.toNat (minL (((List.length aa) : Nat) : Int) [(((List.length b) : Nat) : Int), (((List.length c) : Nat) : Int), 60])) c)) fun r87 =>
  Option.bind (near_Far N (List.take (Int.toNat (minL (((List.length aa) : Nat) : Int) [(((List.length b) : Nat) : Int), (((List.length c) : Nat) : Int), 60])) aa) (List.take (Int.toNat (minL (((List.length aa) : Nat) : Int) [(((List.length b) : Nat) : Int), (((List.length c) : Nat) : Int), 60])) c)) fun r96 =>
  Option.bind (law28_NearWays_j0 N aa b c r69 r78 r87 r96) fun x141 =>
  some x141
set_option maxRecDepth 100000 in
set_option maxHeartbeats 4000000 in
theorem law28_NearWays_calls {N : Nat} {S Fa : Nat → Prop} {w0 : World} {r : Bool} (A1 : Option Addr) (c2 : Nat) (A5 : Option Addr) (c6 : Nat) (A9 : Option Addr) (c10 : Nat) (aa : List Int) (b : List Int) (c : List Int) (hk3 : List.length aa ≤ c2) (hk7 : List.length b ≤ c6) (hk11 : List.length c ≤ c10) (H : Hp S Fa w0 w0 [.ro false (cInt .u8) A1 aa, .ro false (cInt .u8) A5 b, .ro false (cInt .u8) A9 c]) (hP : law28_NearWays N aa b c = some r) :
    Calls Try.prog 5 #[.slice A1 (List.length aa) c2, .slice A5 (List.length b) c6, .slice A9 (List.length c) c10] w0 fun e w' => ∃ v, e = .returned v ∧ v = .bool r ∧ Hp S Fa w0 w' [] := by
 refine enterV (n := 97) Try.func5 rfl rfl rfl ?_
 intro a E
 replace E := E.pick [(0, .slice A1 (List.length aa) c2), (1, .slice A5 (List.length b) c6), (2, .slice A9 (List.length c) c10)] ⟨rfl, rfl, rfl, trivial⟩
 rw [law28_NearWays] at hP
 refine wp_seq ?_
 refine wp_region_lit ?_
 refine vn tbok 1 [] [] [] E (by kernel_rfl) (by kernel_rfl) trivial ?_
 clear E; intro a E
 refine wpList_nil ?_
 refine th_n ?_
 refine wp_seq ?_
 refine wp_region_lit ?_
 refine vn tbok 6 [] [(17, .int .i64 (((List.length aa) : Nat) : Int)), (19, .int .i64 (((List.length b) : Nat) : Int)), (21, .int .i64 (((List.length c) : Nat) : Int))] [] E (by kernel_rfl) (by kernel_rfl) trivial ?_
 clear E; intro a E
 refine e_min (x := (((List.length aa) : Nat) : Int)) (xs := [(((List.length b) : Nat) : Int), (((List.length c) : Nat) : Int), 60]) E rfl rfl rfl rfl ?_
 clear E; intro a E
 refine vn tbok 1 [] [(7, .int .i64 (minL (((List.length aa) : Nat) : Int) [(((List.length b) : Nat) : Int), (((List.length c) : Nat) : Int), 60]))] [] E (by kernel_rfl) (by kernel_rfl) trivial ?_
 clear E; intro a E
 refine wpList_nil ?_
 refine th_n ?_
 refine wp_seq ?_
 obtain ⟨g13, hP⟩ := ask_inv hP
 obtain ⟨g16, hP⟩ := ask_inv hP
 obtain ⟨g19, hP⟩ := ask_inv hP
 refine meet_cut (fun a w34 => ∃ (A23 : Option Addr) (c24 : Nat) (A27 : Option Addr) (c28 : Nat) (A31 : Option Addr) (c32 : Nat), Fr a 97 [(0, .slice A23 (List.length (List.take (Int.toNat (minL (((List.length aa) : Nat) : Int) [(((List.length b) : Nat) : Int), (((List.length c) : Nat) : Int), 60])) aa)) c24), (1, .slice A27 (List.length (List.take (Int.toNat (minL (((List.length aa) : Nat) : Int) [(((List.length b) : Nat) : Int), (((List.length c) : Nat) : Int), 60])) b)) c28), (2, .slice A31 (List.length (List.take (Int.toNat (minL (((List.length aa) : Nat) : Int) [(((List.length b) : Nat) : Int), (((List.length c) : Nat) : Int), 60])) c)) c32)] ∧ Hp S Fa w0 w34 [.ro false (cInt .u8) A23 (List.take (Int.toNat (minL (((List.length aa) : Nat) : Int) [(((List.length b) : Nat) : Int), (((List.length c) : Nat) : Int), 60])) aa), .ro false (cInt .u8) A27 (List.take (Int.toNat (minL (((List.length aa) : Nat) : Int) [(((List.length b) : Nat) : Int), (((List.length c) : Nat) : Int), 60])) b), .ro false (cInt .u8) A31 (List.take (Int.toNat (minL (((List.length aa) : Nat) : Int) [(((List.length b) : Nat) : Int), (((List.length c) : Nat) : Int), 60])) c)] ∧ List.length (List.take (Int.toNat (minL (((List.length aa) : Nat) : Int) [(((List.length b) : Nat) : Int), (((List.length c) : Nat) : Int), 60])) aa) ≤ c24 ∧ List.length (List.take (Int.toNat (minL (((List.length aa) : Nat) : Int) [(((List.length b) : Nat) : Int), (((List.length c) : Nat) : Int), 60])) b) ≤ c28 ∧ List.length (List.take (Int.toNat (minL (((List.length aa) : Nat) : Int) [(((List.length b) : Nat) : Int), (((List.length c) : Nat) : Int), 60])) c) ≤ c32) ?_ ?_
 ·
  have HR38 := H
  refine dr_start (S := fun w_ => Chg (atL []) w0 w_) (by kernel_rfl) ?_
  intro w35 hc36
  have HS37 : Chg (atL []) w0 w35 := hc36.mono (fun _ _ h_ => h_.elim)
  replace H := H.ext hc36
  refine dn tbok (by kernel_rfl) [0, 1, 3, 4, 6, 7] [] [(23, .slice A1 (List.length aa) c2), (24, .int .i64 (minL (((List.length aa) : Nat) : Int) [(((List.length b) : Nat) : Int), (((List.length c) : Nat) : Int), 60])), (26, .slice A5 (List.length b) c6), (27, .int .i64 (minL (((List.length aa) : Nat) : Int) [(((List.length b) : Nat) : Int), (((List.length c) : Nat) : Int), 60])), (29, .slice A9 (List.length c) c10), (30, .int .i64 (minL (((List.length aa) : Nat) : Int) [(((List.length b) : Nat) : Int), (((List.length c) : Nat) : Int), 60]))] (fun w_ => []) 6 E (fun _ _ => by kernel_rfl) (by kernel_rfl) (fun w_ hS_ => trivial) (by kernel_rfl) HS37 ?_
  clear E; intro a E
  refine wpAnyH_all (rs := [2, 5, 8]) (by kernel_rfl) (by simp) ?_
  refine all3 ?_ ?_ ?_
  ·
   refine wpOp_of_list rfl ?_
   refine vn tbok 1 [] [(25, .slice A1 (Int.toNat (minL (((List.length aa) : Nat) : Int) [(((List.length b) : Nat) : Int), (((List.length c) : Nat) : Int), 60])) c2)] [0 ≤ (minL (((List.length aa) : Nat) : Int) [(((List.length b) : Nat) : Int), (((List.length c) : Nat) : Int), 60]) ∧ (minL (((List.length aa) : Nat) : Int) [(((List.length b) : Nat) : Int), (((List.length c) : Nat) : Int), 60]) ≤ ((c2 : Nat) : Int)] E (by kernel_rfl) (by kernel_rfl) (cut_le g13 hk3) ?_
   clear E; intro a E
   have hk40 := take_le (Int.toNat (minL (((List.length aa) : Nat) : Int) [(((List.length b) : Nat) : Int), (((List.length c) : Nat) : Int), 60])) hk3
   replace H := H.take 0 rfl (Int.toNat (minL (((List.length aa) : Nat) : Int) [(((List.length b) : Nat) : Int), (((List.length c) : Nat) : Int), 60])); try dsimp only [setn, addE, goneL] at H
   replace E := E.same (t := 25) (u := .slice A1 (List.length (List.take (Int.toNat (minL (((List.length aa) : Nat) : Int) [(((List.length b) : Nat) : Int), (((List.length c) : Nat) : Int), 60])) aa)) c2) rfl (congrArg (fun n_ => Value.slice A1 n_ c2) (take_len g13))
   refine wpList_nil ?_
   refine th_n ⟨HS37, ?_⟩
   refine dn tbok (by kernel_rfl) [9] [] [(0, .slice A1 (List.length (List.take (Int.toNat (minL (((List.length aa) : Nat) : Int) [(((List.length b) : Nat) : Int), (((List.length c) : Nat) : Int), 60])) aa)) c2)] (fun w_ => []) 4 E (fun _ _ => by kernel_rfl) (by kernel_rfl) (fun w_ hS_ => trivial) (by kernel_rfl) HS37 ?_
   clear E; intro a E
   refine wpAnyH_all (rs := [5, 8]) (by kernel_rfl) (by simp) ?_
   refine all2 ?_ ?_
   ·
    refine wpOp_of_list rfl ?_
    refine vn tbok 1 [] [(28, .slice A5 (Int.toNat (minL (((List.length aa) : Nat) : Int) [(((List.length b) : Nat) : Int), (((List.length c) : Nat) : Int), 60])) c6)] [0 ≤ (minL (((List.length aa) : Nat) : Int) [(((List.length b) : Nat) : Int), (((List.length c) : Nat) : Int), 60]) ∧ (minL (((List.length aa) : Nat) : Int) [(((List.length b) : Nat) : Int), (((List.length c) : Nat) : Int), 60]) ≤ ((c6 : Nat) : Int)] E (by kernel_rfl) (by kernel_rfl) (cut_le g16 hk7) ?_
    clear E; intro a E
    have hk42 := take_le (Int.toNat (minL (((List.length aa) : Nat) : Int) [(((List.length b) : Nat) : Int), (((List.length c) : Nat) : Int), 60])) hk7
    replace H := H.take 1 rfl (Int.toNat (minL (((List.length aa) : Nat) : Int) [(((List.length b) : Nat) : Int), (((List.length c) : Nat) : Int), 60])); try dsimp only [setn, addE, goneL] at H
    replace E := E.same (t := 28) (u := .slice A5 (List.length (List.take (Int.toNat (minL (((List.length aa) : Nat) : Int) [(((List.length b) : Nat) : Int), (((List.length c) : Nat) : Int), 60])) b)) c6) rfl (congrArg (fun n_ => Value.slice A5 n_ c6) (take_len g16))
    refine wpList_nil ?_
    refine th_n ⟨HS37, ?_⟩
    refine dn tbok (by kernel_rfl) [10] [] [(1, .slice A5 (List.length (List.take (Int.toNat (minL (((List.length aa) : Nat) : Int) [(((List.length b) : Nat) : Int), (((List.length c) : Nat) : Int), 60])) b)) c6)] (fun w_ => []) 2 E (fun _ _ => by kernel_rfl) (by kernel_rfl) (fun w_ hS_ => trivial) (by kernel_rfl) HS37 ?_
    clear E; intro a E
    refine wpAnyH_all (rs := [8]) (by kernel_rfl) (by simp) ?_
    refine all1 ?_
    refine wpOp_of_list rfl ?_
    refine vn tbok 1 [] [(31, .slice A9 (Int.toNat (minL (((List.length aa) : Nat) : Int) [(((List.length b) : Nat) : Int), (((List.length c) : Nat) : Int), 60])) c10)] [0 ≤ (minL (((List.length aa) : Nat) : Int) [(((List.length b) : Nat) : Int), (((List.length c) : Nat) : Int), 60]) ∧ (minL (((List.length aa) : Nat) : Int) [(((List.length b) : Nat) : Int), (((List.length c) : Nat) : Int), 60]) ≤ ((c10 : Nat) : Int)] E (by kernel_rfl) (by kernel_rfl) (cut_le g19 hk11) ?_
    clear E; intro a E
    have hk44 := take_le (Int.toNat (minL (((List.length aa) : Nat) : Int) [(((List.length b) : Nat) : Int), (((List.length c) : Nat) : Int), 60])) hk11
    replace H := H.take 2 rfl (Int.toNat (minL (((List.length aa) : Nat) : Int) [(((List.length b) : Nat) : Int), (((List.length c) : Nat) : Int), 60])); try dsimp only [setn, addE, goneL] at H
    replace E := E.same (t := 31) (u := .slice A9 (List.length (List.take (Int.toNat (minL (((List.length aa) : Nat) : Int) [(((List.length b) : Nat) : Int), (((List.length c) : Nat) : Int), 60])) c)) c10) rfl (congrArg (fun n_ => Value.slice A9 n_ c10) (take_len g19))
    refine wpList_nil ?_
    refine th_n ⟨HS37, ?_⟩
    refine dn tbok (by kernel_rfl) [11] [] [(2, .slice A9 (List.length (List.take (Int.toNat (minL (((List.length aa) : Nat) : Int) [(((List.length b) : Nat) : Int), (((List.length c) : Nat) : Int), 60])) c)) c10)] (fun w_ => []) 0 E (fun _ _ => by kernel_rfl) (by kernel_rfl) (fun w_ hS_ => trivial) (by kernel_rfl) HS37 ?_
    clear E; intro a E
    refine dr_done (by kernel_rfl) ?_
    exact .inl ⟨rfl, A1, c2, A5, c6, A9, c10, E.pick _ ⟨rfl, rfl, rfl, trivial⟩, H.sel [3, 4, 5] rfl, hk40, hk42, hk44⟩
   refine wpOp_of_list rfl ?_
   refine vn tbok 1 [] [(31, .slice A9 (Int.toNat (minL (((List.length aa) : Nat) : Int) [(((List.length b) : Nat) : Int), (((List.length c) : Nat) : Int), 60])) c10)] [0 ≤ (minL (((List.length aa) : Nat) : Int) [(((List.length b) : Nat) : Int), (((List.length c) : Nat) : Int), 60]) ∧ (minL (((List.length aa) : Nat) : Int) [(((List.length b) : Nat) : Int), (((List.length c) : Nat) : Int), 60]) ≤ ((c10 : Nat) : Int)] E (by kernel_rfl) (by kernel_rfl) (cut_le g19 hk11) ?_
   clear E; intro a E
   have hk46 := take_le (Int.toNat (minL (((List.length aa) : Nat) : Int) [(((List.length b) : Nat) : Int), (((List.length c) : Nat) : Int), 60])) hk11
   replace H := H.take 2 rfl (Int.toNat (minL (((List.length aa) : Nat) : Int) [(((List.length b) : Nat) : Int), (((List.length c) : Nat) : Int), 60])); try dsimp only [setn, addE, goneL] at H
   replace E := E.same (t := 31) (u := .slice A9 (List.length (List.take (Int.toNat (minL (((List.length aa) : Nat) : Int) [(((List.length b) : Nat) : Int), (((List.length c) : Nat) : Int), 60])) c)) c10) rfl (congrArg (fun n_ => Value.slice A9 n_ c10) (take_len g19))
   refine wpList_nil ?_
   refine th_n ⟨HS37, ?_⟩
   refine wpAnyH_all (rs := [5]) (by kernel_rfl) (by simp) ?_
   refine all1 ?_
   refine wpOp_of_list rfl ?_
   refine vn tbok 1 [] [(28, .slice A5 (Int.toNat (minL (((List.length aa) : Nat) : Int) [(((List.length b) : Nat) : Int), (((List.length c) : Nat) : Int), 60])) c6)] [0 ≤ (minL (((List.length aa) : Nat) : Int) [(((List.length b) : Nat) : Int), (((List.length c) : Nat) : Int), 60]) ∧ (minL (((List.length aa) : Nat) : Int) [(((List.length b) : Nat) : Int), (((List.length c) : Nat) : Int), 60]) ≤ ((c6 : Nat) : Int)] E (by kernel_rfl) (by kernel_rfl) (cut_le g16 hk7) ?_
   clear E; intro a E
   have hk48 := take_le (Int.toNat (minL (((List.length aa) : Nat) : Int) [(((List.length b) : Nat) : Int), (((List.length c) : Nat) : Int), 60])) hk7
   replace H := H.take 1 rfl (Int.toNat (minL (((List.length aa) : Nat) : Int) [(((List.length b) : Nat) : Int), (((List.length c) : Nat) : Int), 60])); try dsimp only [setn, addE, goneL] at H
   replace E := E.same (t := 28) (u := .slice A5 (List.length (List.take (Int.toNat (minL (((List.length aa) : Nat) : Int) [(((List.length b) : Nat) : Int), (((List.length c) : Nat) : Int), 60])) b)) c6) rfl (congrArg (fun n_ => Value.slice A5 n_ c6) (take_len g16))
   refine wpList_nil ?_
   refine th_n ⟨HS37, ?_⟩
   refine dn tbok (by kernel_rfl) [10, 11] [] [(1, .slice A5 (List.length (List.take (Int.toNat (minL (((List.length aa) : Nat) : Int) [(((List.length b) : Nat) : Int), (((List.length c) : Nat) : Int), 60])) b)) c6), (2, .slice A9 (List.length (List.take (Int.toNat (minL (((List.length aa) : Nat) : Int) [(((List.length b) : Nat) : Int), (((List.length c) : Nat) : Int), 60])) c)) c10)] (fun w_ => []) 0 E (fun _ _ => by kernel_rfl) (by kernel_rfl) (fun w_ hS_ => trivial) (by kernel_rfl) HS37 ?_
   clear E; intro a E
   refine dr_done (by kernel_rfl) ?_
   exact .inl ⟨rfl, A1, c2, A5, c6, A9, c10, E.pick _ ⟨rfl, rfl, rfl, trivial⟩, H.sel [3, 5, 4] rfl, hk40, hk48, hk46⟩
  ·
   refine wpOp_of_list rfl ?_
   refine vn tbok 1 [] [(28, .slice A5 (Int.toNat (minL (((List.length aa) : Nat) : Int) [(((List.length b) : Nat) : Int), (((List.length c) : Nat) : Int), 60])) c6)] [0 ≤ (minL (((List.length aa) : Nat) : Int) [(((List.length b) : Nat) : Int), (((List.length c) : Nat) : Int), 60]) ∧ (minL (((List.length aa) : Nat) : Int) [(((List.length b) : Nat) : Int), (((List.length c) : Nat) : Int), 60]) ≤ ((c6 : Nat) : Int)] E (by kernel_rfl) (by kernel_rfl) (cut_le g16 hk7) ?_
   clear E; intro a E
   have hk50 := take_le (Int.toNat (minL (((List.length aa) : Nat) : Int) [(((List.length b) : Nat) : Int), (((List.length c) : Nat) : Int), 60])) hk7
   replace H := H.take 1 rfl (Int.toNat (minL (((List.length aa) : Nat) : Int) [(((List.length b) : Nat) : Int), (((List.length c) : Nat) : Int), 60])); try dsimp only [setn, addE, goneL] at H
   replace E := E.same (t := 28) (u := .slice A5 (List.length (List.take (Int.toNat (minL (((List.length aa) : Nat) : Int) [(((List.length b) : Nat) : Int), (((List.length c) : Nat) : Int), 60])) b)) c6) rfl (congrArg (fun n_ => Value.slice A5 n_ c6) (take_len g16))
   refine wpList_nil ?_
   refine th_n ⟨HS37, ?_⟩
   refine wpAnyH_all (rs := [2, 8]) (by kernel_rfl) (by simp) ?_
   refine all2 ?_ ?_
   ·
    refine wpOp_of_list rfl ?_
    refine vn tbok 1 [] [(25, .slice A1 (Int.toNat (minL (((List.length aa) : Nat) : Int) [(((List.length b) : Nat) : Int), (((List.length c) : Nat) : Int), 60])) c2)] [0 ≤ (minL (((List.length aa) : Nat) : Int) [(((List.length b) : Nat) : Int), (((List.length c) : Nat) : Int), 60]) ∧ (minL (((List.length aa) : Nat) : Int) [(((List.length b) : Nat) : Int), (((List.length c) : Nat) : Int), 60]) ≤ ((c2 : Nat) : Int)] E (by kernel_rfl) (by kernel_rfl) (cut_le g13 hk3) ?_
    clear E; intro a E
    have hk52 := take_le (Int.toNat (minL (((List.length aa) : Nat) : Int) [(((List.length b) : Nat) : Int), (((List.length c) : Nat) : Int), 60])) hk3
    replace H := H.take 0 rfl (Int.toNat (minL (((List.length aa) : Nat) : Int) [(((List.length b) : Nat) : Int), (((List.length c) : Nat) : Int), 60])); try dsimp only [setn, addE, goneL] at H
    replace E := E.same (t := 25) (u := .slice A1 (List.length (List.take (Int.toNat (minL (((List.length aa) : Nat) : Int) [(((List.length b) : Nat) : Int), (((List.length c) : Nat) : Int), 60])) aa)) c2) rfl (congrArg (fun n_ => Value.slice A1 n_ c2) (take_len g13))
    refine wpList_nil ?_
    refine th_n ⟨HS37, ?_⟩
    refine dn tbok (by kernel_rfl) [9, 10] [] [(0, .slice A1 (List.length (List.take (Int.toNat (minL (((List.length aa) : Nat) : Int) [(((List.length b) : Nat) : Int), (((List.length c) : Nat) : Int), 60])) aa)) c2), (1, .slice A5 (List.length (List.take (Int.toNat (minL (((List.length aa) : Nat) : Int) [(((List.length b) : Nat) : Int), (((List.length c) : Nat) : Int), 60])) b)) c6)] (fun w_ => []) 2 E (fun _ _ => by kernel_rfl) (by kernel_rfl) (fun w_ hS_ => trivial) (by kernel_rfl) HS37 ?_
    clear E; intro a E
    refine wpAnyH_all (rs := [8]) (by kernel_rfl) (by simp) ?_
    refine all1 ?_
    refine wpOp_of_list rfl ?_
    refine vn tbok 1 [] [(31, .slice A9 (Int.toNat (minL (((List.length aa) : Nat) : Int) [(((List.length b) : Nat) : Int), (((List.length c) : Nat) : Int), 60])) c10)] [0 ≤ (minL (((List.length aa) : Nat) : Int) [(((List.length b) : Nat) : Int), (((List.length c) : Nat) : Int), 60]) ∧ (minL (((List.length aa) : Nat) : Int) [(((List.length b) : Nat) : Int), (((List.length c) : Nat) : Int), 60]) ≤ ((c10 : Nat) : Int)] E (by kernel_rfl) (by kernel_rfl) (cut_le g19 hk11) ?_
    clear E; intro a E
    have hk54 := take_le (Int.toNat (minL (((List.length aa) : Nat) : Int) [(((List.length b) : Nat) : Int), (((List.length c) : Nat) : Int), 60])) hk11
    replace H := H.take 2 rfl (Int.toNat (minL (((List.length aa) : Nat) : Int) [(((List.length b) : Nat) : Int), (((List.length c) : Nat) : Int), 60])); try dsimp only [setn, addE, goneL] at H
    replace E := E.same (t := 31) (u := .slice A9 (List.length (List.take (Int.toNat (minL (((List.length aa) : Nat) : Int) [(((List.length b) : Nat) : Int), (((List.length c) : Nat) : Int), 60])) c)) c10) rfl (congrArg (fun n_ => Value.slice A9 n_ c10) (take_len g19))
    refine wpList_nil ?_
    refine th_n ⟨HS37, ?_⟩
    refine dn tbok (by kernel_rfl) [11] [] [(2, .slice A9 (List.length (List.take (Int.toNat (minL (((List.length aa) : Nat) : Int) [(((List.length b) : Nat) : Int), (((List.length c) : Nat) : Int), 60])) c)) c10)] (fun w_ => []) 0 E (fun _ _ => by kernel_rfl) (by kernel_rfl) (fun w_ hS_ => trivial) (by kernel_rfl) HS37 ?_
    clear E; intro a E
    refine dr_done (by kernel_rfl) ?_
    exact .inl ⟨rfl, A1, c2, A5, c6, A9, c10, E.pick _ ⟨rfl, rfl, rfl, trivial⟩, H.sel [4, 3, 5] rfl, hk52, hk50, hk54⟩
   refine wpOp_of_list rfl ?_
   refine vn tbok 1 [] [(31, .slice A9 (Int.toNat (minL (((List.length aa) : Nat) : Int) [(((List.length b) : Nat) : Int), (((List.length c) : Nat) : Int), 60])) c10)] [0 ≤ (minL (((List.length aa) : Nat) : Int) [(((List.length b) : Nat) : Int), (((List.length c) : Nat) : Int), 60]) ∧ (minL (((List.length aa) : Nat) : Int) [(((List.length b) : Nat) : Int), (((List.length c) : Nat) : Int), 60]) ≤ ((c10 : Nat) : Int)] E (by kernel_rfl) (by kernel_rfl) (cut_le g19 hk11) ?_
   clear E; intro a E
   have hk56 := take_le (Int.toNat (minL (((List.length aa) : Nat) : Int) [(((List.length b) : Nat) : Int), (((List.length c) : Nat) : Int), 60])) hk11
   replace H := H.take 2 rfl (Int.toNat (minL (((List.length aa) : Nat) : Int) [(((List.length b) : Nat) : Int), (((List.length c) : Nat) : Int), 60])); try dsimp only [setn, addE, goneL] at H
   replace E := E.same (t := 31) (u := .slice A9 (List.length (List.take (Int.toNat (minL (((List.length aa) : Nat) : Int) [(((List.length b) : Nat) : Int), (((List.length c) : Nat) : Int), 60])) c)) c10) rfl (congrArg (fun n_ => Value.slice A9 n_ c10) (take_len g19))
   refine wpList_nil ?_
   refine th_n ⟨HS37, ?_⟩
   refine wpAnyH_all (rs := [2]) (by kernel_rfl) (by simp) ?_
   refine all1 ?_
   refine wpOp_of_list rfl ?_
   refine vn tbok 1 [] [(25, .slice A1 (Int.toNat (minL (((List.length aa) : Nat) : Int) [(((List.length b) : Nat) : Int), (((List.length c) : Nat) : Int), 60])) c2)] [0 ≤ (minL (((List.length aa) : Nat) : Int) [(((List.length b) : Nat) : Int), (((List.length c) : Nat) : Int), 60]) ∧ (minL (((List.length aa) : Nat) : Int) [(((List.length b) : Nat) : Int), (((List.length c) : Nat) : Int), 60]) ≤ ((c2 : Nat) : Int)] E (by kernel_rfl) (by kernel_rfl) (cut_le g13 hk3) ?_
   clear E; intro a E
   have hk58 := take_le (Int.toNat (minL (((List.length aa) : Nat) : Int) [(((List.length b) : Nat) : Int), (((List.length c) : Nat) : Int), 60])) hk3
   replace H := H.take 0 rfl (Int.toNat (minL (((List.length aa) : Nat) : Int) [(((List.length b) : Nat) : Int), (((List.length c) : Nat) : Int), 60])); try dsimp only [setn, addE, goneL] at H
   replace E := E.same (t := 25) (u := .slice A1 (List.length (List.take (Int.toNat (minL (((List.length aa) : Nat) : Int) [(((List.length b) : Nat) : Int), (((List.length c) : Nat) : Int), 60])) aa)) c2) rfl (congrArg (fun n_ => Value.slice A1 n_ c2) (take_len g13))
   refine wpList_nil ?_
   refine th_n ⟨HS37, ?_⟩
   refine dn tbok (by kernel_rfl) [9, 10, 11] [] [(0, .slice A1 (List.length (List.take (Int.toNat (minL (((List.length aa) : Nat) : Int) [(((List.length b) : Nat) : Int), (((List.length c) : Nat) : Int), 60])) aa)) c2), (1, .slice A5 (List.length (List.take (Int.toNat (minL (((List.length aa) : Nat) : Int) [(((List.length b) : Nat) : Int), (((List.length c) : Nat) : Int), 60])) b)) c6), (2, .slice A9 (List.length (List.take (Int.toNat (minL (((List.length aa) : Nat) : Int) [(((List.length b) : Nat) : Int), (((List.length c) : Nat) : Int), 60])) c)) c10)] (fun w_ => []) 0 E (fun _ _ => by kernel_rfl) (by kernel_rfl) (fun w_ hS_ => trivial) (by kernel_rfl) HS37 ?_
   clear E; intro a E
   refine dr_done (by kernel_rfl) ?_
   exact .inl ⟨rfl, A1, c2, A5, c6, A9, c10, E.pick _ ⟨rfl, rfl, rfl, trivial⟩, H.sel [5, 3, 4] rfl, hk58, hk50, hk56⟩
  refine wpOp_of_list rfl ?_
  refine vn tbok 1 [] [(31, .slice A9 (Int.toNat (minL (((List.length aa) : Nat) : Int) [(((List.length b) : Nat) : Int), (((List.length c) : Nat) : Int), 60])) c10)] [0 ≤ (minL (((List.length aa) : Nat) : Int) [(((List.length b) : Nat) : Int), (((List.length c) : Nat) : Int), 60]) ∧ (minL (((List.length aa) : Nat) : Int) [(((List.length b) : Nat) : Int), (((List.length c) : Nat) : Int), 60]) ≤ ((c10 : Nat) : Int)] E (by kernel_rfl) (by kernel_rfl) (cut_le g19 hk11) ?_
  clear E; intro a E
  have hk60 := take_le (Int.toNat (minL (((List.length aa) : Nat) : Int) [(((List.length b) : Nat) : Int), (((List.length c) : Nat) : Int), 60])) hk11
  replace H := H.take 2 rfl (Int.toNat (minL (((List.length aa) : Nat) : Int) [(((List.length b) : Nat) : Int), (((List.length c) : Nat) : Int), 60])); try dsimp only [setn, addE, goneL] at H
  replace E := E.same (t := 31) (u := .slice A9 (List.length (List.take (Int.toNat (minL (((List.length aa) : Nat) : Int) [(((List.length b) : Nat) : Int), (((List.length c) : Nat) : Int), 60])) c)) c10) rfl (congrArg (fun n_ => Value.slice A9 n_ c10) (take_len g19))
  refine wpList_nil ?_
  refine th_n ⟨HS37, ?_⟩
  refine wpAnyH_all (rs := [2, 5]) (by kernel_rfl) (by simp) ?_
  refine all2 ?_ ?_
  ·
   refine wpOp_of_list rfl ?_
   refine vn tbok 1 [] [(25, .slice A1 (Int.toNat (minL (((List.length aa) : Nat) : Int) [(((List.length b) : Nat) : Int), (((List.length c) : Nat) : Int), 60])) c2)] [0 ≤ (minL (((List.length aa) : Nat) : Int) [(((List.length b) : Nat) : Int), (((List.length c) : Nat) : Int), 60]) ∧ (minL (((List.length aa) : Nat) : Int) [(((List.length b) : Nat) : Int), (((List.length c) : Nat) : Int), 60]) ≤ ((c2 : Nat) : Int)] E (by kernel_rfl) (by kernel_rfl) (cut_le g13 hk3) ?_
   clear E; intro a E
   have hk62 := take_le (Int.toNat (minL (((List.length aa) : Nat) : Int) [(((List.length b) : Nat) : Int), (((List.length c) : Nat) : Int), 60])) hk3
   replace H := H.take 0 rfl (Int.toNat (minL (((List.length aa) : Nat) : Int) [(((List.length b) : Nat) : Int), (((List.length c) : Nat) : Int), 60])); try dsimp only [setn, addE, goneL] at H
   replace E := E.same (t := 25) (u := .slice A1 (List.length (List.take (Int.toNat (minL (((List.length aa) : Nat) : Int) [(((List.length b) : Nat) : Int), (((List.length c) : Nat) : Int), 60])) aa)) c2) rfl (congrArg (fun n_ => Value.slice A1 n_ c2) (take_len g13))
   refine wpList_nil ?_
   refine th_n ⟨HS37, ?_⟩
   refine dn tbok (by kernel_rfl) [9] [] [(0, .slice A1 (List.length (List.take (Int.toNat (minL (((List.length aa) : Nat) : Int) [(((List.length b) : Nat) : Int), (((List.length c) : Nat) : Int), 60])) aa)) c2)] (fun w_ => []) 3 E (fun _ _ => by kernel_rfl) (by kernel_rfl) (fun w_ hS_ => trivial) (by kernel_rfl) HS37 ?_
   clear E; intro a E
   refine wpAnyH_all (rs := [5]) (by kernel_rfl) (by simp) ?_
   refine all1 ?_
   refine wpOp_of_list rfl ?_
   refine vn tbok 1 [] [(28, .slice A5 (Int.toNat (minL (((List.length aa) : Nat) : Int) [(((List.length b) : Nat) : Int), (((List.length c) : Nat) : Int), 60])) c6)] [0 ≤ (minL (((List.length aa) : Nat) : Int) [(((List.length b) : Nat) : Int), (((List.length c) : Nat) : Int), 60]) ∧ (minL (((List.length aa) : Nat) : Int) [(((List.length b) : Nat) : Int), (((List.length c) : Nat) : Int), 60]) ≤ ((c6 : Nat) : Int)] E (by kernel_rfl) (by kernel_rfl) (cut_le g16 hk7) ?_
   clear E; intro a E
   have hk64 := take_le (Int.toNat (minL (((List.length aa) : Nat) : Int) [(((List.length b) : Nat) : Int), (((List.length c) : Nat) : Int), 60])) hk7
   replace H := H.take 1 rfl (Int.toNat (minL (((List.length aa) : Nat) : Int) [(((List.length b) : Nat) : Int), (((List.length c) : Nat) : Int), 60])); try dsimp only [setn, addE, goneL] at H
   replace E := E.same (t := 28) (u := .slice A5 (List.length (List.take (Int.toNat (minL (((List.length aa) : Nat) : Int) [(((List.length b) : Nat) : Int), (((List.length c) : Nat) : Int), 60])) b)) c6) rfl (congrArg (fun n_ => Value.slice A5 n_ c6) (take_len g16))
   refine wpList_nil ?_
   refine th_n ⟨HS37, ?_⟩
   refine dn tbok (by kernel_rfl) [10, 11] [] [(1, .slice A5 (List.length (List.take (Int.toNat (minL (((List.length aa) : Nat) : Int) [(((List.length b) : Nat) : Int), (((List.length c) : Nat) : Int), 60])) b)) c6), (2, .slice A9 (List.length (List.take (Int.toNat (minL (((List.length aa) : Nat) : Int) [(((List.length b) : Nat) : Int), (((List.length c) : Nat) : Int), 60])) c)) c10)] (fun w_ => []) 0 E (fun _ _ => by kernel_rfl) (by kernel_rfl) (fun w_ hS_ => trivial) (by kernel_rfl) HS37 ?_
   clear E; intro a E
   refine dr_done (by kernel_rfl) ?_
   exact .inl ⟨rfl, A1, c2, A5, c6, A9, c10, E.pick _ ⟨rfl, rfl, rfl, trivial⟩, H.sel [4, 5, 3] rfl, hk62, hk64, hk60⟩
  refine wpOp_of_list rfl ?_
  refine vn tbok 1 [] [(28, .slice A5 (Int.toNat (minL (((List.length aa) : Nat) : Int) [(((List.length b) : Nat) : Int), (((List.length c) : Nat) : Int), 60])) c6)] [0 ≤ (minL (((List.length aa) : Nat) : Int) [(((List.length b) : Nat) : Int), (((List.length c) : Nat) : Int), 60]) ∧ (minL (((List.length aa) : Nat) : Int) [(((List.length b) : Nat) : Int), (((List.length c) : Nat) : Int), 60]) ≤ ((c6 : Nat) : Int)] E (by kernel_rfl) (by kernel_rfl) (cut_le g16 hk7) ?_
  clear E; intro a E
  have hk66 := take_le (Int.toNat (minL (((List.length aa) : Nat) : Int) [(((List.length b) : Nat) : Int), (((List.length c) : Nat) : Int), 60])) hk7
  replace H := H.take 1 rfl (Int.toNat (minL (((List.length aa) : Nat) : Int) [(((List.length b) : Nat) : Int), (((List.length c) : Nat) : Int), 60])); try dsimp only [setn, addE, goneL] at H
  replace E := E.same (t := 28) (u := .slice A5 (List.length (List.take (Int.toNat (minL (((List.length aa) : Nat) : Int) [(((List.length b) : Nat) : Int), (((List.length c) : Nat) : Int), 60])) b)) c6) rfl (congrArg (fun n_ => Value.slice A5 n_ c6) (take_len g16))
  refine wpList_nil ?_
  refine th_n ⟨HS37, ?_⟩
  refine wpAnyH_all (rs := [2]) (by kernel_rfl) (by simp) ?_
  refine all1 ?_
  refine wpOp_of_list rfl ?_
  refine vn tbok 1 [] [(25, .slice A1 (Int.toNat (minL (((List.length aa) : Nat) : Int) [(((List.length b) : Nat) : Int), (((List.length c) : Nat) : Int), 60])) c2)] [0 ≤ (minL (((List.length aa) : Nat) : Int) [(((List.length b) : Nat) : Int), (((List.length c) : Nat) : Int), 60]) ∧ (minL (((List.length aa) : Nat) : Int) [(((List.length b) : Nat) : Int), (((List.length c) : Nat) : Int), 60]) ≤ ((c2 : Nat) : Int)] E (by kernel_rfl) (by kernel_rfl) (cut_le g13 hk3) ?_
  clear E; intro a E
  have hk68 := take_le (Int.toNat (minL (((List.length aa) : Nat) : Int) [(((List.length b) : Nat) : Int), (((List.length c) : Nat) : Int), 60])) hk3
  replace H := H.take 0 rfl (Int.toNat (minL (((List.length aa) : Nat) : Int) [(((List.length b) : Nat) : Int), (((List.length c) : Nat) : Int), 60])); try dsimp only [setn, addE, goneL] at H
  replace E := E.same (t := 25) (u := .slice A1 (List.length (List.take (Int.toNat (minL (((List.length aa) : Nat) : Int) [(((List.length b) : Nat) : Int), (((List.length c) : Nat) : Int), 60])) aa)) c2) rfl (congrArg (fun n_ => Value.slice A1 n_ c2) (take_len g13))
  refine wpList_nil ?_
  refine th_n ⟨HS37, ?_⟩
  refine dn tbok (by kernel_rfl) [9, 10, 11] [] [(0, .slice A1 (List.length (List.take (Int.toNat (minL (((List.length aa) : Nat) : Int) [(((List.length b) : Nat) : Int), (((List.length c) : Nat) : Int), 60])) aa)) c2), (1, .slice A5 (List.length (List.take (Int.toNat (minL (((List.length aa) : Nat) : Int) [(((List.length b) : Nat) : Int), (((List.length c) : Nat) : Int), 60])) b)) c6), (2, .slice A9 (List.length (List.take (Int.toNat (minL (((List.length aa) : Nat) : Int) [(((List.length b) : Nat) : Int), (((List.length c) : Nat) : Int), 60])) c)) c10)] (fun w_ => []) 0 E (fun _ _ => by kernel_rfl) (by kernel_rfl) (fun w_ hS_ => trivial) (by kernel_rfl) HS37 ?_
  clear E; intro a E
  refine dr_done (by kernel_rfl) ?_
  exact .inl ⟨rfl, A1, c2, A5, c6, A9, c10, E.pick _ ⟨rfl, rfl, rfl, trivial⟩, H.sel [5, 4, 3] rfl, hk68, hk66, hk60⟩
 clear E H; rintro a w34 ⟨A23, c24, A27, c28, A31, c32, E, H, hk25, hk29, hk33⟩
 refine th_n ?_
 refine wp_seq ?_
 refine wp_region_lit ?_
 refine vn tbok 2 [] [(33, .slice A23 (List.length (List.take (Int.toNat (minL (((List.length aa) : Nat) : Int) [(((List.length b) : Nat) : Int), (((List.length c) : Nat) : Int), 60])) aa)) c24), (34, .slice A27 (List.length (List.take (Int.toNat (minL (((List.length aa) : Nat) : Int) [(((List.length b) : Nat) : Int), (((List.length c) : Nat) : Int), 60])) b)) c28)] [] E (by kernel_rfl) (by kernel_rfl) trivial ?_
 clear E; intro a E
 obtain ⟨r69, h70, hP⟩ := bind_inv hP
 obtain ⟨Fa71, Hc72, hb73⟩ := H.call [] [(0, false), (1, false)] rfl rfl trivial
 refine e_call E rfl rfl Try.func9 rfl rfl rfl (near_Far_calls A23 c24 A27 c28 (List.take (Int.toNat (minL (((List.length aa) : Nat) : Int) [(((List.length b) : Nat) : Int), (((List.length c) : Nat) : Int), 60])) aa) (List.take (Int.toNat (minL (((List.length aa) : Nat) : Int) [(((List.length b) : Nat) : Int), (((List.length c) : Nat) : Int), 60])) b) hk25 hk29 Hc72 h70) ?_
 rintro v74 w75 a ⟨rfl, HR76⟩ E_
 replace E := E_ _ rfl; clear E_
 obtain ⟨H_, hc77⟩ := hb73 _ _ HR76 rfl
 replace H := H_; clear H_; try dsimp only [setn, addE, goneL] at H
 refine vn tbok 5 [] [(8, .int .i64 r69.1), (9, .int .i64 r69.2)] [] E (by kernel_rfl) (by kernel_rfl) trivial ?_
 clear E; intro a E
 refine wpList_nil ?_
 refine th_n ?_
 refine wp_seq ?_
 refine wp_region_lit ?_
 refine vn tbok 2 [] [(39, .slice A27 (List.length (List.take (Int.toNat (minL (((List.length aa) : Nat) : Int) [(((List.length b) : Nat) : Int), (((List.length c) : Nat) : Int), 60])) b)) c28), (40, .slice A23 (List.length (List.take (Int.toNat (minL (((List.length aa) : Nat) : Int) [(((List.length b) : Nat) : Int), (((List.length c) : Nat) : Int), 60])) aa)) c24)] [] E (by kernel_rfl) (by kernel_rfl) trivial ?_
 clear E; intro a E
 obtain ⟨r78, h79, hP⟩ := bind_inv hP
 obtain ⟨Fa80, Hc81, hb82⟩ := H.call [] [(1, false), (0, false)] rfl rfl trivial
 refine e_call E rfl rfl Try.func9 rfl rfl rfl (near_Far_calls A27 c28 A23 c24 (List.take (Int.toNat (minL (((List.length aa) : Nat) : Int) [(((List.length b) : Nat) : Int), (((List.length c) : Nat) : Int), 60])) b) (List.take (Int.toNat (minL (((List.length aa) : Nat) : Int) [(((List.length b) : Nat) : Int), (((List.length c) : Nat) : Int), 60])) aa) hk29 hk25 Hc81 h79) ?_
 rintro v83 w84 a ⟨rfl, HR85⟩ E_
 replace E := E_ _ rfl; clear E_
 obtain ⟨H_, hc86⟩ := hb82 _ _ HR85 rfl
 replace H := H_; clear H_; try dsimp only [setn, addE, goneL] at H
 refine vn tbok 5 [] [(10, .int .i64 r78.1), (11, .int .i64 r78.2)] [] E (by kernel_rfl) (by kernel_rfl) trivial ?_
 clear E; intro a E
 refine wpList_nil ?_
 refine th_n ?_
 refine wp_seq ?_
 refine wp_region_lit ?_
 refine vn tbok 2 [] [(45, .slice A27 (List.length (List.take (Int.toNat (minL (((List.length aa) : Nat) : Int) [(((List.length b) : Nat) : Int), (((List.length c) : Nat) : Int), 60])) b)) c28), (46, .slice A31 (List.length (List.take (Int.toNat (minL (((List.length aa) : Nat) : Int) [(((List.length b) : Nat) : Int), (((List.length c) : Nat) : Int), 60])) c)) c32)] [] E (by kernel_rfl) (by kernel_rfl) trivial ?_
 clear E; intro a E
 obtain ⟨r87, h88, hP⟩ := bind_inv hP
 obtain ⟨Fa89, Hc90, hb91⟩ := H.call [] [(1, false), (2, false)] rfl rfl trivial
 refine e_call E rfl rfl Try.func9 rfl rfl rfl (near_Far_calls A27 c28 A31 c32 (List.take (Int.toNat (minL (((List.length aa) : Nat) : Int) [(((List.length b) : Nat) : Int), (((List.length c) : Nat) : Int), 60])) b) (List.take (Int.toNat (minL (((List.length aa) : Nat) : Int) [(((List.length b) : Nat) : Int), (((List.length c) : Nat) : Int), 60])) c) hk29 hk33 Hc90 h88) ?_
 rintro v92 w93 a ⟨rfl, HR94⟩ E_
 replace E := E_ _ rfl; clear E_
 obtain ⟨H_, hc95⟩ := hb91 _ _ HR94 rfl
 replace H := H_; clear H_; try dsimp only [setn, addE, goneL] at H
 refine vn tbok 5 [] [(12, .int .i64 r87.1), (13, .int .i64 r87.2)] [] E (by kernel_rfl) (by kernel_rfl) trivial ?_
 clear E; intro a E
 refine wpList_nil ?_
 refine th_n ?_
 refine wp_seq ?_
 refine wp_region_lit ?_
 refine vn tbok 2 [] [(51, .slice A23 (List.length (List.take (Int.toNat (minL (((List.length aa) : Nat) : Int) [(((List.length b) : Nat) : Int), (((List.length c) : Nat) : Int), 60])) aa)) c24), (52, .slice A31 (List.length (List.take (Int.toNat (minL (((List.length aa) : Nat) : Int) [(((List.length b) : Nat) : Int), (((List.length c) : Nat) : Int), 60])) c)) c32)] [] E (by kernel_rfl) (by kernel_rfl) trivial ?_
 clear E; intro a E
 obtain ⟨r96, h97, hP⟩ := bind_inv hP
 obtain ⟨Fa98, Hc99, hb100⟩ := H.call [] [(0, false), (2, false)] rfl rfl trivial
 refine e_call E rfl rfl Try.func9 rfl rfl rfl (near_Far_calls A23 c24 A31 c32 (List.take (Int.toNat (minL (((List.length aa) : Nat) : Int) [(((List.length b) : Nat) : Int), (((List.length c) : Nat) : Int), 60])) aa) (List.take (Int.toNat (minL (((List.length aa) : Nat) : Int) [(((List.length b) : Nat) : Int), (((List.length c) : Nat) : Int), 60])) c) hk25 hk33 Hc99 h97) ?_
 rintro v101 w102 a ⟨rfl, HR103⟩ E_
 replace E := E_ _ rfl; clear E_
 obtain ⟨H_, hc104⟩ := hb100 _ _ HR103 rfl
 replace H := H_; clear H_; try dsimp only [setn, addE, goneL] at H
 refine vn tbok 5 [] [(14, .int .i64 r96.1), (15, .int .i64 r96.2)] [] E (by kernel_rfl) (by kernel_rfl) trivial ?_
 clear E; intro a E
 refine wpList_nil ?_
 refine th_n ?_
 refine wp_seq ?_
 obtain ⟨x141, h142, hK143⟩ := bind_inv hP
 clear hP
 refine meet_cut (fun a w145 => ∃ (x144 : Bool), Fr a 97 [(6, .bool x144)] ∧ Hp S Fa w0 w145 [] ∧ x141 = x144) ?_ ?_
 ·
  have hP := h142; clear h142; rw [law28_NearWays_j0] at hP
  refine wp_region_lit ?_
  refine vn tbok 3 [] [(58, .bool ((r69.2 : Int) == 0))] [] E (by kernel_rfl) (by kernel_rfl) trivial ?_
  clear E; intro a E
  refine E.cases (t := 58) rfl (fun hb_ E_ => ?_) (fun hb_ E_ => ?_)
  ·
   replace E := E_; clear E_
   have h146 : (r69.2 : Int) = 0 := eq_of_beq hb_
   clear hb_; replace hP := ite_t h146 hP
   refine vn tbok 4 [] [(62, .bool ((r78.2 : Int) == 0))] [] E (by kernel_rfl) (by kernel_rfl) trivial ?_
   clear E; intro a E
   refine E.cases (t := 62) rfl (fun hb_ E_ => ?_) (fun hb_ E_ => ?_)
   ·
    replace E := E_; clear E_
    have h147 : (r78.2 : Int) = 0 := eq_of_beq hb_
    clear hb_; replace hP := ite_t h147 hP
    refine vn tbok 4 [] [(66, .bool ((r87.2 : Int) == 0))] [] E (by kernel_rfl) (by kernel_rfl) trivial ?_
    clear E; intro a E
    refine E.cases (t := 66) rfl (fun hb_ E_ => ?_) (fun hb_ E_ => ?_)
    ·
     replace E := E_; clear E_
     have h148 : (r87.2 : Int) = 0 := eq_of_beq hb_
     clear hb_; replace hP := ite_t h148 hP
     refine vn tbok 4 [] [(70, .bool ((r96.2 : Int) == 0))] [] E (by kernel_rfl) (by kernel_rfl) trivial ?_
     clear E; intro a E
     refine E.cases (t := 70) rfl (fun hb_ E_ => ?_) (fun hb_ E_ => ?_)
     ·
      replace E := E_; clear E_
      have h149 : (r96.2 : Int) = 0 := eq_of_beq hb_
      clear hb_; replace hP := ite_t h149 hP
      refine vn tbok 5 [] [(75, .bool ((r69.1 : Int) == r78.1))] [] E (by kernel_rfl) (by kernel_rfl) trivial ?_
      clear E; intro a E
      refine E.cases (t := 75) rfl (fun hb_ E_ => ?_) (fun hb_ E_ => ?_)
      ·
       replace E := E_; clear E_
       have h150 : (r69.1 : Int) = r78.1 := eq_of_beq hb_
       clear hb_; replace hP := ite_t h150 hP
       refine vn tbok 4 [] [(79, .bool (decide (0 ≤ r69.1)))] [] E (by kernel_rfl) (by kernel_rfl) trivial ?_
       clear E; intro a E
       refine E.cases (t := 79) rfl (fun hb_ E_ => ?_) (fun hb_ E_ => ?_)
       ·
        replace E := E_; clear E_
        have h151 : 0 ≤ r69.1 := of_decide_eq_true hb_
        clear hb_; replace hP := ite_t h151 hP
        refine vn tbok 4 [] [(81, .bool ((r69.1 : Int) == 0)), (82, .slice A23 (List.length (List.take (Int.toNat (minL (((List.length aa) : Nat) : Int) [(((List.length b) : Nat) : Int), (((List.length c) : Nat) : Int), 60])) aa)) c24), (83, .slice A27 (List.length (List.take (Int.toNat (minL (((List.length aa) : Nat) : Int) [(((List.length b) : Nat) : Int), (((List.length c) : Nat) : Int), 60])) b)) c28)] [] E (by kernel_rfl) (by kernel_rfl) trivial ?_
        clear E; intro a E
        obtain ⟨r152, h153, hP⟩ := bind_inv hP
        obtain ⟨Fa154, Hc155, hb156⟩ := H.call [] [(0, false), (1, false)] rfl rfl trivial
        refine e_call E rfl rfl Try.func16 rfl rfl rfl (kit_SameLetters_calls A23 c24 A27 c28 (List.take (Int.toNat (minL (((List.length aa) : Nat) : Int) [(((List.length b) : Nat) : Int), (((List.length c) : Nat) : Int), 60])) aa) (List.take (Int.toNat (minL (((List.length aa) : Nat) : Int) [(((List.length b) : Nat) : Int), (((List.length c) : Nat) : Int), 60])) b) hk25 hk29 Hc155 h153) ?_
        rintro v157 w158 a ⟨rfl, HR159⟩ E_
        replace E := E_ _ rfl; clear E_
        obtain ⟨H_, hc160⟩ := hb156 _ _ HR159 rfl
        replace H := H_; clear H_; try dsimp only [setn, addE, goneL] at H
        refine vn tbok 3 [] [(87, .bool (((r69.1 : Int) == 0) == r152))] [] E (by kernel_rfl) (by kernel_rfl) trivial ?_
        clear E; intro a E
        refine E.cases (t := 87) rfl (fun hb_ E_ => ?_) (fun hb_ E_ => ?_)
        ·
         replace E := E_; clear E_
         have h161 : ((r69.1 : Int) == 0) = r152 := eq_of_beq hb_
         clear hb_; replace hP := ite_t h161 hP
         obtain ⟨g162, hP⟩ := ask_inv hP
         refine vr tbok 7 [.int .i64 (r69.1 + r87.1)] [(94, .bool (decide (r96.1 ≤ (r69.1 + r87.1))))] [IntKind.i64.wrap (r69.1 + r87.1) = r69.1 + r87.1] E (by kernel_rfl) (wrap_in g162) ?_
         clear E; intro a E
         refine E.cases (t := 94) rfl (fun hb_ E_ => ?_) (fun hb_ E_ => ?_)
         ·
          replace E := E_; clear E_
          have h163 : r96.1 ≤ (r69.1 + r87.1) := of_decide_eq_true hb_
          clear hb_; replace hP := ite_t h163 hP
          obtain ⟨r164, h165, hP⟩ := bind_inv hP
          obtain ⟨Fa166, Hc167, hb168⟩ := H.call [] [] rfl rfl trivial
          refine e_call E rfl rfl Try.func23 rfl rfl rfl (law28_awake_calls    Hc167 h165) ?_
          rintro v169 w170 a ⟨rfl, HR171⟩ E_
          replace E := E_ _ rfl; clear E_
          obtain ⟨H_, hc172⟩ := hb168 _ _ HR171 rfl
          replace H := H_; clear H_; try dsimp only [setn, addE, goneL] at H
          refine vn tbok 2 [] [(6, .bool r164)] [] E (by kernel_rfl) (by kernel_rfl) trivial ?_
          clear E; intro a E
          refine wpList_nil ?_
          have hx_ := Option.some.inj hP
          exact .inl ⟨rfl, r164, E.pick _ ⟨rfl, trivial⟩, H.sel [] rfl, hx_.symm⟩
         replace E := E_; clear E_
         have h173 : ¬ (r96.1 ≤ (r69.1 + r87.1)) := of_decide_eq_false hb_
         clear hb_; replace hP := ite_f h173 hP
         refine vn tbok 3 [] [(6, .bool false)] [] E (by kernel_rfl) (by kernel_rfl) trivial ?_
         clear E; intro a E
         refine wpList_nil ?_
         have hx_ := Option.some.inj hP
         exact .inl ⟨rfl, false, E.pick _ ⟨rfl, trivial⟩, H.sel [] rfl, hx_.symm⟩
        replace E := E_; clear E_
        have h174 : ¬ (((r69.1 : Int) == 0) = r152) := ne_of_beq_false hb_
        clear hb_; replace hP := ite_f h174 hP
        refine vr tbok 10 [] [(6, .bool false)] [] E (by kernel_rfl) trivial ?_
        clear E; intro a E
        refine wpList_nil ?_
        have hx_ := Option.some.inj hP
        exact .inl ⟨rfl, false, E.pick _ ⟨rfl, trivial⟩, H.sel [] rfl, hx_.symm⟩
       replace E := E_; clear E_
       have h175 : ¬ (0 ≤ r69.1) := of_decide_eq_false hb_
       clear hb_; replace hP := ite_f h175 hP
       refine vn tbok 18 [] [(6, .bool false)] [] E (by kernel_rfl) (by kernel_rfl) trivial ?_
       clear E; intro a E
       refine wpList_nil ?_
       have hx_ := Option.some.inj hP
       exact .inl ⟨rfl, false, E.pick _ ⟨rfl, trivial⟩, H.sel [] rfl, hx_.symm⟩
      replace E := E_; clear E_
      have h176 : ¬ ((r69.1 : Int) = r78.1) := ne_of_beq_false hb_
      clear hb_; replace hP := ite_f h176 hP
      refine vn tbok 22 [] [(6, .bool false)] [] E (by kernel_rfl) (by kernel_rfl) trivial ?_
      clear E; intro a E
      refine wpList_nil ?_
      have hx_ := Option.some.inj hP
      exact .inl ⟨rfl, false, E.pick _ ⟨rfl, trivial⟩, H.sel [] rfl, hx_.symm⟩
     replace E := E_; clear E_
     have h177 : ¬ ((r96.2 : Int) = 0) := ne_of_beq_false hb_
     clear hb_; replace hP := ite_f h177 hP
     refine vn tbok 27 [] [(6, .bool false)] [] E (by kernel_rfl) (by kernel_rfl) trivial ?_
     clear E; intro a E
     refine wpList_nil ?_
     have hx_ := Option.some.inj hP
     exact .inl ⟨rfl, false, E.pick _ ⟨rfl, trivial⟩, H.sel [] rfl, hx_.symm⟩
    replace E := E_; clear E_
    have h178 : ¬ ((r87.2 : Int) = 0) := ne_of_beq_false hb_
    clear hb_; replace hP := ite_f h178 hP
    refine vn tbok 31 [] [(6, .bool false)] [] E (by kernel_rfl) (by kernel_rfl) trivial ?_
    clear E; intro a E
    refine wpList_nil ?_
    have hx_ := Option.some.inj hP
    exact .inl ⟨rfl, false, E.pick _ ⟨rfl, trivial⟩, H.sel [] rfl, hx_.symm⟩
   replace E := E_; clear E_
   have h179 : ¬ ((r78.2 : Int) = 0) := ne_of_beq_false hb_
   clear hb_; replace hP := ite_f h179 hP
   refine vn tbok 35 [] [(6, .bool false)] [] E (by kernel_rfl) (by kernel_rfl) trivial ?_
   clear E; intro a E
   refine wpList_nil ?_
   have hx_ := Option.some.inj hP
   exact .inl ⟨rfl, false, E.pick _ ⟨rfl, trivial⟩, H.sel [] rfl, hx_.symm⟩
  replace E := E_; clear E_
  have h180 : ¬ ((r69.2 : Int) = 0) := ne_of_beq_false hb_
  clear hb_; replace hP := ite_f h180 hP
  refine vn tbok 39 [] [(6, .bool false)] [] E (by kernel_rfl) (by kernel_rfl) trivial ?_
  clear E; intro a E
  refine wpList_nil ?_
  have hx_ := Option.some.inj hP
  exact .inl ⟨rfl, false, E.pick _ ⟨rfl, trivial⟩, H.sel [] rfl, hx_.symm⟩
 clear E H h142; rintro a w145 ⟨x144, E, H, hx_⟩
 subst hx_; have hP := hK143; clear hK143
 refine th_n ?_
 refine wp_ret ?_
 obtain rfl := Option.some.inj hP
 refine ret1 E rfl rfl ?_
 exact ⟨_, rfl, rfl, H.sel [] rfl⟩

end Go.V
