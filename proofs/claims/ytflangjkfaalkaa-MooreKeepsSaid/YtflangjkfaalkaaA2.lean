/- Plain functions, and the calls that give them. -/
import Derived.Test.YtflangjkfaalkaaA1
set_option linter.all false
set_option linter.unusedVariables false
set_option linter.unnecessarySimpa false
set_option linter.unusedSimpArgs false
namespace Go.V
open Go Go.Proofs
/-! slices.Reverse[[]rejoinder/api.Letter,rejoinder/api.Letter] -/
def slices_Reverse_api_Letter_api_Letter_l0 (N : Nat) : Nat → (List Int) → Int → Int → Option (List Int)
  | 0, _, _, _ => none
  | m45 + 1, s19, i23, j24 =>
    if i23 < j24 then
      ask (idx j24 (List.length s19)) <|
      ask (idx i23 (List.length s19)) <|
      ask (idx j24 (List.length (List.set s19 (Int.toNat i23) (List.getD s19 (Int.toNat j24) 0)))) <|
      ask (in64 (i23 + 1)) <|
      ask (in64 (j24 - 1)) <|
      slices_Reverse_api_Letter_api_Letter_l0 N m45 (List.set (List.set s19 (Int.toNat i23) (List.getD s19 (Int.toNat j24) 0)) (Int.toNat j24) (List.getD s19 (Int.toNat i23) 0)) (i23 + 1) (j24 - 1)
    else
      some s19
def slices_Reverse_api_Letter_api_Letter (N : Nat) (s : List Int) : Option (List Int) :=
  ask (in64 ((((List.length s) : Nat) : Int) - 1)) <|
  Option.bind (slices_Reverse_api_Letter_api_Letter_l0 N N s 0 ((((List.length s) : Nat) : Int) - 1)) fun x46 =>
  some x46
set_option maxRecDepth 100000 in
set_option maxHeartbeats 4000000 in
theorem slices_Reverse_api_Letter_api_Letter_calls {N : Nat} {S Fa : Nat → Prop} {w0 : World} {r : List Int} (A1 : Option Addr) (c2 : Nat) (s : List Int) (H : Hp S Fa w0 w0 [.row true (cInt .u8) 27 A1 c2 s]) (hP : slices_Reverse_api_Letter_api_Letter N s = some r) :
    Calls Try.prog 57 #[.slice A1 (List.length s) c2] w0 fun e w' => ∃ v, e = .returned v ∧ v = .tuple #[] ∧ List.length r = List.length s ∧ Hp S Fa w0 w' [.row true (cInt .u8) 27 A1 c2 r] := by
 refine enterV (n := 28) Try.func57 rfl rfl rfl ?_
 intro a E
 replace E := E.pick [(0, .slice A1 (List.length s) c2)] ⟨rfl, trivial⟩
 rw [slices_Reverse_api_Letter_api_Letter] at hP
 refine wp_seq ?_
 refine wp_region_lit ?_
 obtain ⟨g4, hP⟩ := ask_inv hP
 refine vr tbok 5 [.int .i64 ((((List.length s) : Nat) : Int) - 1)] [(0, .slice A1 (List.length s) c2), (2, .int .i64 0), (3, .int .i64 ((((List.length s) : Nat) : Int) - 1))] [IntKind.i64.wrap ((((List.length s) : Nat) : Int) - 1) = (((List.length s) : Nat) : Int) - 1] E (by kernel_rfl) (wrap_in g4) ?_
 clear E; intro a E
 refine wpList_nil ?_
 refine th_n ?_
 refine wp_block ?_
 obtain ⟨x46, hL47, hK48⟩ := bind_inv hP
 clear hP
 refine loop_cut (fun i_ a w_ => (i_ = 0 ∧ ∃ (x51 : List Int), Fr a 28 [] ∧ Hp S Fa w0 w_ [.row true (cInt .u8) 27 A1 c2 x51] ∧ List.length x51 = List.length s ∧ x46 = x51)) ?_ ?_
 ·
  refine loopV (fun m50 a w49 => ∃ (s19 : List Int) (i23 : Int) (j24 : Int), Fr a 28 [(0, .slice A1 (List.length s19) c2), (2, .int .i64 i23), (3, .int .i64 j24)] ∧ Hp S Fa w0 w49 [.row true (cInt .u8) 27 A1 c2 s19] ∧ List.length s19 = List.length s ∧ slices_Reverse_api_Letter_api_Letter_l0 N m50 s19 i23 j24 = some x46) N ?_ ?_
  ·
   exact ⟨s, 0, (((List.length s) : Nat) : Int) - 1, E.pick _ ⟨rfl, rfl, rfl, trivial⟩, H.sel [0] rfl, rfl, hL47⟩
  clear E H hL47; intro m50 a w49 hI_
  obtain ⟨s19, i23, j24, E, H, hl22, hP⟩ := hI_
  obtain ⟨m45, rfl⟩ : ∃ q_, m50 = q_ + 1 := by cases m50 with | zero => rw [slices_Reverse_api_Letter_api_Letter_l0] at hP; cases hP | succ q_ => exact ⟨q_, rfl⟩
  rw [slices_Reverse_api_Letter_api_Letter_l0] at hP
  refine wp_seq ?_
  refine wp_seq ?_
  refine wp_region_lit ?_
  refine vr tbok 3 [] [(0, .slice A1 (List.length s19) c2), (2, .int .i64 i23), (3, .int .i64 j24), (9, .bool (decide (i23 < j24)))] [] E (by kernel_rfl) trivial ?_
  clear E; intro a E
  refine wpList_nil ?_
  refine th_n ?_
  refine E.cases (t := 9) rfl (fun hb_ E_ => ?_) (fun hb_ E_ => ?_)
  ·
   replace E := E_; clear E_
   have h52 : i23 < j24 := of_decide_eq_true hb_
   clear hb_; replace hP := ite_t h52 hP
   refine c_true E rfl ?_
   refine wp_skip ?_
   refine th_n ?_
   refine wp_seq ?_
   refine wp_block ?_
   obtain ⟨g53, hP⟩ := ask_inv hP
   obtain ⟨b54, e_b54⟩ := H.raddr 0 rfl (idx_pos g53)
   subst e_b54
   obtain ⟨g56, hP⟩ := ask_inv hP
   obtain ⟨g60, hP⟩ := ask_inv hP
   refine meet_cut (fun a w64 => Fr a 28 [(0, .slice (some ⟨b54, 0, none⟩) (List.length (List.set (List.set s19 (Int.toNat i23) (List.getD s19 (Int.toNat j24) 0)) (Int.toNat j24) (List.getD s19 (Int.toNat i23) 0))) c2), (2, .int .i64 i23), (3, .int .i64 j24)] ∧ Hp S Fa w0 w64 [.row true (cInt .u8) 27 (some ⟨b54, 0, none⟩) c2 (List.set (List.set s19 (Int.toNat i23) (List.getD s19 (Int.toNat j24) 0)) (Int.toNat j24) (List.getD s19 (Int.toNat i23) 0))]) ?_ ?_
   ·
    have HR68 := H
    refine dr_start (S := fun w_ => Chg (atL [.row true (cInt .u8) 27 (some ⟨b54, 0, none⟩) c2 s19]) w49 w_) (by kernel_rfl) ?_
    intro w65 hc66
    have HS67 : Chg (atL [.row true (cInt .u8) 27 (some ⟨b54, 0, none⟩) c2 s19]) w49 w65 := hc66.mono (fun _ _ h_ => h_.elim)
    replace H := H.ext hc66
    refine dr tbok (by kernel_rfl) [0, 1, 2, 3, 4, 5, 8, 9] [] [(0, .slice (some ⟨b54, 0, none⟩) (List.length s19) c2), (2, .int .i64 i23), (3, .int .i64 j24), (14, .slice (some ⟨b54, 0, none⟩) (List.length s19) c2), (15, .int .i64 i23), (16, .slice (some ⟨b54, 0, none⟩) (List.length s19) c2), (17, .int .i64 j24), (18, .slice (some ⟨b54, 0, none⟩) (List.length s19) c2), (19, .int .i64 j24), (22, .slice (some ⟨b54, 0, none⟩) (List.length s19) c2), (23, .int .i64 i23)] (fun w_ => []) 8 E (fun _ _ => by kernel_rfl) (fun w_ hS_ => trivial) (by kernel_rfl) HS67 ?_
    clear E; intro a E
    refine wpAnyH_all (rs := [6, 10]) (by kernel_rfl) (by simp) ?_
    refine all2 ?_ ?_
    ·
     refine wpOp_of_list rfl ?_
     refine vr tbok 1 [] [(0, .slice (some ⟨b54, 0, none⟩) (List.length s19) c2), (2, .int .i64 i23), (3, .int .i64 j24), (14, .slice (some ⟨b54, 0, none⟩) (List.length s19) c2), (15, .int .i64 i23), (16, .slice (some ⟨b54, 0, none⟩) (List.length s19) c2), (17, .int .i64 j24), (18, .slice (some ⟨b54, 0, none⟩) (List.length s19) c2), (19, .int .i64 j24), (20, .pointer (some ⟨b54, 0 + (Int.toNat j24) * 1, none⟩)), (22, .slice (some ⟨b54, 0, none⟩) (List.length s19) c2), (23, .int .i64 i23)] [0 ≤ j24 ∧ j24 < (((List.length s19) : Nat) : Int)] E (by kernel_rfl) (g53) ?_
     clear E; intro a E
     refine wpList_nil ?_
     refine th_n ⟨HS67, ?_⟩
     refine wpAnyH_all (rs := [7, 10]) (by kernel_rfl) (by simp) ?_
     refine all2 ?_ ?_
     ·
      refine wpOp_of_list rfl ?_
      refine vr tbok 1 [.int .u8 (List.getD s19 (Int.toNat j24) 0)] [(0, .slice (some ⟨b54, 0, none⟩) (List.length s19) c2), (2, .int .i64 i23), (3, .int .i64 j24), (14, .slice (some ⟨b54, 0, none⟩) (List.length s19) c2), (15, .int .i64 i23), (16, .slice (some ⟨b54, 0, none⟩) (List.length s19) c2), (17, .int .i64 j24), (20, .pointer (some ⟨b54, 0 + (Int.toNat j24) * 1, none⟩)), (21, .int .u8 (List.getD s19 (Int.toNat j24) 0)), (22, .slice (some ⟨b54, 0, none⟩) (List.length s19) c2), (23, .int .i64 i23)] [World.cell? w65 ⟨b54, 0 + (Int.toNat j24) * 1, none⟩ = some (.int .u8 (List.getD s19 (Int.toNat j24) 0))] E (by kernel_rfl) (Rds.at1 (H.rd 0 rds_row) 0 g53) ?_
      clear E; intro a E
      refine wpList_nil ?_
      refine th_n ⟨HS67, ?_⟩
      refine wpAnyH_all (rs := [10]) (by kernel_rfl) (by simp) ?_
      refine all1 ?_
      refine wpOp_of_list rfl ?_
      refine vr tbok 1 [] [(0, .slice (some ⟨b54, 0, none⟩) (List.length s19) c2), (2, .int .i64 i23), (3, .int .i64 j24), (14, .slice (some ⟨b54, 0, none⟩) (List.length s19) c2), (15, .int .i64 i23), (16, .slice (some ⟨b54, 0, none⟩) (List.length s19) c2), (17, .int .i64 j24), (21, .int .u8 (List.getD s19 (Int.toNat j24) 0)), (22, .slice (some ⟨b54, 0, none⟩) (List.length s19) c2), (23, .int .i64 i23), (24, .pointer (some ⟨b54, 0 + (Int.toNat i23) * 1, none⟩))] [0 ≤ i23 ∧ i23 < (((List.length s19) : Nat) : Int)] E (by kernel_rfl) (g56) ?_
      clear E; intro a E
      refine wpList_nil ?_
      refine th_n ⟨HS67, ?_⟩
      refine wpAnyH_all (rs := [11]) (by kernel_rfl) (by simp) ?_
      refine all1 ?_
      refine wpOp_of_list rfl ?_
      refine vr tbok 1 [.int .u8 (List.getD s19 (Int.toNat i23) 0)] [(0, .slice (some ⟨b54, 0, none⟩) (List.length s19) c2), (2, .int .i64 i23), (3, .int .i64 j24), (14, .slice (some ⟨b54, 0, none⟩) (List.length s19) c2), (15, .int .i64 i23), (16, .slice (some ⟨b54, 0, none⟩) (List.length s19) c2), (17, .int .i64 j24), (21, .int .u8 (List.getD s19 (Int.toNat j24) 0)), (24, .pointer (some ⟨b54, 0 + (Int.toNat i23) * 1, none⟩)), (25, .int .u8 (List.getD s19 (Int.toNat i23) 0))] [World.cell? w65 ⟨b54, 0 + (Int.toNat i23) * 1, none⟩ = some (.int .u8 (List.getD s19 (Int.toNat i23) 0))] E (by kernel_rfl) (Rds.at1 (H.rd 0 rds_row) 0 g56) ?_
      clear E; intro a E
      refine wpList_nil ?_
      refine th_n ⟨HS67, ?_⟩
      refine wpAnyH_all (rs := [12]) (by kernel_rfl) (by simp) ?_
      refine all1 ?_
      refine wpOp_of_list rfl ?_
      refine vr tbok 1 [] [(0, .slice (some ⟨b54, 0, none⟩) (List.length s19) c2), (2, .int .i64 i23), (3, .int .i64 j24), (14, .slice (some ⟨b54, 0, none⟩) (List.length s19) c2), (15, .int .i64 i23), (16, .slice (some ⟨b54, 0, none⟩) (List.length s19) c2), (17, .int .i64 j24), (21, .int .u8 (List.getD s19 (Int.toNat j24) 0)), (25, .int .u8 (List.getD s19 (Int.toNat i23) 0)), (26, .pointer (some ⟨b54, 0 + (Int.toNat i23) * 1, none⟩))] [0 ≤ i23 ∧ i23 < (((List.length s19) : Nat) : Int)] E (by kernel_rfl) (g56) ?_
      clear E; intro a E
      refine wpList_nil ?_
      refine th_n ⟨HS67, ?_⟩
      refine wpAnyH_all (rs := [13]) (by kernel_rfl) (by simp) ?_
      refine all1 ?_
      refine wpOp_of_list rfl ?_
      refine h_set (g := b54) (i := i23) (List.getD s19 (Int.toNat j24) 0) H 0 rfl E rfl rfl rfl rfl tbok rfl (fun _ HF_ => rfl) rfl g56 rfl ?_
      clear E; intro w69 a hc70 H_ E
      replace HS67 := HS67.trans hc70 (fun k_ hk_ h_ => (fun _ _ h_ => Or.inl h_) k_ hk_ h_)
      replace H := H_; clear H_; try dsimp only [setn, addE, goneL] at H
      have hn71 : (List.length s19) = (List.length (List.set s19 (Int.toNat i23) (List.getD s19 (Int.toNat j24) 0))) := by simp only [List.length_set]
      replace E := E.same (t := 0) (u := .slice (some ⟨b54, 0, none⟩) (List.length (List.set s19 (Int.toNat i23) (List.getD s19 (Int.toNat j24) 0))) c2) rfl (congrArg (fun n_ => Value.slice (some ⟨b54, 0, none⟩) n_ c2) hn71)
      replace E := E.same (t := 14) (u := .slice (some ⟨b54, 0, none⟩) (List.length (List.set s19 (Int.toNat i23) (List.getD s19 (Int.toNat j24) 0))) c2) rfl (congrArg (fun n_ => Value.slice (some ⟨b54, 0, none⟩) n_ c2) hn71)
      replace E := E.same (t := 16) (u := .slice (some ⟨b54, 0, none⟩) (List.length (List.set s19 (Int.toNat i23) (List.getD s19 (Int.toNat j24) 0))) c2) rfl (congrArg (fun n_ => Value.slice (some ⟨b54, 0, none⟩) n_ c2) hn71)
      refine wpList_nil ?_
      refine th_n ⟨HS67, ?_⟩
      refine wpAnyH_all (rs := [14]) (by kernel_rfl) (by simp) ?_
      refine all1 ?_
      refine wpOp_of_list rfl ?_
      refine vr tbok 1 [] [(0, .slice (some ⟨b54, 0, none⟩) (List.length (List.set s19 (Int.toNat i23) (List.getD s19 (Int.toNat j24) 0))) c2), (2, .int .i64 i23), (3, .int .i64 j24), (16, .slice (some ⟨b54, 0, none⟩) (List.length (List.set s19 (Int.toNat i23) (List.getD s19 (Int.toNat j24) 0))) c2), (17, .int .i64 j24), (25, .int .u8 (List.getD s19 (Int.toNat i23) 0)), (27, .pointer (some ⟨b54, 0 + (Int.toNat j24) * 1, none⟩))] [0 ≤ j24 ∧ j24 < (((List.length (List.set s19 (Int.toNat i23) (List.getD s19 (Int.toNat j24) 0))) : Nat) : Int)] E (by kernel_rfl) (g60) ?_
      clear E; intro a E
      refine wpList_nil ?_
      refine th_n ⟨HS67, ?_⟩
      refine wpAnyH_all (rs := [15]) (by kernel_rfl) (by simp) ?_
      refine all1 ?_
      refine wpOp_of_list rfl ?_
      refine h_set (g := b54) (i := j24) (List.getD s19 (Int.toNat i23) 0) H 0 rfl E rfl rfl rfl rfl tbok rfl (fun _ HF_ => rfl) rfl g60 rfl ?_
      clear E; intro w72 a hc73 H_ E
      replace HS67 := HS67.trans hc73 (fun k_ hk_ h_ => (fun _ _ h_ => Or.inl h_) k_ hk_ h_)
      replace H := H_; clear H_; try dsimp only [setn, addE, goneL] at H
      have hn74 : (List.length (List.set s19 (Int.toNat i23) (List.getD s19 (Int.toNat j24) 0))) = (List.length (List.set (List.set s19 (Int.toNat i23) (List.getD s19 (Int.toNat j24) 0)) (Int.toNat j24) (List.getD s19 (Int.toNat i23) 0))) := by simp only [List.length_set]
      replace E := E.same (t := 0) (u := .slice (some ⟨b54, 0, none⟩) (List.length (List.set (List.set s19 (Int.toNat i23) (List.getD s19 (Int.toNat j24) 0)) (Int.toNat j24) (List.getD s19 (Int.toNat i23) 0))) c2) rfl (congrArg (fun n_ => Value.slice (some ⟨b54, 0, none⟩) n_ c2) hn74)
      replace E := E.same (t := 16) (u := .slice (some ⟨b54, 0, none⟩) (List.length (List.set (List.set s19 (Int.toNat i23) (List.getD s19 (Int.toNat j24) 0)) (Int.toNat j24) (List.getD s19 (Int.toNat i23) 0))) c2) rfl (congrArg (fun n_ => Value.slice (some ⟨b54, 0, none⟩) n_ c2) hn74)
      refine wpList_nil ?_
      refine th_n ⟨HS67, ?_⟩
      refine dr_done (by kernel_rfl) ?_
      exact .inl ⟨rfl, E.pick _ ⟨rfl, rfl, rfl, trivial⟩, H.sel [0] rfl⟩
     refine wpOp_of_list rfl ?_
     refine vr tbok 1 [] [(0, .slice (some ⟨b54, 0, none⟩) (List.length s19) c2), (2, .int .i64 i23), (3, .int .i64 j24), (14, .slice (some ⟨b54, 0, none⟩) (List.length s19) c2), (15, .int .i64 i23), (16, .slice (some ⟨b54, 0, none⟩) (List.length s19) c2), (17, .int .i64 j24), (20, .pointer (some ⟨b54, 0 + (Int.toNat j24) * 1, none⟩)), (22, .slice (some ⟨b54, 0, none⟩) (List.length s19) c2), (23, .int .i64 i23), (24, .pointer (some ⟨b54, 0 + (Int.toNat i23) * 1, none⟩))] [0 ≤ i23 ∧ i23 < (((List.length s19) : Nat) : Int)] E (by kernel_rfl) (g56) ?_
     clear E; intro a E
     refine wpList_nil ?_
     refine th_n ⟨HS67, ?_⟩
     refine wpAnyH_all (rs := [7, 11]) (by kernel_rfl) (by simp) ?_
     refine all2 ?_ ?_
     ·
      refine wpOp_of_list rfl ?_
      refine vr tbok 1 [.int .u8 (List.getD s19 (Int.toNat j24) 0)] [(0, .slice (some ⟨b54, 0, none⟩) (List.length s19) c2), (2, .int .i64 i23), (3, .int .i64 j24), (14, .slice (some ⟨b54, 0, none⟩) (List.length s19) c2), (15, .int .i64 i23), (16, .slice (some ⟨b54, 0, none⟩) (List.length s19) c2), (17, .int .i64 j24), (20, .pointer (some ⟨b54, 0 + (Int.toNat j24) * 1, none⟩)), (21, .int .u8 (List.getD s19 (Int.toNat j24) 0)), (24, .pointer (some ⟨b54, 0 + (Int.toNat i23) * 1, none⟩))] [World.cell? w65 ⟨b54, 0 + (Int.toNat j24) * 1, none⟩ = some (.int .u8 (List.getD s19 (Int.toNat j24) 0))] E (by kernel_rfl) (Rds.at1 (H.rd 0 rds_row) 0 g53) ?_
      clear E; intro a E
      refine wpList_nil ?_
      refine th_n ⟨HS67, ?_⟩
      refine wpAnyH_all (rs := [11]) (by kernel_rfl) (by simp) ?_
      refine all1 ?_
      refine wpOp_of_list rfl ?_
      refine vr tbok 1 [.int .u8 (List.getD s19 (Int.toNat i23) 0)] [(0, .slice (some ⟨b54, 0, none⟩) (List.length s19) c2), (2, .int .i64 i23), (3, .int .i64 j24), (14, .slice (some ⟨b54, 0, none⟩) (List.length s19) c2), (15, .int .i64 i23), (16, .slice (some ⟨b54, 0, none⟩) (List.length s19) c2), (17, .int .i64 j24), (21, .int .u8 (List.getD s19 (Int.toNat j24) 0)), (24, .pointer (some ⟨b54, 0 + (Int.toNat i23) * 1, none⟩)), (25, .int .u8 (List.getD s19 (Int.toNat i23) 0))] [World.cell? w65 ⟨b54, 0 + (Int.toNat i23) * 1, none⟩ = some (.int .u8 (List.getD s19 (Int.toNat i23) 0))] E (by kernel_rfl) (Rds.at1 (H.rd 0 rds_row) 0 g56) ?_
      clear E; intro a E
      refine wpList_nil ?_
      refine th_n ⟨HS67, ?_⟩
      refine wpAnyH_all (rs := [12]) (by kernel_rfl) (by simp) ?_
      refine all1 ?_
      refine wpOp_of_list rfl ?_
      refine vr tbok 1 [] [(0, .slice (some ⟨b54, 0, none⟩) (List.length s19) c2), (2, .int .i64 i23), (3, .int .i64 j24), (14, .slice (some ⟨b54, 0, none⟩) (List.length s19) c2), (15, .int .i64 i23), (16, .slice (some ⟨b54, 0, none⟩) (List.length s19) c2), (17, .int .i64 j24), (21, .int .u8 (List.getD s19 (Int.toNat j24) 0)), (25, .int .u8 (List.getD s19 (Int.toNat i23) 0)), (26, .pointer (some ⟨b54, 0 + (Int.toNat i23) * 1, none⟩))] [0 ≤ i23 ∧ i23 < (((List.length s19) : Nat) : Int)] E (by kernel_rfl) (g56) ?_
      clear E; intro a E
      refine wpList_nil ?_
      refine th_n ⟨HS67, ?_⟩
      refine wpAnyH_all (rs := [13]) (by kernel_rfl) (by simp) ?_
      refine all1 ?_
      refine wpOp_of_list rfl ?_
      refine h_set (g := b54) (i := i23) (List.getD s19 (Int.toNat j24) 0) H 0 rfl E rfl rfl rfl rfl tbok rfl (fun _ HF_ => rfl) rfl g56 rfl ?_
      clear E; intro w75 a hc76 H_ E
      replace HS67 := HS67.trans hc76 (fun k_ hk_ h_ => (fun _ _ h_ => Or.inl h_) k_ hk_ h_)
      replace H := H_; clear H_; try dsimp only [setn, addE, goneL] at H
      have hn77 : (List.length s19) = (List.length (List.set s19 (Int.toNat i23) (List.getD s19 (Int.toNat j24) 0))) := by simp only [List.length_set]
      replace E := E.same (t := 0) (u := .slice (some ⟨b54, 0, none⟩) (List.length (List.set s19 (Int.toNat i23) (List.getD s19 (Int.toNat j24) 0))) c2) rfl (congrArg (fun n_ => Value.slice (some ⟨b54, 0, none⟩) n_ c2) hn77)
      replace E := E.same (t := 14) (u := .slice (some ⟨b54, 0, none⟩) (List.length (List.set s19 (Int.toNat i23) (List.getD s19 (Int.toNat j24) 0))) c2) rfl (congrArg (fun n_ => Value.slice (some ⟨b54, 0, none⟩) n_ c2) hn77)
      replace E := E.same (t := 16) (u := .slice (some ⟨b54, 0, none⟩) (List.length (List.set s19 (Int.toNat i23) (List.getD s19 (Int.toNat j24) 0))) c2) rfl (congrArg (fun n_ => Value.slice (some ⟨b54, 0, none⟩) n_ c2) hn77)
      refine wpList_nil ?_
      refine th_n ⟨HS67, ?_⟩
      refine wpAnyH_all (rs := [14]) (by kernel_rfl) (by simp) ?_
      refine all1 ?_
      refine wpOp_of_list rfl ?_
      refine vr tbok 1 [] [(0, .slice (some ⟨b54, 0, none⟩) (List.length (List.set s19 (Int.toNat i23) (List.getD s19 (Int.toNat j24) 0))) c2), (2, .int .i64 i23), (3, .int .i64 j24), (16, .slice (some ⟨b54, 0, none⟩) (List.length (List.set s19 (Int.toNat i23) (List.getD s19 (Int.toNat j24) 0))) c2), (17, .int .i64 j24), (25, .int .u8 (List.getD s19 (Int.toNat i23) 0)), (27, .pointer (some ⟨b54, 0 + (Int.toNat j24) * 1, none⟩))] [0 ≤ j24 ∧ j24 < (((List.length (List.set s19 (Int.toNat i23) (List.getD s19 (Int.toNat j24) 0))) : Nat) : Int)] E (by kernel_rfl) (g60) ?_
      clear E; intro a E
      refine wpList_nil ?_
      refine th_n ⟨HS67, ?_⟩
      refine wpAnyH_all (rs := [15]) (by kernel_rfl) (by simp) ?_
      refine all1 ?_
      refine wpOp_of_list rfl ?_
      refine h_set (g := b54) (i := j24) (List.getD s19 (Int.toNat i23) 0) H 0 rfl E rfl rfl rfl rfl tbok rfl (fun _ HF_ => rfl) rfl g60 rfl ?_
      clear E; intro w78 a hc79 H_ E
      replace HS67 := HS67.trans hc79 (fun k_ hk_ h_ => (fun _ _ h_ => Or.inl h_) k_ hk_ h_)
      replace H := H_; clear H_; try dsimp only [setn, addE, goneL] at H
      have hn80 : (List.length (List.set s19 (Int.toNat i23) (List.getD s19 (Int.toNat j24) 0))) = (List.length (List.set (List.set s19 (Int.toNat i23) (List.getD s19 (Int.toNat j24) 0)) (Int.toNat j24) (List.getD s19 (Int.toNat i23) 0))) := by simp only [List.length_set]
      replace E := E.same (t := 0) (u := .slice (some ⟨b54, 0, none⟩) (List.length (List.set (List.set s19 (Int.toNat i23) (List.getD s19 (Int.toNat j24) 0)) (Int.toNat j24) (List.getD s19 (Int.toNat i23) 0))) c2) rfl (congrArg (fun n_ => Value.slice (some ⟨b54, 0, none⟩) n_ c2) hn80)
      replace E := E.same (t := 16) (u := .slice (some ⟨b54, 0, none⟩) (List.length (List.set (List.set s19 (Int.toNat i23) (List.getD s19 (Int.toNat j24) 0)) (Int.toNat j24) (List.getD s19 (Int.toNat i23) 0))) c2) rfl (congrArg (fun n_ => Value.slice (some ⟨b54, 0, none⟩) n_ c2) hn80)
      refine wpList_nil ?_
      refine th_n ⟨HS67, ?_⟩
      refine dr_done (by kernel_rfl) ?_
      exact .inl ⟨rfl, E.pick _ ⟨rfl, rfl, rfl, trivial⟩, H.sel [0] rfl⟩
     refine wpOp_of_list rfl ?_
     refine vr tbok 1 [.int .u8 (List.getD s19 (Int.toNat i23) 0)] [(0, .slice (some ⟨b54, 0, none⟩) (List.length s19) c2), (2, .int .i64 i23), (3, .int .i64 j24), (14, .slice (some ⟨b54, 0, none⟩) (List.length s19) c2), (15, .int .i64 i23), (16, .slice (some ⟨b54, 0, none⟩) (List.length s19) c2), (17, .int .i64 j24), (20, .pointer (some ⟨b54, 0 + (Int.toNat j24) * 1, none⟩)), (24, .pointer (some ⟨b54, 0 + (Int.toNat i23) * 1, none⟩)), (25, .int .u8 (List.getD s19 (Int.toNat i23) 0))] [World.cell? w65 ⟨b54, 0 + (Int.toNat i23) * 1, none⟩ = some (.int .u8 (List.getD s19 (Int.toNat i23) 0))] E (by kernel_rfl) (Rds.at1 (H.rd 0 rds_row) 0 g56) ?_
     clear E; intro a E
     refine wpList_nil ?_
     refine th_n ⟨HS67, ?_⟩
     refine wpAnyH_all (rs := [7]) (by kernel_rfl) (by simp) ?_
     refine all1 ?_
     refine wpOp_of_list rfl ?_
     refine vr tbok 1 [.int .u8 (List.getD s19 (Int.toNat j24) 0)] [(0, .slice (some ⟨b54, 0, none⟩) (List.length s19) c2), (2, .int .i64 i23), (3, .int .i64 j24), (14, .slice (some ⟨b54, 0, none⟩) (List.length s19) c2), (15, .int .i64 i23), (16, .slice (some ⟨b54, 0, none⟩) (List.length s19) c2), (17, .int .i64 j24), (20, .pointer (some ⟨b54, 0 + (Int.toNat j24) * 1, none⟩)), (21, .int .u8 (List.getD s19 (Int.toNat j24) 0)), (25, .int .u8 (List.getD s19 (Int.toNat i23) 0))] [World.cell? w65 ⟨b54, 0 + (Int.toNat j24) * 1, none⟩ = some (.int .u8 (List.getD s19 (Int.toNat j24) 0))] E (by kernel_rfl) (Rds.at1 (H.rd 0 rds_row) 0 g53) ?_
     clear E; intro a E
     refine wpList_nil ?_
     refine th_n ⟨HS67, ?_⟩
     refine wpAnyH_all (rs := [12]) (by kernel_rfl) (by simp) ?_
     refine all1 ?_
     refine wpOp_of_list rfl ?_
     refine vr tbok 1 [] [(0, .slice (some ⟨b54, 0, none⟩) (List.length s19) c2), (2, .int .i64 i23), (3, .int .i64 j24), (14, .slice (some ⟨b54, 0, none⟩) (List.length s19) c2), (15, .int .i64 i23), (16, .slice (some ⟨b54, 0, none⟩) (List.length s19) c2), (17, .int .i64 j24), (21, .int .u8 (List.getD s19 (Int.toNat j24) 0)), (25, .int .u8 (List.getD s19 (Int.toNat i23) 0)), (26, .pointer (some ⟨b54, 0 + (Int.toNat i23) * 1, none⟩))] [0 ≤ i23 ∧ i23 < (((List.length s19) : Nat) : Int)] E (by kernel_rfl) (g56) ?_
     clear E; intro a E
     refine wpList_nil ?_
     refine th_n ⟨HS67, ?_⟩
     refine wpAnyH_all (rs := [13]) (by kernel_rfl) (by simp) ?_
     refine all1 ?_
     refine wpOp_of_list rfl ?_
     refine h_set (g := b54) (i := i23) (List.getD s19 (Int.toNat j24) 0) H 0 rfl E rfl rfl rfl rfl tbok rfl (fun _ HF_ => rfl) rfl g56 rfl ?_
     clear E; intro w81 a hc82 H_ E
     replace HS67 := HS67.trans hc82 (fun k_ hk_ h_ => (fun _ _ h_ => Or.inl h_) k_ hk_ h_)
     replace H := H_; clear H_; try dsimp only [setn, addE, goneL] at H
     have hn83 : (List.length s19) = (List.length (List.set s19 (Int.toNat i23) (List.getD s19 (Int.toNat j24) 0))) := by simp only [List.length_set]
     replace E := E.same (t := 0) (u := .slice (some ⟨b54, 0, none⟩) (List.length (List.set s19 (Int.toNat i23) (List.getD s19 (Int.toNat j24) 0))) c2) rfl (congrArg (fun n_ => Value.slice (some ⟨b54, 0, none⟩) n_ c2) hn83)
     replace E := E.same (t := 14) (u := .slice (some ⟨b54, 0, none⟩) (List.length (List.set s19 (Int.toNat i23) (List.getD s19 (Int.toNat j24) 0))) c2) rfl (congrArg (fun n_ => Value.slice (some ⟨b54, 0, none⟩) n_ c2) hn83)
     replace E := E.same (t := 16) (u := .slice (some ⟨b54, 0, none⟩) (List.length (List.set s19 (Int.toNat i23) (List.getD s19 (Int.toNat j24) 0))) c2) rfl (congrArg (fun n_ => Value.slice (some ⟨b54, 0, none⟩) n_ c2) hn83)
     refine wpList_nil ?_
     refine th_n ⟨HS67, ?_⟩
     refine wpAnyH_all (rs := [14]) (by kernel_rfl) (by simp) ?_
     refine all1 ?_
     refine wpOp_of_list rfl ?_
     refine vr tbok 1 [] [(0, .slice (some ⟨b54, 0, none⟩) (List.length (List.set s19 (Int.toNat i23) (List.getD s19 (Int.toNat j24) 0))) c2), (2, .int .i64 i23), (3, .int .i64 j24), (16, .slice (some ⟨b54, 0, none⟩) (List.length (List.set s19 (Int.toNat i23) (List.getD s19 (Int.toNat j24) 0))) c2), (17, .int .i64 j24), (25, .int .u8 (List.getD s19 (Int.toNat i23) 0)), (27, .pointer (some ⟨b54, 0 + (Int.toNat j24) * 1, none⟩))] [0 ≤ j24 ∧ j24 < (((List.length (List.set s19 (Int.toNat i23) (List.getD s19 (Int.toNat j24) 0))) : Nat) : Int)] E (by kernel_rfl) (g60) ?_
     clear E; intro a E
     refine wpList_nil ?_
     refine th_n ⟨HS67, ?_⟩
     refine wpAnyH_all (rs := [15]) (by kernel_rfl) (by simp) ?_
     refine all1 ?_
     refine wpOp_of_list rfl ?_
     refine h_set (g := b54) (i := j24) (List.getD s19 (Int.toNat i23) 0) H 0 rfl E rfl rfl rfl rfl tbok rfl (fun _ HF_ => rfl) rfl g60 rfl ?_
     clear E; intro w84 a hc85 H_ E
     replace HS67 := HS67.trans hc85 (fun k_ hk_ h_ => (fun _ _ h_ => Or.inl h_) k_ hk_ h_)
     replace H := H_; clear H_; try dsimp only [setn, addE, goneL] at H
     have hn86 : (List.length (List.set s19 (Int.toNat i23) (List.getD s19 (Int.toNat j24) 0))) = (List.length (List.set (List.set s19 (Int.toNat i23) (List.getD s19 (Int.toNat j24) 0)) (Int.toNat j24) (List.getD s19 (Int.toNat i23) 0))) := by simp only [List.length_set]
     replace E := E.same (t := 0) (u := .slice (some ⟨b54, 0, none⟩) (List.length (List.set (List.set s19 (Int.toNat i23) (List.getD s19 (Int.toNat j24) 0)) (Int.toNat j24) (List.getD s19 (Int.toNat i23) 0))) c2) rfl (congrArg (fun n_ => Value.slice (some ⟨b54, 0, none⟩) n_ c2) hn86)
     replace E := E.same (t := 16) (u := .slice (some ⟨b54, 0, none⟩) (List.length (List.set (List.set s19 (Int.toNat i23) (List.getD s19 (Int.toNat j24) 0)) (Int.toNat j24) (List.getD s19 (Int.toNat i23) 0))) c2) rfl (congrArg (fun n_ => Value.slice (some ⟨b54, 0, none⟩) n_ c2) hn86)
     refine wpList_nil ?_
     refine th_n ⟨HS67, ?_⟩
     refine dr_done (by kernel_rfl) ?_
     exact .inl ⟨rfl, E.pick _ ⟨rfl, rfl, rfl, trivial⟩, H.sel [0] rfl⟩
    refine wpOp_of_list rfl ?_
    refine vr tbok 1 [] [(0, .slice (some ⟨b54, 0, none⟩) (List.length s19) c2), (2, .int .i64 i23), (3, .int .i64 j24), (14, .slice (some ⟨b54, 0, none⟩) (List.length s19) c2), (15, .int .i64 i23), (16, .slice (some ⟨b54, 0, none⟩) (List.length s19) c2), (17, .int .i64 j24), (18, .slice (some ⟨b54, 0, none⟩) (List.length s19) c2), (19, .int .i64 j24), (22, .slice (some ⟨b54, 0, none⟩) (List.length s19) c2), (23, .int .i64 i23), (24, .pointer (some ⟨b54, 0 + (Int.toNat i23) * 1, none⟩))] [0 ≤ i23 ∧ i23 < (((List.length s19) : Nat) : Int)] E (by kernel_rfl) (g56) ?_
    clear E; intro a E
    refine wpList_nil ?_
    refine th_n ⟨HS67, ?_⟩
    refine wpAnyH_all (rs := [6, 11]) (by kernel_rfl) (by simp) ?_
    refine all2 ?_ ?_
    ·
     refine wpOp_of_list rfl ?_
     refine vr tbok 1 [] [(0, .slice (some ⟨b54, 0, none⟩) (List.length s19) c2), (2, .int .i64 i23), (3, .int .i64 j24), (14, .slice (some ⟨b54, 0, none⟩) (List.length s19) c2), (15, .int .i64 i23), (16, .slice (some ⟨b54, 0, none⟩) (List.length s19) c2), (17, .int .i64 j24), (18, .slice (some ⟨b54, 0, none⟩) (List.length s19) c2), (19, .int .i64 j24), (20, .pointer (some ⟨b54, 0 + (Int.toNat j24) * 1, none⟩)), (24, .pointer (some ⟨b54, 0 + (Int.toNat i23) * 1, none⟩))] [0 ≤ j24 ∧ j24 < (((List.length s19) : Nat) : Int)] E (by kernel_rfl) (g53) ?_
     clear E; intro a E
     refine wpList_nil ?_
     refine th_n ⟨HS67, ?_⟩
     refine wpAnyH_all (rs := [7, 11]) (by kernel_rfl) (by simp) ?_
     refine all2 ?_ ?_
     ·
      refine wpOp_of_list rfl ?_
      refine vr tbok 1 [.int .u8 (List.getD s19 (Int.toNat j24) 0)] [(0, .slice (some ⟨b54, 0, none⟩) (List.length s19) c2), (2, .int .i64 i23), (3, .int .i64 j24), (14, .slice (some ⟨b54, 0, none⟩) (List.length s19) c2), (15, .int .i64 i23), (16, .slice (some ⟨b54, 0, none⟩) (List.length s19) c2), (17, .int .i64 j24), (20, .pointer (some ⟨b54, 0 + (Int.toNat j24) * 1, none⟩)), (21, .int .u8 (List.getD s19 (Int.toNat j24) 0)), (24, .pointer (some ⟨b54, 0 + (Int.toNat i23) * 1, none⟩))] [World.cell? w65 ⟨b54, 0 + (Int.toNat j24) * 1, none⟩ = some (.int .u8 (List.getD s19 (Int.toNat j24) 0))] E (by kernel_rfl) (Rds.at1 (H.rd 0 rds_row) 0 g53) ?_
      clear E; intro a E
      refine wpList_nil ?_
      refine th_n ⟨HS67, ?_⟩
      refine wpAnyH_all (rs := [11]) (by kernel_rfl) (by simp) ?_
      refine all1 ?_
      refine wpOp_of_list rfl ?_
      refine vr tbok 1 [.int .u8 (List.getD s19 (Int.toNat i23) 0)] [(0, .slice (some ⟨b54, 0, none⟩) (List.length s19) c2), (2, .int .i64 i23), (3, .int .i64 j24), (14, .slice (some ⟨b54, 0, none⟩) (List.length s19) c2), (15, .int .i64 i23), (16, .slice (some ⟨b54, 0, none⟩) (List.length s19) c2), (17, .int .i64 j24), (21, .int .u8 (List.getD s19 (Int.toNat j24) 0)), (24, .pointer (some ⟨b54, 0 + (Int.toNat i23) * 1, none⟩)), (25, .int .u8 (List.getD s19 (Int.toNat i23) 0))] [World.cell? w65 ⟨b54, 0 + (Int.toNat i23) * 1, none⟩ = some (.int .u8 (List.getD s19 (Int.toNat i23) 0))] E (by kernel_rfl) (Rds.at1 (H.rd 0 rds_row) 0 g56) ?_
      clear E; intro a E
      refine wpList_nil ?_
      refine th_n ⟨HS67, ?_⟩
      refine wpAnyH_all (rs := [12]) (by kernel_rfl) (by simp) ?_
      refine all1 ?_
      refine wpOp_of_list rfl ?_
      refine vr tbok 1 [] [(0, .slice (some ⟨b54, 0, none⟩) (List.length s19) c2), (2, .int .i64 i23), (3, .int .i64 j24), (14, .slice (some ⟨b54, 0, none⟩) (List.length s19) c2), (15, .int .i64 i23), (16, .slice (some ⟨b54, 0, none⟩) (List.length s19) c2), (17, .int .i64 j24), (21, .int .u8 (List.getD s19 (Int.toNat j24) 0)), (25, .int .u8 (List.getD s19 (Int.toNat i23) 0)), (26, .pointer (some ⟨b54, 0 + (Int.toNat i23) * 1, none⟩))] [0 ≤ i23 ∧ i23 < (((List.length s19) : Nat) : Int)] E (by kernel_rfl) (g56) ?_
      clear E; intro a E
      refine wpList_nil ?_
      refine th_n ⟨HS67, ?_⟩
      refine wpAnyH_all (rs := [13]) (by kernel_rfl) (by simp) ?_
      refine all1 ?_
      refine wpOp_of_list rfl ?_
      refine h_set (g := b54) (i := i23) (List.getD s19 (Int.toNat j24) 0) H 0 rfl E rfl rfl rfl rfl tbok rfl (fun _ HF_ => rfl) rfl g56 rfl ?_
      clear E; intro w87 a hc88 H_ E
      replace HS67 := HS67.trans hc88 (fun k_ hk_ h_ => (fun _ _ h_ => Or.inl h_) k_ hk_ h_)
      replace H := H_; clear H_; try dsimp only [setn, addE, goneL] at H
      have hn89 : (List.length s19) = (List.length (List.set s19 (Int.toNat i23) (List.getD s19 (Int.toNat j24) 0))) := by simp only [List.length_set]
      replace E := E.same (t := 0) (u := .slice (some ⟨b54, 0, none⟩) (List.length (List.set s19 (Int.toNat i23) (List.getD s19 (Int.toNat j24) 0))) c2) rfl (congrArg (fun n_ => Value.slice (some ⟨b54, 0, none⟩) n_ c2) hn89)
      replace E := E.same (t := 14) (u := .slice (some ⟨b54, 0, none⟩) (List.length (List.set s19 (Int.toNat i23) (List.getD s19 (Int.toNat j24) 0))) c2) rfl (congrArg (fun n_ => Value.slice (some ⟨b54, 0, none⟩) n_ c2) hn89)
      replace E := E.same (t := 16) (u := .slice (some ⟨b54, 0, none⟩) (List.length (List.set s19 (Int.toNat i23) (List.getD s19 (Int.toNat j24) 0))) c2) rfl (congrArg (fun n_ => Value.slice (some ⟨b54, 0, none⟩) n_ c2) hn89)
      refine wpList_nil ?_
      refine th_n ⟨HS67, ?_⟩
      refine wpAnyH_all (rs := [14]) (by kernel_rfl) (by simp) ?_
      refine all1 ?_
      refine wpOp_of_list rfl ?_
      refine vr tbok 1 [] [(0, .slice (some ⟨b54, 0, none⟩) (List.length (List.set s19 (Int.toNat i23) (List.getD s19 (Int.toNat j24) 0))) c2), (2, .int .i64 i23), (3, .int .i64 j24), (16, .slice (some ⟨b54, 0, none⟩) (List.length (List.set s19 (Int.toNat i23) (List.getD s19 (Int.toNat j24) 0))) c2), (17, .int .i64 j24), (25, .int .u8 (List.getD s19 (Int.toNat i23) 0)), (27, .pointer (some ⟨b54, 0 + (Int.toNat j24) * 1, none⟩))] [0 ≤ j24 ∧ j24 < (((List.length (List.set s19 (Int.toNat i23) (List.getD s19 (Int.toNat j24) 0))) : Nat) : Int)] E (by kernel_rfl) (g60) ?_
      clear E; intro a E
      refine wpList_nil ?_
      refine th_n ⟨HS67, ?_⟩
      refine wpAnyH_all (rs := [15]) (by kernel_rfl) (by simp) ?_
      refine all1 ?_
      refine wpOp_of_list rfl ?_
      refine h_set (g := b54) (i := j24) (List.getD s19 (Int.toNat i23) 0) H 0 rfl E rfl rfl rfl rfl tbok rfl (fun _ HF_ => rfl) rfl g60 rfl ?_
      clear E; intro w90 a hc91 H_ E
      replace HS67 := HS67.trans hc91 (fun k_ hk_ h_ => (fun _ _ h_ => Or.inl h_) k_ hk_ h_)
      replace H := H_; clear H_; try dsimp only [setn, addE, goneL] at H
      have hn92 : (List.length (List.set s19 (Int.toNat i23) (List.getD s19 (Int.toNat j24) 0))) = (List.length (List.set (List.set s19 (Int.toNat i23) (List.getD s19 (Int.toNat j24) 0)) (Int.toNat j24) (List.getD s19 (Int.toNat i23) 0))) := by simp only [List.length_set]
      replace E := E.same (t := 0) (u := .slice (some ⟨b54, 0, none⟩) (List.length (List.set (List.set s19 (Int.toNat i23) (List.getD s19 (Int.toNat j24) 0)) (Int.toNat j24) (List.getD s19 (Int.toNat i23) 0))) c2) rfl (congrArg (fun n_ => Value.slice (some ⟨b54, 0, none⟩) n_ c2) hn92)
      replace E := E.same (t := 16) (u := .slice (some ⟨b54, 0, none⟩) (List.length (List.set (List.set s19 (Int.toNat i23) (List.getD s19 (Int.toNat j24) 0)) (Int.toNat j24) (List.getD s19 (Int.toNat i23) 0))) c2) rfl (congrArg (fun n_ => Value.slice (some ⟨b54, 0, none⟩) n_ c2) hn92)
      refine wpList_nil ?_
      refine th_n ⟨HS67, ?_⟩
      refine dr_done (by kernel_rfl) ?_
      exact .inl ⟨rfl, E.pick _ ⟨rfl, rfl, rfl, trivial⟩, H.sel [0] rfl⟩
     refine wpOp_of_list rfl ?_
     refine vr tbok 1 [.int .u8 (List.getD s19 (Int.toNat i23) 0)] [(0, .slice (some ⟨b54, 0, none⟩) (List.length s19) c2), (2, .int .i64 i23), (3, .int .i64 j24), (14, .slice (some ⟨b54, 0, none⟩) (List.length s19) c2), (15, .int .i64 i23), (16, .slice (some ⟨b54, 0, none⟩) (List.length s19) c2), (17, .int .i64 j24), (20, .pointer (some ⟨b54, 0 + (Int.toNat j24) * 1, none⟩)), (24, .pointer (some ⟨b54, 0 + (Int.toNat i23) * 1, none⟩)), (25, .int .u8 (List.getD s19 (Int.toNat i23) 0))] [World.cell? w65 ⟨b54, 0 + (Int.toNat i23) * 1, none⟩ = some (.int .u8 (List.getD s19 (Int.toNat i23) 0))] E (by kernel_rfl) (Rds.at1 (H.rd 0 rds_row) 0 g56) ?_
     clear E; intro a E
     refine wpList_nil ?_
     refine th_n ⟨HS67, ?_⟩
     refine wpAnyH_all (rs := [7]) (by kernel_rfl) (by simp) ?_
     refine all1 ?_
     refine wpOp_of_list rfl ?_
     refine vr tbok 1 [.int .u8 (List.getD s19 (Int.toNat j24) 0)] [(0, .slice (some ⟨b54, 0, none⟩) (List.length s19) c2), (2, .int .i64 i23), (3, .int .i64 j24), (14, .slice (some ⟨b54, 0, none⟩) (List.length s19) c2), (15, .int .i64 i23), (16, .slice (some ⟨b54, 0, none⟩) (List.length s19) c2), (17, .int .i64 j24), (20, .pointer (some ⟨b54, 0 + (Int.toNat j24) * 1, none⟩)), (21, .int .u8 (List.getD s19 (Int.toNat j24) 0)), (25, .int .u8 (List.getD s19 (Int.toNat i23) 0))] [World.cell? w65 ⟨b54, 0 + (Int.toNat j24) * 1, none⟩ = some (.int .u8 (List.getD s19 (Int.toNat j24) 0))] E (by kernel_rfl) (Rds.at1 (H.rd 0 rds_row) 0 g53) ?_
     clear E; intro a E
     refine wpList_nil ?_
     refine th_n ⟨HS67, ?_⟩
     refine wpAnyH_all (rs := [12]) (by kernel_rfl) (by simp) ?_
     refine all1 ?_
     refine wpOp_of_list rfl ?_
     refine vr tbok 1 [] [(0, .slice (some ⟨b54, 0, none⟩) (List.length s19) c2), (2, .int .i64 i23), (3, .int .i64 j24), (14, .slice (some ⟨b54, 0, none⟩) (List.length s19) c2), (15, .int .i64 i23), (16, .slice (some ⟨b54, 0, none⟩) (List.length s19) c2), (17, .int .i64 j24), (21, .int .u8 (List.getD s19 (Int.toNat j24) 0)), (25, .int .u8 (List.getD s19 (Int.toNat i23) 0)), (26, .pointer (some ⟨b54, 0 + (Int.toNat i23) * 1, none⟩))] [0 ≤ i23 ∧ i23 < (((List.length s19) : Nat) : Int)] E (by kernel_rfl) (g56) ?_
     clear E; intro a E
     refine wpList_nil ?_
     refine th_n ⟨HS67, ?_⟩
     refine wpAnyH_all (rs := [13]) (by kernel_rfl) (by simp) ?_
     refine all1 ?_
     refine wpOp_of_list rfl ?_
     refine h_set (g := b54) (i := i23) (List.getD s19 (Int.toNat j24) 0) H 0 rfl E rfl rfl rfl rfl tbok rfl (fun _ HF_ => rfl) rfl g56 rfl ?_
     clear E; intro w93 a hc94 H_ E
     replace HS67 := HS67.trans hc94 (fun k_ hk_ h_ => (fun _ _ h_ => Or.inl h_) k_ hk_ h_)
     replace H := H_; clear H_; try dsimp only [setn, addE, goneL] at H
     have hn95 : (List.length s19) = (List.length (List.set s19 (Int.toNat i23) (List.getD s19 (Int.toNat j24) 0))) := by simp only [List.length_set]
     replace E := E.same (t := 0) (u := .slice (some ⟨b54, 0, none⟩) (List.length (List.set s19 (Int.toNat i23) (List.getD s19 (Int.toNat j24) 0))) c2) rfl (congrArg (fun n_ => Value.slice (some ⟨b54, 0, none⟩) n_ c2) hn95)
     replace E := E.same (t := 14) (u := .slice (some ⟨b54, 0, none⟩) (List.length (List.set s19 (Int.toNat i23) (List.getD s19 (Int.toNat j24) 0))) c2) rfl (congrArg (fun n_ => Value.slice (some ⟨b54, 0, none⟩) n_ c2) hn95)
     replace E := E.same (t := 16) (u := .slice (some ⟨b54, 0, none⟩) (List.length (List.set s19 (Int.toNat i23) (List.getD s19 (Int.toNat j24) 0))) c2) rfl (congrArg (fun n_ => Value.slice (some ⟨b54, 0, none⟩) n_ c2) hn95)
     refine wpList_nil ?_
     refine th_n ⟨HS67, ?_⟩
     refine wpAnyH_all (rs := [14]) (by kernel_rfl) (by simp) ?_
     refine all1 ?_
     refine wpOp_of_list rfl ?_
     refine vr tbok 1 [] [(0, .slice (some ⟨b54, 0, none⟩) (List.length (List.set s19 (Int.toNat i23) (List.getD s19 (Int.toNat j24) 0))) c2), (2, .int .i64 i23), (3, .int .i64 j24), (16, .slice (some ⟨b54, 0, none⟩) (List.length (List.set s19 (Int.toNat i23) (List.getD s19 (Int.toNat j24) 0))) c2), (17, .int .i64 j24), (25, .int .u8 (List.getD s19 (Int.toNat i23) 0)), (27, .pointer (some ⟨b54, 0 + (Int.toNat j24) * 1, none⟩))] [0 ≤ j24 ∧ j24 < (((List.length (List.set s19 (Int.toNat i23) (List.getD s19 (Int.toNat j24) 0))) : Nat) : Int)] E (by kernel_rfl) (g60) ?_
     clear E; intro a E
     refine wpList_nil ?_
     refine th_n ⟨HS67, ?_⟩
     refine wpAnyH_all (rs := [15]) (by kernel_rfl) (by simp) ?_
     refine all1 ?_
     refine wpOp_of_list rfl ?_
     refine h_set (g := b54) (i := j24) (List.getD s19 (Int.toNat i23) 0) H 0 rfl E rfl rfl rfl rfl tbok rfl (fun _ HF_ => rfl) rfl g60 rfl ?_
     clear E; intro w96 a hc97 H_ E
     replace HS67 := HS67.trans hc97 (fun k_ hk_ h_ => (fun _ _ h_ => Or.inl h_) k_ hk_ h_)
     replace H := H_; clear H_; try dsimp only [setn, addE, goneL] at H
     have hn98 : (List.length (List.set s19 (Int.toNat i23) (List.getD s19 (Int.toNat j24) 0))) = (List.length (List.set (List.set s19 (Int.toNat i23) (List.getD s19 (Int.toNat j24) 0)) (Int.toNat j24) (List.getD s19 (Int.toNat i23) 0))) := by simp only [List.length_set]
     replace E := E.same (t := 0) (u := .slice (some ⟨b54, 0, none⟩) (List.length (List.set (List.set s19 (Int.toNat i23) (List.getD s19 (Int.toNat j24) 0)) (Int.toNat j24) (List.getD s19 (Int.toNat i23) 0))) c2) rfl (congrArg (fun n_ => Value.slice (some ⟨b54, 0, none⟩) n_ c2) hn98)
     replace E := E.same (t := 16) (u := .slice (some ⟨b54, 0, none⟩) (List.length (List.set (List.set s19 (Int.toNat i23) (List.getD s19 (Int.toNat j24) 0)) (Int.toNat j24) (List.getD s19 (Int.toNat i23) 0))) c2) rfl (congrArg (fun n_ => Value.slice (some ⟨b54, 0, none⟩) n_ c2) hn98)
     refine wpList_nil ?_
     refine th_n ⟨HS67, ?_⟩
     refine dr_done (by kernel_rfl) ?_
     exact .inl ⟨rfl, E.pick _ ⟨rfl, rfl, rfl, trivial⟩, H.sel [0] rfl⟩
    refine wpOp_of_list rfl ?_
    refine vr tbok 1 [.int .u8 (List.getD s19 (Int.toNat i23) 0)] [(0, .slice (some ⟨b54, 0, none⟩) (List.length s19) c2), (2, .int .i64 i23), (3, .int .i64 j24), (14, .slice (some ⟨b54, 0, none⟩) (List.length s19) c2), (15, .int .i64 i23), (16, .slice (some ⟨b54, 0, none⟩) (List.length s19) c2), (17, .int .i64 j24), (18, .slice (some ⟨b54, 0, none⟩) (List.length s19) c2), (19, .int .i64 j24), (24, .pointer (some ⟨b54, 0 + (Int.toNat i23) * 1, none⟩)), (25, .int .u8 (List.getD s19 (Int.toNat i23) 0))] [World.cell? w65 ⟨b54, 0 + (Int.toNat i23) * 1, none⟩ = some (.int .u8 (List.getD s19 (Int.toNat i23) 0))] E (by kernel_rfl) (Rds.at1 (H.rd 0 rds_row) 0 g56) ?_
    clear E; intro a E
    refine wpList_nil ?_
    refine th_n ⟨HS67, ?_⟩
    refine wpAnyH_all (rs := [6]) (by kernel_rfl) (by simp) ?_
    refine all1 ?_
    refine wpOp_of_list rfl ?_
    refine vr tbok 1 [] [(0, .slice (some ⟨b54, 0, none⟩) (List.length s19) c2), (2, .int .i64 i23), (3, .int .i64 j24), (14, .slice (some ⟨b54, 0, none⟩) (List.length s19) c2), (15, .int .i64 i23), (16, .slice (some ⟨b54, 0, none⟩) (List.length s19) c2), (17, .int .i64 j24), (18, .slice (some ⟨b54, 0, none⟩) (List.length s19) c2), (19, .int .i64 j24), (20, .pointer (some ⟨b54, 0 + (Int.toNat j24) * 1, none⟩)), (25, .int .u8 (List.getD s19 (Int.toNat i23) 0))] [0 ≤ j24 ∧ j24 < (((List.length s19) : Nat) : Int)] E (by kernel_rfl) (g53) ?_
    clear E; intro a E
    refine wpList_nil ?_
    refine th_n ⟨HS67, ?_⟩
    refine wpAnyH_all (rs := [7]) (by kernel_rfl) (by simp) ?_
    refine all1 ?_
    refine wpOp_of_list rfl ?_
    refine vr tbok 1 [.int .u8 (List.getD s19 (Int.toNat j24) 0)] [(0, .slice (some ⟨b54, 0, none⟩) (List.length s19) c2), (2, .int .i64 i23), (3, .int .i64 j24), (14, .slice (some ⟨b54, 0, none⟩) (List.length s19) c2), (15, .int .i64 i23), (16, .slice (some ⟨b54, 0, none⟩) (List.length s19) c2), (17, .int .i64 j24), (20, .pointer (some ⟨b54, 0 + (Int.toNat j24) * 1, none⟩)), (21, .int .u8 (List.getD s19 (Int.toNat j24) 0)), (25, .int .u8 (List.getD s19 (Int.toNat i23) 0))] [World.cell? w65 ⟨b54, 0 + (Int.toNat j24) * 1, none⟩ = some (.int .u8 (List.getD s19 (Int.toNat j24) 0))] E (by kernel_rfl) (Rds.at1 (H.rd 0 rds_row) 0 g53) ?_
    clear E; intro a E
    refine wpList_nil ?_
    refine th_n ⟨HS67, ?_⟩
    refine wpAnyH_all (rs := [12]) (by kernel_rfl) (by simp) ?_
    refine all1 ?_
    refine wpOp_of_list rfl ?_
    refine vr tbok 1 [] [(0, .slice (some ⟨b54, 0, none⟩) (List.length s19) c2), (2, .int .i64 i23), (3, .int .i64 j24), (14, .slice (some ⟨b54, 0, none⟩) (List.length s19) c2), (15, .int .i64 i23), (16, .slice (some ⟨b54, 0, none⟩) (List.length s19) c2), (17, .int .i64 j24), (21, .int .u8 (List.getD s19 (Int.toNat j24) 0)), (25, .int .u8 (List.getD s19 (Int.toNat i23) 0)), (26, .pointer (some ⟨b54, 0 + (Int.toNat i23) * 1, none⟩))] [0 ≤ i23 ∧ i23 < (((List.length s19) : Nat) : Int)] E (by kernel_rfl) (g56) ?_
    clear E; intro a E
    refine wpList_nil ?_
    refine th_n ⟨HS67, ?_⟩
    refine wpAnyH_all (rs := [13]) (by kernel_rfl) (by simp) ?_
    refine all1 ?_
    refine wpOp_of_list rfl ?_
    refine h_set (g := b54) (i := i23) (List.getD s19 (Int.toNat j24) 0) H 0 rfl E rfl rfl rfl rfl tbok rfl (fun _ HF_ => rfl) rfl g56 rfl ?_
    clear E; intro w99 a hc100 H_ E
    replace HS67 := HS67.trans hc100 (fun k_ hk_ h_ => (fun _ _ h_ => Or.inl h_) k_ hk_ h_)
    replace H := H_; clear H_; try dsimp only [setn, addE, goneL] at H
    have hn101 : (List.length s19) = (List.length (List.set s19 (Int.toNat i23) (List.getD s19 (Int.toNat j24) 0))) := by simp only [List.length_set]
    replace E := E.same (t := 0) (u := .slice (some ⟨b54, 0, none⟩) (List.length (List.set s19 (Int.toNat i23) (List.getD s19 (Int.toNat j24) 0))) c2) rfl (congrArg (fun n_ => Value.slice (some ⟨b54, 0, none⟩) n_ c2) hn101)
    replace E := E.same (t := 14) (u := .slice (some ⟨b54, 0, none⟩) (List.length (List.set s19 (Int.toNat i23) (List.getD s19 (Int.toNat j24) 0))) c2) rfl (congrArg (fun n_ => Value.slice (some ⟨b54, 0, none⟩) n_ c2) hn101)
    replace E := E.same (t := 16) (u := .slice (some ⟨b54, 0, none⟩) (List.length (List.set s19 (Int.toNat i23) (List.getD s19 (Int.toNat j24) 0))) c2) rfl (congrArg (fun n_ => Value.slice (some ⟨b54, 0, none⟩) n_ c2) hn101)
    refine wpList_nil ?_
    refine th_n ⟨HS67, ?_⟩
    refine wpAnyH_all (rs := [14]) (by kernel_rfl) (by simp) ?_
    refine all1 ?_
    refine wpOp_of_list rfl ?_
    refine vr tbok 1 [] [(0, .slice (some ⟨b54, 0, none⟩) (List.length (List.set s19 (Int.toNat i23) (List.getD s19 (Int.toNat j24) 0))) c2), (2, .int .i64 i23), (3, .int .i64 j24), (16, .slice (some ⟨b54, 0, none⟩) (List.length (List.set s19 (Int.toNat i23) (List.getD s19 (Int.toNat j24) 0))) c2), (17, .int .i64 j24), (25, .int .u8 (List.getD s19 (Int.toNat i23) 0)), (27, .pointer (some ⟨b54, 0 + (Int.toNat j24) * 1, none⟩))] [0 ≤ j24 ∧ j24 < (((List.length (List.set s19 (Int.toNat i23) (List.getD s19 (Int.toNat j24) 0))) : Nat) : Int)] E (by kernel_rfl) (g60) ?_
    clear E; intro a E
    refine wpList_nil ?_
    refine th_n ⟨HS67, ?_⟩
    refine wpAnyH_all (rs := [15]) (by kernel_rfl) (by simp) ?_
    refine all1 ?_
    refine wpOp_of_list rfl ?_
    refine h_set (g := b54) (i := j24) (List.getD s19 (Int.toNat i23) 0) H 0 rfl E rfl rfl rfl rfl tbok rfl (fun _ HF_ => rfl) rfl g60 rfl ?_
    clear E; intro w102 a hc103 H_ E
    replace HS67 := HS67.trans hc103 (fun k_ hk_ h_ => (fun _ _ h_ => Or.inl h_) k_ hk_ h_)
    replace H := H_; clear H_; try dsimp only [setn, addE, goneL] at H
    have hn104 : (List.length (List.set s19 (Int.toNat i23) (List.getD s19 (Int.toNat j24) 0))) = (List.length (List.set (List.set s19 (Int.toNat i23) (List.getD s19 (Int.toNat j24) 0)) (Int.toNat j24) (List.getD s19 (Int.toNat i23) 0))) := by simp only [List.length_set]
    replace E := E.same (t := 0) (u := .slice (some ⟨b54, 0, none⟩) (List.length (List.set (List.set s19 (Int.toNat i23) (List.getD s19 (Int.toNat j24) 0)) (Int.toNat j24) (List.getD s19 (Int.toNat i23) 0))) c2) rfl (congrArg (fun n_ => Value.slice (some ⟨b54, 0, none⟩) n_ c2) hn104)
    replace E := E.same (t := 16) (u := .slice (some ⟨b54, 0, none⟩) (List.length (List.set (List.set s19 (Int.toNat i23) (List.getD s19 (Int.toNat j24) 0)) (Int.toNat j24) (List.getD s19 (Int.toNat i23) 0))) c2) rfl (congrArg (fun n_ => Value.slice (some ⟨b54, 0, none⟩) n_ c2) hn104)
    refine wpList_nil ?_
    refine th_n ⟨HS67, ?_⟩
    refine dr_done (by kernel_rfl) ?_
    exact .inl ⟨rfl, E.pick _ ⟨rfl, rfl, rfl, trivial⟩, H.sel [0] rfl⟩
   clear E H; rintro a w64 ⟨E, H⟩
   refine bl_n ?_
   refine th_n ?_
   refine wp_region_lit ?_
   obtain ⟨g105, hP⟩ := ask_inv hP
   obtain ⟨g106, hP⟩ := ask_inv hP
   refine vr tbok 6 [.int .i64 (i23 + 1), .int .i64 (j24 - 1)] [(0, .slice (some ⟨b54, 0, none⟩) (List.length (List.set (List.set s19 (Int.toNat i23) (List.getD s19 (Int.toNat j24) 0)) (Int.toNat j24) (List.getD s19 (Int.toNat i23) 0))) c2), (2, .int .i64 (i23 + 1)), (3, .int .i64 (j24 - 1))] [IntKind.i64.wrap (i23 + 1) = i23 + 1, IntKind.i64.wrap (j24 - 1) = j24 - 1] E (by kernel_rfl) ⟨wrap_in g105, wrap_in g106⟩ ?_
   clear E; intro a E
   refine wpList_nil ?_
   exact th_n ⟨m45, Nat.lt_succ_self _, List.set (List.set s19 (Int.toNat i23) (List.getD s19 (Int.toNat j24) 0)) (Int.toNat j24) (List.getD s19 (Int.toNat i23) 0), i23 + 1, j24 - 1, E.pick _ ⟨rfl, rfl, rfl, trivial⟩, H.sel [0] rfl, (Eq.trans List.length_set (Eq.trans List.length_set hl22)), hP⟩
  replace E := E_; clear E_
  have h107 : ¬ (i23 < j24) := of_decide_eq_false hb_
  clear hb_; replace hP := ite_f h107 hP
  refine c_false E rfl ?_
  refine wp_exit ?_
  refine th_exit ?_
  have hx_ := Option.some.inj hP
  refine th_exit (.inl ⟨0, rfl, ?_⟩)
  exact ⟨rfl, s19, E.pick _ trivial, H.sel [0] rfl, hl22, hx_.symm⟩
 clear E H hL47; intro i_ a w49 hM_
 obtain ⟨rfl, x51, E, H, hl44, hx_⟩ := hM_
 subst hx_; have hP := hK48; clear hK48
 refine bl_hit ?_
 obtain rfl := Option.some.inj hP
 refine bodyPost_end (v := .tuple #[]) (by simp [results, Try.f57]) E.nodef ?_
 exact ⟨_, rfl, rfl, hl44, H.sel [0] rfl⟩

/-! rejoinder/board.Moves -/
def board_Moves_l0 (N : Nat) (mask : Int) : Nat → (List Int) → Int → Option (List Int)
  | 0, _, _ => none
  | m38 + 1, out16, sub19 =>
    ask (List.length out16 + List.length ([sub19] : List Int) ≤ 1000000000) <|
    if (sub19 : Int) = 0 then
      some (out16 ++ ([sub19] : List Int))
    else
      board_Moves_l0 N mask m38 (out16 ++ ([sub19] : List Int)) (andV .u8 (IntKind.u8.wrap (sub19 - 1)) mask)
def board_Moves (N : Nat) (mask : Int) : Option (List Int) :=
  Option.bind (board_Moves_l0 N mask N [] mask) fun x39 =>
  Option.bind (slices_Reverse_api_Letter_api_Letter N x39) fun r59 =>
  some r59
set_option maxRecDepth 100000 in
set_option maxHeartbeats 4000000 in
theorem board_Moves_calls {N : Nat} {S Fa : Nat → Prop} {w0 : World} {r : List Int} (mask : Int) (H : Hp S Fa w0 w0 []) (hP : board_Moves N mask = some r) :
    Calls Try.prog 29 #[.int .u8 mask] w0 fun e w' => ∃ v, e = .returned v ∧ ∃ (A71 : Option Addr) (c72 : Nat), v = .slice A71 (List.length r) c72 ∧ Hp S Fa w0 w' [.row true (cInt .u8) 27 A71 c72 r] := by
 refine enterV (n := 19) Try.func29 rfl rfl rfl ?_
 intro a E
 replace E := E.pick [(0, .int .u8 mask)] ⟨rfl, trivial⟩
 rw [board_Moves] at hP
 refine wp_seq ?_
 refine wp_region_lit ?_
 refine vr tbok 1 [] [(0, .int .u8 mask)] [] E (by kernel_rfl) trivial ?_
 clear E; intro a E
 refine wpList_nil ?_
 refine th_n ?_
 refine wp_seq ?_
 refine wp_region_lit ?_
 refine vr tbok 1 [] [(0, .int .u8 mask), (3, .slice none 0 0)] [] E (by kernel_rfl) trivial ?_
 clear E; intro a E
 refine wpList_nil ?_
 refine th_n ?_
 refine wp_seq ?_
 refine wp_seq ?_
 refine wp_region_lit ?_
 refine vr tbok 2 [] [(0, .int .u8 mask), (3, .slice none 0 0), (4, .int .u8 mask)] [] E (by kernel_rfl) trivial ?_
 clear E; intro a E
 refine wpList_nil ?_
 refine th_n ?_
 refine wp_block ?_
 obtain ⟨x39, hL40, hK41⟩ := bind_inv hP
 clear hP
 replace H := H.nilrow (cInt .u8) 27; try dsimp only [setn, addE, goneL] at H
 refine loop_cut (fun i_ a w_ => (i_ = 0 ∧ ∃ (x45 : List Int), ∃ (A36 : Option Addr) (c37 : Nat), Fr a 19 [(3, .slice A36 (List.length x45) c37)] ∧ Hp S Fa w0 w_ [.row true (cInt .u8) 27 A36 c37 x45] ∧ x39 = x45)) ?_ ?_
 ·
  refine loopV (fun m44 a w43 => ∃ (out16 : List Int) (sub19 : Int), ∃ (A17 : Option Addr) (c18 : Nat), Fr a 19 [(0, .int .u8 mask), (3, .slice A17 (List.length out16) c18), (4, .int .u8 sub19)] ∧ Hp S Fa w0 w43 [.row true (cInt .u8) 27 A17 c18 out16] ∧ board_Moves_l0 N mask m44 out16 sub19 = some x39) N ?_ ?_
  ·
   exact ⟨[], mask, none, 0, E.pick _ ⟨rfl, rfl, rfl, trivial⟩, H.sel [0] rfl, hL40⟩
  clear E H hL40; intro m44 a w43 hI_
  obtain ⟨out16, sub19, A17, c18, E, H, hP⟩ := hI_
  obtain ⟨m38, rfl⟩ : ∃ q_, m44 = q_ + 1 := by cases m44 with | zero => rw [board_Moves_l0] at hP; cases hP | succ q_ => exact ⟨q_, rfl⟩
  rw [board_Moves_l0] at hP
  refine wp_seq ?_
  refine wp_block ?_
  refine wp_seq ?_
  refine wp_region_lit ?_
  refine vr tbok 2 [] [(0, .int .u8 mask), (4, .int .u8 sub19), (10, .slice A17 (List.length out16) c18), (11, .int .u8 sub19)] [] E (by kernel_rfl) trivial ?_
  clear E; intro a E
  refine h_buildSlice (ps := [(0, .int .u8 sub19)]) (cs := [.int .u8 sub19]) H E rfl rfl tbok rfl rfl (by kernel_rfl) ?_
  intro w47 g46 a hc48 hg50 H_ E_
  replace E := E_ _ rfl; clear E_
  replace H := H_; clear H_; try dsimp only [setn, addE, goneL] at H
  obtain ⟨g51, hP⟩ := ask_inv hP
  refine h_append (cInt .u8) (xs := out16) (ys := ([sub19] : List Int)) (0 : Int) H 0 rfl E rfl rfl tbok rfl rfl rfl rfl rfl (fun _ _ => rfl) rfl rfl (fun _ HF_ => HF_.srcB 1 rfl (⟨_, _, rfl, rfl, rfl⟩)) g51 ?_
  intro w52 A53 c54 a hc55 hA56 H_ E_
  replace E := E_ _ rfl; clear E_
  replace H := H_; clear H_; try dsimp only [setn, addE, goneL] at H
  refine vr tbok 1 [] [(0, .int .u8 mask), (3, .slice A53 (List.length (out16 ++ ([sub19] : List Int))) c54), (4, .int .u8 sub19)] [] E (by kernel_rfl) trivial ?_
  clear E; intro a E
  refine wpList_nil ?_
  refine th_n ?_
  refine wp_seq ?_
  refine wp_region_lit ?_
  refine vr tbok 2 [] [(0, .int .u8 mask), (3, .slice A53 (List.length (out16 ++ ([sub19] : List Int))) c54), (4, .int .u8 sub19), (15, .bool ((sub19 : Int) == 0))] [] E (by kernel_rfl) trivial ?_
  clear E; intro a E
  refine wpList_nil ?_
  refine th_n ?_
  refine E.cases (t := 15) rfl (fun hb_ E_ => ?_) (fun hb_ E_ => ?_)
  ·
   replace E := E_; clear E_
   have h57 : (sub19 : Int) = 0 := eq_of_beq hb_
   clear hb_; replace hP := ite_t h57 hP
   refine c_true E rfl ?_
   refine wp_exit ?_
   refine bl_miss rfl ?_
   refine th_exit ?_
   have hx_ := Option.some.inj hP
   refine th_exit (.inl ⟨0, rfl, ?_⟩)
   exact ⟨rfl, out16 ++ ([sub19] : List Int), A53, c54, E.pick _ ⟨rfl, trivial⟩, H.sel [0] rfl, hx_.symm⟩
  replace E := E_; clear E_
  have h58 : ¬ ((sub19 : Int) = 0) := ne_of_beq_false hb_
  clear hb_; replace hP := ite_f h58 hP
  refine c_false E rfl ?_
  refine wp_skip ?_
  refine bl_n ?_
  refine th_n ?_
  refine wp_region_lit ?_
  refine vr tbok 5 [.int .u8 (IntKind.u8.wrap (sub19 - 1)), .int .u8 (andV .u8 (IntKind.u8.wrap (sub19 - 1)) mask)] [(0, .int .u8 mask), (3, .slice A53 (List.length (out16 ++ ([sub19] : List Int))) c54), (4, .int .u8 (andV .u8 (IntKind.u8.wrap (sub19 - 1)) mask))] [IntKind.u8.wrap (sub19 - 1) = IntKind.u8.wrap (sub19 - 1), IntKind.u8.wrap (BitVec.ofInt (IntKind.bits .u8) (IntKind.u8.wrap (sub19 - 1)) &&& BitVec.ofInt (IntKind.bits .u8) mask).toNat = andV .u8 (IntKind.u8.wrap (sub19 - 1)) mask] E (by kernel_rfl) ⟨rfl, rfl⟩ ?_
  clear E; intro a E
  refine wpList_nil ?_
  exact th_n ⟨m38, Nat.lt_succ_self _, out16 ++ ([sub19] : List Int), andV .u8 (IntKind.u8.wrap (sub19 - 1)) mask, A53, c54, E.pick _ ⟨rfl, rfl, rfl, trivial⟩, H.sel [0] rfl, hP⟩
 clear E H hL40; intro i_ a w43 hM_
 obtain ⟨rfl, x45, A36, c37, E, H, hx_⟩ := hM_
 subst hx_; have hP := hK41; clear hK41
 refine bl_hit ?_
 refine th_n ?_
 refine wp_seq ?_
 refine wp_region_lit ?_
 refine vr tbok 1 [] [(3, .slice A36 (List.length x39) c37), (16, .slice A36 (List.length x39) c37)] [] E (by kernel_rfl) trivial ?_
 clear E; intro a E
 obtain ⟨r59, h60, hP⟩ := bind_inv hP
 obtain ⟨Fa61, Hc62, hb63⟩ := H.call [0] [] rfl rfl ⟨flat_plain, trivial⟩
 refine e_call E rfl rfl Try.func57 rfl rfl rfl (slices_Reverse_api_Letter_api_Letter_calls A36 c37 x39  Hc62 h60) ?_
 rintro v64 w65 a ⟨rfl, hl68, HR66⟩ E_
 replace E := E_ _ rfl; clear E_
 obtain ⟨H_, hc67⟩ := hb63 _ _ HR66 rfl
 replace H := H_; clear H_; try dsimp only [setn, addE, goneL] at H
 have hn70 : (List.length x39) = (List.length (r59)) := hl68.symm
 replace E := E.same (t := 3) (u := .slice A36 (List.length (r59)) c37) rfl (congrArg (fun n_ => Value.slice A36 n_ c37) hn70)
 replace E := E.same (t := 16) (u := .slice A36 (List.length (r59)) c37) rfl (congrArg (fun n_ => Value.slice A36 n_ c37) hn70)
 refine wpList_nil ?_
 refine th_n ?_
 refine wp_seq ?_
 refine wp_region_lit ?_
 refine vr tbok 2 [] [(2, .slice A36 (List.length (r59)) c37)] [] E (by kernel_rfl) trivial ?_
 clear E; intro a E
 refine wpList_nil ?_
 refine th_n ?_
 refine wp_ret ?_
 obtain rfl := Option.some.inj hP
 refine ret1 E rfl rfl ?_
 exact ⟨_, rfl, A36, c37, rfl, H.sel [1] rfl⟩

/-! rejoinder/moore.begun -/
def moore_begun (N : Nat) (aProps : Int) (aAccept : List Bool) (aGuard : List Int) (aNodes : List Nd) (s : Int × Int) : Option (Int ⊕ (((Int × (List Bool) × (List Int) × (List Nd)) × (Int × Int) × (List Int) × (List Int)) × Int)) :=
  Option.bind (board_Check N aProps aAccept aGuard aNodes (s.1, s.2)) fun r128 =>
  if (r128 : Int) = 0 then
    Option.bind (board_Moves N s.2) fun r139 =>
    Option.bind (board_Moves N s.1) fun r151 =>
    some (Sum.inr (((aProps, aAccept, aGuard, aNodes), (s.1, s.2), r139, r151), 0))
  else
    some (Sum.inl r128)
set_option maxRecDepth 100000 in
set_option maxHeartbeats 4000000 in
theorem moore_begun_calls {N : Nat} {S Fa : Nat → Prop} {w0 : World} {r : Int ⊕ (((Int × (List Bool) × (List Int) × (List Nd)) × (Int × Int) × (List Int) × (List Int)) × Int)} (A1 : Option Addr) (c2 : Nat) (A5 : Option Addr) (c6 : Nat) (A9 : Option Addr) (c10 : Nat) (aProps : Int) (aAccept : List Bool) (aGuard : List Int) (aNodes : List Nd) (s : Int × Int) (hk3 : List.length aAccept ≤ c2) (hk7 : List.length aGuard ≤ c6) (hk11 : List.length aNodes ≤ c10) (H : Hp S Fa w0 w0 [.ro false cBool A1 aAccept, .ro false (cInt .i64) A5 aGuard, .ro false cNode A9 aNodes]) (hP : moore_begun N aProps aAccept aGuard aNodes s = some r) :
    Calls Try.prog 31 #[.agg #[.int .i64 aProps, .slice A1 (List.length aAccept) c2, .slice A5 (List.length aGuard) c6, .slice A9 (List.length aNodes) c10], .agg #[.int .u8 s.1, .int .u8 s.2]] w0 fun e w' => ∃ v, e = .returned v ∧ ((∃ (x_ : Int), r = Sum.inl x_ ∧ v = .tuple #[.pointer none, .int .i64 x_] ∧ Hp S Fa w0 w' []) ∨ (∃ (x_ : ((Int × (List Bool) × (List Int) × (List Nd)) × (Int × Int) × (List Int) × (List Int)) × Int) (b15 : Nat), r = Sum.inr x_ ∧ v = .tuple #[.pointer (some ⟨b15, 0, none⟩), .int .i64 x_.2] ∧ Hp S Fa w0 w' [.ro false cS87 (some ⟨b15, 0, none⟩) ([x_.1])])) := by
 refine enterV (n := 23) Try.func31 rfl rfl rfl ?_
 intro a E
 replace E := E.pick [(0, .agg #[.int .i64 aProps, .slice A1 (List.length aAccept) c2, .slice A5 (List.length aGuard) c6, .slice A9 (List.length aNodes) c10]), (1, .agg #[.int .u8 s.1, .int .u8 s.2])] ⟨rfl, rfl, trivial⟩
 rw [moore_begun] at hP
 refine wp_seq ?_
 refine wp_region_lit ?_
 refine h_box H E rfl rfl rfl ?_
 intro w119 g118 a hc120 hg122 H_ E_
 replace E := E_ _ rfl; clear E_
 replace H := H_; clear H_; try dsimp only [setn, addE, goneL] at H
 refine h_box H E rfl rfl rfl ?_
 intro w124 g123 a hc125 hg127 H_ E_
 replace E := E_ _ rfl; clear E_
 replace H := H_; clear H_; try dsimp only [setn, addE, goneL] at H
 refine vr tbok 2 [] [(2, .pointer (some ⟨g118, 0, none⟩)), (3, .pointer (some ⟨g123, 0, none⟩))] [] E (by kernel_rfl) trivial ?_
 clear E; intro a E
 refine wpList_nil ?_
 refine th_n ?_
 refine wp_seq ?_
 refine wp_seq ?_
 refine wp_region_lit ?_
 refine vr tbok 2 [.agg #[.int .i64 aProps, .slice A1 (List.length aAccept) c2, .slice A5 (List.length aGuard) c6, .slice A9 (List.length aNodes) c10], .agg #[.int .u8 s.1, .int .u8 s.2]] [(2, .pointer (some ⟨g118, 0, none⟩)), (3, .pointer (some ⟨g123, 0, none⟩)), (7, .agg #[.int .i64 aProps, .slice A1 (List.length aAccept) c2, .slice A5 (List.length aGuard) c6, .slice A9 (List.length aNodes) c10]), (8, .agg #[.int .u8 s.1, .int .u8 s.2])] [cellsAt w124 g118 (0) [.int .i64 aProps, .slice A1 (List.length aAccept) c2, .slice A5 (List.length aGuard) c6, .slice A9 (List.length aNodes) c10], cellsAt w124 g123 (0) [.int .u8 s.1, .int .u8 s.2]] E (by kernel_rfl) ⟨(H.box 3 rfl).sub 0 _ rfl, (H.box 4 rfl).sub 0 _ rfl⟩ ?_
 clear E; intro a E
 obtain ⟨r128, h129, hP⟩ := bind_inv hP
 obtain ⟨Fa130, Hc131, hb132⟩ := H.call [] [(0, false), (1, false), (2, false)] rfl rfl trivial
 refine e_call E rfl rfl Try.func28 rfl rfl rfl (board_Check_calls A1 c2 A5 c6 A9 c10 aProps aAccept aGuard aNodes (s.1, s.2) hk3 hk7 hk11 Hc131 h129) ?_
 rintro v133 w134 a ⟨rfl, HR135⟩ E_
 replace E := E_ _ rfl; clear E_
 obtain ⟨H_, hc136⟩ := hb132 _ _ HR135 rfl
 replace H := H_; clear H_; try dsimp only [setn, addE, goneL] at H
 refine vr tbok 1 [] [(2, .pointer (some ⟨g118, 0, none⟩)), (3, .pointer (some ⟨g123, 0, none⟩)), (6, .int .i64 r128)] [] E (by kernel_rfl) trivial ?_
 clear E; intro a E
 refine wpList_nil ?_
 refine th_n ?_
 refine wp_seq ?_
 refine wp_region_lit ?_
 refine vr tbok 2 [] [(2, .pointer (some ⟨g118, 0, none⟩)), (3, .pointer (some ⟨g123, 0, none⟩)), (6, .int .i64 r128), (11, .bool ((r128 : Int) != 0))] [] E (by kernel_rfl) trivial ?_
 clear E; intro a E
 refine wpList_nil ?_
 refine th_n ?_
 refine E.cases (t := 11) rfl (fun hb_ E_ => ?_) (fun hb_ E_ => ?_)
 ·
  replace E := E_; clear E_
  have h137 : ¬ ((r128 : Int) = 0) := bne_iff_ne.1 hb_
  clear hb_; replace hP := ite_f h137 hP
  refine c_true E rfl ?_
  refine wp_seq ?_
  refine wp_region_lit ?_
  refine vr tbok 3 [] [(4, .pointer none), (5, .int .i64 r128)] [] E (by kernel_rfl) trivial ?_
  clear E; intro a E
  refine wpList_nil ?_
  refine th_n ?_
  refine wp_ret ?_
  refine th_ret ?_
  obtain rfl := Option.some.inj hP
  refine ret2 E rfl rfl rfl ?_
  exact ⟨_, rfl, .inl ⟨r128, rfl, rfl, H.sel [] rfl⟩⟩
 replace E := E_; clear E_
 have h138 : (r128 : Int) = 0 := bne_eq_false_iff_eq.1 hb_
 clear hb_; replace hP := ite_t h138 hP
 refine c_false E rfl ?_
 refine wp_skip ?_
 refine th_n ?_
 refine wp_seq ?_
 obtain ⟨r139, h140, hP⟩ := bind_inv hP
 obtain ⟨r151, h152, hP⟩ := bind_inv hP
 have HR171 := H
 refine dr_start (S := fun w_ => Chg (atL []) w134 w_) (by kernel_rfl) ?_
 intro w168 hc169
 have HS170 : Chg (atL []) w134 w168 := hc169.mono (fun _ _ h_ => h_.elim)
 replace H := H.ext hc169
 refine dr tbok (by kernel_rfl) [0, 1, 2, 3, 5, 6] [.agg #[.int .i64 aProps, .slice A1 (List.length aAccept) c2, .slice A5 (List.length aGuard) c6, .slice A9 (List.length aNodes) c10], .agg #[.int .u8 s.1, .int .u8 s.2], .int .u8 s.2, .int .u8 s.1] [(13, .agg #[.int .i64 aProps, .slice A1 (List.length aAccept) c2, .slice A5 (List.length aGuard) c6, .slice A9 (List.length aNodes) c10]), (14, .agg #[.int .u8 s.1, .int .u8 s.2]), (16, .int .u8 s.2), (19, .int .u8 s.1)] (fun w_ => [cellsAt w_ g118 (0) [.int .i64 aProps, .slice A1 (List.length aAccept) c2, .slice A5 (List.length aGuard) c6, .slice A9 (List.length aNodes) c10], cellsAt w_ g123 (0) [.int .u8 s.1, .int .u8 s.2], World.cell? w_ ⟨g123, 1, none⟩ = some (.int .u8 s.2), World.cell? w_ ⟨g123, 0, none⟩ = some (.int .u8 s.1)]) 6 E (fun _ _ => by kernel_rfl) (fun w_ hS_ => ⟨(HR171.boxk [] hS_ 3 rfl rfl).sub 0 _ rfl, (HR171.boxk [] hS_ 4 rfl rfl).sub 0 _ rfl, (HR171.boxk [] hS_ 4 rfl rfl).cell (j := 1) rfl, (HR171.boxk [] hS_ 4 rfl rfl).cell (j := 0) rfl⟩) (by kernel_rfl) HS170 ?_
 clear E; intro a E
 refine wpAnyH_all (rs := [4]) (by kernel_rfl) (by simp) ?_
 refine all1 ?_
 refine wpOp_of_list rfl ?_
 obtain ⟨Fa172, Hc173, hb174⟩ := H.call [] [] rfl rfl trivial
 refine e_call E rfl rfl Try.func29 rfl rfl rfl (board_Moves_calls  s.2  Hc173 h140) ?_
 rintro v175 w176 a ⟨A179, c180, rfl, HR177⟩ E_
 replace E := E_ _ rfl; clear E_
 obtain ⟨H_, hc178⟩ := hb174 _ _ HR177 rfl
 replace HS170 := HS170.ext (callS_ext hc178)
 replace H := H_; clear H_; try dsimp only [setn, addE, goneL] at H
 refine wpList_nil ?_
 refine th_n ⟨HS170, ?_⟩
 refine wpAnyH_all (rs := [7]) (by kernel_rfl) (by simp) ?_
 refine all1 ?_
 refine wpOp_of_list rfl ?_
 obtain ⟨Fa182, Hc183, hb184⟩ := H.call [] [] rfl rfl trivial
 refine e_call E rfl rfl Try.func29 rfl rfl rfl (board_Moves_calls  s.1  Hc183 h152) ?_
 rintro v185 w186 a ⟨A189, c190, rfl, HR187⟩ E_
 replace E := E_ _ rfl; clear E_
 obtain ⟨H_, hc188⟩ := hb184 _ _ HR187 rfl
 replace HS170 := HS170.ext (callS_ext hc188)
 replace H := H_; clear H_; try dsimp only [setn, addE, goneL] at H
 refine wpList_nil ?_
 refine th_n ⟨HS170, ?_⟩
 refine wpAnyH_all (rs := [8]) (by kernel_rfl) (by simp) ?_
 refine all1 ?_
 refine wpOp_of_list rfl ?_
 refine e_build (ps := [(0, .agg #[.int .i64 aProps, .slice A1 (List.length aAccept) c2, .slice A5 (List.length aGuard) c6, .slice A9 (List.length aNodes) c10]), (1, .agg #[.int .u8 s.1, .int .u8 s.2]), (2, .slice A179 (List.length r139) c180), (3, .slice A189 (List.length r151) c190)]) (v := .agg #[.int .i64 aProps, .slice A1 (List.length aAccept) c2, .slice A5 (List.length aGuard) c6, .slice A9 (List.length aNodes) c10, .int .u8 s.1, .int .u8 s.2, .slice A179 (List.length r139) c180, .slice A189 (List.length r151) c190]) E rfl rfl tbok rfl (by kernel_rfl) rfl ?_
 clear E; intro a E
 refine wpList_nil ?_
 refine th_n ⟨HS170, ?_⟩
 refine wpAnyH_all (rs := [9]) (by kernel_rfl) (by simp) ?_
 refine all1 ?_
 refine wpOp_of_list rfl ?_
 refine h_box H E rfl rfl rfl ?_
 intro w193 g192 a hc194 hg196 H_ E_
 replace E := E_ _ rfl; clear E_
 have hin197 : ∀ q_, q_ < w134.heap.size → q_ = g192 → (atL []) q_ := fun q_ h1_ h2_ => by have hs_ := HS170.size; have h4_ : q_ = g192 := h2_; exfalso; omega
 replace HS170 := HS170.ext hc194
 replace H := H_; clear H_; try dsimp only [setn, addE, goneL] at H
 refine wpList_nil ?_
 refine th_n ⟨HS170, ?_⟩
 refine dr tbok (by kernel_rfl) [10, 11] [] [(4, .pointer (some ⟨g192, 0, none⟩)), (5, .int .i64 0)] (fun w_ => []) 0 E (fun _ _ => by kernel_rfl) (fun w_ hS_ => trivial) (by kernel_rfl) HS170 ?_
 clear E; intro a E
 refine dr_done (by kernel_rfl) ?_
 clear HS170 HR171
 refine th_n ?_
 refine wp_ret ?_
 have hk198 := H.rcap 5 rfl
 replace H := H.frz 5 rfl; try dsimp only [setn, addE, goneL] at H
 have hk199 := H.rcap 6 rfl
 replace H := H.frz 6 rfl; try dsimp only [setn, addE, goneL] at H
 replace H := H.frzbox cS87 false (((aProps, aAccept, aGuard, aNodes), (s.1, s.2), r139, r151) : (Int × (List Bool) × (List Int) × (List Nd)) × (Int × Int) × (List Int) × (List Int)) 7 rfl (fun _ HF_ => ⟨_, _, rfl, ⟨_, _, rfl, rfl, ⟨_, _, rfl, ⟨_, _, rfl, hk3, (HF_.roC 0 rfl)⟩, ⟨_, _, rfl, ⟨_, _, rfl, hk7, (HF_.roC 1 rfl)⟩, ⟨_, _, rfl, hk11, (HF_.roC 2 rfl)⟩⟩⟩⟩, ⟨_, _, rfl, rfl, ⟨_, _, rfl, ⟨_, _, rfl, hk198, (C.mono (HF_.roC 5 rfl) (fun _ h_ => Or.inr h_))⟩, ⟨_, _, rfl, hk199, (C.mono (HF_.roC 6 rfl) (fun _ h_ => Or.inr h_))⟩⟩⟩⟩); try dsimp only [setn, addE, goneL] at H
 obtain rfl := Option.some.inj hP
 refine ret2 E rfl rfl rfl ?_
 exact ⟨_, rfl, .inr (⟨(((aProps, aAccept, aGuard, aNodes), (s.1, s.2), r139, r151), 0), g192, rfl, rfl, H.sel [7] rfl⟩)⟩

end Go.V
