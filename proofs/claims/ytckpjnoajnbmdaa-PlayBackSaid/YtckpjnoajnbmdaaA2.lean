/- Plain functions, and the calls that give them. -/
import Derived.Test.YtckpjnoajnbmdaaA1
set_option linter.all false
set_option linter.unusedVariables false
set_option linter.unnecessarySimpa false
set_option linter.unusedSimpArgs false
namespace Go.V
open Go Go.Proofs
/-! slices.Reverse[[]rejoinder/api.Letter,rejoinder/api.Letter] -/
def slices_Reverse_api_Letter_api_Letter_l0 (N : Nat) : Nat → (List Int) → Int → Int → Option (List Int)
  | 0, _, _, _ => none
  | m45 + 1, s19, i23, j24 =>
    if i23 < j24 then
      ask (idx j24 (List.length s19)) <|
      ask (idx i23 (List.length s19)) <|
      ask (idx j24 (List.length (List.set s19 (Int.toNat i23) (List.getD s19 (Int.toNat j24) 0)))) <|
      ask (in64 (i23 + 1)) <|
      ask (in64 (j24 - 1)) <|
      slices_Reverse_api_Letter_api_Letter_l0 N m45 (List.set (List.set s19 (Int.toNat i23) (List.getD s19 (Int.toNat j24) 0)) (Int.toNat j24) (List.getD s19 (Int.toNat i23) 0)) (i23 + 1) (j24 - 1)
    else
      some s19
def slices_Reverse_api_Letter_api_Letter (N : Nat) (s : List Int) : Option (List Int) :=
  ask (in64 ((((List.length s) : Nat) : Int) - 1)) <|
  Option.bind (slices_Reverse_api_Letter_api_Letter_l0 N N s 0 ((((List.length s) : Nat) : Int) - 1)) fun x46 =>
  some x46
set_option maxRecDepth 100000 in
set_option maxHeartbeats 4000000 in
theorem slices_Reverse_api_Letter_api_Letter_calls {N : Nat} {S Fa : Nat → Prop} {w0 : World} {r : List Int} (A1 : Option Addr) (c2 : Nat) (s : List Int) (H : Hp S Fa w0 w0 [.row true (cInt .u8) 27 A1 c2 s]) (hP : slices_Reverse_api_Letter_api_Letter N s = some r) :
    Calls Try.prog 93 #[.slice A1 (List.length s) c2] w0 fun e w' => ∃ v, e = .returned v ∧ v = .tuple #[] ∧ List.length r = List.length s ∧ Hp S Fa w0 w' [.row true (cInt .u8) 27 A1 c2 r] := by
 refine enterV (n := 28) Try.func93 rfl rfl rfl ?_
 intro a E
 replace E := E.pick [(0, .slice A1 (List.length s) c2)] ⟨rfl, trivial⟩
 rw [slices_Reverse_api_Letter_api_Letter] at hP
 refine wp_seq ?_
 refine wp_region_lit ?_
 obtain ⟨g4, hP⟩ := ask_inv hP
 refine vr tbok 5 [.int .i64 ((((List.length s) : Nat) : Int) - 1)] [(0, .slice A1 (List.length s) c2), (2, .int .i64 0), (3, .int .i64 ((((List.length s) : Nat) : Int) - 1))] [IntKind.i64.wrap ((((List.length s) : Nat) : Int) - 1) = (((List.length s) : Nat) : Int) - 1] E (by kernel_rfl) (wrap_in g4) ?_
 clear E; intro a E
 refine wpList_nil ?_
 refine th_n ?_
 refine wp_block ?_
 obtain ⟨x46, hL47, hK48⟩ := bind_inv hP
 clear hP
 refine loop_cut (fun i_ a w_ => (i_ = 0 ∧ ∃ (x51 : List Int), Fr a 28 [] ∧ Hp S Fa w0 w_ [.row true (cInt .u8) 27 A1 c2 x51] ∧ List.length x51 = List.length s ∧ x46 = x51)) ?_ ?_
 ·
  refine loopV (fun m50 a w49 => ∃ (s19 : List Int) (i23 : Int) (j24 : Int), Fr a 28 [(0, .slice A1 (List.length s19) c2), (2, .int .i64 i23), (3, .int .i64 j24)] ∧ Hp S Fa w0 w49 [.row true (cInt .u8) 27 A1 c2 s19] ∧ List.length s19 = List.length s ∧ slices_Reverse_api_Letter_api_Letter_l0 N m50 s19 i23 j24 = some x46) N ?_ ?_
  ·
   exact ⟨s, 0, (((List.length s) : Nat) : Int) - 1, E.pick _ ⟨rfl, rfl, rfl, trivial⟩, H.sel [0] rfl, rfl, hL47⟩
  clear E H hL47; intro m50 a w49 hI_
  obtain ⟨s19, i23, j24, E, H, hl22, hP⟩ := hI_
  obtain ⟨m45, rfl⟩ : ∃ q_, m50 = q_ + 1 := by cases m50 with | zero => rw [slices_Reverse_api_Letter_api_Letter_l0] at hP; cases hP | succ q_ => exact ⟨q_, rfl⟩
  rw [slices_Reverse_api_Letter_api_Letter_l0] at hP
  refine wp_seq ?_
  refine wp_seq ?_
  refine wp_region_lit ?_
  refine vr tbok 3 [] [(0, .slice A1 (List.length s19) c2), (2, .int .i64 i23), (3, .int .i64 j24), (9, .bool (decide (i23 < j24)))] [] E (by kernel_rfl) trivial ?_
  clear E; intro a E
  refine wpList_nil ?_
  refine th_n ?_
  refine E.cases (t := 9) rfl (fun hb_ E_ => ?_) (fun hb_ E_ => ?_)
  ·
   replace E := E_; clear E_
   have h52 : i23 < j24 := of_decide_eq_true hb_
   clear hb_; replace hP := ite_t h52 hP
   refine c_true E rfl ?_
   refine wp_skip ?_
   refine th_n ?_
   refine wp_seq ?_
   refine wp_block ?_
   obtain ⟨g53, hP⟩ := ask_inv hP
   obtain ⟨b54, e_b54⟩ := H.raddr 0 rfl (idx_pos g53)
   subst e_b54
   obtain ⟨g56, hP⟩ := ask_inv hP
   obtain ⟨g60, hP⟩ := ask_inv hP
   refine meet_cut (fun a w64 => Fr a 28 [(0, .slice (some ⟨b54, 0, none⟩) (List.length (List.set (List.set s19 (Int.toNat i23) (List.getD s19 (Int.toNat j24) 0)) (Int.toNat j24) (List.getD s19 (Int.toNat i23) 0))) c2), (2, .int .i64 i23), (3, .int .i64 j24)] ∧ Hp S Fa w0 w64 [.row true (cInt .u8) 27 (some ⟨b54, 0, none⟩) c2 (List.set (List.set s19 (Int.toNat i23) (List.getD s19 (Int.toNat j24) 0)) (Int.toNat j24) (List.getD s19 (Int.toNat i23) 0))]) ?_ ?_
   ·
    have HR68 := H
    refine dr_start (S := fun w_ => Chg (atL [.row true (cInt .u8) 27 (some ⟨b54, 0, none⟩) c2 s19]) w49 w_) (by kernel_rfl) ?_
    intro w65 hc66
    have HS67 : Chg (atL [.row true (cInt .u8) 27 (some ⟨b54, 0, none⟩) c2 s19]) w49 w65 := hc66.mono (fun _ _ h_ => h_.elim)
    replace H := H.ext hc66
    refine dr tbok (by kernel_rfl) [0, 1, 2, 3, 4, 5, 8, 9] [] [(0, .slice (some ⟨b54, 0, none⟩) (List.length s19) c2), (2, .int .i64 i23), (3, .int .i64 j24), (14, .slice (some ⟨b54, 0, none⟩) (List.length s19) c2), (15, .int .i64 i23), (16, .slice (some ⟨b54, 0, none⟩) (List.length s19) c2), (17, .int .i64 j24), (18, .slice (some ⟨b54, 0, none⟩) (List.length s19) c2), (19, .int .i64 j24), (22, .slice (some ⟨b54, 0, none⟩) (List.length s19) c2), (23, .int .i64 i23)] (fun w_ => []) 8 E (fun _ _ => by kernel_rfl) (fun w_ hS_ => trivial) (by kernel_rfl) HS67 ?_
    clear E; intro a E
    refine wpAnyH_all (rs := [6, 10]) (by kernel_rfl) (by simp) ?_
    refine all2 ?_ ?_
    ·
     refine wpOp_of_list rfl ?_
     refine vr tbok 1 [] [(0, .slice (some ⟨b54, 0, none⟩) (List.length s19) c2), (2, .int .i64 i23), (3, .int .i64 j24), (14, .slice (some ⟨b54, 0, none⟩) (List.length s19) c2), (15, .int .i64 i23), (16, .slice (some ⟨b54, 0, none⟩) (List.length s19) c2), (17, .int .i64 j24), (18, .slice (some ⟨b54, 0, none⟩) (List.length s19) c2), (19, .int .i64 j24), (20, .pointer (some ⟨b54, 0 + (Int.toNat j24) * 1, none⟩)), (22, .slice (some ⟨b54, 0, none⟩) (List.length s19) c2), (23, .int .i64 i23)] [0 ≤ j24 ∧ j24 < (((List.length s19) : Nat) : Int)] E (by kernel_rfl) (g53) ?_
     clear E; intro a E
     refine wpList_nil ?_
     refine th_n ⟨HS67, ?_⟩
     refine wpAnyH_all (rs := [7, 10]) (by kernel_rfl) (by simp) ?_
     refine all2 ?_ ?_
     ·
      refine wpOp_of_list rfl ?_
      refine vr tbok 1 [.int .u8 (List.getD s19 (Int.toNat j24) 0)] [(0, .slice (some ⟨b54, 0, none⟩) (List.length s19) c2), (2, .int .i64 i23), (3, .int .i64 j24), (14, .slice (some ⟨b54, 0, none⟩) (List.length s19) c2), (15, .int .i64 i23), (16, .slice (some ⟨b54, 0, none⟩) (List.length s19) c2), (17, .int .i64 j24), (20, .pointer (some ⟨b54, 0 + (Int.toNat j24) * 1, none⟩)), (21, .int .u8 (List.getD s19 (Int.toNat j24) 0)), (22, .slice (some ⟨b54, 0, none⟩) (List.length s19) c2), (23, .int .i64 i23)] [World.cell? w65 ⟨b54, 0 + (Int.toNat j24) * 1, none⟩ = some (.int .u8 (List.getD s19 (Int.toNat j24) 0))] E (by kernel_rfl) (Rds.at1 (H.rd 0 rds_row) 0 g53) ?_
      clear E; intro a E
      refine wpList_nil ?_
      refine th_n ⟨HS67, ?_⟩
      refine wpAnyH_all (rs := [10]) (by kernel_rfl) (by simp) ?_
      refine all1 ?_
      refine wpOp_of_list rfl ?_
      refine vr tbok 1 [] [(0, .slice (some ⟨b54, 0, none⟩) (List.length s19) c2), (2, .int .i64 i23), (3, .int .i64 j24), (14, .slice (some ⟨b54, 0, none⟩) (List.length s19) c2), (15, .int .i64 i23), (16, .slice (some ⟨b54, 0, none⟩) (List.length s19) c2), (17, .int .i64 j24), (21, .int .u8 (List.getD s19 (Int.toNat j24) 0)), (22, .slice (some ⟨b54, 0, none⟩) (List.length s19) c2), (23, .int .i64 i23), (24, .pointer (some ⟨b54, 0 + (Int.toNat i23) * 1, none⟩))] [0 ≤ i23 ∧ i23 < (((List.length s19) : Nat) : Int)] E (by kernel_rfl) (g56) ?_
      clear E; intro a E
      refine wpList_nil ?_
      refine th_n ⟨HS67, ?_⟩
      refine wpAnyH_all (rs := [11]) (by kernel_rfl) (by simp) ?_
      refine all1 ?_
      refine wpOp_of_list rfl ?_
      refine vr tbok 1 [.int .u8 (List.getD s19 (Int.toNat i23) 0)] [(0, .slice (some ⟨b54, 0, none⟩) (List.length s19) c2), (2, .int .i64 i23), (3, .int .i64 j24), (14, .slice (some ⟨b54, 0, none⟩) (List.length s19) c2), (15, .int .i64 i23), (16, .slice (some ⟨b54, 0, none⟩) (List.length s19) c2), (17, .int .i64 j24), (21, .int .u8 (List.getD s19 (Int.toNat j24) 0)), (24, .pointer (some ⟨b54, 0 + (Int.toNat i23) * 1, none⟩)), (25, .int .u8 (List.getD s19 (Int.toNat i23) 0))] [World.cell? w65 ⟨b54, 0 + (Int.toNat i23) * 1, none⟩ = some (.int .u8 (List.getD s19 (Int.toNat i23) 0))] E (by kernel_rfl) (Rds.at1 (H.rd 0 rds_row) 0 g56) ?_
      clear E; intro a E
      refine wpList_nil ?_
      refine th_n ⟨HS67, ?_⟩
      refine wpAnyH_all (rs := [12]) (by kernel_rfl) (by simp) ?_
      refine all1 ?_
      refine wpOp_of_list rfl ?_
      refine vr tbok 1 [] [(0, .slice (some ⟨b54, 0, none⟩) (List.length s19) c2), (2, .int .i64 i23), (3, .int .i64 j24), (14, .slice (some ⟨b54, 0, none⟩) (List.length s19) c2), (15, .int .i64 i23), (16, .slice (some ⟨b54, 0, none⟩) (List.length s19) c2), (17, .int .i64 j24), (21, .int .u8 (List.getD s19 (Int.toNat j24) 0)), (25, .int .u8 (List.getD s19 (Int.toNat i23) 0)), (26, .pointer (some ⟨b54, 0 + (Int.toNat i23) * 1, none⟩))] [0 ≤ i23 ∧ i23 < (((List.length s19) : Nat) : Int)] E (by kernel_rfl) (g56) ?_
      clear E; intro a E
      refine wpList_nil ?_
      refine th_n ⟨HS67, ?_⟩
      refine wpAnyH_all (rs := [13]) (by kernel_rfl) (by simp) ?_
      refine all1 ?_
      refine wpOp_of_list rfl ?_
      refine h_set (g := b54) (i := i23) (List.getD s19 (Int.toNat j24) 0) H 0 rfl E rfl rfl rfl rfl tbok rfl (fun _ HF_ => rfl) rfl g56 rfl ?_
      clear E; intro w69 a hc70 H_ E
      replace HS67 := HS67.trans hc70 (fun k_ hk_ h_ => (fun _ _ h_ => Or.inl h_) k_ hk_ h_)
      replace H := H_; clear H_; try dsimp only [setn, addE, goneL] at H
      have hn71 : (List.length s19) = (List.length (List.set s19 (Int.toNat i23) (List.getD s19 (Int.toNat j24) 0))) := by simp only [List.length_set]
      replace E := E.same (t := 0) (u := .slice (some ⟨b54, 0, none⟩) (List.length (List.set s19 (Int.toNat i23) (List.getD s19 (Int.toNat j24) 0))) c2) rfl (congrArg (fun n_ => Value.slice (some ⟨b54, 0, none⟩) n_ c2) hn71)
      replace E := E.same (t := 14) (u := .slice (some ⟨b54, 0, none⟩) (List.length (List.set s19 (Int.toNat i23) (List.getD s19 (Int.toNat j24) 0))) c2) rfl (congrArg (fun n_ => Value.slice (some ⟨b54, 0, none⟩) n_ c2) hn71)
      replace E := E.same (t := 16) (u := .slice (some ⟨b54, 0, none⟩) (List.length (List.set s19 (Int.toNat i23) (List.getD s19 (Int.toNat j24) 0))) c2) rfl (congrArg (fun n_ => Value.slice (some ⟨b54, 0, none⟩) n_ c2) hn71)
      refine wpList_nil ?_
      refine th_n ⟨HS67, ?_⟩
      refine wpAnyH_all (rs := [14]) (by kernel_rfl) (by simp) ?_
      refine all1 ?_
      refine wpOp_of_list rfl ?_
      refine vr tbok 1 [] [(0, .slice (some ⟨b54, 0, none⟩) (List.length (List.set s19 (Int.toNat i23) (List.getD s19 (Int.toNat j24) 0))) c2), (2, .int .i64 i23), (3, .int .i64 j24), (16, .slice (some ⟨b54, 0, none⟩) (List.length (List.set s19 (Int.toNat i23) (List.getD s19 (Int.toNat j24) 0))) c2), (17, .int .i64 j24), (25, .int .u8 (List.getD s19 (Int.toNat i23) 0)), (27, .pointer (some ⟨b54, 0 + (Int.toNat j24) * 1, none⟩))] [0 ≤ j24 ∧ j24 < (((List.length (List.set s19 (Int.toNat i23) (List.getD s19 (Int.toNat j24) 0))) : Nat) : Int)] E (by kernel_rfl) (g60) ?_
      clear E; intro a E
      refine wpList_nil ?_
      refine th_n ⟨HS67, ?_⟩
      refine wpAnyH_all (rs := [15]) (by kernel_rfl) (by simp) ?_
      refine all1 ?_
      refine wpOp_of_list rfl ?_
      refine h_set (g := b54) (i := j24) (List.getD s19 (Int.toNat i23) 0) H 0 rfl E rfl rfl rfl rfl tbok rfl (fun _ HF_ => rfl) rfl g60 rfl ?_
      clear E; intro w72 a hc73 H_ E
      replace HS67 := HS67.trans hc73 (fun k_ hk_ h_ => (fun _ _ h_ => Or.inl h_) k_ hk_ h_)
      replace H := H_; clear H_; try dsimp only [setn, addE, goneL] at H
      have hn74 : (List.length (List.set s19 (Int.toNat i23) (List.getD s19 (Int.toNat j24) 0))) = (List.length (List.set (List.set s19 (Int.toNat i23) (List.getD s19 (Int.toNat j24) 0)) (Int.toNat j24) (List.getD s19 (Int.toNat i23) 0))) := by simp only [List.length_set]
      replace E := E.same (t := 0) (u := .slice (some ⟨b54, 0, none⟩) (List.length (List.set (List.set s19 (Int.toNat i23) (List.getD s19 (Int.toNat j24) 0)) (Int.toNat j24) (List.getD s19 (Int.toNat i23) 0))) c2) rfl (congrArg (fun n_ => Value.slice (some ⟨b54, 0, none⟩) n_ c2) hn74)
      replace E := E.same (t := 16) (u := .slice (some ⟨b54, 0, none⟩) (List.length (List.set (List.set s19 (Int.toNat i23) (List.getD s19 (Int.toNat j24) 0)) (Int.toNat j24) (List.getD s19 (Int.toNat i23) 0))) c2) rfl (congrArg (fun n_ => Value.slice (some ⟨b54, 0, none⟩) n_ c2) hn74)
      refine wpList_nil ?_
      refine th_n ⟨HS67, ?_⟩
      refine dr_done (by kernel_rfl) ?_
      exact .inl ⟨rfl, E.pick _ ⟨rfl, rfl, rfl, trivial⟩, H.sel [0] rfl⟩
     refine wpOp_of_list rfl ?_
     refine vr tbok 1 [] [(0, .slice (some ⟨b54, 0, none⟩) (List.length s19) c2), (2, .int .i64 i23), (3, .int .i64 j24), (14, .slice (some ⟨b54, 0, none⟩) (List.length s19) c2), (15, .int .i64 i23), (16, .slice (some ⟨b54, 0, none⟩) (List.length s19) c2), (17, .int .i64 j24), (20, .pointer (some ⟨b54, 0 + (Int.toNat j24) * 1, none⟩)), (22, .slice (some ⟨b54, 0, none⟩) (List.length s19) c2), (23, .int .i64 i23), (24, .pointer (some ⟨b54, 0 + (Int.toNat i23) * 1, none⟩))] [0 ≤ i23 ∧ i23 < (((List.length s19) : Nat) : Int)] E (by kernel_rfl) (g56) ?_
     clear E; intro a E
     refine wpList_nil ?_
     refine th_n ⟨HS67, ?_⟩
     refine wpAnyH_all (rs := [7, 11]) (by kernel_rfl) (by simp) ?_
     refine all2 ?_ ?_
     ·
      refine wpOp_of_list rfl ?_
      refine vr tbok 1 [.int .u8 (List.getD s19 (Int.toNat j24) 0)] [(0, .slice (some ⟨b54, 0, none⟩) (List.length s19) c2), (2, .int .i64 i23), (3, .int .i64 j24), (14, .slice (some ⟨b54, 0, none⟩) (List.length s19) c2), (15, .int .i64 i23), (16, .slice (some ⟨b54, 0, none⟩) (List.length s19) c2), (17, .int .i64 j24), (20, .pointer (some ⟨b54, 0 + (Int.toNat j24) * 1, none⟩)), (21, .int .u8 (List.getD s19 (Int.toNat j24) 0)), (24, .pointer (some ⟨b54, 0 + (Int.toNat i23) * 1, none⟩))] [World.cell? w65 ⟨b54, 0 + (Int.toNat j24) * 1, none⟩ = some (.int .u8 (List.getD s19 (Int.toNat j24) 0))] E (by kernel_rfl) (Rds.at1 (H.rd 0 rds_row) 0 g53) ?_
      clear E; intro a E
      refine wpList_nil ?_
      refine th_n ⟨HS67, ?_⟩
      refine wpAnyH_all (rs := [11]) (by kernel_rfl) (by simp) ?_
      refine all1 ?_
      refine wpOp_of_list rfl ?_
      refine vr tbok 1 [.int .u8 (List.getD s19 (Int.toNat i23) 0)] [(0, .slice (some ⟨b54, 0, none⟩) (List.length s19) c2), (2, .int .i64 i23), (3, .int .i64 j24), (14, .slice (some ⟨b54, 0, none⟩) (List.length s19) c2), (15, .int .i64 i23), (16, .slice (some ⟨b54, 0, none⟩) (List.length s19) c2), (17, .int .i64 j24), (21, .int .u8 (List.getD s19 (Int.toNat j24) 0)), (24, .pointer (some ⟨b54, 0 + (Int.toNat i23) * 1, none⟩)), (25, .int .u8 (List.getD s19 (Int.toNat i23) 0))] [World.cell? w65 ⟨b54, 0 + (Int.toNat i23) * 1, none⟩ = some (.int .u8 (List.getD s19 (Int.toNat i23) 0))] E (by kernel_rfl) (Rds.at1 (H.rd 0 rds_row) 0 g56) ?_
      clear E; intro a E
      refine wpList_nil ?_
      refine th_n ⟨HS67, ?_⟩
      refine wpAnyH_all (rs := [12]) (by kernel_rfl) (by simp) ?_
      refine all1 ?_
      refine wpOp_of_list rfl ?_
      refine vr tbok 1 [] [(0, .slice (some ⟨b54, 0, none⟩) (List.length s19) c2), (2, .int .i64 i23), (3, .int .i64 j24), (14, .slice (some ⟨b54, 0, none⟩) (List.length s19) c2), (15, .int .i64 i23), (16, .slice (some ⟨b54, 0, none⟩) (List.length s19) c2), (17, .int .i64 j24), (21, .int .u8 (List.getD s19 (Int.toNat j24) 0)), (25, .int .u8 (List.getD s19 (Int.toNat i23) 0)), (26, .pointer (some ⟨b54, 0 + (Int.toNat i23) * 1, none⟩))] [0 ≤ i23 ∧ i23 < (((List.length s19) : Nat) : Int)] E (by kernel_rfl) (g56) ?_
      clear E; intro a E
      refine wpList_nil ?_
      refine th_n ⟨HS67, ?_⟩
      refine wpAnyH_all (rs := [13]) (by kernel_rfl) (by simp) ?_
      refine all1 ?_
      refine wpOp_of_list rfl ?_
      refine h_set (g := b54) (i := i23) (List.getD s19 (Int.toNat j24) 0) H 0 rfl E rfl rfl rfl rfl tbok rfl (fun _ HF_ => rfl) rfl g56 rfl ?_
      clear E; intro w75 a hc76 H_ E
      replace HS67 := HS67.trans hc76 (fun k_ hk_ h_ => (fun _ _ h_ => Or.inl h_) k_ hk_ h_)
      replace H := H_; clear H_; try dsimp only [setn, addE, goneL] at H
      have hn77 : (List.length s19) = (List.length (List.set s19 (Int.toNat i23) (List.getD s19 (Int.toNat j24) 0))) := by simp only [List.length_set]
      replace E := E.same (t := 0) (u := .slice (some ⟨b54, 0, none⟩) (List.length (List.set s19 (Int.toNat i23) (List.getD s19 (Int.toNat j24) 0))) c2) rfl (congrArg (fun n_ => Value.slice (some ⟨b54, 0, none⟩) n_ c2) hn77)
      replace E := E.same (t := 14) (u := .slice (some ⟨b54, 0, none⟩) (List.length (List.set s19 (Int.toNat i23) (List.getD s19 (Int.toNat j24) 0))) c2) rfl (congrArg (fun n_ => Value.slice (some ⟨b54, 0, none⟩) n_ c2) hn77)
      replace E := E.same (t := 16) (u := .slice (some ⟨b54, 0, none⟩) (List.length (List.set s19 (Int.toNat i23) (List.getD s19 (Int.toNat j24) 0))) c2) rfl (congrArg (fun n_ => Value.slice (some ⟨b54, 0, none⟩) n_ c2) hn77)
      refine wpList_nil ?_
      refine th_n ⟨HS67, ?_⟩
      refine wpAnyH_all (rs := [14]) (by kernel_rfl) (by simp) ?_
      refine all1 ?_
      refine wpOp_of_list rfl ?_
      refine vr tbok 1 [] [(0, .slice (some ⟨b54, 0, none⟩) (List.length (List.set s19 (Int.toNat i23) (List.getD s19 (Int.toNat j24) 0))) c2), (2, .int .i64 i23), (3, .int .i64 j24), (16, .slice (some ⟨b54, 0, none⟩) (List.length (List.set s19 (Int.toNat i23) (List.getD s19 (Int.toNat j24) 0))) c2), (17, .int .i64 j24), (25, .int .u8 (List.getD s19 (Int.toNat i23) 0)), (27, .pointer (some ⟨b54, 0 + (Int.toNat j24) * 1, none⟩))] [0 ≤ j24 ∧ j24 < (((List.length (List.set s19 (Int.toNat i23) (List.getD s19 (Int.toNat j24) 0))) : Nat) : Int)] E (by kernel_rfl) (g60) ?_
      clear E; intro a E
      refine wpList_nil ?_
      refine th_n ⟨HS67, ?_⟩
      refine wpAnyH_all (rs := [15]) (by kernel_rfl) (by simp) ?_
      refine all1 ?_
      refine wpOp_of_list rfl ?_
      refine h_set (g := b54) (i := j24) (List.getD s19 (Int.toNat i23) 0) H 0 rfl E rfl rfl rfl rfl tbok rfl (fun _ HF_ => rfl) rfl g60 rfl ?_
      clear E; intro w78 a hc79 H_ E
      replace HS67 := HS67.trans hc79 (fun k_ hk_ h_ => (fun _ _ h_ => Or.inl h_) k_ hk_ h_)
      replace H := H_; clear H_; try dsimp only [setn, addE, goneL] at H
      have hn80 : (List.length (List.set s19 (Int.toNat i23) (List.getD s19 (Int.toNat j24) 0))) = (List.length (List.set (List.set s19 (Int.toNat i23) (List.getD s19 (Int.toNat j24) 0)) (Int.toNat j24) (List.getD s19 (Int.toNat i23) 0))) := by simp only [List.length_set]
      replace E := E.same (t := 0) (u := .slice (some ⟨b54, 0, none⟩) (List.length (List.set (List.set s19 (Int.toNat i23) (List.getD s19 (Int.toNat j24) 0)) (Int.toNat j24) (List.getD s19 (Int.toNat i23) 0))) c2) rfl (congrArg (fun n_ => Value.slice (some ⟨b54, 0, none⟩) n_ c2) hn80)
      replace E := E.same (t := 16) (u := .slice (some ⟨b54, 0, none⟩) (List.length (List.set (List.set s19 (Int.toNat i23) (List.getD s19 (Int.toNat j24) 0)) (Int.toNat j24) (List.getD s19 (Int.toNat i23) 0))) c2) rfl (congrArg (fun n_ => Value.slice (some ⟨b54, 0, none⟩) n_ c2) hn80)
      refine wpList_nil ?_
      refine th_n ⟨HS67, ?_⟩
      refine dr_done (by kernel_rfl) ?_
      exact .inl ⟨rfl, E.pick _ ⟨rfl, rfl, rfl, trivial⟩, H.sel [0] rfl⟩
     refine wpOp_of_list rfl ?_
     refine vr tbok 1 [.int .u8 (List.getD s19 (Int.toNat i23) 0)] [(0, .slice (some ⟨b54, 0, none⟩) (List.length s19) c2), (2, .int .i64 i23), (3, .int .i64 j24), (14, .slice (some ⟨b54, 0, none⟩) (List.length s19) c2), (15, .int .i64 i23), (16, .slice (some ⟨b54, 0, none⟩) (List.length s19) c2), (17, .int .i64 j24), (20, .pointer (some ⟨b54, 0 + (Int.toNat j24) * 1, none⟩)), (24, .pointer (some ⟨b54, 0 + (Int.toNat i23) * 1, none⟩)), (25, .int .u8 (List.getD s19 (Int.toNat i23) 0))] [World.cell? w65 ⟨b54, 0 + (Int.toNat i23) * 1, none⟩ = some (.int .u8 (List.getD s19 (Int.toNat i23) 0))] E (by kernel_rfl) (Rds.at1 (H.rd 0 rds_row) 0 g56) ?_
     clear E; intro a E
     refine wpList_nil ?_
     refine th_n ⟨HS67, ?_⟩
     refine wpAnyH_all (rs := [7]) (by kernel_rfl) (by simp) ?_
     refine all1 ?_
     refine wpOp_of_list rfl ?_
     refine vr tbok 1 [.int .u8 (List.getD s19 (Int.toNat j24) 0)] [(0, .slice (some ⟨b54, 0, none⟩) (List.length s19) c2), (2, .int .i64 i23), (3, .int .i64 j24), (14, .slice (some ⟨b54, 0, none⟩) (List.length s19) c2), (15, .int .i64 i23), (16, .slice (some ⟨b54, 0, none⟩) (List.length s19) c2), (17, .int .i64 j24), (20, .pointer (some ⟨b54, 0 + (Int.toNat j24) * 1, none⟩)), (21, .int .u8 (List.getD s19 (Int.toNat j24) 0)), (25, .int .u8 (List.getD s19 (Int.toNat i23) 0))] [World.cell? w65 ⟨b54, 0 + (Int.toNat j24) * 1, none⟩ = some (.int .u8 (List.getD s19 (Int.toNat j24) 0))] E (by kernel_rfl) (Rds.at1 (H.rd 0 rds_row) 0 g53) ?_
     clear E; intro a E
     refine wpList_nil ?_
     refine th_n ⟨HS67, ?_⟩
     refine wpAnyH_all (rs := [12]) (by kernel_rfl) (by simp) ?_
     refine all1 ?_
     refine wpOp_of_list rfl ?_
     refine vr tbok 1 [] [(0, .slice (some ⟨b54, 0, none⟩) (List.length s19) c2), (2, .int .i64 i23), (3, .int .i64 j24), (14, .slice (some ⟨b54, 0, none⟩) (List.length s19) c2), (15, .int .i64 i23), (16, .slice (some ⟨b54, 0, none⟩) (List.length s19) c2), (17, .int .i64 j24), (21, .int .u8 (List.getD s19 (Int.toNat j24) 0)), (25, .int .u8 (List.getD s19 (Int.toNat i23) 0)), (26, .pointer (some ⟨b54, 0 + (Int.toNat i23) * 1, none⟩))] [0 ≤ i23 ∧ i23 < (((List.length s19) : Nat) : Int)] E (by kernel_rfl) (g56) ?_
     clear E; intro a E
     refine wpList_nil ?_
     refine th_n ⟨HS67, ?_⟩
     refine wpAnyH_all (rs := [13]) (by kernel_rfl) (by simp) ?_
     refine all1 ?_
     refine wpOp_of_list rfl ?_
     refine h_set (g := b54) (i := i23) (List.getD s19 (Int.toNat j24) 0) H 0 rfl E rfl rfl rfl rfl tbok rfl (fun _ HF_ => rfl) rfl g56 rfl ?_
     clear E; intro w81 a hc82 H_ E
     replace HS67 := HS67.trans hc82 (fun k_ hk_ h_ => (fun _ _ h_ => Or.inl h_) k_ hk_ h_)
     replace H := H_; clear H_; try dsimp only [setn, addE, goneL] at H
     have hn83 : (List.length s19) = (List.length (List.set s19 (Int.toNat i23) (List.getD s19 (Int.toNat j24) 0))) := by simp only [List.length_set]
     replace E := E.same (t := 0) (u := .slice (some ⟨b54, 0, none⟩) (List.length (List.set s19 (Int.toNat i23) (List.getD s19 (Int.toNat j24) 0))) c2) rfl (congrArg (fun n_ => Value.slice (some ⟨b54, 0, none⟩) n_ c2) hn83)
     replace E := E.same (t := 14) (u := .slice (some ⟨b54, 0, none⟩) (List.length (List.set s19 (Int.toNat i23) (List.getD s19 (Int.toNat j24) 0))) c2) rfl (congrArg (fun n_ => Value.slice (some ⟨b54, 0, none⟩) n_ c2) hn83)
     replace E := E.same (t := 16) (u := .slice (some ⟨b54, 0, none⟩) (List.length (List.set s19 (Int.toNat i23) (List.getD s19 (Int.toNat j24) 0))) c2) rfl (congrArg (fun n_ => Value.slice (some ⟨b54, 0, none⟩) n_ c2) hn83)
     refine wpList_nil ?_
     refine th_n ⟨HS67, ?_⟩
     refine wpAnyH_all (rs := [14]) (by kernel_rfl) (by simp) ?_
     refine all1 ?_
     refine wpOp_of_list rfl ?_
     refine vr tbok 1 [] [(0, .slice (some ⟨b54, 0, none⟩) (List.length (List.set s19 (Int.toNat i23) (List.getD s19 (Int.toNat j24) 0))) c2), (2, .int .i64 i23), (3, .int .i64 j24), (16, .slice (some ⟨b54, 0, none⟩) (List.length (List.set s19 (Int.toNat i23) (List.getD s19 (Int.toNat j24) 0))) c2), (17, .int .i64 j24), (25, .int .u8 (List.getD s19 (Int.toNat i23) 0)), (27, .pointer (some ⟨b54, 0 + (Int.toNat j24) * 1, none⟩))] [0 ≤ j24 ∧ j24 < (((List.length (List.set s19 (Int.toNat i23) (List.getD s19 (Int.toNat j24) 0))) : Nat) : Int)] E (by kernel_rfl) (g60) ?_
     clear E; intro a E
     refine wpList_nil ?_
     refine th_n ⟨HS67, ?_⟩
     refine wpAnyH_all (rs := [15]) (by kernel_rfl) (by simp) ?_
     refine all1 ?_
     refine wpOp_of_list rfl ?_
     refine h_set (g := b54) (i := j24) (List.getD s19 (Int.toNat i23) 0) H 0 rfl E rfl rfl rfl rfl tbok rfl (fun _ HF_ => rfl) rfl g60 rfl ?_
     clear E; intro w84 a hc85 H_ E
     replace HS67 := HS67.trans hc85 (fun k_ hk_ h_ => (fun _ _ h_ => Or.inl h_) k_ hk_ h_)
     replace H := H_; clear H_; try dsimp only [setn, addE, goneL] at H
     have hn86 : (List.length (List.set s19 (Int.toNat i23) (List.getD s19 (Int.toNat j24) 0))) = (List.length (List.set (List.set s19 (Int.toNat i23) (List.getD s19 (Int.toNat j24) 0)) (Int.toNat j24) (List.getD s19 (Int.toNat i23) 0))) := by simp only [List.length_set]
     replace E := E.same (t := 0) (u := .slice (some ⟨b54, 0, none⟩) (List.length (List.set (List.set s19 (Int.toNat i23) (List.getD s19 (Int.toNat j24) 0)) (Int.toNat j24) (List.getD s19 (Int.toNat i23) 0))) c2) rfl (congrArg (fun n_ => Value.slice (some ⟨b54, 0, none⟩) n_ c2) hn86)
     replace E := E.same (t := 16) (u := .slice (some ⟨b54, 0, none⟩) (List.length (List.set (List.set s19 (Int.toNat i23) (List.getD s19 (Int.toNat j24) 0)) (Int.toNat j24) (List.getD s19 (Int.toNat i23) 0))) c2) rfl (congrArg (fun n_ => Value.slice (some ⟨b54, 0, none⟩) n_ c2) hn86)
     refine wpList_nil ?_
     refine th_n ⟨HS67, ?_⟩
     refine dr_done (by kernel_rfl) ?_
     exact .inl ⟨rfl, E.pick _ ⟨rfl, rfl, rfl, trivial⟩, H.sel [0] rfl⟩
    refine wpOp_of_list rfl ?_
    refine vr tbok 1 [] [(0, .slice (some ⟨b54, 0, none⟩) (List.length s19) c2), (2, .int .i64 i23), (3, .int .i64 j24), (14, .slice (some ⟨b54, 0, none⟩) (List.length s19) c2), (15, .int .i64 i23), (16, .slice (some ⟨b54, 0, none⟩) (List.length s19) c2), (17, .int .i64 j24), (18, .slice (some ⟨b54, 0, none⟩) (List.length s19) c2), (19, .int .i64 j24), (22, .slice (some ⟨b54, 0, none⟩) (List.length s19) c2), (23, .int .i64 i23), (24, .pointer (some ⟨b54, 0 + (Int.toNat i23) * 1, none⟩))] [0 ≤ i23 ∧ i23 < (((List.length s19) : Nat) : Int)] E (by kernel_rfl) (g56) ?_
    clear E; intro a E
    refine wpList_nil ?_
    refine th_n ⟨HS67, ?_⟩
    refine wpAnyH_all (rs := [6, 11]) (by kernel_rfl) (by simp) ?_
    refine all2 ?_ ?_
    ·
     refine wpOp_of_list rfl ?_
     refine vr tbok 1 [] [(0, .slice (some ⟨b54, 0, none⟩) (List.length s19) c2), (2, .int .i64 i23), (3, .int .i64 j24), (14, .slice (some ⟨b54, 0, none⟩) (List.length s19) c2), (15, .int .i64 i23), (16, .slice (some ⟨b54, 0, none⟩) (List.length s19) c2), (17, .int .i64 j24), (18, .slice (some ⟨b54, 0, none⟩) (List.length s19) c2), (19, .int .i64 j24), (20, .pointer (some ⟨b54, 0 + (Int.toNat j24) * 1, none⟩)), (24, .pointer (some ⟨b54, 0 + (Int.toNat i23) * 1, none⟩))] [0 ≤ j24 ∧ j24 < (((List.length s19) : Nat) : Int)] E (by kernel_rfl) (g53) ?_
     clear E; intro a E
     refine wpList_nil ?_
     refine th_n ⟨HS67, ?_⟩
     refine wpAnyH_all (rs := [7, 11]) (by kernel_rfl) (by simp) ?_
     refine all2 ?_ ?_
     ·
      refine wpOp_of_list rfl ?_
      refine vr tbok 1 [.int .u8 (List.getD s19 (Int.toNat j24) 0)] [(0, .slice (some ⟨b54, 0, none⟩) (List.length s19) c2), (2, .int .i64 i23), (3, .int .i64 j24), (14, .slice (some ⟨b54, 0, none⟩) (List.length s19) c2), (15, .int .i64 i23), (16, .slice (some ⟨b54, 0, none⟩) (List.length s19) c2), (17, .int .i64 j24), (20, .pointer (some ⟨b54, 0 + (Int.toNat j24) * 1, none⟩)), (21, .int .u8 (List.getD s19 (Int.toNat j24) 0)), (24, .pointer (some ⟨b54, 0 + (Int.toNat i23) * 1, none⟩))] [World.cell? w65 ⟨b54, 0 + (Int.toNat j24) * 1, none⟩ = some (.int .u8 (List.getD s19 (Int.toNat j24) 0))] E (by kernel_rfl) (Rds.at1 (H.rd 0 rds_row) 0 g53) ?_
      clear E; intro a E
      refine wpList_nil ?_
      refine th_n ⟨HS67, ?_⟩
      refine wpAnyH_all (rs := [11]) (by kernel_rfl) (by simp) ?_
      refine all1 ?_
      refine wpOp_of_list rfl ?_
      refine vr tbok 1 [.int .u8 (List.getD s19 (Int.toNat i23) 0)] [(0, .slice (some ⟨b54, 0, none⟩) (List.length s19) c2), (2, .int .i64 i23), (3, .int .i64 j24), (14, .slice (some ⟨b54, 0, none⟩) (List.length s19) c2), (15, .int .i64 i23), (16, .slice (some ⟨b54, 0, none⟩) (List.length s19) c2), (17, .int .i64 j24), (21, .int .u8 (List.getD s19 (Int.toNat j24) 0)), (24, .pointer (some ⟨b54, 0 + (Int.toNat i23) * 1, none⟩)), (25, .int .u8 (List.getD s19 (Int.toNat i23) 0))] [World.cell? w65 ⟨b54, 0 + (Int.toNat i23) * 1, none⟩ = some (.int .u8 (List.getD s19 (Int.toNat i23) 0))] E (by kernel_rfl) (Rds.at1 (H.rd 0 rds_row) 0 g56) ?_
      clear E; intro a E
      refine wpList_nil ?_
      refine th_n ⟨HS67, ?_⟩
      refine wpAnyH_all (rs := [12]) (by kernel_rfl) (by simp) ?_
      refine all1 ?_
      refine wpOp_of_list rfl ?_
      refine vr tbok 1 [] [(0, .slice (some ⟨b54, 0, none⟩) (List.length s19) c2), (2, .int .i64 i23), (3, .int .i64 j24), (14, .slice (some ⟨b54, 0, none⟩) (List.length s19) c2), (15, .int .i64 i23), (16, .slice (some ⟨b54, 0, none⟩) (List.length s19) c2), (17, .int .i64 j24), (21, .int .u8 (List.getD s19 (Int.toNat j24) 0)), (25, .int .u8 (List.getD s19 (Int.toNat i23) 0)), (26, .pointer (some ⟨b54, 0 + (Int.toNat i23) * 1, none⟩))] [0 ≤ i23 ∧ i23 < (((List.length s19) : Nat) : Int)] E (by kernel_rfl) (g56) ?_
      clear E; intro a E
      refine wpList_nil ?_
      refine th_n ⟨HS67, ?_⟩
      refine wpAnyH_all (rs := [13]) (by kernel_rfl) (by simp) ?_
      refine all1 ?_
      refine wpOp_of_list rfl ?_
      refine h_set (g := b54) (i := i23) (List.getD s19 (Int.toNat j24) 0) H 0 rfl E rfl rfl rfl rfl tbok rfl (fun _ HF_ => rfl) rfl g56 rfl ?_
      clear E; intro w87 a hc88 H_ E
      replace HS67 := HS67.trans hc88 (fun k_ hk_ h_ => (fun _ _ h_ => Or.inl h_) k_ hk_ h_)
      replace H := H_; clear H_; try dsimp only [setn, addE, goneL] at H
      have hn89 : (List.length s19) = (List.length (List.set s19 (Int.toNat i23) (List.getD s19 (Int.toNat j24) 0))) := by simp only [List.length_set]
      replace E := E.same (t := 0) (u := .slice (some ⟨b54, 0, none⟩) (List.length (List.set s19 (Int.toNat i23) (List.getD s19 (Int.toNat j24) 0))) c2) rfl (congrArg (fun n_ => Value.slice (some ⟨b54, 0, none⟩) n_ c2) hn89)
      replace E := E.same (t := 14) (u := .slice (some ⟨b54, 0, none⟩) (List.length (List.set s19 (Int.toNat i23) (List.getD s19 (Int.toNat j24) 0))) c2) rfl (congrArg (fun n_ => Value.slice (some ⟨b54, 0, none⟩) n_ c2) hn89)
      replace E := E.same (t := 16) (u := .slice (some ⟨b54, 0, none⟩) (List.length (List.set s19 (Int.toNat i23) (List.getD s19 (Int.toNat j24) 0))) c2) rfl (congrArg (fun n_ => Value.slice (some ⟨b54, 0, none⟩) n_ c2) hn89)
      refine wpList_nil ?_
      refine th_n ⟨HS67, ?_⟩
      refine wpAnyH_all (rs := [14]) (by kernel_rfl) (by simp) ?_
      refine all1 ?_
      refine wpOp_of_list rfl ?_
      refine vr tbok 1 [] [(0, .slice (some ⟨b54, 0, none⟩) (List.length (List.set s19 (Int.toNat i23) (List.getD s19 (Int.toNat j24) 0))) c2), (2, .int .i64 i23), (3, .int .i64 j24), (16, .slice (some ⟨b54, 0, none⟩) (List.length (List.set s19 (Int.toNat i23) (List.getD s19 (Int.toNat j24) 0))) c2), (17, .int .i64 j24), (25, .int .u8 (List.getD s19 (Int.toNat i23) 0)), (27, .pointer (some ⟨b54, 0 + (Int.toNat j24) * 1, none⟩))] [0 ≤ j24 ∧ j24 < (((List.length (List.set s19 (Int.toNat i23) (List.getD s19 (Int.toNat j24) 0))) : Nat) : Int)] E (by kernel_rfl) (g60) ?_
      clear E; intro a E
      refine wpList_nil ?_
      refine th_n ⟨HS67, ?_⟩
      refine wpAnyH_all (rs := [15]) (by kernel_rfl) (by simp) ?_
      refine all1 ?_
      refine wpOp_of_list rfl ?_
      refine h_set (g := b54) (i := j24) (List.getD s19 (Int.toNat i23) 0) H 0 rfl E rfl rfl rfl rfl tbok rfl (fun _ HF_ => rfl) rfl g60 rfl ?_
      clear E; intro w90 a hc91 H_ E
      replace HS67 := HS67.trans hc91 (fun k_ hk_ h_ => (fun _ _ h_ => Or.inl h_) k_ hk_ h_)
      replace H := H_; clear H_; try dsimp only [setn, addE, goneL] at H
      have hn92 : (List.length (List.set s19 (Int.toNat i23) (List.getD s19 (Int.toNat j24) 0))) = (List.length (List.set (List.set s19 (Int.toNat i23) (List.getD s19 (Int.toNat j24) 0)) (Int.toNat j24) (List.getD s19 (Int.toNat i23) 0))) := by simp only [List.length_set]
      replace E := E.same (t := 0) (u := .slice (some ⟨b54, 0, none⟩) (List.length (List.set (List.set s19 (Int.toNat i23) (List.getD s19 (Int.toNat j24) 0)) (Int.toNat j24) (List.getD s19 (Int.toNat i23) 0))) c2) rfl (congrArg (fun n_ => Value.slice (some ⟨b54, 0, none⟩) n_ c2) hn92)
      replace E := E.same (t := 16) (u := .slice (some ⟨b54, 0, none⟩) (List.length (List.set (List.set s19 (Int.toNat i23) (List.getD s19 (Int.toNat j24) 0)) (Int.toNat j24) (List.getD s19 (Int.toNat i23) 0))) c2) rfl (congrArg (fun n_ => Value.slice (some ⟨b54, 0, none⟩) n_ c2) hn92)
      refine wpList_nil ?_
      refine th_n ⟨HS67, ?_⟩
      refine dr_done (by kernel_rfl) ?_
      exact .inl ⟨rfl, E.pick _ ⟨rfl, rfl, rfl, trivial⟩, H.sel [0] rfl⟩
     refine wpOp_of_list rfl ?_
     refine vr tbok 1 [.int .u8 (List.getD s19 (Int.toNat i23) 0)] [(0, .slice (some ⟨b54, 0, none⟩) (List.length s19) c2), (2, .int .i64 i23), (3, .int .i64 j24), (14, .slice (some ⟨b54, 0, none⟩) (List.length s19) c2), (15, .int .i64 i23), (16, .slice (some ⟨b54, 0, none⟩) (List.length s19) c2), (17, .int .i64 j24), (20, .pointer (some ⟨b54, 0 + (Int.toNat j24) * 1, none⟩)), (24, .pointer (some ⟨b54, 0 + (Int.toNat i23) * 1, none⟩)), (25, .int .u8 (List.getD s19 (Int.toNat i23) 0))] [World.cell? w65 ⟨b54, 0 + (Int.toNat i23) * 1, none⟩ = some (.int .u8 (List.getD s19 (Int.toNat i23) 0))] E (by kernel_rfl) (Rds.at1 (H.rd 0 rds_row) 0 g56) ?_
     clear E; intro a E
     refine wpList_nil ?_
     refine th_n ⟨HS67, ?_⟩
     refine wpAnyH_all (rs := [7]) (by kernel_rfl) (by simp) ?_
     refine all1 ?_
     refine wpOp_of_list rfl ?_
     refine vr tbok 1 [.int .u8 (List.getD s19 (Int.toNat j24) 0)] [(0, .slice (some ⟨b54, 0, none⟩) (List.length s19) c2), (2, .int .i64 i23), (3, .int .i64 j24), (14, .slice (some ⟨b54, 0, none⟩) (List.length s19) c2), (15, .int .i64 i23), (16, .slice (some ⟨b54, 0, none⟩) (List.length s19) c2), (17, .int .i64 j24), (20, .pointer (some ⟨b54, 0 + (Int.toNat j24) * 1, none⟩)), (21, .int .u8 (List.getD s19 (Int.toNat j24) 0)), (25, .int .u8 (List.getD s19 (Int.toNat i23) 0))] [World.cell? w65 ⟨b54, 0 + (Int.toNat j24) * 1, none⟩ = some (.int .u8 (List.getD s19 (Int.toNat j24) 0))] E (by kernel_rfl) (Rds.at1 (H.rd 0 rds_row) 0 g53) ?_
     clear E; intro a E
     refine wpList_nil ?_
     refine th_n ⟨HS67, ?_⟩
     refine wpAnyH_all (rs := [12]) (by kernel_rfl) (by simp) ?_
     refine all1 ?_
     refine wpOp_of_list rfl ?_
     refine vr tbok 1 [] [(0, .slice (some ⟨b54, 0, none⟩) (List.length s19) c2), (2, .int .i64 i23), (3, .int .i64 j24), (14, .slice (some ⟨b54, 0, none⟩) (List.length s19) c2), (15, .int .i64 i23), (16, .slice (some ⟨b54, 0, none⟩) (List.length s19) c2), (17, .int .i64 j24), (21, .int .u8 (List.getD s19 (Int.toNat j24) 0)), (25, .int .u8 (List.getD s19 (Int.toNat i23) 0)), (26, .pointer (some ⟨b54, 0 + (Int.toNat i23) * 1, none⟩))] [0 ≤ i23 ∧ i23 < (((List.length s19) : Nat) : Int)] E (by kernel_rfl) (g56) ?_
     clear E; intro a E
     refine wpList_nil ?_
     refine th_n ⟨HS67, ?_⟩
     refine wpAnyH_all (rs := [13]) (by kernel_rfl) (by simp) ?_
     refine all1 ?_
     refine wpOp_of_list rfl ?_
     refine h_set (g := b54) (i := i23) (List.getD s19 (Int.toNat j24) 0) H 0 rfl E rfl rfl rfl rfl tbok rfl (fun _ HF_ => rfl) rfl g56 rfl ?_
     clear E; intro w93 a hc94 H_ E
     replace HS67 := HS67.trans hc94 (fun k_ hk_ h_ => (fun _ _ h_ => Or.inl h_) k_ hk_ h_)
     replace H := H_; clear H_; try dsimp only [setn, addE, goneL] at H
     have hn95 : (List.length s19) = (List.length (List.set s19 (Int.toNat i23) (List.getD s19 (Int.toNat j24) 0))) := by simp only [List.length_set]
     replace E := E.same (t := 0) (u := .slice (some ⟨b54, 0, none⟩) (List.length (List.set s19 (Int.toNat i23) (List.getD s19 (Int.toNat j24) 0))) c2) rfl (congrArg (fun n_ => Value.slice (some ⟨b54, 0, none⟩) n_ c2) hn95)
     replace E := E.same (t := 14) (u := .slice (some ⟨b54, 0, none⟩) (List.length (List.set s19 (Int.toNat i23) (List.getD s19 (Int.toNat j24) 0))) c2) rfl (congrArg (fun n_ => Value.slice (some ⟨b54, 0, none⟩) n_ c2) hn95)
     replace E := E.same (t := 16) (u := .slice (some ⟨b54, 0, none⟩) (List.length (List.set s19 (Int.toNat i23) (List.getD s19 (Int.toNat j24) 0))) c2) rfl (congrArg (fun n_ => Value.slice (some ⟨b54, 0, none⟩) n_ c2) hn95)
     refine wpList_nil ?_
     refine th_n ⟨HS67, ?_⟩
     refine wpAnyH_all (rs := [14]) (by kernel_rfl) (by simp) ?_
     refine all1 ?_
     refine wpOp_of_list rfl ?_
     refine vr tbok 1 [] [(0, .slice (some ⟨b54, 0, none⟩) (List.length (List.set s19 (Int.toNat i23) (List.getD s19 (Int.toNat j24) 0))) c2), (2, .int .i64 i23), (3, .int .i64 j24), (16, .slice (some ⟨b54, 0, none⟩) (List.length (List.set s19 (Int.toNat i23) (List.getD s19 (Int.toNat j24) 0))) c2), (17, .int .i64 j24), (25, .int .u8 (List.getD s19 (Int.toNat i23) 0)), (27, .pointer (some ⟨b54, 0 + (Int.toNat j24) * 1, none⟩))] [0 ≤ j24 ∧ j24 < (((List.length (List.set s19 (Int.toNat i23) (List.getD s19 (Int.toNat j24) 0))) : Nat) : Int)] E (by kernel_rfl) (g60) ?_
     clear E; intro a E
     refine wpList_nil ?_
     refine th_n ⟨HS67, ?_⟩
     refine wpAnyH_all (rs := [15]) (by kernel_rfl) (by simp) ?_
     refine all1 ?_
     refine wpOp_of_list rfl ?_
     refine h_set (g := b54) (i := j24) (List.getD s19 (Int.toNat i23) 0) H 0 rfl E rfl rfl rfl rfl tbok rfl (fun _ HF_ => rfl) rfl g60 rfl ?_
     clear E; intro w96 a hc97 H_ E
     replace HS67 := HS67.trans hc97 (fun k_ hk_ h_ => (fun _ _ h_ => Or.inl h_) k_ hk_ h_)
     replace H := H_; clear H_; try dsimp only [setn, addE, goneL] at H
     have hn98 : (List.length (List.set s19 (Int.toNat i23) (List.getD s19 (Int.toNat j24) 0))) = (List.length (List.set (List.set s19 (Int.toNat i23) (List.getD s19 (Int.toNat j24) 0)) (Int.toNat j24) (List.getD s19 (Int.toNat i23) 0))) := by simp only [List.length_set]
     replace E := E.same (t := 0) (u := .slice (some ⟨b54, 0, none⟩) (List.length (List.set (List.set s19 (Int.toNat i23) (List.getD s19 (Int.toNat j24) 0)) (Int.toNat j24) (List.getD s19 (Int.toNat i23) 0))) c2) rfl (congrArg (fun n_ => Value.slice (some ⟨b54, 0, none⟩) n_ c2) hn98)
     replace E := E.same (t := 16) (u := .slice (some ⟨b54, 0, none⟩) (List.length (List.set (List.set s19 (Int.toNat i23) (List.getD s19 (Int.toNat j24) 0)) (Int.toNat j24) (List.getD s19 (Int.toNat i23) 0))) c2) rfl (congrArg (fun n_ => Value.slice (some ⟨b54, 0, none⟩) n_ c2) hn98)
     refine wpList_nil ?_
     refine th_n ⟨HS67, ?_⟩
     refine dr_done (by kernel_rfl) ?_
     exact .inl ⟨rfl, E.pick _ ⟨rfl, rfl, rfl, trivial⟩, H.sel [0] rfl⟩
    refine wpOp_of_list rfl ?_
    refine vr tbok 1 [.int .u8 (List.getD s19 (Int.toNat i23) 0)] [(0, .slice (some ⟨b54, 0, none⟩) (List.length s19) c2), (2, .int .i64 i23), (3, .int .i64 j24), (14, .slice (some ⟨b54, 0, none⟩) (List.length s19) c2), (15, .int .i64 i23), (16, .slice (some ⟨b54, 0, none⟩) (List.length s19) c2), (17, .int .i64 j24), (18, .slice (some ⟨b54, 0, none⟩) (List.length s19) c2), (19, .int .i64 j24), (24, .pointer (some ⟨b54, 0 + (Int.toNat i23) * 1, none⟩)), (25, .int .u8 (List.getD s19 (Int.toNat i23) 0))] [World.cell? w65 ⟨b54, 0 + (Int.toNat i23) * 1, none⟩ = some (.int .u8 (List.getD s19 (Int.toNat i23) 0))] E (by kernel_rfl) (Rds.at1 (H.rd 0 rds_row) 0 g56) ?_
    clear E; intro a E
    refine wpList_nil ?_
    refine th_n ⟨HS67, ?_⟩
    refine wpAnyH_all (rs := [6]) (by kernel_rfl) (by simp) ?_
    refine all1 ?_
    refine wpOp_of_list rfl ?_
    refine vr tbok 1 [] [(0, .slice (some ⟨b54, 0, none⟩) (List.length s19) c2), (2, .int .i64 i23), (3, .int .i64 j24), (14, .slice (some ⟨b54, 0, none⟩) (List.length s19) c2), (15, .int .i64 i23), (16, .slice (some ⟨b54, 0, none⟩) (List.length s19) c2), (17, .int .i64 j24), (18, .slice (some ⟨b54, 0, none⟩) (List.length s19) c2), (19, .int .i64 j24), (20, .pointer (some ⟨b54, 0 + (Int.toNat j24) * 1, none⟩)), (25, .int .u8 (List.getD s19 (Int.toNat i23) 0))] [0 ≤ j24 ∧ j24 < (((List.length s19) : Nat) : Int)] E (by kernel_rfl) (g53) ?_
    clear E; intro a E
    refine wpList_nil ?_
    refine th_n ⟨HS67, ?_⟩
    refine wpAnyH_all (rs := [7]) (by kernel_rfl) (by simp) ?_
    refine all1 ?_
    refine wpOp_of_list rfl ?_
    refine vr tbok 1 [.int .u8 (List.getD s19 (Int.toNat j24) 0)] [(0, .slice (some ⟨b54, 0, none⟩) (List.length s19) c2), (2, .int .i64 i23), (3, .int .i64 j24), (14, .slice (some ⟨b54, 0, none⟩) (List.length s19) c2), (15, .int .i64 i23), (16, .slice (some ⟨b54, 0, none⟩) (List.length s19) c2), (17, .int .i64 j24), (20, .pointer (some ⟨b54, 0 + (Int.toNat j24) * 1, none⟩)), (21, .int .u8 (List.getD s19 (Int.toNat j24) 0)), (25, .int .u8 (List.getD s19 (Int.toNat i23) 0))] [World.cell? w65 ⟨b54, 0 + (Int.toNat j24) * 1, none⟩ = some (.int .u8 (List.getD s19 (Int.toNat j24) 0))] E (by kernel_rfl) (Rds.at1 (H.rd 0 rds_row) 0 g53) ?_
    clear E; intro a E
    refine wpList_nil ?_
    refine th_n ⟨HS67, ?_⟩
    refine wpAnyH_all (rs := [12]) (by kernel_rfl) (by simp) ?_
    refine all1 ?_
    refine wpOp_of_list rfl ?_
    refine vr tbok 1 [] [(0, .slice (some ⟨b54, 0, none⟩) (List.length s19) c2), (2, .int .i64 i23), (3, .int .i64 j24), (14, .slice (some ⟨b54, 0, none⟩) (List.length s19) c2), (15, .int .i64 i23), (16, .slice (some ⟨b54, 0, none⟩) (List.length s19) c2), (17, .int .i64 j24), (21, .int .u8 (List.getD s19 (Int.toNat j24) 0)), (25, .int .u8 (List.getD s19 (Int.toNat i23) 0)), (26, .pointer (some ⟨b54, 0 + (Int.toNat i23) * 1, none⟩))] [0 ≤ i23 ∧ i23 < (((List.length s19) : Nat) : Int)] E (by kernel_rfl) (g56) ?_
    clear E; intro a E
    refine wpList_nil ?_
    refine th_n ⟨HS67, ?_⟩
    refine wpAnyH_all (rs := [13]) (by kernel_rfl) (by simp) ?_
    refine all1 ?_
    refine wpOp_of_list rfl ?_
    refine h_set (g := b54) (i := i23) (List.getD s19 (Int.toNat j24) 0) H 0 rfl E rfl rfl rfl rfl tbok rfl (fun _ HF_ => rfl) rfl g56 rfl ?_
    clear E; intro w99 a hc100 H_ E
    replace HS67 := HS67.trans hc100 (fun k_ hk_ h_ => (fun _ _ h_ => Or.inl h_) k_ hk_ h_)
    replace H := H_; clear H_; try dsimp only [setn, addE, goneL] at H
    have hn101 : (List.length s19) = (List.length (List.set s19 (Int.toNat i23) (List.getD s19 (Int.toNat j24) 0))) := by simp only [List.length_set]
    replace E := E.same (t := 0) (u := .slice (some ⟨b54, 0, none⟩) (List.length (List.set s19 (Int.toNat i23) (List.getD s19 (Int.toNat j24) 0))) c2) rfl (congrArg (fun n_ => Value.slice (some ⟨b54, 0, none⟩) n_ c2) hn101)
    replace E := E.same (t := 14) (u := .slice (some ⟨b54, 0, none⟩) (List.length (List.set s19 (Int.toNat i23) (List.getD s19 (Int.toNat j24) 0))) c2) rfl (congrArg (fun n_ => Value.slice (some ⟨b54, 0, none⟩) n_ c2) hn101)
    replace E := E.same (t := 16) (u := .slice (some ⟨b54, 0, none⟩) (List.length (List.set s19 (Int.toNat i23) (List.getD s19 (Int.toNat j24) 0))) c2) rfl (congrArg (fun n_ => Value.slice (some ⟨b54, 0, none⟩) n_ c2) hn101)
    refine wpList_nil ?_
    refine th_n ⟨HS67, ?_⟩
    refine wpAnyH_all (rs := [14]) (by kernel_rfl) (by simp) ?_
    refine all1 ?_
    refine wpOp_of_list rfl ?_
    refine vr tbok 1 [] [(0, .slice (some ⟨b54, 0, none⟩) (List.length (List.set s19 (Int.toNat i23) (List.getD s19 (Int.toNat j24) 0))) c2), (2, .int .i64 i23), (3, .int .i64 j24), (16, .slice (some ⟨b54, 0, none⟩) (List.length (List.set s19 (Int.toNat i23) (List.getD s19 (Int.toNat j24) 0))) c2), (17, .int .i64 j24), (25, .int .u8 (List.getD s19 (Int.toNat i23) 0)), (27, .pointer (some ⟨b54, 0 + (Int.toNat j24) * 1, none⟩))] [0 ≤ j24 ∧ j24 < (((List.length (List.set s19 (Int.toNat i23) (List.getD s19 (Int.toNat j24) 0))) : Nat) : Int)] E (by kernel_rfl) (g60) ?_
    clear E; intro a E
    refine wpList_nil ?_
    refine th_n ⟨HS67, ?_⟩
    refine wpAnyH_all (rs := [15]) (by kernel_rfl) (by simp) ?_
    refine all1 ?_
    refine wpOp_of_list rfl ?_
    refine h_set (g := b54) (i := j24) (List.getD s19 (Int.toNat i23) 0) H 0 rfl E rfl rfl rfl rfl tbok rfl (fun _ HF_ => rfl) rfl g60 rfl ?_
    clear E; intro w102 a hc103 H_ E
    replace HS67 := HS67.trans hc103 (fun k_ hk_ h_ => (fun _ _ h_ => Or.inl h_) k_ hk_ h_)
    replace H := H_; clear H_; try dsimp only [setn, addE, goneL] at H
    have hn104 : (List.length (List.set s19 (Int.toNat i23) (List.getD s19 (Int.toNat j24) 0))) = (List.length (List.set (List.set s19 (Int.toNat i23) (List.getD s19 (Int.toNat j24) 0)) (Int.toNat j24) (List.getD s19 (Int.toNat i23) 0))) := by simp only [List.length_set]
    replace E := E.same (t := 0) (u := .slice (some ⟨b54, 0, none⟩) (List.length (List.set (List.set s19 (Int.toNat i23) (List.getD s19 (Int.toNat j24) 0)) (Int.toNat j24) (List.getD s19 (Int.toNat i23) 0))) c2) rfl (congrArg (fun n_ => Value.slice (some ⟨b54, 0, none⟩) n_ c2) hn104)
    replace E := E.same (t := 16) (u := .slice (some ⟨b54, 0, none⟩) (List.length (List.set (List.set s19 (Int.toNat i23) (List.getD s19 (Int.toNat j24) 0)) (Int.toNat j24) (List.getD s19 (Int.toNat i23) 0))) c2) rfl (congrArg (fun n_ => Value.slice (some ⟨b54, 0, none⟩) n_ c2) hn104)
    refine wpList_nil ?_
    refine th_n ⟨HS67, ?_⟩
    refine dr_done (by kernel_rfl) ?_
    exact .inl ⟨rfl, E.pick _ ⟨rfl, rfl, rfl, trivial⟩, H.sel [0] rfl⟩
   clear E H; rintro a w64 ⟨E, H⟩
   refine bl_n ?_
   refine th_n ?_
   refine wp_region_lit ?_
   obtain ⟨g105, hP⟩ := ask_inv hP
   obtain ⟨g106, hP⟩ := ask_inv hP
   refine vr tbok 6 [.int .i64 (i23 + 1), .int .i64 (j24 - 1)] [(0, .slice (some ⟨b54, 0, none⟩) (List.length (List.set (List.set s19 (Int.toNat i23) (List.getD s19 (Int.toNat j24) 0)) (Int.toNat j24) (List.getD s19 (Int.toNat i23) 0))) c2), (2, .int .i64 (i23 + 1)), (3, .int .i64 (j24 - 1))] [IntKind.i64.wrap (i23 + 1) = i23 + 1, IntKind.i64.wrap (j24 - 1) = j24 - 1] E (by kernel_rfl) ⟨wrap_in g105, wrap_in g106⟩ ?_
   clear E; intro a E
   refine wpList_nil ?_
   exact th_n ⟨m45, Nat.lt_succ_self _, List.set (List.set s19 (Int.toNat i23) (List.getD s19 (Int.toNat j24) 0)) (Int.toNat j24) (List.getD s19 (Int.toNat i23) 0), i23 + 1, j24 - 1, E.pick _ ⟨rfl, rfl, rfl, trivial⟩, H.sel [0] rfl, (Eq.trans List.length_set (Eq.trans List.length_set hl22)), hP⟩
  replace E := E_; clear E_
  have h107 : ¬ (i23 < j24) := of_decide_eq_false hb_
  clear hb_; replace hP := ite_f h107 hP
  refine c_false E rfl ?_
  refine wp_exit ?_
  refine th_exit ?_
  have hx_ := Option.some.inj hP
  refine th_exit (.inl ⟨0, rfl, ?_⟩)
  exact ⟨rfl, s19, E.pick _ trivial, H.sel [0] rfl, hl22, hx_.symm⟩
 clear E H hL47; intro i_ a w49 hM_
 obtain ⟨rfl, x51, E, H, hl44, hx_⟩ := hM_
 subst hx_; have hP := hK48; clear hK48
 refine bl_hit ?_
 obtain rfl := Option.some.inj hP
 refine bodyPost_end (v := .tuple #[]) (by simp [results, Try.f93]) E.nodef ?_
 exact ⟨_, rfl, rfl, hl44, H.sel [0] rfl⟩

/-! rejoinder/board.Moves -/
def board_Moves_l0 (N : Nat) (mask : Int) : Nat → (List Int) → Int → Option (List Int)
  | 0, _, _ => none
  | m38 + 1, out16, sub19 =>
    ask (List.length out16 + List.length ([sub19] : List Int) ≤ 1000000000) <|
    if (sub19 : Int) = 0 then
      some (out16 ++ ([sub19] : List Int))
    else
      board_Moves_l0 N mask m38 (out16 ++ ([sub19] : List Int)) (andV .u8 (IntKind.u8.wrap (sub19 - 1)) mask)
def board_Moves (N : Nat) (mask : Int) : Option (List Int) :=
  Option.bind (board_Moves_l0 N mask N [] mask) fun x39 =>
  Option.bind (slices_Reverse_api_Letter_api_Letter N x39) fun r59 =>
  some r59
set_option maxRecDepth 100000 in
set_option maxHeartbeats 4000000 in
theorem board_Moves_calls {N : Nat} {S Fa : Nat → Prop} {w0 : World} {r : List Int} (mask : Int) (H : Hp S Fa w0 w0 []) (hP : board_Moves N mask = some r) :
    Calls Try.prog 78 #[.int .u8 mask] w0 fun e w' => ∃ v, e = .returned v ∧ ∃ (A71 : Option Addr) (c72 : Nat), v = .slice A71 (List.length r) c72 ∧ Hp S Fa w0 w' [.row true (cInt .u8) 27 A71 c72 r] := by
 refine enterV (n := 19) Try.func78 rfl rfl rfl ?_
 intro a E
 replace E := E.pick [(0, .int .u8 mask)] ⟨rfl, trivial⟩
 rw [board_Moves] at hP
 refine wp_seq ?_
 refine wp_region_lit ?_
 refine vr tbok 1 [] [(0, .int .u8 mask)] [] E (by kernel_rfl) trivial ?_
 clear E; intro a E
 refine wpList_nil ?_
 refine th_n ?_
 refine wp_seq ?_
 refine wp_region_lit ?_
 refine vr tbok 1 [] [(0, .int .u8 mask), (3, .slice none 0 0)] [] E (by kernel_rfl) trivial ?_
 clear E; intro a E
 refine wpList_nil ?_
 refine th_n ?_
 refine wp_seq ?_
 refine wp_seq ?_
 refine wp_region_lit ?_
 refine vr tbok 2 [] [(0, .int .u8 mask), (3, .slice none 0 0), (4, .int .u8 mask)] [] E (by kernel_rfl) trivial ?_
 clear E; intro a E
 refine wpList_nil ?_
 refine th_n ?_
 refine wp_block ?_
 obtain ⟨x39, hL40, hK41⟩ := bind_inv hP
 clear hP
 replace H := H.nilrow (cInt .u8) 27; try dsimp only [setn, addE, goneL] at H
 refine loop_cut (fun i_ a w_ => (i_ = 0 ∧ ∃ (x45 : List Int), ∃ (A36 : Option Addr) (c37 : Nat), Fr a 19 [(3, .slice A36 (List.length x45) c37)] ∧ Hp S Fa w0 w_ [.row true (cInt .u8) 27 A36 c37 x45] ∧ x39 = x45)) ?_ ?_
 ·
  refine loopV (fun m44 a w43 => ∃ (out16 : List Int) (sub19 : Int), ∃ (A17 : Option Addr) (c18 : Nat), Fr a 19 [(0, .int .u8 mask), (3, .slice A17 (List.length out16) c18), (4, .int .u8 sub19)] ∧ Hp S Fa w0 w43 [.row true (cInt .u8) 27 A17 c18 out16] ∧ board_Moves_l0 N mask m44 out16 sub19 = some x39) N ?_ ?_
  ·
   exact ⟨[], mask, none, 0, E.pick _ ⟨rfl, rfl, rfl, trivial⟩, H.sel [0] rfl, hL40⟩
  clear E H hL40; intro m44 a w43 hI_
  obtain ⟨out16, sub19, A17, c18, E, H, hP⟩ := hI_
  obtain ⟨m38, rfl⟩ : ∃ q_, m44 = q_ + 1 := by cases m44 with | zero => rw [board_Moves_l0] at hP; cases hP | succ q_ => exact ⟨q_, rfl⟩
  rw [board_Moves_l0] at hP
  refine wp_seq ?_
  refine wp_block ?_
  refine wp_seq ?_
  refine wp_region_lit ?_
  refine vr tbok 2 [] [(0, .int .u8 mask), (4, .int .u8 sub19), (10, .slice A17 (List.length out16) c18), (11, .int .u8 sub19)] [] E (by kernel_rfl) trivial ?_
  clear E; intro a E
  refine h_buildSlice (ps := [(0, .int .u8 sub19)]) (cs := [.int .u8 sub19]) H E rfl rfl tbok rfl rfl (by kernel_rfl) ?_
  intro w47 g46 a hc48 hg50 H_ E_
  replace E := E_ _ rfl; clear E_
  replace H := H_; clear H_; try dsimp only [setn, addE, goneL] at H
  obtain ⟨g51, hP⟩ := ask_inv hP
  refine h_append (cInt .u8) (xs := out16) (ys := ([sub19] : List Int)) (0 : Int) H 0 rfl E rfl rfl tbok rfl rfl rfl rfl rfl (fun _ _ => rfl) rfl rfl (fun _ HF_ => HF_.srcB 1 rfl (⟨_, _, rfl, rfl, rfl⟩)) g51 ?_
  intro w52 A53 c54 a hc55 hA56 H_ E_
  replace E := E_ _ rfl; clear E_
  replace H := H_; clear H_; try dsimp only [setn, addE, goneL] at H
  refine vr tbok 1 [] [(0, .int .u8 mask), (3, .slice A53 (List.length (out16 ++ ([sub19] : List Int))) c54), (4, .int .u8 sub19)] [] E (by kernel_rfl) trivial ?_
  clear E; intro a E
  refine wpList_nil ?_
  refine th_n ?_
  refine wp_seq ?_
  refine wp_region_lit ?_
  refine vr tbok 2 [] [(0, .int .u8 mask), (3, .slice A53 (List.length (out16 ++ ([sub19] : List Int))) c54), (4, .int .u8 sub19), (15, .bool ((sub19 : Int) == 0))] [] E (by kernel_rfl) trivial ?_
  clear E; intro a E
  refine wpList_nil ?_
  refine th_n ?_
  refine E.cases (t := 15) rfl (fun hb_ E_ => ?_) (fun hb_ E_ => ?_)
  ·
   replace E := E_; clear E_
   have h57 : (sub19 : Int) = 0 := eq_of_beq hb_
   clear hb_; replace hP := ite_t h57 hP
   refine c_true E rfl ?_
   refine wp_exit ?_
   refine bl_miss rfl ?_
   refine th_exit ?_
   have hx_ := Option.some.inj hP
   refine th_exit (.inl ⟨0, rfl, ?_⟩)
   exact ⟨rfl, out16 ++ ([sub19] : List Int), A53, c54, E.pick _ ⟨rfl, trivial⟩, H.sel [0] rfl, hx_.symm⟩
  replace E := E_; clear E_
  have h58 : ¬ ((sub19 : Int) = 0) := ne_of_beq_false hb_
  clear hb_; replace hP := ite_f h58 hP
  refine c_false E rfl ?_
  refine wp_skip ?_
  refine bl_n ?_
  refine th_n ?_
  refine wp_region_lit ?_
  refine vr tbok 5 [.int .u8 (IntKind.u8.wrap (sub19 - 1)), .int .u8 (andV .u8 (IntKind.u8.wrap (sub19 - 1)) mask)] [(0, .int .u8 mask), (3, .slice A53 (List.length (out16 ++ ([sub19] : List Int))) c54), (4, .int .u8 (andV .u8 (IntKind.u8.wrap (sub19 - 1)) mask))] [IntKind.u8.wrap (sub19 - 1) = IntKind.u8.wrap (sub19 - 1), IntKind.u8.wrap (BitVec.ofInt (IntKind.bits .u8) (IntKind.u8.wrap (sub19 - 1)) &&& BitVec.ofInt (IntKind.bits .u8) mask).toNat = andV .u8 (IntKind.u8.wrap (sub19 - 1)) mask] E (by kernel_rfl) ⟨rfl, rfl⟩ ?_
  clear E; intro a E
  refine wpList_nil ?_
  exact th_n ⟨m38, Nat.lt_succ_self _, out16 ++ ([sub19] : List Int), andV .u8 (IntKind.u8.wrap (sub19 - 1)) mask, A53, c54, E.pick _ ⟨rfl, rfl, rfl, trivial⟩, H.sel [0] rfl, hP⟩
 clear E H hL40; intro i_ a w43 hM_
 obtain ⟨rfl, x45, A36, c37, E, H, hx_⟩ := hM_
 subst hx_; have hP := hK41; clear hK41
 refine bl_hit ?_
 refine th_n ?_
 refine wp_seq ?_
 refine wp_region_lit ?_
 refine vr tbok 1 [] [(3, .slice A36 (List.length x39) c37), (16, .slice A36 (List.length x39) c37)] [] E (by kernel_rfl) trivial ?_
 clear E; intro a E
 obtain ⟨r59, h60, hP⟩ := bind_inv hP
 obtain ⟨Fa61, Hc62, hb63⟩ := H.call [0] [] rfl rfl ⟨flat_plain, trivial⟩
 refine e_call E rfl rfl Try.func93 rfl rfl rfl (slices_Reverse_api_Letter_api_Letter_calls A36 c37 x39  Hc62 h60) ?_
 rintro v64 w65 a ⟨rfl, hl68, HR66⟩ E_
 replace E := E_ _ rfl; clear E_
 obtain ⟨H_, hc67⟩ := hb63 _ _ HR66 rfl
 replace H := H_; clear H_; try dsimp only [setn, addE, goneL] at H
 have hn70 : (List.length x39) = (List.length (r59)) := hl68.symm
 replace E := E.same (t := 3) (u := .slice A36 (List.length (r59)) c37) rfl (congrArg (fun n_ => Value.slice A36 n_ c37) hn70)
 replace E := E.same (t := 16) (u := .slice A36 (List.length (r59)) c37) rfl (congrArg (fun n_ => Value.slice A36 n_ c37) hn70)
 refine wpList_nil ?_
 refine th_n ?_
 refine wp_seq ?_
 refine wp_region_lit ?_
 refine vr tbok 2 [] [(2, .slice A36 (List.length (r59)) c37)] [] E (by kernel_rfl) trivial ?_
 clear E; intro a E
 refine wpList_nil ?_
 refine th_n ?_
 refine wp_ret ?_
 obtain rfl := Option.some.inj hP
 refine ret1 E rfl rfl ?_
 exact ⟨_, rfl, A36, c37, rfl, H.sel [1] rfl⟩

/-! rejoinder/guard.Go -/
def guard_Go_l0 (N : Nat) (nodes : List Nd) (ll : Int) : Nat → Int → Int → Option (Unit ⊕ (Int × Bool))
  | 0, _, _ => none
  | m55 + 1, ref27, x28 =>
    if x28 < 9 then
      if ref27 < 0 then
        ask (in64 ((-1) - ref27)) <|
        some (Sum.inr ((-1) - ref27, true))
      else
        if (((List.length nodes) : Nat) : Int) ≤ ref27 then
          some (Sum.inr (0, false))
        else
          ask (idx ref27 (List.length nodes)) <|
          if ((List.getD nodes (Int.toNat ref27) (default : Nd)).P) < 0 then
            some (Sum.inr (0, false))
          else
            if 8 ≤ ((List.getD nodes (Int.toNat ref27) (default : Nd)).P) then
              some (Sum.inr (0, false))
            else
              ask (0 ≤ ((List.getD nodes (Int.toNat ref27) (default : Nd)).P)) <|
              if (andV .u8 (shrV .u8 ll ((List.getD nodes (Int.toNat ref27) (default : Nd)).P)) 1 : Int) = 1 then
                ask (in64 (x28 + 1)) <|
                guard_Go_l0 N nodes ll m55 ((List.getD nodes (Int.toNat ref27) (default : Nd)).Hi) (x28 + 1)
              else
                ask (in64 (x28 + 1)) <|
                guard_Go_l0 N nodes ll m55 ((List.getD nodes (Int.toNat ref27) (default : Nd)).Lo) (x28 + 1)
    else
      some (Sum.inl ())
def guard_Go (N : Nat) (nodes : List Nd) (ref : Int) (ll : Int) : Option (Int × Bool) :=
  Option.bind (guard_Go_l0 N nodes ll N ref 0) fun x56 =>
  Sum.elim (fun x61 =>
    some (0, false))
   (fun x88 =>
    some x88) x56
set_option maxRecDepth 100000 in
set_option maxHeartbeats 4000000 in
theorem guard_Go_calls {N : Nat} {S Fa : Nat → Prop} {w0 : World} {r : Int × Bool} (A1 : Option Addr) (c2 : Nat) (nodes : List Nd) (ref : Int) (ll : Int) (hk3 : List.length nodes ≤ c2) (H : Hp S Fa w0 w0 [.ro false cNode A1 nodes]) (hP : guard_Go N nodes ref ll = some r) :
    Calls Try.prog 62 #[.slice A1 (List.length nodes) c2, .int .i64 ref, .int .u8 ll] w0 fun e w' => ∃ v, e = .returned v ∧ v = .tuple #[.int .i64 r.1, .bool r.2] ∧ Hp S Fa w0 w' [] := by
 refine enterV (n := 50) Try.func62 rfl rfl rfl ?_
 intro a E
 replace E := E.pick [(0, .slice A1 (List.length nodes) c2), (1, .int .i64 ref), (2, .int .u8 ll)] ⟨rfl, rfl, rfl, trivial⟩
 rw [guard_Go] at hP
 refine wp_seq ?_
 refine wp_region_lit ?_
 refine vr tbok 2 [] [(0, .slice A1 (List.length nodes) c2), (1, .int .i64 ref), (2, .int .u8 ll)] [] E (by kernel_rfl) trivial ?_
 clear E; intro a E
 refine wpList_nil ?_
 refine th_n ?_
 refine wp_seq ?_
 refine wp_seq ?_
 refine wp_region_lit ?_
 refine vr tbok 1 [] [(0, .slice A1 (List.length nodes) c2), (1, .int .i64 ref), (2, .int .u8 ll), (9, .int .i64 0)] [] E (by kernel_rfl) trivial ?_
 clear E; intro a E
 refine wpList_nil ?_
 refine th_n ?_
 refine wp_block ?_
 obtain ⟨x56, hL57, hK58⟩ := bind_inv hP
 clear hP
 refine loop_cut (fun i_ a w_ => (i_ = 0 ∧ ∃ (x61 : Unit), Fr a 50 [] ∧ Hp S Fa w0 w_ [] ∧ x56 = Sum.inl x61)) ?_ ?_
 ·
  refine loopV (fun m60 a w59 => ∃ (ref27 : Int) (x28 : Int), Fr a 50 [(0, .slice A1 (List.length nodes) c2), (1, .int .i64 ref27), (2, .int .u8 ll), (9, .int .i64 x28)] ∧ Hp S Fa w0 w59 [.ro false cNode A1 nodes] ∧ guard_Go_l0 N nodes ll m60 ref27 x28 = some x56) N ?_ ?_
  ·
   exact ⟨ref, 0, E.pick _ ⟨rfl, rfl, rfl, rfl, trivial⟩, H.sel [0] rfl, hL57⟩
  clear E H hL57; intro m60 a w59 hI_
  obtain ⟨ref27, x28, E, H, hP⟩ := hI_
  obtain ⟨m55, rfl⟩ : ∃ q_, m60 = q_ + 1 := by cases m60 with | zero => rw [guard_Go_l0] at hP; cases hP | succ q_ => exact ⟨q_, rfl⟩
  rw [guard_Go_l0] at hP
  refine wp_seq ?_
  refine wp_region_lit ?_
  refine vr tbok 1 [] [(0, .slice A1 (List.length nodes) c2), (1, .int .i64 ref27), (2, .int .u8 ll), (9, .int .i64 x28), (10, .bool (decide (x28 < 9)))] [] E (by kernel_rfl) trivial ?_
  clear E; intro a E
  refine wpList_nil ?_
  refine th_n ?_
  refine wp_seq ?_
  refine E.cases (t := 10) rfl (fun hb_ E_ => ?_) (fun hb_ E_ => ?_)
  ·
   replace E := E_; clear E_
   have h62 : x28 < 9 := of_decide_eq_true hb_
   clear hb_; replace hP := ite_t h62 hP
   refine c_true E rfl ?_
   refine wp_skip ?_
   refine th_n ?_
   refine wp_seq ?_
   refine wp_block ?_
   refine wp_seq ?_
   refine wp_seq ?_
   refine wp_region_lit ?_
   refine vr tbok 2 [] [(0, .slice A1 (List.length nodes) c2), (1, .int .i64 ref27), (2, .int .u8 ll), (9, .int .i64 x28), (12, .bool (decide (ref27 < 0)))] [] E (by kernel_rfl) trivial ?_
   clear E; intro a E
   refine wpList_nil ?_
   refine th_n ?_
   refine E.cases (t := 12) rfl (fun hb_ E_ => ?_) (fun hb_ E_ => ?_)
   ·
    replace E := E_; clear E_
    have h63 : ref27 < 0 := of_decide_eq_true hb_
    clear hb_; replace hP := ite_t h63 hP
    refine c_true E rfl ?_
    refine wp_seq ?_
    refine wp_region_lit ?_
    obtain ⟨g64, hP⟩ := ask_inv hP
    refine vr tbok 4 [.int .i64 ((-1) - ref27)] [(6, .int .i64 ((-1) - ref27)), (7, .bool true)] [IntKind.i64.wrap ((-1) - ref27) = (-1) - ref27] E (by kernel_rfl) (wrap_in g64) ?_
    clear E; intro a E
    refine wpList_nil ?_
    refine th_n ?_
    refine wp_ret ?_
    refine th_ret ?_
    refine bl_ret ?_
    refine th_ret ?_
    refine th_ret ?_
    refine .inr ⟨rfl, ?_⟩
    refine bl_ret ?_
    refine th_ret ?_
    have hx_ := Option.some.inj hP; subst hx_
    have hP : some (((-1) - ref27, true)) = some r := hK58
    obtain rfl := Option.some.inj hP
    refine ret2 E rfl rfl rfl ?_
    exact ⟨_, rfl, rfl, H.sel [] rfl⟩
   replace E := E_; clear E_
   have h65 : ¬ (ref27 < 0) := of_decide_eq_false hb_
   clear hb_; replace hP := ite_f h65 hP
   refine c_false E rfl ?_
   refine wp_skip ?_
   refine th_n ?_
   refine wp_seq ?_
   refine wp_seq ?_
   refine wp_region_lit ?_
   refine vr tbok 5 [] [(0, .slice A1 (List.length nodes) c2), (1, .int .i64 ref27), (2, .int .u8 ll), (9, .int .i64 x28), (19, .bool (decide ((((List.length nodes) : Nat) : Int) ≤ ref27)))] [] E (by kernel_rfl) trivial ?_
   clear E; intro a E
   refine E.cases (t := 19) rfl (fun hb_ E_ => ?_) (fun hb_ E_ => ?_)
   ·
    replace E := E_; clear E_
    have h66 : (((List.length nodes) : Nat) : Int) ≤ ref27 := of_decide_eq_true hb_
    clear hb_; replace hP := ite_t h66 hP
    refine vr tbok 15 [] [(0, .slice A1 (List.length nodes) c2), (1, .int .i64 ref27), (2, .int .u8 ll), (9, .int .i64 x28), (34, .bool true)] [] E (by kernel_rfl) trivial ?_
    clear E; intro a E
    refine wpList_nil ?_
    refine th_n ?_
    refine c_true E rfl ?_
    refine wp_seq ?_
    refine wp_region_lit ?_
    refine vr tbok 2 [] [(6, .int .i64 0), (7, .bool false)] [] E (by kernel_rfl) trivial ?_
    clear E; intro a E
    refine wpList_nil ?_
    refine th_n ?_
    refine wp_ret ?_
    refine th_ret ?_
    refine bl_ret ?_
    refine th_ret ?_
    refine th_ret ?_
    refine .inr ⟨rfl, ?_⟩
    refine bl_ret ?_
    refine th_ret ?_
    have hx_ := Option.some.inj hP; subst hx_
    have hP : some ((0, false)) = some r := hK58
    obtain rfl := Option.some.inj hP
    refine ret2 E rfl rfl rfl ?_
    exact ⟨_, rfl, rfl, H.sel [] rfl⟩
   replace E := E_; clear E_
   have h67 : ¬ ((((List.length nodes) : Nat) : Int) ≤ ref27) := of_decide_eq_false hb_
   clear hb_; replace hP := ite_f h67 hP
   obtain ⟨g68, hP⟩ := ask_inv hP
   obtain ⟨b69, o70, e_b69⟩ := (H.rd 0 rds_ro).addr (idx_pos g68)
   subst e_b69
   refine vr tbok 8 [.int .i64 ((List.getD nodes (Int.toNat ref27) (default : Nd)).P)] [(0, .slice (some ⟨b69, o70, none⟩) (List.length nodes) c2), (1, .int .i64 ref27), (2, .int .u8 ll), (9, .int .i64 x28), (27, .bool (decide (((List.getD nodes (Int.toNat ref27) (default : Nd)).P) < 0)))] [0 ≤ ref27 ∧ ref27 < (((List.length nodes) : Nat) : Int), World.cell? w59 ⟨b69, o70 + (Int.toNat ref27) * 3, none⟩ = some (.int .i64 ((List.getD nodes (Int.toNat ref27) (default : Nd)).P))] E (by kernel_rfl) ⟨g68, (Rds.atP (H.rd 0 rds_ro) (default : Nd) g68).1⟩ ?_
   clear E; intro a E
   refine E.cases (t := 27) rfl (fun hb_ E_ => ?_) (fun hb_ E_ => ?_)
   ·
    replace E := E_; clear E_
    have h71 : ((List.getD nodes (Int.toNat ref27) (default : Nd)).P) < 0 := of_decide_eq_true hb_
    clear hb_; replace hP := ite_t h71 hP
    refine vr tbok 7 [] [(0, .slice (some ⟨b69, o70, none⟩) (List.length nodes) c2), (1, .int .i64 ref27), (2, .int .u8 ll), (9, .int .i64 x28), (34, .bool true)] [] E (by kernel_rfl) trivial ?_
    clear E; intro a E
    refine wpList_nil ?_
    refine th_n ?_
    refine c_true E rfl ?_
    refine wp_seq ?_
    refine wp_region_lit ?_
    refine vr tbok 2 [] [(6, .int .i64 0), (7, .bool false)] [] E (by kernel_rfl) trivial ?_
    clear E; intro a E
    refine wpList_nil ?_
    refine th_n ?_
    refine wp_ret ?_
    refine th_ret ?_
    refine bl_ret ?_
    refine th_ret ?_
    refine th_ret ?_
    refine .inr ⟨rfl, ?_⟩
    refine bl_ret ?_
    refine th_ret ?_
    have hx_ := Option.some.inj hP; subst hx_
    have hP : some ((0, false)) = some r := hK58
    obtain rfl := Option.some.inj hP
    refine ret2 E rfl rfl rfl ?_
    exact ⟨_, rfl, rfl, H.sel [] rfl⟩
   replace E := E_; clear E_
   have h72 : ¬ (((List.getD nodes (Int.toNat ref27) (default : Nd)).P) < 0) := of_decide_eq_false hb_
   clear hb_; replace hP := ite_f h72 hP
   refine vr tbok 7 [.int .i64 ((List.getD nodes (Int.toNat ref27) (default : Nd)).P)] [(0, .slice (some ⟨b69, o70, none⟩) (List.length nodes) c2), (1, .int .i64 ref27), (2, .int .u8 ll), (9, .int .i64 x28), (34, .bool (decide (8 ≤ ((List.getD nodes (Int.toNat ref27) (default : Nd)).P))))] [0 ≤ ref27 ∧ ref27 < (((List.length nodes) : Nat) : Int), World.cell? w59 ⟨b69, o70 + (Int.toNat ref27) * 3, none⟩ = some (.int .i64 ((List.getD nodes (Int.toNat ref27) (default : Nd)).P))] E (by kernel_rfl) ⟨g68, (Rds.atP (H.rd 0 rds_ro) (default : Nd) g68).1⟩ ?_
   clear E; intro a E
   refine wpList_nil ?_
   refine th_n ?_
   refine E.cases (t := 34) rfl (fun hb_ E_ => ?_) (fun hb_ E_ => ?_)
   ·
    replace E := E_; clear E_
    have h73 : 8 ≤ ((List.getD nodes (Int.toNat ref27) (default : Nd)).P) := of_decide_eq_true hb_
    clear hb_; replace hP := ite_t h73 hP
    refine c_true E rfl ?_
    refine wp_seq ?_
    refine wp_region_lit ?_
    refine vr tbok 2 [] [(6, .int .i64 0), (7, .bool false)] [] E (by kernel_rfl) trivial ?_
    clear E; intro a E
    refine wpList_nil ?_
    refine th_n ?_
    refine wp_ret ?_
    refine th_ret ?_
    refine bl_ret ?_
    refine th_ret ?_
    refine th_ret ?_
    refine .inr ⟨rfl, ?_⟩
    refine bl_ret ?_
    refine th_ret ?_
    have hx_ := Option.some.inj hP; subst hx_
    have hP : some ((0, false)) = some r := hK58
    obtain rfl := Option.some.inj hP
    refine ret2 E rfl rfl rfl ?_
    exact ⟨_, rfl, rfl, H.sel [] rfl⟩
   replace E := E_; clear E_
   have h74 : ¬ (8 ≤ ((List.getD nodes (Int.toNat ref27) (default : Nd)).P)) := of_decide_eq_false hb_
   clear hb_; replace hP := ite_f h74 hP
   refine c_false E rfl ?_
   refine wp_skip ?_
   refine th_n ?_
   refine wp_seq ?_
   refine wp_region_lit ?_
   refine vr tbok 4 [.agg #[.int .i64 ((List.getD nodes (Int.toNat ref27) (default : Nd)).P), .int .i64 ((List.getD nodes (Int.toNat ref27) (default : Nd)).Lo), .int .i64 ((List.getD nodes (Int.toNat ref27) (default : Nd)).Hi)]] [(0, .slice (some ⟨b69, o70, none⟩) (List.length nodes) c2), (2, .int .u8 ll), (9, .int .i64 x28), (38, .agg #[.int .i64 ((List.getD nodes (Int.toNat ref27) (default : Nd)).P), .int .i64 ((List.getD nodes (Int.toNat ref27) (default : Nd)).Lo), .int .i64 ((List.getD nodes (Int.toNat ref27) (default : Nd)).Hi)])] [0 ≤ ref27 ∧ ref27 < (((List.length nodes) : Nat) : Int), cellsAt w59 b69 (o70 + (Int.toNat ref27) * 3) [.int .i64 ((List.getD nodes (Int.toNat ref27) (default : Nd)).P), .int .i64 ((List.getD nodes (Int.toNat ref27) (default : Nd)).Lo), .int .i64 ((List.getD nodes (Int.toNat ref27) (default : Nd)).Hi)]] E (by kernel_rfl) ⟨g68, Rds.atP (H.rd 0 rds_ro) (default : Nd) g68⟩ ?_
   clear E; intro a E
   refine h_alloc H E rfl rfl tbok rfl ?_
   intro w76 g75 a hc77 hg79 H_ E_
   replace E := E_ _ rfl; clear E_
   replace H := H_; clear H_; try dsimp only [setn, addE, goneL] at H
   refine h_store (g := g75) (off := 0) H 1 rfl E rfl rfl rfl rfl tbok rfl rfl rfl rfl rfl ?_
   clear E; intro w80 a hc81 H_ E
   replace H := H_; clear H_; try dsimp only [setn, addE, goneL] at H
   refine wpList_nil ?_
   refine th_n ?_
   refine wp_seq ?_
   refine wp_region_lit ?_
   refine vr tbok 3 [.int .i64 ((List.getD nodes (Int.toNat ref27) (default : Nd)).Lo)] [(0, .slice (some ⟨b69, o70, none⟩) (List.length nodes) c2), (1, .int .i64 ((List.getD nodes (Int.toNat ref27) (default : Nd)).Lo)), (2, .int .u8 ll), (8, .pointer (some ⟨g75, 0, none⟩)), (9, .int .i64 x28)] [World.cell? w80 ⟨g75, 1, none⟩ = some (.int .i64 ((List.getD nodes (Int.toNat ref27) (default : Nd)).Lo))] E (by kernel_rfl) ((H.box 1 rfl).cell (j := 1) rfl) ?_
   clear E; intro a E
   refine wpList_nil ?_
   refine th_n ?_
   refine wp_seq ?_
   refine wp_region_lit ?_
   obtain ⟨g82, hP⟩ := ask_inv hP
   refine vr tbok 6 [.int .i64 ((List.getD nodes (Int.toNat ref27) (default : Nd)).P), .int .u8 (shrV .u8 ll ((List.getD nodes (Int.toNat ref27) (default : Nd)).P)), .int .u8 (andV .u8 (shrV .u8 ll ((List.getD nodes (Int.toNat ref27) (default : Nd)).P)) 1)] [(0, .slice (some ⟨b69, o70, none⟩) (List.length nodes) c2), (1, .int .i64 ((List.getD nodes (Int.toNat ref27) (default : Nd)).Lo)), (2, .int .u8 ll), (8, .pointer (some ⟨g75, 0, none⟩)), (9, .int .i64 x28), (46, .bool ((andV .u8 (shrV .u8 ll ((List.getD nodes (Int.toNat ref27) (default : Nd)).P)) 1 : Int) == 1))] [World.cell? w80 ⟨g75, 0, none⟩ = some (.int .i64 ((List.getD nodes (Int.toNat ref27) (default : Nd)).P)), 0 ≤ ((List.getD nodes (Int.toNat ref27) (default : Nd)).P) ∧ Int.fdiv ll (2 ^ (min (Int.toNat ((List.getD nodes (Int.toNat ref27) (default : Nd)).P)) (IntKind.bits .u8))) = shrV .u8 ll ((List.getD nodes (Int.toNat ref27) (default : Nd)).P), IntKind.u8.wrap (BitVec.ofInt (IntKind.bits .u8) (shrV .u8 ll ((List.getD nodes (Int.toNat ref27) (default : Nd)).P)) &&& BitVec.ofInt (IntKind.bits .u8) 1).toNat = andV .u8 (shrV .u8 ll ((List.getD nodes (Int.toNat ref27) (default : Nd)).P)) 1] E (by kernel_rfl) ⟨(H.box 1 rfl).cell (j := 0) rfl, ⟨g82, rfl⟩, rfl⟩ ?_
   clear E; intro a E
   refine wpList_nil ?_
   refine th_n ?_
   refine E.cases (t := 46) rfl (fun hb_ E_ => ?_) (fun hb_ E_ => ?_)
   ·
    replace E := E_; clear E_
    have h83 : (andV .u8 (shrV .u8 ll ((List.getD nodes (Int.toNat ref27) (default : Nd)).P)) 1 : Int) = 1 := eq_of_beq hb_
    clear hb_; replace hP := ite_t h83 hP
    refine c_true E rfl ?_
    refine wp_region_lit ?_
    refine vr tbok 3 [.int .i64 ((List.getD nodes (Int.toNat ref27) (default : Nd)).Hi)] [(0, .slice (some ⟨b69, o70, none⟩) (List.length nodes) c2), (1, .int .i64 ((List.getD nodes (Int.toNat ref27) (default : Nd)).Hi)), (2, .int .u8 ll), (9, .int .i64 x28)] [World.cell? w80 ⟨g75, 2, none⟩ = some (.int .i64 ((List.getD nodes (Int.toNat ref27) (default : Nd)).Hi))] E (by kernel_rfl) ((H.box 1 rfl).cell (j := 2) rfl) ?_
    clear E; intro a E
    refine wpList_nil ?_
    refine bl_n ?_
    refine th_n ?_
    refine wp_region_lit ?_
    obtain ⟨g84, hP⟩ := ask_inv hP
    refine vr tbok 2 [.int .i64 (x28 + 1)] [(0, .slice (some ⟨b69, o70, none⟩) (List.length nodes) c2), (1, .int .i64 ((List.getD nodes (Int.toNat ref27) (default : Nd)).Hi)), (2, .int .u8 ll), (9, .int .i64 (x28 + 1))] [IntKind.i64.wrap (x28 + 1) = x28 + 1] E (by kernel_rfl) (wrap_in g84) ?_
    clear E; intro a E
    refine wpList_nil ?_
    exact th_n ⟨m55, Nat.lt_succ_self _, (List.getD nodes (Int.toNat ref27) (default : Nd)).Hi, x28 + 1, E.pick _ ⟨rfl, rfl, rfl, rfl, trivial⟩, H.sel [0] rfl, hP⟩
   replace E := E_; clear E_
   have h85 : ¬ ((andV .u8 (shrV .u8 ll ((List.getD nodes (Int.toNat ref27) (default : Nd)).P)) 1 : Int) = 1) := ne_of_beq_false hb_
   clear hb_; replace hP := ite_f h85 hP
   refine c_false E rfl ?_
   refine wp_skip ?_
   refine bl_n ?_
   refine th_n ?_
   refine wp_region_lit ?_
   obtain ⟨g86, hP⟩ := ask_inv hP
   refine vr tbok 2 [.int .i64 (x28 + 1)] [(0, .slice (some ⟨b69, o70, none⟩) (List.length nodes) c2), (1, .int .i64 ((List.getD nodes (Int.toNat ref27) (default : Nd)).Lo)), (2, .int .u8 ll), (9, .int .i64 (x28 + 1))] [IntKind.i64.wrap (x28 + 1) = x28 + 1] E (by kernel_rfl) (wrap_in g86) ?_
   clear E; intro a E
   refine wpList_nil ?_
   exact th_n ⟨m55, Nat.lt_succ_self _, (List.getD nodes (Int.toNat ref27) (default : Nd)).Lo, x28 + 1, E.pick _ ⟨rfl, rfl, rfl, rfl, trivial⟩, H.sel [0] rfl, hP⟩
  replace E := E_; clear E_
  have h87 : ¬ (x28 < 9) := of_decide_eq_false hb_
  clear hb_; replace hP := ite_f h87 hP
  refine c_false E rfl ?_
  refine wp_exit ?_
  refine th_exit ?_
  have hx_ := Option.some.inj hP
  refine th_exit (.inl ⟨0, rfl, ?_⟩)
  exact ⟨rfl, (), E.pick _ trivial, H.sel [] rfl, hx_.symm⟩
 clear E H hL57; intro i_ a w59 hM_
 obtain ⟨rfl, x61, E, H, hx_⟩ := hM_
 subst hx_; have hP := elim_l hK58
 clear hK58
 refine bl_hit ?_
 refine th_n ?_
 refine wp_seq ?_
 refine wp_region_lit ?_
 refine vr tbok 2 [] [(6, .int .i64 0), (7, .bool false)] [] E (by kernel_rfl) trivial ?_
 clear E; intro a E
 refine wpList_nil ?_
 refine th_n ?_
 refine wp_ret ?_
 obtain rfl := Option.some.inj hP
 refine ret2 E rfl rfl rfl ?_
 exact ⟨_, rfl, rfl, H.sel [] rfl⟩

end Go.V
