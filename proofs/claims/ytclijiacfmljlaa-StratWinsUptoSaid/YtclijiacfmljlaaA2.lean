/- Plain functions, and the calls that give them. -/
import Derived.Test.YtclijiacfmljlaaA1
set_option linter.all false
set_option linter.unusedVariables false
set_option linter.unnecessarySimpa false
set_option linter.unusedSimpArgs false
namespace Go.V
open Go Go.Proofs
/-! slices.Reverse[[]rejoinder/api.Letter,rejoinder/api.Letter] -/
def slices_Reverse_api_Letter_api_Letter_l0 (N : Nat) : Nat → (List Int) → Int → Int → Option (List Int)
  | 0, _, _, _ => none
  | m45 + 1, s19, i23, j24 =>
    if i23 < j24 then
      ask (idx j24 (List.length s19)) <|
      ask (idx i23 (List.length s19)) <|
      ask (idx j24 (List.length (List.set s19 (Int.toNat i23) (List.getD s19 (Int.toNat j24) 0)))) <|
      ask (in64 (i23 + 1)) <|
      ask (in64 (j24 - 1)) <|
      slices_Reverse_api_Letter_api_Letter_l0 N m45 (List.set (List.set s19 (Int.toNat i23) (List.getD s19 (Int.toNat j24) 0)) (Int.toNat j24) (List.getD s19 (Int.toNat i23) 0)) (i23 + 1) (j24 - 1)
    else
      some s19
def slices_Reverse_api_Letter_api_Letter (N : Nat) (s : List Int) : Option (List Int) :=
  ask (in64 ((((List.length s) : Nat) : Int) - 1)) <|
  Option.bind (slices_Reverse_api_Letter_api_Letter_l0 N N s 0 ((((List.length s) : Nat) : Int) - 1)) fun x46 =>
  some x46
set_option maxRecDepth 100000 in
set_option maxHeartbeats 4000000 in
theorem slices_Reverse_api_Letter_api_Letter_calls {N : Nat} {S Fa : Nat → Prop} {w0 : World} {r : List Int} (A1 : Option Addr) (c2 : Nat) (s : List Int) (H : Hp S Fa w0 w0 [.row true (cInt .u8) 27 A1 c2 s]) (hP : slices_Reverse_api_Letter_api_Letter N s = some r) :
    Calls Try.prog 58 #[.slice A1 (List.length s) c2] w0 fun e w' => ∃ v, e = .returned v ∧ v = .tuple #[] ∧ List.length r = List.length s ∧ Hp S Fa w0 w' [.row true (cInt .u8) 27 A1 c2 r] := by
 refine enterV (n := 28) Try.func58 rfl rfl rfl ?_
 intro a E
 replace E := E.pick [(0, .slice A1 (List.length s) c2)] ⟨rfl, trivial⟩
 rw [slices_Reverse_api_Letter_api_Letter] at hP
 refine wp_seq ?_
 refine wp_region_lit ?_
 obtain ⟨g4, hP⟩ := ask_inv hP
 refine vn tbok 5 [.int .i64 ((((List.length s) : Nat) : Int) - 1)] [(2, .int .i64 0), (3, .int .i64 ((((List.length s) : Nat) : Int) - 1))] [IntKind.i64.wrap ((((List.length s) : Nat) : Int) - 1) = (((List.length s) : Nat) : Int) - 1] E (by kernel_rfl) (by kernel_rfl) (wrap_in g4) ?_
 clear E; intro a E
 refine wpList_nil ?_
 refine th_n ?_
 refine wp_block ?_
 obtain ⟨x46, hL47, hK48⟩ := bind_inv hP
 clear hP
 refine loop_cut (fun i_ a w_ => (i_ = 0 ∧ ∃ (x51 : List Int), Fr a 28 [] ∧ Hp S Fa w0 w_ [.row true (cInt .u8) 27 A1 c2 x51] ∧ List.length x51 = List.length s ∧ x46 = x51)) ?_ ?_
 ·
  refine loopV (fun m50 a w49 => ∃ (s19 : List Int) (i23 : Int) (j24 : Int), Fr a 28 [(0, .slice A1 (List.length s19) c2), (2, .int .i64 i23), (3, .int .i64 j24)] ∧ Hp S Fa w0 w49 [.row true (cInt .u8) 27 A1 c2 s19] ∧ List.length s19 = List.length s ∧ slices_Reverse_api_Letter_api_Letter_l0 N m50 s19 i23 j24 = some x46) N ?_ ?_
  ·
   exact ⟨s, 0, (((List.length s) : Nat) : Int) - 1, E.pick _ ⟨rfl, rfl, rfl, trivial⟩, H.sel [0] rfl, rfl, hL47⟩
  clear E H hL47; intro m50 a w49 hI_
  obtain ⟨s19, i23, j24, E, H, hl22, hP⟩ := hI_
  obtain ⟨m45, rfl⟩ : ∃ q_, m50 = q_ + 1 := by cases m50 with | zero => rw [slices_Reverse_api_Letter_api_Letter_l0] at hP; cases hP | succ q_ => exact ⟨q_, rfl⟩
  rw [slices_Reverse_api_Letter_api_Letter_l0] at hP
  refine wp_seq ?_
  refine wp_seq ?_
  refine wp_region_lit ?_
  refine vn tbok 3 [] [(9, .bool (decide (i23 < j24)))] [] E (by kernel_rfl) (by kernel_rfl) trivial ?_
  clear E; intro a E
  refine wpList_nil ?_
  refine th_n ?_
  refine E.cases (t := 9) rfl (fun hb_ E_ => ?_) (fun hb_ E_ => ?_)
  ·
   replace E := E_; clear E_
   have h52 : i23 < j24 := of_decide_eq_true hb_
   clear hb_; replace hP := ite_t h52 hP
   refine c_true E rfl ?_
   refine wp_skip ?_
   refine th_n ?_
   refine wp_seq ?_
   refine wp_block ?_
   obtain ⟨g53, hP⟩ := ask_inv hP
   obtain ⟨b54, e_b54⟩ := H.raddr 0 rfl (idx_pos g53)
   subst e_b54
   obtain ⟨g56, hP⟩ := ask_inv hP
   obtain ⟨g60, hP⟩ := ask_inv hP
   refine meet_cut (fun a w64 => Fr a 28 [(0, .slice (some ⟨b54, 0, none⟩) (List.length (List.set (List.set s19 (Int.toNat i23) (List.getD s19 (Int.toNat j24) 0)) (Int.toNat j24) (List.getD s19 (Int.toNat i23) 0))) c2), (2, .int .i64 i23), (3, .int .i64 j24)] ∧ Hp S Fa w0 w64 [.row true (cInt .u8) 27 (some ⟨b54, 0, none⟩) c2 (List.set (List.set s19 (Int.toNat i23) (List.getD s19 (Int.toNat j24) 0)) (Int.toNat j24) (List.getD s19 (Int.toNat i23) 0))]) ?_ ?_
   ·
    have HR68 := H
    refine dr_start (S := fun w_ => Chg (atL [.row true (cInt .u8) 27 (some ⟨b54, 0, none⟩) c2 s19]) w49 w_) (by kernel_rfl) ?_
    intro w65 hc66
    have HS67 : Chg (atL [.row true (cInt .u8) 27 (some ⟨b54, 0, none⟩) c2 s19]) w49 w65 := hc66.mono (fun _ _ h_ => h_.elim)
    replace H := H.ext hc66
    refine dn tbok (by kernel_rfl) [0, 1, 2, 3, 4, 5, 8, 9] [] [(14, .slice (some ⟨b54, 0, none⟩) (List.length s19) c2), (15, .int .i64 i23), (16, .slice (some ⟨b54, 0, none⟩) (List.length s19) c2), (17, .int .i64 j24), (18, .slice (some ⟨b54, 0, none⟩) (List.length s19) c2), (19, .int .i64 j24), (22, .slice (some ⟨b54, 0, none⟩) (List.length s19) c2), (23, .int .i64 i23)] (fun w_ => []) 8 E (fun _ _ => by kernel_rfl) (by kernel_rfl) (fun w_ hS_ => trivial) (by kernel_rfl) HS67 ?_
    clear E; intro a E
    refine wpAnyH_all (rs := [6, 10]) (by kernel_rfl) (by simp) ?_
    refine all2 ?_ ?_
    ·
     refine wpOp_of_list rfl ?_
     refine vn tbok 1 [] [(20, .pointer (some ⟨b54, 0 + (Int.toNat j24) * 1, none⟩))] [0 ≤ j24 ∧ j24 < (((List.length s19) : Nat) : Int)] E (by kernel_rfl) (by kernel_rfl) (g53) ?_
     clear E; intro a E
     refine wpList_nil ?_
     refine th_n ⟨HS67, ?_⟩
     refine wpAnyH_all (rs := [7, 10]) (by kernel_rfl) (by simp) ?_
     refine all2 ?_ ?_
     ·
      refine wpOp_of_list rfl ?_
      refine vn tbok 1 [.int .u8 (List.getD s19 (Int.toNat j24) 0)] [(21, .int .u8 (List.getD s19 (Int.toNat j24) 0))] [World.cell? w65 ⟨b54, 0 + (Int.toNat j24) * 1, none⟩ = some (.int .u8 (List.getD s19 (Int.toNat j24) 0))] E (by kernel_rfl) (by kernel_rfl) (Rds.at1 (H.rd 0 rds_row) 0 g53) ?_
      clear E; intro a E
      refine wpList_nil ?_
      refine th_n ⟨HS67, ?_⟩
      refine wpAnyH_all (rs := [10]) (by kernel_rfl) (by simp) ?_
      refine all1 ?_
      refine wpOp_of_list rfl ?_
      refine vn tbok 1 [] [(24, .pointer (some ⟨b54, 0 + (Int.toNat i23) * 1, none⟩))] [0 ≤ i23 ∧ i23 < (((List.length s19) : Nat) : Int)] E (by kernel_rfl) (by kernel_rfl) (g56) ?_
      clear E; intro a E
      refine wpList_nil ?_
      refine th_n ⟨HS67, ?_⟩
      refine wpAnyH_all (rs := [11]) (by kernel_rfl) (by simp) ?_
      refine all1 ?_
      refine wpOp_of_list rfl ?_
      refine vn tbok 1 [.int .u8 (List.getD s19 (Int.toNat i23) 0)] [(25, .int .u8 (List.getD s19 (Int.toNat i23) 0))] [World.cell? w65 ⟨b54, 0 + (Int.toNat i23) * 1, none⟩ = some (.int .u8 (List.getD s19 (Int.toNat i23) 0))] E (by kernel_rfl) (by kernel_rfl) (Rds.at1 (H.rd 0 rds_row) 0 g56) ?_
      clear E; intro a E
      refine wpList_nil ?_
      refine th_n ⟨HS67, ?_⟩
      refine wpAnyH_all (rs := [12]) (by kernel_rfl) (by simp) ?_
      refine all1 ?_
      refine wpOp_of_list rfl ?_
      refine vn tbok 1 [] [(26, .pointer (some ⟨b54, 0 + (Int.toNat i23) * 1, none⟩))] [0 ≤ i23 ∧ i23 < (((List.length s19) : Nat) : Int)] E (by kernel_rfl) (by kernel_rfl) (g56) ?_
      clear E; intro a E
      refine wpList_nil ?_
      refine th_n ⟨HS67, ?_⟩
      refine wpAnyH_all (rs := [13]) (by kernel_rfl) (by simp) ?_
      refine all1 ?_
      refine wpOp_of_list rfl ?_
      refine h_set (g := b54) (i := i23) (List.getD s19 (Int.toNat j24) 0) H 0 rfl E rfl rfl rfl rfl tbok rfl (fun _ HF_ => rfl) rfl g56 rfl ?_
      clear E; intro w69 a hc70 H_ E
      replace HS67 := HS67.trans hc70 (fun k_ hk_ h_ => (fun _ _ h_ => Or.inl h_) k_ hk_ h_)
      replace H := H_; clear H_; try dsimp only [setn, addE, goneL] at H
      have hn71 : (List.length s19) = (List.length (List.set s19 (Int.toNat i23) (List.getD s19 (Int.toNat j24) 0))) := by simp only [List.length_set]
      replace E := E.same (t := 0) (u := .slice (some ⟨b54, 0, none⟩) (List.length (List.set s19 (Int.toNat i23) (List.getD s19 (Int.toNat j24) 0))) c2) rfl (congrArg (fun n_ => Value.slice (some ⟨b54, 0, none⟩) n_ c2) hn71)
      replace E := E.same (t := 14) (u := .slice (some ⟨b54, 0, none⟩) (List.length (List.set s19 (Int.toNat i23) (List.getD s19 (Int.toNat j24) 0))) c2) rfl (congrArg (fun n_ => Value.slice (some ⟨b54, 0, none⟩) n_ c2) hn71)
      replace E := E.same (t := 16) (u := .slice (some ⟨b54, 0, none⟩) (List.length (List.set s19 (Int.toNat i23) (List.getD s19 (Int.toNat j24) 0))) c2) rfl (congrArg (fun n_ => Value.slice (some ⟨b54, 0, none⟩) n_ c2) hn71)
      refine wpList_nil ?_
      refine th_n ⟨HS67, ?_⟩
      refine wpAnyH_all (rs := [14]) (by kernel_rfl) (by simp) ?_
      refine all1 ?_
      refine wpOp_of_list rfl ?_
      refine vn tbok 1 [] [(27, .pointer (some ⟨b54, 0 + (Int.toNat j24) * 1, none⟩))] [0 ≤ j24 ∧ j24 < (((List.length (List.set s19 (Int.toNat i23) (List.getD s19 (Int.toNat j24) 0))) : Nat) : Int)] E (by kernel_rfl) (by kernel_rfl) (g60) ?_
      clear E; intro a E
      refine wpList_nil ?_
      refine th_n ⟨HS67, ?_⟩
      refine wpAnyH_all (rs := [15]) (by kernel_rfl) (by simp) ?_
      refine all1 ?_
      refine wpOp_of_list rfl ?_
      refine h_set (g := b54) (i := j24) (List.getD s19 (Int.toNat i23) 0) H 0 rfl E rfl rfl rfl rfl tbok rfl (fun _ HF_ => rfl) rfl g60 rfl ?_
      clear E; intro w72 a hc73 H_ E
      replace HS67 := HS67.trans hc73 (fun k_ hk_ h_ => (fun _ _ h_ => Or.inl h_) k_ hk_ h_)
      replace H := H_; clear H_; try dsimp only [setn, addE, goneL] at H
      have hn74 : (List.length (List.set s19 (Int.toNat i23) (List.getD s19 (Int.toNat j24) 0))) = (List.length (List.set (List.set s19 (Int.toNat i23) (List.getD s19 (Int.toNat j24) 0)) (Int.toNat j24) (List.getD s19 (Int.toNat i23) 0))) := by simp only [List.length_set]
      replace E := E.same (t := 0) (u := .slice (some ⟨b54, 0, none⟩) (List.length (List.set (List.set s19 (Int.toNat i23) (List.getD s19 (Int.toNat j24) 0)) (Int.toNat j24) (List.getD s19 (Int.toNat i23) 0))) c2) rfl (congrArg (fun n_ => Value.slice (some ⟨b54, 0, none⟩) n_ c2) hn74)
      replace E := E.same (t := 16) (u := .slice (some ⟨b54, 0, none⟩) (List.length (List.set (List.set s19 (Int.toNat i23) (List.getD s19 (Int.toNat j24) 0)) (Int.toNat j24) (List.getD s19 (Int.toNat i23) 0))) c2) rfl (congrArg (fun n_ => Value.slice (some ⟨b54, 0, none⟩) n_ c2) hn74)
      refine wpList_nil ?_
      refine th_n ⟨HS67, ?_⟩
      refine dr_done (by kernel_rfl) ?_
      exact .inl ⟨rfl, E.pick _ ⟨rfl, rfl, rfl, trivial⟩, H.sel [0] rfl⟩
     refine wpOp_of_list rfl ?_
     refine vn tbok 1 [] [(24, .pointer (some ⟨b54, 0 + (Int.toNat i23) * 1, none⟩))] [0 ≤ i23 ∧ i23 < (((List.length s19) : Nat) : Int)] E (by kernel_rfl) (by kernel_rfl) (g56) ?_
     clear E; intro a E
     refine wpList_nil ?_
     refine th_n ⟨HS67, ?_⟩
     refine wpAnyH_all (rs := [7, 11]) (by kernel_rfl) (by simp) ?_
     refine all2 ?_ ?_
     ·
      refine wpOp_of_list rfl ?_
      refine vn tbok 1 [.int .u8 (List.getD s19 (Int.toNat j24) 0)] [(21, .int .u8 (List.getD s19 (Int.toNat j24) 0))] [World.cell? w65 ⟨b54, 0 + (Int.toNat j24) * 1, none⟩ = some (.int .u8 (List.getD s19 (Int.toNat j24) 0))] E (by kernel_rfl) (by kernel_rfl) (Rds.at1 (H.rd 0 rds_row) 0 g53) ?_
      clear E; intro a E
      refine wpList_nil ?_
      refine th_n ⟨HS67, ?_⟩
      refine wpAnyH_all (rs := [11]) (by kernel_rfl) (by simp) ?_
      refine all1 ?_
      refine wpOp_of_list rfl ?_
      refine vn tbok 1 [.int .u8 (List.getD s19 (Int.toNat i23) 0)] [(25, .int .u8 (List.getD s19 (Int.toNat i23) 0))] [World.cell? w65 ⟨b54, 0 + (Int.toNat i23) * 1, none⟩ = some (.int .u8 (List.getD s19 (Int.toNat i23) 0))] E (by kernel_rfl) (by kernel_rfl) (Rds.at1 (H.rd 0 rds_row) 0 g56) ?_
      clear E; intro a E
      refine wpList_nil ?_
      refine th_n ⟨HS67, ?_⟩
      refine wpAnyH_all (rs := [12]) (by kernel_rfl) (by simp) ?_
      refine all1 ?_
      refine wpOp_of_list rfl ?_
      refine vn tbok 1 [] [(26, .pointer (some ⟨b54, 0 + (Int.toNat i23) * 1, none⟩))] [0 ≤ i23 ∧ i23 < (((List.length s19) : Nat) : Int)] E (by kernel_rfl) (by kernel_rfl) (g56) ?_
      clear E; intro a E
      refine wpList_nil ?_
      refine th_n ⟨HS67, ?_⟩
      refine wpAnyH_all (rs := [13]) (by kernel_rfl) (by simp) ?_
      refine all1 ?_
      refine wpOp_of_list rfl ?_
      refine h_set (g := b54) (i := i23) (List.getD s19 (Int.toNat j24) 0) H 0 rfl E rfl rfl rfl rfl tbok rfl (fun _ HF_ => rfl) rfl g56 rfl ?_
      clear E; intro w75 a hc76 H_ E
      replace HS67 := HS67.trans hc76 (fun k_ hk_ h_ => (fun _ _ h_ => Or.inl h_) k_ hk_ h_)
      replace H := H_; clear H_; try dsimp only [setn, addE, goneL] at H
      have hn77 : (List.length s19) = (List.length (List.set s19 (Int.toNat i23) (List.getD s19 (Int.toNat j24) 0))) := by simp only [List.length_set]
      replace E := E.same (t := 0) (u := .slice (some ⟨b54, 0, none⟩) (List.length (List.set s19 (Int.toNat i23) (List.getD s19 (Int.toNat j24) 0))) c2) rfl (congrArg (fun n_ => Value.slice (some ⟨b54, 0, none⟩) n_ c2) hn77)
      replace E := E.same (t := 14) (u := .slice (some ⟨b54, 0, none⟩) (List.length (List.set s19 (Int.toNat i23) (List.getD s19 (Int.toNat j24) 0))) c2) rfl (congrArg (fun n_ => Value.slice (some ⟨b54, 0, none⟩) n_ c2) hn77)
      replace E := E.same (t := 16) (u := .slice (some ⟨b54, 0, none⟩) (List.length (List.set s19 (Int.toNat i23) (List.getD s19 (Int.toNat j24) 0))) c2) rfl (congrArg (fun n_ => Value.slice (some ⟨b54, 0, none⟩) n_ c2) hn77)
      refine wpList_nil ?_
      refine th_n ⟨HS67, ?_⟩
      refine wpAnyH_all (rs := [14]) (by kernel_rfl) (by simp) ?_
      refine all1 ?_
      refine wpOp_of_list rfl ?_
      refine vn tbok 1 [] [(27, .pointer (some ⟨b54, 0 + (Int.toNat j24) * 1, none⟩))] [0 ≤ j24 ∧ j24 < (((List.length (List.set s19 (Int.toNat i23) (List.getD s19 (Int.toNat j24) 0))) : Nat) : Int)] E (by kernel_rfl) (by kernel_rfl) (g60) ?_
      clear E; intro a E
      refine wpList_nil ?_
      refine th_n ⟨HS67, ?_⟩
      refine wpAnyH_all (rs := [15]) (by kernel_rfl) (by simp) ?_
      refine all1 ?_
      refine wpOp_of_list rfl ?_
      refine h_set (g := b54) (i := j24) (List.getD s19 (Int.toNat i23) 0) H 0 rfl E rfl rfl rfl rfl tbok rfl (fun _ HF_ => rfl) rfl g60 rfl ?_
      clear E; intro w78 a hc79 H_ E
      replace HS67 := HS67.trans hc79 (fun k_ hk_ h_ => (fun _ _ h_ => Or.inl h_) k_ hk_ h_)
      replace H := H_; clear H_; try dsimp only [setn, addE, goneL] at H
      have hn80 : (List.length (List.set s19 (Int.toNat i23) (List.getD s19 (Int.toNat j24) 0))) = (List.length (List.set (List.set s19 (Int.toNat i23) (List.getD s19 (Int.toNat j24) 0)) (Int.toNat j24) (List.getD s19 (Int.toNat i23) 0))) := by simp only [List.length_set]
      replace E := E.same (t := 0) (u := .slice (some ⟨b54, 0, none⟩) (List.length (List.set (List.set s19 (Int.toNat i23) (List.getD s19 (Int.toNat j24) 0)) (Int.toNat j24) (List.getD s19 (Int.toNat i23) 0))) c2) rfl (congrArg (fun n_ => Value.slice (some ⟨b54, 0, none⟩) n_ c2) hn80)
      replace E := E.same (t := 16) (u := .slice (some ⟨b54, 0, none⟩) (List.length (List.set (List.set s19 (Int.toNat i23) (List.getD s19 (Int.toNat j24) 0)) (Int.toNat j24) (List.getD s19 (Int.toNat i23) 0))) c2) rfl (congrArg (fun n_ => Value.slice (some ⟨b54, 0, none⟩) n_ c2) hn80)
      refine wpList_nil ?_
      refine th_n ⟨HS67, ?_⟩
      refine dr_done (by kernel_rfl) ?_
      exact .inl ⟨rfl, E.pick _ ⟨rfl, rfl, rfl, trivial⟩, H.sel [0] rfl⟩
     refine wpOp_of_list rfl ?_
     refine vn tbok 1 [.int .u8 (List.getD s19 (Int.toNat i23) 0)] [(25, .int .u8 (List.getD s19 (Int.toNat i23) 0))] [World.cell? w65 ⟨b54, 0 + (Int.toNat i23) * 1, none⟩ = some (.int .u8 (List.getD s19 (Int.toNat i23) 0))] E (by kernel_rfl) (by kernel_rfl) (Rds.at1 (H.rd 0 rds_row) 0 g56) ?_
     clear E; intro a E
     refine wpList_nil ?_
     refine th_n ⟨HS67, ?_⟩
     refine wpAnyH_all (rs := [7]) (by kernel_rfl) (by simp) ?_
     refine all1 ?_
     refine wpOp_of_list rfl ?_
     refine vn tbok 1 [.int .u8 (List.getD s19 (Int.toNat j24) 0)] [(21, .int .u8 (List.getD s19 (Int.toNat j24) 0))] [World.cell? w65 ⟨b54, 0 + (Int.toNat j24) * 1, none⟩ = some (.int .u8 (List.getD s19 (Int.toNat j24) 0))] E (by kernel_rfl) (by kernel_rfl) (Rds.at1 (H.rd 0 rds_row) 0 g53) ?_
     clear E; intro a E
     refine wpList_nil ?_
     refine th_n ⟨HS67, ?_⟩
     refine wpAnyH_all (rs := [12]) (by kernel_rfl) (by simp) ?_
     refine all1 ?_
     refine wpOp_of_list rfl ?_
     refine vn tbok 1 [] [(26, .pointer (some ⟨b54, 0 + (Int.toNat i23) * 1, none⟩))] [0 ≤ i23 ∧ i23 < (((List.length s19) : Nat) : Int)] E (by kernel_rfl) (by kernel_rfl) (g56) ?_
     clear E; intro a E
     refine wpList_nil ?_
     refine th_n ⟨HS67, ?_⟩
     refine wpAnyH_all (rs := [13]) (by kernel_rfl) (by simp) ?_
     refine all1 ?_
     refine wpOp_of_list rfl ?_
     refine h_set (g := b54) (i := i23) (List.getD s19 (Int.toNat j24) 0) H 0 rfl E rfl rfl rfl rfl tbok rfl (fun _ HF_ => rfl) rfl g56 rfl ?_
     clear E; intro w81 a hc82 H_ E
     replace HS67 := HS67.trans hc82 (fun k_ hk_ h_ => (fun _ _ h_ => Or.inl h_) k_ hk_ h_)
     replace H := H_; clear H_; try dsimp only [setn, addE, goneL] at H
     have hn83 : (List.length s19) = (List.length (List.set s19 (Int.toNat i23) (List.getD s19 (Int.toNat j24) 0))) := by simp only [List.length_set]
     replace E := E.same (t := 0) (u := .slice (some ⟨b54, 0, none⟩) (List.length (List.set s19 (Int.toNat i23) (List.getD s19 (Int.toNat j24) 0))) c2) rfl (congrArg (fun n_ => Value.slice (some ⟨b54, 0, none⟩) n_ c2) hn83)
     replace E := E.same (t := 14) (u := .slice (some ⟨b54, 0, none⟩) (List.length (List.set s19 (Int.toNat i23) (List.getD s19 (Int.toNat j24) 0))) c2) rfl (congrArg (fun n_ => Value.slice (some ⟨b54, 0, none⟩) n_ c2) hn83)
     replace E := E.same (t := 16) (u := .slice (some ⟨b54, 0, none⟩) (List.length (List.set s19 (Int.toNat i23) (List.getD s19 (Int.toNat j24) 0))) c2) rfl (congrArg (fun n_ => Value.slice (some ⟨b54, 0, none⟩) n_ c2) hn83)
     refine wpList_nil ?_
     refine th_n ⟨HS67, ?_⟩
     refine wpAnyH_all (rs := [14]) (by kernel_rfl) (by simp) ?_
     refine all1 ?_
     refine wpOp_of_list rfl ?_
     refine vn tbok 1 [] [(27, .pointer (some ⟨b54, 0 + (Int.toNat j24) * 1, none⟩))] [0 ≤ j24 ∧ j24 < (((List.length (List.set s19 (Int.toNat i23) (List.getD s19 (Int.toNat j24) 0))) : Nat) : Int)] E (by kernel_rfl) (by kernel_rfl) (g60) ?_
     clear E; intro a E
     refine wpList_nil ?_
     refine th_n ⟨HS67, ?_⟩
     refine wpAnyH_all (rs := [15]) (by kernel_rfl) (by simp) ?_
     refine all1 ?_
     refine wpOp_of_list rfl ?_
     refine h_set (g := b54) (i := j24) (List.getD s19 (Int.toNat i23) 0) H 0 rfl E rfl rfl rfl rfl tbok rfl (fun _ HF_ => rfl) rfl g60 rfl ?_
     clear E; intro w84 a hc85 H_ E
     replace HS67 := HS67.trans hc85 (fun k_ hk_ h_ => (fun _ _ h_ => Or.inl h_) k_ hk_ h_)
     replace H := H_; clear H_; try dsimp only [setn, addE, goneL] at H
     have hn86 : (List.length (List.set s19 (Int.toNat i23) (List.getD s19 (Int.toNat j24) 0))) = (List.length (List.set (List.set s19 (Int.toNat i23) (List.getD s19 (Int.toNat j24) 0)) (Int.toNat j24) (List.getD s19 (Int.toNat i23) 0))) := by simp only [List.length_set]
     replace E := E.same (t := 0) (u := .slice (some ⟨b54, 0, none⟩) (List.length (List.set (List.set s19 (Int.toNat i23) (List.getD s19 (Int.toNat j24) 0)) (Int.toNat j24) (List.getD s19 (Int.toNat i23) 0))) c2) rfl (congrArg (fun n_ => Value.slice (some ⟨b54, 0, none⟩) n_ c2) hn86)
     replace E := E.same (t := 16) (u := .slice (some ⟨b54, 0, none⟩) (List.length (List.set (List.set s19 (Int.toNat i23) (List.getD s19 (Int.toNat j24) 0)) (Int.toNat j24) (List.getD s19 (Int.toNat i23) 0))) c2) rfl (congrArg (fun n_ => Value.slice (some ⟨b54, 0, none⟩) n_ c2) hn86)
     refine wpList_nil ?_
     refine th_n ⟨HS67, ?_⟩
     refine dr_done (by kernel_rfl) ?_
     exact .inl ⟨rfl, E.pick _ ⟨rfl, rfl, rfl, trivial⟩, H.sel [0] rfl⟩
    refine wpOp_of_list rfl ?_
    refine vn tbok 1 [] [(24, .pointer (some ⟨b54, 0 + (Int.toNat i23) * 1, none⟩))] [0 ≤ i23 ∧ i23 < (((List.length s19) : Nat) : Int)] E (by kernel_rfl) (by kernel_rfl) (g56) ?_
    clear E; intro a E
    refine wpList_nil ?_
    refine th_n ⟨HS67, ?_⟩
    refine wpAnyH_all (rs := [6, 11]) (by kernel_rfl) (by simp) ?_
    refine all2 ?_ ?_
    ·
     refine wpOp_of_list rfl ?_
     refine vn tbok 1 [] [(20, .pointer (some ⟨b54, 0 + (Int.toNat j24) * 1, none⟩))] [0 ≤ j24 ∧ j24 < (((List.length s19) : Nat) : Int)] E (by kernel_rfl) (by kernel_rfl) (g53) ?_
     clear E; intro a E
     refine wpList_nil ?_
     refine th_n ⟨HS67, ?_⟩
     refine wpAnyH_all (rs := [7, 11]) (by kernel_rfl) (by simp) ?_
     refine all2 ?_ ?_
     ·
      refine wpOp_of_list rfl ?_
      refine vn tbok 1 [.int .u8 (List.getD s19 (Int.toNat j24) 0)] [(21, .int .u8 (List.getD s19 (Int.toNat j24) 0))] [World.cell? w65 ⟨b54, 0 + (Int.toNat j24) * 1, none⟩ = some (.int .u8 (List.getD s19 (Int.toNat j24) 0))] E (by kernel_rfl) (by kernel_rfl) (Rds.at1 (H.rd 0 rds_row) 0 g53) ?_
      clear E; intro a E
      refine wpList_nil ?_
      refine th_n ⟨HS67, ?_⟩
      refine wpAnyH_all (rs := [11]) (by kernel_rfl) (by simp) ?_
      refine all1 ?_
      refine wpOp_of_list rfl ?_
      refine vn tbok 1 [.int .u8 (List.getD s19 (Int.toNat i23) 0)] [(25, .int .u8 (List.getD s19 (Int.toNat i23) 0))] [World.cell? w65 ⟨b54, 0 + (Int.toNat i23) * 1, none⟩ = some (.int .u8 (List.getD s19 (Int.toNat i23) 0))] E (by kernel_rfl) (by kernel_rfl) (Rds.at1 (H.rd 0 rds_row) 0 g56) ?_
      clear E; intro a E
      refine wpList_nil ?_
      refine th_n ⟨HS67, ?_⟩
      refine wpAnyH_all (rs := [12]) (by kernel_rfl) (by simp) ?_
      refine all1 ?_
      refine wpOp_of_list rfl ?_
      refine vn tbok 1 [] [(26, .pointer (some ⟨b54, 0 + (Int.toNat i23) * 1, none⟩))] [0 ≤ i23 ∧ i23 < (((List.length s19) : Nat) : Int)] E (by kernel_rfl) (by kernel_rfl) (g56) ?_
      clear E; intro a E
      refine wpList_nil ?_
      refine th_n ⟨HS67, ?_⟩
      refine wpAnyH_all (rs := [13]) (by kernel_rfl) (by simp) ?_
      refine all1 ?_
      refine wpOp_of_list rfl ?_
      refine h_set (g := b54) (i := i23) (List.getD s19 (Int.toNat j24) 0) H 0 rfl E rfl rfl rfl rfl tbok rfl (fun _ HF_ => rfl) rfl g56 rfl ?_
      clear E; intro w87 a hc88 H_ E
      replace HS67 := HS67.trans hc88 (fun k_ hk_ h_ => (fun _ _ h_ => Or.inl h_) k_ hk_ h_)
      replace H := H_; clear H_; try dsimp only [setn, addE, goneL] at H
      have hn89 : (List.length s19) = (List.length (List.set s19 (Int.toNat i23) (List.getD s19 (Int.toNat j24) 0))) := by simp only [List.length_set]
      replace E := E.same (t := 0) (u := .slice (some ⟨b54, 0, none⟩) (List.length (List.set s19 (Int.toNat i23) (List.getD s19 (Int.toNat j24) 0))) c2) rfl (congrArg (fun n_ => Value.slice (some ⟨b54, 0, none⟩) n_ c2) hn89)
      replace E := E.same (t := 14) (u := .slice (some ⟨b54, 0, none⟩) (List.length (List.set s19 (Int.toNat i23) (List.getD s19 (Int.toNat j24) 0))) c2) rfl (congrArg (fun n_ => Value.slice (some ⟨b54, 0, none⟩) n_ c2) hn89)
      replace E := E.same (t := 16) (u := .slice (some ⟨b54, 0, none⟩) (List.length (List.set s19 (Int.toNat i23) (List.getD s19 (Int.toNat j24) 0))) c2) rfl (congrArg (fun n_ => Value.slice (some ⟨b54, 0, none⟩) n_ c2) hn89)
      refine wpList_nil ?_
      refine th_n ⟨HS67, ?_⟩
      refine wpAnyH_all (rs := [14]) (by kernel_rfl) (by simp) ?_
      refine all1 ?_
      refine wpOp_of_list rfl ?_
      refine vn tbok 1 [] [(27, .pointer (some ⟨b54, 0 + (Int.toNat j24) * 1, none⟩))] [0 ≤ j24 ∧ j24 < (((List.length (List.set s19 (Int.toNat i23) (List.getD s19 (Int.toNat j24) 0))) : Nat) : Int)] E (by kernel_rfl) (by kernel_rfl) (g60) ?_
      clear E; intro a E
      refine wpList_nil ?_
      refine th_n ⟨HS67, ?_⟩
      refine wpAnyH_all (rs := [15]) (by kernel_rfl) (by simp) ?_
      refine all1 ?_
      refine wpOp_of_list rfl ?_
      refine h_set (g := b54) (i := j24) (List.getD s19 (Int.toNat i23) 0) H 0 rfl E rfl rfl rfl rfl tbok rfl (fun _ HF_ => rfl) rfl g60 rfl ?_
      clear E; intro w90 a hc91 H_ E
      replace HS67 := HS67.trans hc91 (fun k_ hk_ h_ => (fun _ _ h_ => Or.inl h_) k_ hk_ h_)
      replace H := H_; clear H_; try dsimp only [setn, addE, goneL] at H
      have hn92 : (List.length (List.set s19 (Int.toNat i23) (List.getD s19 (Int.toNat j24) 0))) = (List.length (List.set (List.set s19 (Int.toNat i23) (List.getD s19 (Int.toNat j24) 0)) (Int.toNat j24) (List.getD s19 (Int.toNat i23) 0))) := by simp only [List.length_set]
      replace E := E.same (t := 0) (u := .slice (some ⟨b54, 0, none⟩) (List.length (List.set (List.set s19 (Int.toNat i23) (List.getD s19 (Int.toNat j24) 0)) (Int.toNat j24) (List.getD s19 (Int.toNat i23) 0))) c2) rfl (congrArg (fun n_ => Value.slice (some ⟨b54, 0, none⟩) n_ c2) hn92)
      replace E := E.same (t := 16) (u := .slice (some ⟨b54, 0, none⟩) (List.length (List.set (List.set s19 (Int.toNat i23) (List.getD s19 (Int.toNat j24) 0)) (Int.toNat j24) (List.getD s19 (Int.toNat i23) 0))) c2) rfl (congrArg (fun n_ => Value.slice (some ⟨b54, 0, none⟩) n_ c2) hn92)
      refine wpList_nil ?_
      refine th_n ⟨HS67, ?_⟩
      refine dr_done (by kernel_rfl) ?_
      exact .inl ⟨rfl, E.pick _ ⟨rfl, rfl, rfl, trivial⟩, H.sel [0] rfl⟩
     refine wpOp_of_list rfl ?_
     refine vn tbok 1 [.int .u8 (List.getD s19 (Int.toNat i23) 0)] [(25, .int .u8 (List.getD s19 (Int.toNat i23) 0))] [World.cell? w65 ⟨b54, 0 + (Int.toNat i23) * 1, none⟩ = some (.int .u8 (List.getD s19 (Int.toNat i23) 0))] E (by kernel_rfl) (by kernel_rfl) (Rds.at1 (H.rd 0 rds_row) 0 g56) ?_
     clear E; intro a E
     refine wpList_nil ?_
     refine th_n ⟨HS67, ?_⟩
     refine wpAnyH_all (rs := [7]) (by kernel_rfl) (by simp) ?_
     refine all1 ?_
     refine wpOp_of_list rfl ?_
     refine vn tbok 1 [.int .u8 (List.getD s19 (Int.toNat j24) 0)] [(21, .int .u8 (List.getD s19 (Int.toNat j24) 0))] [World.cell? w65 ⟨b54, 0 + (Int.toNat j24) * 1, none⟩ = some (.int .u8 (List.getD s19 (Int.toNat j24) 0))] E (by kernel_rfl) (by kernel_rfl) (Rds.at1 (H.rd 0 rds_row) 0 g53) ?_
     clear E; intro a E
     refine wpList_nil ?_
     refine th_n ⟨HS67, ?_⟩
     refine wpAnyH_all (rs := [12]) (by kernel_rfl) (by simp) ?_
     refine all1 ?_
     refine wpOp_of_list rfl ?_
     refine vn tbok 1 [] [(26, .pointer (some ⟨b54, 0 + (Int.toNat i23) * 1, none⟩))] [0 ≤ i23 ∧ i23 < (((List.length s19) : Nat) : Int)] E (by kernel_rfl) (by kernel_rfl) (g56) ?_
     clear E; intro a E
     refine wpList_nil ?_
     refine th_n ⟨HS67, ?_⟩
     refine wpAnyH_all (rs := [13]) (by kernel_rfl) (by simp) ?_
     refine all1 ?_
     refine wpOp_of_list rfl ?_
     refine h_set (g := b54) (i := i23) (List.getD s19 (Int.toNat j24) 0) H 0 rfl E rfl rfl rfl rfl tbok rfl (fun _ HF_ => rfl) rfl g56 rfl ?_
     clear E; intro w93 a hc94 H_ E
     replace HS67 := HS67.trans hc94 (fun k_ hk_ h_ => (fun _ _ h_ => Or.inl h_) k_ hk_ h_)
     replace H := H_; clear H_; try dsimp only [setn, addE, goneL] at H
     have hn95 : (List.length s19) = (List.length (List.set s19 (Int.toNat i23) (List.getD s19 (Int.toNat j24) 0))) := by simp only [List.length_set]
     replace E := E.same (t := 0) (u := .slice (some ⟨b54, 0, none⟩) (List.length (List.set s19 (Int.toNat i23) (List.getD s19 (Int.toNat j24) 0))) c2) rfl (congrArg (fun n_ => Value.slice (some ⟨b54, 0, none⟩) n_ c2) hn95)
     replace E := E.same (t := 14) (u := .slice (some ⟨b54, 0, none⟩) (List.length (List.set s19 (Int.toNat i23) (List.getD s19 (Int.toNat j24) 0))) c2) rfl (congrArg (fun n_ => Value.slice (some ⟨b54, 0, none⟩) n_ c2) hn95)
     replace E := E.same (t := 16) (u := .slice (some ⟨b54, 0, none⟩) (List.length (List.set s19 (Int.toNat i23) (List.getD s19 (Int.toNat j24) 0))) c2) rfl (congrArg (fun n_ => Value.slice (some ⟨b54, 0, none⟩) n_ c2) hn95)
     refine wpList_nil ?_
     refine th_n ⟨HS67, ?_⟩
     refine wpAnyH_all (rs := [14]) (by kernel_rfl) (by simp) ?_
     refine all1 ?_
     refine wpOp_of_list rfl ?_
     refine vn tbok 1 [] [(27, .pointer (some ⟨b54, 0 + (Int.toNat j24) * 1, none⟩))] [0 ≤ j24 ∧ j24 < (((List.length (List.set s19 (Int.toNat i23) (List.getD s19 (Int.toNat j24) 0))) : Nat) : Int)] E (by kernel_rfl) (by kernel_rfl) (g60) ?_
     clear E; intro a E
     refine wpList_nil ?_
     refine th_n ⟨HS67, ?_⟩
     refine wpAnyH_all (rs := [15]) (by kernel_rfl) (by simp) ?_
     refine all1 ?_
     refine wpOp_of_list rfl ?_
     refine h_set (g := b54) (i := j24) (List.getD s19 (Int.toNat i23) 0) H 0 rfl E rfl rfl rfl rfl tbok rfl (fun _ HF_ => rfl) rfl g60 rfl ?_
     clear E; intro w96 a hc97 H_ E
     replace HS67 := HS67.trans hc97 (fun k_ hk_ h_ => (fun _ _ h_ => Or.inl h_) k_ hk_ h_)
     replace H := H_; clear H_; try dsimp only [setn, addE, goneL] at H
     have hn98 : (List.length (List.set s19 (Int.toNat i23) (List.getD s19 (Int.toNat j24) 0))) = (List.length (List.set (List.set s19 (Int.toNat i23) (List.getD s19 (Int.toNat j24) 0)) (Int.toNat j24) (List.getD s19 (Int.toNat i23) 0))) := by simp only [List.length_set]
     replace E := E.same (t := 0) (u := .slice (some ⟨b54, 0, none⟩) (List.length (List.set (List.set s19 (Int.toNat i23) (List.getD s19 (Int.toNat j24) 0)) (Int.toNat j24) (List.getD s19 (Int.toNat i23) 0))) c2) rfl (congrArg (fun n_ => Value.slice (some ⟨b54, 0, none⟩) n_ c2) hn98)
     replace E := E.same (t := 16) (u := .slice (some ⟨b54, 0, none⟩) (List.length (List.set (List.set s19 (Int.toNat i23) (List.getD s19 (Int.toNat j24) 0)) (Int.toNat j24) (List.getD s19 (Int.toNat i23) 0))) c2) rfl (congrArg (fun n_ => Value.slice (some ⟨b54, 0, none⟩) n_ c2) hn98)
     refine wpList_nil ?_
     refine th_n ⟨HS67, ?_⟩
     refine dr_done (by kernel_rfl) ?_
     exact .inl ⟨rfl, E.pick _ ⟨rfl, rfl, rfl, trivial⟩, H.sel [0] rfl⟩
    refine wpOp_of_list rfl ?_
    refine vn tbok 1 [.int .u8 (List.getD s19 (Int.toNat i23) 0)] [(25, .int .u8 (List.getD s19 (Int.toNat i23) 0))] [World.cell? w65 ⟨b54, 0 + (Int.toNat i23) * 1, none⟩ = some (.int .u8 (List.getD s19 (Int.toNat i23) 0))] E (by kernel_rfl) (by kernel_rfl) (Rds.at1 (H.rd 0 rds_row) 0 g56) ?_
    clear E; intro a E
    refine wpList_nil ?_
    refine th_n ⟨HS67, ?_⟩
    refine wpAnyH_all (rs := [6]) (by kernel_rfl) (by simp) ?_
    refine all1 ?_
    refine wpOp_of_list rfl ?_
    refine vn tbok 1 [] [(20, .pointer (some ⟨b54, 0 + (Int.toNat j24) * 1, none⟩))] [0 ≤ j24 ∧ j24 < (((List.length s19) : Nat) : Int)] E (by kernel_rfl) (by kernel_rfl) (g53) ?_
    clear E; intro a E
    refine wpList_nil ?_
    refine th_n ⟨HS67, ?_⟩
    refine wpAnyH_all (rs := [7]) (by kernel_rfl) (by simp) ?_
    refine all1 ?_
    refine wpOp_of_list rfl ?_
    refine vn tbok 1 [.int .u8 (List.getD s19 (Int.toNat j24) 0)] [(21, .int .u8 (List.getD s19 (Int.toNat j24) 0))] [World.cell? w65 ⟨b54, 0 + (Int.toNat j24) * 1, none⟩ = some (.int .u8 (List.getD s19 (Int.toNat j24) 0))] E (by kernel_rfl) (by kernel_rfl) (Rds.at1 (H.rd 0 rds_row) 0 g53) ?_
    clear E; intro a E
    refine wpList_nil ?_
    refine th_n ⟨HS67, ?_⟩
    refine wpAnyH_all (rs := [12]) (by kernel_rfl) (by simp) ?_
    refine all1 ?_
    refine wpOp_of_list rfl ?_
    refine vn tbok 1 [] [(26, .pointer (some ⟨b54, 0 + (Int.toNat i23) * 1, none⟩))] [0 ≤ i23 ∧ i23 < (((List.length s19) : Nat) : Int)] E (by kernel_rfl) (by kernel_rfl) (g56) ?_
    clear E; intro a E
    refine wpList_nil ?_
    refine th_n ⟨HS67, ?_⟩
    refine wpAnyH_all (rs := [13]) (by kernel_rfl) (by simp) ?_
    refine all1 ?_
    refine wpOp_of_list rfl ?_
    refine h_set (g := b54) (i := i23) (List.getD s19 (Int.toNat j24) 0) H 0 rfl E rfl rfl rfl rfl tbok rfl (fun _ HF_ => rfl) rfl g56 rfl ?_
    clear E; intro w99 a hc100 H_ E
    replace HS67 := HS67.trans hc100 (fun k_ hk_ h_ => (fun _ _ h_ => Or.inl h_) k_ hk_ h_)
    replace H := H_; clear H_; try dsimp only [setn, addE, goneL] at H
    have hn101 : (List.length s19) = (List.length (List.set s19 (Int.toNat i23) (List.getD s19 (Int.toNat j24) 0))) := by simp only [List.length_set]
    replace E := E.same (t := 0) (u := .slice (some ⟨b54, 0, none⟩) (List.length (List.set s19 (Int.toNat i23) (List.getD s19 (Int.toNat j24) 0))) c2) rfl (congrArg (fun n_ => Value.slice (some ⟨b54, 0, none⟩) n_ c2) hn101)
    replace E := E.same (t := 14) (u := .slice (some ⟨b54, 0, none⟩) (List.length (List.set s19 (Int.toNat i23) (List.getD s19 (Int.toNat j24) 0))) c2) rfl (congrArg (fun n_ => Value.slice (some ⟨b54, 0, none⟩) n_ c2) hn101)
    replace E := E.same (t := 16) (u := .slice (some ⟨b54, 0, none⟩) (List.length (List.set s19 (Int.toNat i23) (List.getD s19 (Int.toNat j24) 0))) c2) rfl (congrArg (fun n_ => Value.slice (some ⟨b54, 0, none⟩) n_ c2) hn101)
    refine wpList_nil ?_
    refine th_n ⟨HS67, ?_⟩
    refine wpAnyH_all (rs := [14]) (by kernel_rfl) (by simp) ?_
    refine all1 ?_
    refine wpOp_of_list rfl ?_
    refine vn tbok 1 [] [(27, .pointer (some ⟨b54, 0 + (Int.toNat j24) * 1, none⟩))] [0 ≤ j24 ∧ j24 < (((List.length (List.set s19 (Int.toNat i23) (List.getD s19 (Int.toNat j24) 0))) : Nat) : Int)] E (by kernel_rfl) (by kernel_rfl) (g60) ?_
    clear E; intro a E
    refine wpList_nil ?_
    refine th_n ⟨HS67, ?_⟩
    refine wpAnyH_all (rs := [15]) (by kernel_rfl) (by simp) ?_
    refine all1 ?_
    refine wpOp_of_list rfl ?_
    refine h_set (g := b54) (i := j24) (List.getD s19 (Int.toNat i23) 0) H 0 rfl E rfl rfl rfl rfl tbok rfl (fun _ HF_ => rfl) rfl g60 rfl ?_
    clear E; intro w102 a hc103 H_ E
    replace HS67 := HS67.trans hc103 (fun k_ hk_ h_ => (fun _ _ h_ => Or.inl h_) k_ hk_ h_)
    replace H := H_; clear H_; try dsimp only [setn, addE, goneL] at H
    have hn104 : (List.length (List.set s19 (Int.toNat i23) (List.getD s19 (Int.toNat j24) 0))) = (List.length (List.set (List.set s19 (Int.toNat i23) (List.getD s19 (Int.toNat j24) 0)) (Int.toNat j24) (List.getD s19 (Int.toNat i23) 0))) := by simp only [List.length_set]
    replace E := E.same (t := 0) (u := .slice (some ⟨b54, 0, none⟩) (List.length (List.set (List.set s19 (Int.toNat i23) (List.getD s19 (Int.toNat j24) 0)) (Int.toNat j24) (List.getD s19 (Int.toNat i23) 0))) c2) rfl (congrArg (fun n_ => Value.slice (some ⟨b54, 0, none⟩) n_ c2) hn104)
    replace E := E.same (t := 16) (u := .slice (some ⟨b54, 0, none⟩) (List.length (List.set (List.set s19 (Int.toNat i23) (List.getD s19 (Int.toNat j24) 0)) (Int.toNat j24) (List.getD s19 (Int.toNat i23) 0))) c2) rfl (congrArg (fun n_ => Value.slice (some ⟨b54, 0, none⟩) n_ c2) hn104)
    refine wpList_nil ?_
    refine th_n ⟨HS67, ?_⟩
    refine dr_done (by kernel_rfl) ?_
    exact .inl ⟨rfl, E.pick _ ⟨rfl, rfl, rfl, trivial⟩, H.sel [0] rfl⟩
   clear E H; rintro a w64 ⟨E, H⟩
   refine bl_n ?_
   refine th_n ?_
   refine wp_region_lit ?_
   obtain ⟨g105, hP⟩ := ask_inv hP
   obtain ⟨g106, hP⟩ := ask_inv hP
   refine vn tbok 6 [.int .i64 (i23 + 1), .int .i64 (j24 - 1)] [(2, .int .i64 (i23 + 1)), (3, .int .i64 (j24 - 1))] [IntKind.i64.wrap (i23 + 1) = i23 + 1, IntKind.i64.wrap (j24 - 1) = j24 - 1] E (by kernel_rfl) (by kernel_rfl) ⟨wrap_in g105, wrap_in g106⟩ ?_
   clear E; intro a E
   refine wpList_nil ?_
   exact th_n ⟨m45, Nat.lt_succ_self _, List.set (List.set s19 (Int.toNat i23) (List.getD s19 (Int.toNat j24) 0)) (Int.toNat j24) (List.getD s19 (Int.toNat i23) 0), i23 + 1, j24 - 1, E.pick _ ⟨rfl, rfl, rfl, trivial⟩, H.sel [0] rfl, (Eq.trans List.length_set (Eq.trans List.length_set hl22)), hP⟩
  replace E := E_; clear E_
  have h107 : ¬ (i23 < j24) := of_decide_eq_false hb_
  clear hb_; replace hP := ite_f h107 hP
  refine c_false E rfl ?_
  refine wp_exit ?_
  refine th_exit ?_
  have hx_ := Option.some.inj hP
  refine th_exit (.inl ⟨0, rfl, ?_⟩)
  exact ⟨rfl, s19, E.pick _ trivial, H.sel [0] rfl, hl22, hx_.symm⟩
 clear E H hL47; intro i_ a w49 hM_
 obtain ⟨rfl, x51, E, H, hl44, hx_⟩ := hM_
 subst hx_; have hP := hK48; clear hK48
 refine bl_hit ?_
 obtain rfl := Option.some.inj hP
 refine bodyPost_end (v := .tuple #[]) (by simp [results, Try.f58]) E.nodef ?_
 exact ⟨_, rfl, rfl, hl44, H.sel [0] rfl⟩

/-! rejoinder/board.Moves -/
def board_Moves_l0 (N : Nat) (mask : Int) : Nat → (List Int) → Int → Option (List Int)
  | 0, _, _ => none
  | m38 + 1, out16, sub19 =>
    ask (List.length out16 + List.length ([sub19] : List Int) ≤ 1000000000) <|
    if (sub19 : Int) = 0 then
      some (out16 ++ ([sub19] : List Int))
    else
      board_Moves_l0 N mask m38 (out16 ++ ([sub19] : List Int)) (andV .u8 (IntKind.u8.wrap (sub19 - 1)) mask)
def board_Moves (N : Nat) (mask : Int) : Option (List Int) :=
  Option.bind (board_Moves_l0 N mask N [] mask) fun x39 =>
  Option.bind (slices_Reverse_api_Letter_api_Letter N x39) fun r59 =>
  some r59
set_option maxRecDepth 100000 in
set_option maxHeartbeats 4000000 in
theorem board_Moves_calls {N : Nat} {S Fa : Nat → Prop} {w0 : World} {r : List Int} (mask : Int) (H : Hp S Fa w0 w0 []) (hP : board_Moves N mask = some r) :
    Calls Try.prog 33 #[.int .u8 mask] w0 fun e w' => ∃ v, e = .returned v ∧ ∃ (A71 : Option Addr) (c72 : Nat), v = .slice A71 (List.length r) c72 ∧ Hp S Fa w0 w' [.row true (cInt .u8) 27 A71 c72 r] := by
 refine enterV (n := 19) Try.func33 rfl rfl rfl ?_
 intro a E
 replace E := E.pick [(0, .int .u8 mask)] ⟨rfl, trivial⟩
 rw [board_Moves] at hP
 refine wp_seq ?_
 refine wp_region_lit ?_
 refine vn tbok 1 [] [] [] E (by kernel_rfl) (by kernel_rfl) trivial ?_
 clear E; intro a E
 refine wpList_nil ?_
 refine th_n ?_
 refine wp_seq ?_
 refine wp_region_lit ?_
 refine vn tbok 1 [] [(3, .slice none 0 0)] [] E (by kernel_rfl) (by kernel_rfl) trivial ?_
 clear E; intro a E
 refine wpList_nil ?_
 refine th_n ?_
 refine wp_seq ?_
 refine wp_seq ?_
 refine wp_region_lit ?_
 refine vn tbok 2 [] [(4, .int .u8 mask)] [] E (by kernel_rfl) (by kernel_rfl) trivial ?_
 clear E; intro a E
 refine wpList_nil ?_
 refine th_n ?_
 refine wp_block ?_
 obtain ⟨x39, hL40, hK41⟩ := bind_inv hP
 clear hP
 replace H := H.nilrow (cInt .u8) 27; try dsimp only [setn, addE, goneL] at H
 refine loop_cut (fun i_ a w_ => (i_ = 0 ∧ ∃ (x45 : List Int), ∃ (A36 : Option Addr) (c37 : Nat), Fr a 19 [(3, .slice A36 (List.length x45) c37)] ∧ Hp S Fa w0 w_ [.row true (cInt .u8) 27 A36 c37 x45] ∧ x39 = x45)) ?_ ?_
 ·
  refine loopV (fun m44 a w43 => ∃ (out16 : List Int) (sub19 : Int), ∃ (A17 : Option Addr) (c18 : Nat), Fr a 19 [(0, .int .u8 mask), (3, .slice A17 (List.length out16) c18), (4, .int .u8 sub19)] ∧ Hp S Fa w0 w43 [.row true (cInt .u8) 27 A17 c18 out16] ∧ board_Moves_l0 N mask m44 out16 sub19 = some x39) N ?_ ?_
  ·
   exact ⟨[], mask, none, 0, E.pick _ ⟨rfl, rfl, rfl, trivial⟩, H.sel [0] rfl, hL40⟩
  clear E H hL40; intro m44 a w43 hI_
  obtain ⟨out16, sub19, A17, c18, E, H, hP⟩ := hI_
  obtain ⟨m38, rfl⟩ : ∃ q_, m44 = q_ + 1 := by cases m44 with | zero => rw [board_Moves_l0] at hP; cases hP | succ q_ => exact ⟨q_, rfl⟩
  rw [board_Moves_l0] at hP
  refine wp_seq ?_
  refine wp_block ?_
  refine wp_seq ?_
  refine wp_region_lit ?_
  refine vn tbok 2 [] [(10, .slice A17 (List.length out16) c18), (11, .int .u8 sub19)] [] E (by kernel_rfl) (by kernel_rfl) trivial ?_
  clear E; intro a E
  refine h_buildSlice (ps := [(0, .int .u8 sub19)]) (cs := [.int .u8 sub19]) H E rfl rfl tbok rfl rfl (by kernel_rfl) ?_
  intro w47 g46 a hc48 hg50 H_ E_
  replace E := E_ _ rfl; clear E_
  replace H := H_; clear H_; try dsimp only [setn, addE, goneL] at H
  obtain ⟨g51, hP⟩ := ask_inv hP
  refine h_append (cInt .u8) (xs := out16) (ys := ([sub19] : List Int)) (0 : Int) H 0 rfl E rfl rfl tbok rfl rfl rfl rfl rfl (fun _ _ => rfl) rfl rfl (fun _ HF_ => HF_.srcB 1 rfl (⟨_, _, rfl, rfl, rfl⟩)) g51 ?_
  intro w52 A53 c54 a hc55 hA56 H_ E_
  replace E := E_ _ rfl; clear E_
  replace H := H_; clear H_; try dsimp only [setn, addE, goneL] at H
  refine vn tbok 1 [] [(3, .slice A53 (List.length (out16 ++ ([sub19] : List Int))) c54)] [] E (by kernel_rfl) (by kernel_rfl) trivial ?_
  clear E; intro a E
  refine wpList_nil ?_
  refine th_n ?_
  refine wp_seq ?_
  refine wp_region_lit ?_
  refine vn tbok 2 [] [(15, .bool ((sub19 : Int) == 0))] [] E (by kernel_rfl) (by kernel_rfl) trivial ?_
  clear E; intro a E
  refine wpList_nil ?_
  refine th_n ?_
  refine E.cases (t := 15) rfl (fun hb_ E_ => ?_) (fun hb_ E_ => ?_)
  ·
   replace E := E_; clear E_
   have h57 : (sub19 : Int) = 0 := eq_of_beq hb_
   clear hb_; replace hP := ite_t h57 hP
   refine c_true E rfl ?_
   refine wp_exit ?_
   refine bl_miss rfl ?_
   refine th_exit ?_
   have hx_ := Option.some.inj hP
   refine th_exit (.inl ⟨0, rfl, ?_⟩)
   exact ⟨rfl, out16 ++ ([sub19] : List Int), A53, c54, E.pick _ ⟨rfl, trivial⟩, H.sel [0] rfl, hx_.symm⟩
  replace E := E_; clear E_
  have h58 : ¬ ((sub19 : Int) = 0) := ne_of_beq_false hb_
  clear hb_; replace hP := ite_f h58 hP
  refine c_false E rfl ?_
  refine wp_skip ?_
  refine bl_n ?_
  refine th_n ?_
  refine wp_region_lit ?_
  refine vn tbok 5 [.int .u8 (IntKind.u8.wrap (sub19 - 1)), .int .u8 (andV .u8 (IntKind.u8.wrap (sub19 - 1)) mask)] [(4, .int .u8 (andV .u8 (IntKind.u8.wrap (sub19 - 1)) mask))] [IntKind.u8.wrap (sub19 - 1) = IntKind.u8.wrap (sub19 - 1), IntKind.u8.wrap (BitVec.ofInt (IntKind.bits .u8) (IntKind.u8.wrap (sub19 - 1)) &&& BitVec.ofInt (IntKind.bits .u8) mask).toNat = andV .u8 (IntKind.u8.wrap (sub19 - 1)) mask] E (by kernel_rfl) (by kernel_rfl) ⟨rfl, rfl⟩ ?_
  clear E; intro a E
  refine wpList_nil ?_
  exact th_n ⟨m38, Nat.lt_succ_self _, out16 ++ ([sub19] : List Int), andV .u8 (IntKind.u8.wrap (sub19 - 1)) mask, A53, c54, E.pick _ ⟨rfl, rfl, rfl, trivial⟩, H.sel [0] rfl, hP⟩
 clear E H hL40; intro i_ a w43 hM_
 obtain ⟨rfl, x45, A36, c37, E, H, hx_⟩ := hM_
 subst hx_; have hP := hK41; clear hK41
 refine bl_hit ?_
 refine th_n ?_
 refine wp_seq ?_
 refine wp_region_lit ?_
 refine vn tbok 1 [] [(16, .slice A36 (List.length x39) c37)] [] E (by kernel_rfl) (by kernel_rfl) trivial ?_
 clear E; intro a E
 obtain ⟨r59, h60, hP⟩ := bind_inv hP
 obtain ⟨Fa61, Hc62, hb63⟩ := H.call [0] [] rfl rfl ⟨flat_plain, trivial⟩
 refine e_call E rfl rfl Try.func58 rfl rfl rfl (slices_Reverse_api_Letter_api_Letter_calls A36 c37 x39  Hc62 h60) ?_
 rintro v64 w65 a ⟨rfl, hl68, HR66⟩ E_
 replace E := E_ _ rfl; clear E_
 obtain ⟨H_, hc67⟩ := hb63 _ _ HR66 rfl
 replace H := H_; clear H_; try dsimp only [setn, addE, goneL] at H
 have hn70 : (List.length x39) = (List.length (r59)) := hl68.symm
 replace E := E.same (t := 3) (u := .slice A36 (List.length (r59)) c37) rfl (congrArg (fun n_ => Value.slice A36 n_ c37) hn70)
 replace E := E.same (t := 16) (u := .slice A36 (List.length (r59)) c37) rfl (congrArg (fun n_ => Value.slice A36 n_ c37) hn70)
 refine wpList_nil ?_
 refine th_n ?_
 refine wp_seq ?_
 refine wp_region_lit ?_
 refine vn tbok 2 [] [(2, .slice A36 (List.length (r59)) c37)] [] E (by kernel_rfl) (by kernel_rfl) trivial ?_
 clear E; intro a E
 refine wpList_nil ?_
 refine th_n ?_
 refine wp_ret ?_
 obtain rfl := Option.some.inj hP
 refine ret1 E rfl rfl ?_
 exact ⟨_, rfl, A36, c37, rfl, H.sel [1] rfl⟩

/-! rejoinder/guard.Go -/
def guard_Go_l0 (N : Nat) (nodes : List Nd) (ll : Int) : Nat → Int → Int → Option (Unit ⊕ (Int × Bool))
  | 0, _, _ => none
  | m55 + 1, ref27, x28 =>
    if x28 < 9 then
      if ref27 < 0 then
        ask (in64 ((-1) - ref27)) <|
        some (Sum.inr ((-1) - ref27, true))
      else
        if (((List.length nodes) : Nat) : Int) ≤ ref27 then
          some (Sum.inr (0, false))
        else
          ask (idx ref27 (List.length nodes)) <|
          if ((List.getD nodes (Int.toNat ref27) (default : Nd)).P) < 0 then
            some (Sum.inr (0, false))
          else
            if 8 ≤ ((List.getD nodes (Int.toNat ref27) (default : Nd)).P) then
              some (Sum.inr (0, false))
            else
              ask (0 ≤ ((List.getD nodes (Int.toNat ref27) (default : Nd)).P)) <|
              if (andV .u8 (shrV .u8 ll ((List.getD nodes (Int.toNat ref27) (default : Nd)).P)) 1 : Int) = 1 then
                ask (in64 (x28 + 1)) <|
                guard_Go_l0 N nodes ll m55 ((List.getD nodes (Int.toNat ref27) (default : Nd)).Hi) (x28 + 1)
              else
                ask (in64 (x28 + 1)) <|
                guard_Go_l0 N nodes ll m55 ((List.getD nodes (Int.toNat ref27) (default : Nd)).Lo) (x28 + 1)
    else
      some (Sum.inl ())
def guard_Go (N : Nat) (nodes : List Nd) (ref : Int) (ll : Int) : Option (Int × Bool) :=
  Option.bind (guard_Go_l0 N nodes ll N ref 0) fun x56 =>
  Sum.elim (fun x61 =>
    some (0, false))
   (fun x88 =>
    some x88) x56
set_option maxRecDepth 100000 in
set_option maxHeartbeats 4000000 in
theorem guard_Go_calls {N : Nat} {S Fa : Nat → Prop} {w0 : World} {r : Int × Bool} (A1 : Option Addr) (c2 : Nat) (nodes : List Nd) (ref : Int) (ll : Int) (hk3 : List.length nodes ≤ c2) (H : Hp S Fa w0 w0 [.ro false cNode A1 nodes]) (hP : guard_Go N nodes ref ll = some r) :
    Calls Try.prog 59 #[.slice A1 (List.length nodes) c2, .int .i64 ref, .int .u8 ll] w0 fun e w' => ∃ v, e = .returned v ∧ v = .tuple #[.int .i64 r.1, .bool r.2] ∧ Hp S Fa w0 w' [] := by
 refine enterV (n := 50) Try.func59 rfl rfl rfl ?_
 intro a E
 replace E := E.pick [(0, .slice A1 (List.length nodes) c2), (1, .int .i64 ref), (2, .int .u8 ll)] ⟨rfl, rfl, rfl, trivial⟩
 rw [guard_Go] at hP
 refine wp_seq ?_
 refine wp_region_lit ?_
 refine vn tbok 2 [] [] [] E (by kernel_rfl) (by kernel_rfl) trivial ?_
 clear E; intro a E
 refine wpList_nil ?_
 refine th_n ?_
 refine wp_seq ?_
 refine wp_seq ?_
 refine wp_region_lit ?_
 refine vn tbok 1 [] [(9, .int .i64 0)] [] E (by kernel_rfl) (by kernel_rfl) trivial ?_
 clear E; intro a E
 refine wpList_nil ?_
 refine th_n ?_
 refine wp_block ?_
 obtain ⟨x56, hL57, hK58⟩ := bind_inv hP
 clear hP
 refine loop_cut (fun i_ a w_ => (i_ = 0 ∧ ∃ (x61 : Unit), Fr a 50 [] ∧ Hp S Fa w0 w_ [] ∧ x56 = Sum.inl x61)) ?_ ?_
 ·
  refine loopV (fun m60 a w59 => ∃ (ref27 : Int) (x28 : Int), Fr a 50 [(0, .slice A1 (List.length nodes) c2), (1, .int .i64 ref27), (2, .int .u8 ll), (9, .int .i64 x28)] ∧ Hp S Fa w0 w59 [.ro false cNode A1 nodes] ∧ guard_Go_l0 N nodes ll m60 ref27 x28 = some x56) N ?_ ?_
  ·
   exact ⟨ref, 0, E.pick _ ⟨rfl, rfl, rfl, rfl, trivial⟩, H.sel [0] rfl, hL57⟩
  clear E H hL57; intro m60 a w59 hI_
  obtain ⟨ref27, x28, E, H, hP⟩ := hI_
  obtain ⟨m55, rfl⟩ : ∃ q_, m60 = q_ + 1 := by cases m60 with | zero => rw [guard_Go_l0] at hP; cases hP | succ q_ => exact ⟨q_, rfl⟩
  rw [guard_Go_l0] at hP
  refine wp_seq ?_
  refine wp_region_lit ?_
  refine vn tbok 1 [] [(10, .bool (decide (x28 < 9)))] [] E (by kernel_rfl) (by kernel_rfl) trivial ?_
  clear E; intro a E
  refine wpList_nil ?_
  refine th_n ?_
  refine wp_seq ?_
  refine E.cases (t := 10) rfl (fun hb_ E_ => ?_) (fun hb_ E_ => ?_)
  ·
   replace E := E_; clear E_
   have h62 : x28 < 9 := of_decide_eq_true hb_
   clear hb_; replace hP := ite_t h62 hP
   refine c_true E rfl ?_
   refine wp_skip ?_
   refine th_n ?_
   refine wp_seq ?_
   refine wp_block ?_
   refine wp_seq ?_
   refine wp_seq ?_
   refine wp_region_lit ?_
   refine vn tbok 2 [] [(12, .bool (decide (ref27 < 0)))] [] E (by kernel_rfl) (by kernel_rfl) trivial ?_
   clear E; intro a E
   refine wpList_nil ?_
   refine th_n ?_
   refine E.cases (t := 12) rfl (fun hb_ E_ => ?_) (fun hb_ E_ => ?_)
   ·
    replace E := E_; clear E_
    have h63 : ref27 < 0 := of_decide_eq_true hb_
    clear hb_; replace hP := ite_t h63 hP
    refine c_true E rfl ?_
    refine wp_seq ?_
    refine wp_region_lit ?_
    obtain ⟨g64, hP⟩ := ask_inv hP
    refine vn tbok 4 [.int .i64 ((-1) - ref27)] [(6, .int .i64 ((-1) - ref27)), (7, .bool true)] [IntKind.i64.wrap ((-1) - ref27) = (-1) - ref27] E (by kernel_rfl) (by kernel_rfl) (wrap_in g64) ?_
    clear E; intro a E
    refine wpList_nil ?_
    refine th_n ?_
    refine wp_ret ?_
    refine th_ret ?_
    refine bl_ret ?_
    refine th_ret ?_
    refine th_ret ?_
    refine .inr ⟨rfl, ?_⟩
    refine bl_ret ?_
    refine th_ret ?_
    have hx_ := Option.some.inj hP; subst hx_
    have hP : some (((-1) - ref27, true)) = some r := hK58
    obtain rfl := Option.some.inj hP
    refine ret2 E rfl rfl rfl ?_
    exact ⟨_, rfl, rfl, H.sel [] rfl⟩
   replace E := E_; clear E_
   have h65 : ¬ (ref27 < 0) := of_decide_eq_false hb_
   clear hb_; replace hP := ite_f h65 hP
   refine c_false E rfl ?_
   refine wp_skip ?_
   refine th_n ?_
   refine wp_seq ?_
   refine wp_seq ?_
   refine wp_region_lit ?_
   refine vn tbok 5 [] [(19, .bool (decide ((((List.length nodes) : Nat) : Int) ≤ ref27)))] [] E (by kernel_rfl) (by kernel_rfl) trivial ?_
   clear E; intro a E
   refine E.cases (t := 19) rfl (fun hb_ E_ => ?_) (fun hb_ E_ => ?_)
   ·
    replace E := E_; clear E_
    have h66 : (((List.length nodes) : Nat) : Int) ≤ ref27 := of_decide_eq_true hb_
    clear hb_; replace hP := ite_t h66 hP
    refine vn tbok 15 [] [(34, .bool true)] [] E (by kernel_rfl) (by kernel_rfl) trivial ?_
    clear E; intro a E
    refine wpList_nil ?_
    refine th_n ?_
    refine c_true E rfl ?_
    refine wp_seq ?_
    refine wp_region_lit ?_
    refine vn tbok 2 [] [(6, .int .i64 0), (7, .bool false)] [] E (by kernel_rfl) (by kernel_rfl) trivial ?_
    clear E; intro a E
    refine wpList_nil ?_
    refine th_n ?_
    refine wp_ret ?_
    refine th_ret ?_
    refine bl_ret ?_
    refine th_ret ?_
    refine th_ret ?_
    refine .inr ⟨rfl, ?_⟩
    refine bl_ret ?_
    refine th_ret ?_
    have hx_ := Option.some.inj hP; subst hx_
    have hP : some ((0, false)) = some r := hK58
    obtain rfl := Option.some.inj hP
    refine ret2 E rfl rfl rfl ?_
    exact ⟨_, rfl, rfl, H.sel [] rfl⟩
   replace E := E_; clear E_
   have h67 : ¬ ((((List.length nodes) : Nat) : Int) ≤ ref27) := of_decide_eq_false hb_
   clear hb_; replace hP := ite_f h67 hP
   obtain ⟨g68, hP⟩ := ask_inv hP
   obtain ⟨b69, o70, e_b69⟩ := (H.rd 0 rds_ro).addr (idx_pos g68)
   subst e_b69
   refine vn tbok 8 [.int .i64 ((List.getD nodes (Int.toNat ref27) (default : Nd)).P)] [(27, .bool (decide (((List.getD nodes (Int.toNat ref27) (default : Nd)).P) < 0)))] [0 ≤ ref27 ∧ ref27 < (((List.length nodes) : Nat) : Int), World.cell? w59 ⟨b69, o70 + (Int.toNat ref27) * 3, none⟩ = some (.int .i64 ((List.getD nodes (Int.toNat ref27) (default : Nd)).P))] E (by kernel_rfl) (by kernel_rfl) ⟨g68, (Rds.atP (H.rd 0 rds_ro) (default : Nd) g68).1⟩ ?_
   clear E; intro a E
   refine E.cases (t := 27) rfl (fun hb_ E_ => ?_) (fun hb_ E_ => ?_)
   ·
    replace E := E_; clear E_
    have h71 : ((List.getD nodes (Int.toNat ref27) (default : Nd)).P) < 0 := of_decide_eq_true hb_
    clear hb_; replace hP := ite_t h71 hP
    refine vn tbok 7 [] [(34, .bool true)] [] E (by kernel_rfl) (by kernel_rfl) trivial ?_
    clear E; intro a E
    refine wpList_nil ?_
    refine th_n ?_
    refine c_true E rfl ?_
    refine wp_seq ?_
    refine wp_region_lit ?_
    refine vn tbok 2 [] [(6, .int .i64 0), (7, .bool false)] [] E (by kernel_rfl) (by kernel_rfl) trivial ?_
    clear E; intro a E
    refine wpList_nil ?_
    refine th_n ?_
    refine wp_ret ?_
    refine th_ret ?_
    refine bl_ret ?_
    refine th_ret ?_
    refine th_ret ?_
    refine .inr ⟨rfl, ?_⟩
    refine bl_ret ?_
    refine th_ret ?_
    have hx_ := Option.some.inj hP; subst hx_
    have hP : some ((0, false)) = some r := hK58
    obtain rfl := Option.some.inj hP
    refine ret2 E rfl rfl rfl ?_
    exact ⟨_, rfl, rfl, H.sel [] rfl⟩
   replace E := E_; clear E_
   have h72 : ¬ (((List.getD nodes (Int.toNat ref27) (default : Nd)).P) < 0) := of_decide_eq_false hb_
   clear hb_; replace hP := ite_f h72 hP
   refine vn tbok 7 [.int .i64 ((List.getD nodes (Int.toNat ref27) (default : Nd)).P)] [(34, .bool (decide (8 ≤ ((List.getD nodes (Int.toNat ref27) (default : Nd)).P))))] [0 ≤ ref27 ∧ ref27 < (((List.length nodes) : Nat) : Int), World.cell? w59 ⟨b69, o70 + (Int.toNat ref27) * 3, none⟩ = some (.int .i64 ((List.getD nodes (Int.toNat ref27) (default : Nd)).P))] E (by kernel_rfl) (by kernel_rfl) ⟨g68, (Rds.atP (H.rd 0 rds_ro) (default : Nd) g68).1⟩ ?_
   clear E; intro a E
   refine wpList_nil ?_
   refine th_n ?_
   refine E.cases (t := 34) rfl (fun hb_ E_ => ?_) (fun hb_ E_ => ?_)
   ·
    replace E := E_; clear E_
    have h73 : 8 ≤ ((List.getD nodes (Int.toNat ref27) (default : Nd)).P) := of_decide_eq_true hb_
    clear hb_; replace hP := ite_t h73 hP
    refine c_true E rfl ?_
    refine wp_seq ?_
    refine wp_region_lit ?_
    refine vn tbok 2 [] [(6, .int .i64 0), (7, .bool false)] [] E (by kernel_rfl) (by kernel_rfl) trivial ?_
    clear E; intro a E
    refine wpList_nil ?_
    refine th_n ?_
    refine wp_ret ?_
    refine th_ret ?_
    refine bl_ret ?_
    refine th_ret ?_
    refine th_ret ?_
    refine .inr ⟨rfl, ?_⟩
    refine bl_ret ?_
    refine th_ret ?_
    have hx_ := Option.some.inj hP; subst hx_
    have hP : some ((0, false)) = some r := hK58
    obtain rfl := Option.some.inj hP
    refine ret2 E rfl rfl rfl ?_
    exact ⟨_, rfl, rfl, H.sel [] rfl⟩
   replace E := E_; clear E_
   have h74 : ¬ (8 ≤ ((List.getD nodes (Int.toNat ref27) (default : Nd)).P)) := of_decide_eq_false hb_
   clear hb_; replace hP := ite_f h74 hP
   refine c_false E rfl ?_
   refine wp_skip ?_
   refine th_n ?_
   refine wp_seq ?_
   refine wp_region_lit ?_
   refine vn tbok 4 [.agg #[.int .i64 ((List.getD nodes (Int.toNat ref27) (default : Nd)).P), .int .i64 ((List.getD nodes (Int.toNat ref27) (default : Nd)).Lo), .int .i64 ((List.getD nodes (Int.toNat ref27) (default : Nd)).Hi)]] [(38, .agg #[.int .i64 ((List.getD nodes (Int.toNat ref27) (default : Nd)).P), .int .i64 ((List.getD nodes (Int.toNat ref27) (default : Nd)).Lo), .int .i64 ((List.getD nodes (Int.toNat ref27) (default : Nd)).Hi)])] [0 ≤ ref27 ∧ ref27 < (((List.length nodes) : Nat) : Int), cellsAt w59 b69 (o70 + (Int.toNat ref27) * 3) [.int .i64 ((List.getD nodes (Int.toNat ref27) (default : Nd)).P), .int .i64 ((List.getD nodes (Int.toNat ref27) (default : Nd)).Lo), .int .i64 ((List.getD nodes (Int.toNat ref27) (default : Nd)).Hi)]] E (by kernel_rfl) (by kernel_rfl) ⟨g68, Rds.atP (H.rd 0 rds_ro) (default : Nd) g68⟩ ?_
   clear E; intro a E
   refine h_alloc H E rfl rfl tbok rfl ?_
   intro w76 g75 a hc77 hg79 H_ E_
   replace E := E_ _ rfl; clear E_
   replace H := H_; clear H_; try dsimp only [setn, addE, goneL] at H
   refine h_store (g := g75) (off := 0) H 1 rfl E rfl rfl rfl rfl tbok rfl rfl rfl rfl rfl ?_
   clear E; intro w80 a hc81 H_ E
   replace H := H_; clear H_; try dsimp only [setn, addE, goneL] at H
   refine wpList_nil ?_
   refine th_n ?_
   refine wp_seq ?_
   refine wp_region_lit ?_
   refine vn tbok 3 [.int .i64 ((List.getD nodes (Int.toNat ref27) (default : Nd)).Lo)] [(1, .int .i64 ((List.getD nodes (Int.toNat ref27) (default : Nd)).Lo))] [World.cell? w80 ⟨g75, 1, none⟩ = some (.int .i64 ((List.getD nodes (Int.toNat ref27) (default : Nd)).Lo))] E (by kernel_rfl) (by kernel_rfl) ((H.box 1 rfl).cell (j := 1) rfl) ?_
   clear E; intro a E
   refine wpList_nil ?_
   refine th_n ?_
   refine wp_seq ?_
   refine wp_region_lit ?_
   obtain ⟨g82, hP⟩ := ask_inv hP
   refine vn tbok 6 [.int .i64 ((List.getD nodes (Int.toNat ref27) (default : Nd)).P), .int .u8 (shrV .u8 ll ((List.getD nodes (Int.toNat ref27) (default : Nd)).P)), .int .u8 (andV .u8 (shrV .u8 ll ((List.getD nodes (Int.toNat ref27) (default : Nd)).P)) 1)] [(46, .bool ((andV .u8 (shrV .u8 ll ((List.getD nodes (Int.toNat ref27) (default : Nd)).P)) 1 : Int) == 1))] [World.cell? w80 ⟨g75, 0, none⟩ = some (.int .i64 ((List.getD nodes (Int.toNat ref27) (default : Nd)).P)), 0 ≤ ((List.getD nodes (Int.toNat ref27) (default : Nd)).P) ∧ Int.fdiv ll (2 ^ (min (Int.toNat ((List.getD nodes (Int.toNat ref27) (default : Nd)).P)) (IntKind.bits .u8))) = shrV .u8 ll ((List.getD nodes (Int.toNat ref27) (default : Nd)).P), IntKind.u8.wrap (BitVec.ofInt (IntKind.bits .u8) (shrV .u8 ll ((List.getD nodes (Int.toNat ref27) (default : Nd)).P)) &&& BitVec.ofInt (IntKind.bits .u8) 1).toNat = andV .u8 (shrV .u8 ll ((List.getD nodes (Int.toNat ref27) (default : Nd)).P)) 1] E (by kernel_rfl) (by kernel_rfl) ⟨(H.box 1 rfl).cell (j := 0) rfl, ⟨g82, rfl⟩, rfl⟩ ?_
   clear E; intro a E
   refine wpList_nil ?_
   refine th_n ?_
   refine E.cases (t := 46) rfl (fun hb_ E_ => ?_) (fun hb_ E_ => ?_)
   ·
    replace E := E_; clear E_
    have h83 : (andV .u8 (shrV .u8 ll ((List.getD nodes (Int.toNat ref27) (default : Nd)).P)) 1 : Int) = 1 := eq_of_beq hb_
    clear hb_; replace hP := ite_t h83 hP
    refine c_true E rfl ?_
    refine wp_region_lit ?_
    refine vn tbok 3 [.int .i64 ((List.getD nodes (Int.toNat ref27) (default : Nd)).Hi)] [(1, .int .i64 ((List.getD nodes (Int.toNat ref27) (default : Nd)).Hi))] [World.cell? w80 ⟨g75, 2, none⟩ = some (.int .i64 ((List.getD nodes (Int.toNat ref27) (default : Nd)).Hi))] E (by kernel_rfl) (by kernel_rfl) ((H.box 1 rfl).cell (j := 2) rfl) ?_
    clear E; intro a E
    refine wpList_nil ?_
    refine bl_n ?_
    refine th_n ?_
    refine wp_region_lit ?_
    obtain ⟨g84, hP⟩ := ask_inv hP
    refine vn tbok 2 [.int .i64 (x28 + 1)] [(9, .int .i64 (x28 + 1))] [IntKind.i64.wrap (x28 + 1) = x28 + 1] E (by kernel_rfl) (by kernel_rfl) (wrap_in g84) ?_
    clear E; intro a E
    refine wpList_nil ?_
    exact th_n ⟨m55, Nat.lt_succ_self _, (List.getD nodes (Int.toNat ref27) (default : Nd)).Hi, x28 + 1, E.pick _ ⟨rfl, rfl, rfl, rfl, trivial⟩, H.sel [0] rfl, hP⟩
   replace E := E_; clear E_
   have h85 : ¬ ((andV .u8 (shrV .u8 ll ((List.getD nodes (Int.toNat ref27) (default : Nd)).P)) 1 : Int) = 1) := ne_of_beq_false hb_
   clear hb_; replace hP := ite_f h85 hP
   refine c_false E rfl ?_
   refine wp_skip ?_
   refine bl_n ?_
   refine th_n ?_
   refine wp_region_lit ?_
   obtain ⟨g86, hP⟩ := ask_inv hP
   refine vn tbok 2 [.int .i64 (x28 + 1)] [(9, .int .i64 (x28 + 1))] [IntKind.i64.wrap (x28 + 1) = x28 + 1] E (by kernel_rfl) (by kernel_rfl) (wrap_in g86) ?_
   clear E; intro a E
   refine wpList_nil ?_
   exact th_n ⟨m55, Nat.lt_succ_self _, (List.getD nodes (Int.toNat ref27) (default : Nd)).Lo, x28 + 1, E.pick _ ⟨rfl, rfl, rfl, rfl, trivial⟩, H.sel [0] rfl, hP⟩
  replace E := E_; clear E_
  have h87 : ¬ (x28 < 9) := of_decide_eq_false hb_
  clear hb_; replace hP := ite_f h87 hP
  refine c_false E rfl ?_
  refine wp_exit ?_
  refine th_exit ?_
  have hx_ := Option.some.inj hP
  refine th_exit (.inl ⟨0, rfl, ?_⟩)
  exact ⟨rfl, (), E.pick _ trivial, H.sel [] rfl, hx_.symm⟩
 clear E H hL57; intro i_ a w59 hM_
 obtain ⟨rfl, x61, E, H, hx_⟩ := hM_
 subst hx_; have hP := elim_l hK58
 clear hK58
 refine bl_hit ?_
 refine th_n ?_
 refine wp_seq ?_
 refine wp_region_lit ?_
 refine vn tbok 2 [] [(6, .int .i64 0), (7, .bool false)] [] E (by kernel_rfl) (by kernel_rfl) trivial ?_
 clear E; intro a E
 refine wpList_nil ?_
 refine th_n ?_
 refine wp_ret ?_
 obtain rfl := Option.some.inj hP
 refine ret2 E rfl rfl rfl ?_
 exact ⟨_, rfl, rfl, H.sel [] rfl⟩

/-! rejoinder/board.Goes -/
def board_Goes_l1 (N : Nat) (aGuard : List Int) (aNodes : List Nd) (q : Int) (r41 : List Int) (x177 : Int) (r315 : List Int) : Nat → (List Int) → Int → Option (List Int)
  | 0, _, _ => none
  | m417 + 1, row368, x371 =>
    if x371 < (((List.length r315) : Nat) : Int) then
      ask (idx x371 (List.length r315)) <|
      ask (idx q (List.length aGuard)) <|
      Option.bind (guard_Go N aNodes (List.getD aGuard (Int.toNat q) 0) (orV .u8 (List.getD r41 (Int.toNat x177) 0) (List.getD r315 (Int.toNat x371) 0))) fun r432 =>
      ask (List.length row368 + List.length ([r432.1] : List Int) ≤ 1000000000) <|
      ask (in64 (x371 + 1)) <|
      board_Goes_l1 N aGuard aNodes q r41 x177 r315 m417 (row368 ++ ([r432.1] : List Int)) (x371 + 1)
    else
      some row368
def board_Goes_l0 (N : Nat) (aGuard : List Int) (aNodes : List Nd) (s : Int × Int) (q : Int) (r41 : List Int) : Nat → (List (List Int)) → Int → Option (List (List Int))
  | 0, _, _ => none
  | m303 + 1, out174, x177 =>
    if x177 < (((List.length r41) : Nat) : Int) then
      ask (idx x177 (List.length r41)) <|
      Option.bind (board_Moves N s.2) fun r315 =>
      Option.bind (board_Goes_l1 N aGuard aNodes q r41 x177 r315 N [] 0) fun x418 =>
      ask (List.length out174 + List.length ([x418] : List (List Int)) ≤ 1000000000) <|
      ask (in64 (x177 + 1)) <|
      board_Goes_l0 N aGuard aNodes s q r41 m303 (out174 ++ ([x418] : List (List Int))) (x177 + 1)
    else
      some out174
def board_Goes (N : Nat) (aProps : Int) (aAccept : List Bool) (aGuard : List Int) (aNodes : List Nd) (s : Int × Int) (q : Int) : Option ((List (List Int)) × Int) :=
  Option.bind (board_Check N aProps aAccept aGuard aNodes (s.1, s.2)) fun r23 =>
  if (r23 : Int) = 0 then
    if q < 0 then
      some ([], 2)
    else
      if (((List.length aAccept) : Nat) : Int) ≤ q then
        some ([], 2)
      else
        Option.bind (board_Moves N s.1) fun r41 =>
        Option.bind (board_Goes_l0 N aGuard aNodes s q r41 N [] 0) fun x304 =>
        some (x304, 0)
  else
    some ([], r23)
set_option maxRecDepth 100000 in
set_option maxHeartbeats 4000000 in
theorem board_Goes_calls {N : Nat} {S Fa : Nat → Prop} {w0 : World} {r : (List (List Int)) × Int} (A1 : Option Addr) (c2 : Nat) (A5 : Option Addr) (c6 : Nat) (A9 : Option Addr) (c10 : Nat) (aProps : Int) (aAccept : List Bool) (aGuard : List Int) (aNodes : List Nd) (s : Int × Int) (q : Int) (hk3 : List.length aAccept ≤ c2) (hk7 : List.length aGuard ≤ c6) (hk11 : List.length aNodes ≤ c10) (H : Hp S Fa w0 w0 [.ro false cBool A1 aAccept, .ro false (cInt .i64) A5 aGuard, .ro false cNode A9 aNodes]) (hP : board_Goes N aProps aAccept aGuard aNodes s q = some r) :
    Calls Try.prog 34 #[.agg #[.int .i64 aProps, .slice A1 (List.length aAccept) c2, .slice A5 (List.length aGuard) c6, .slice A9 (List.length aNodes) c10], .agg #[.int .u8 s.1, .int .u8 s.2], .int .i64 q] w0 fun e w' => ∃ v, e = .returned v ∧ ∃ (A479 : Option Addr) (c480 : Nat), v = .tuple #[.slice A479 (List.length r.1) c480, .int .i64 r.2] ∧ Hp S Fa w0 w' [.row true (cSl (cInt .i64)) 23 A479 c480 r.1] := by
 refine enterV (n := 73) Try.func34 rfl rfl rfl ?_
 intro a E
 replace E := E.pick [(0, .agg #[.int .i64 aProps, .slice A1 (List.length aAccept) c2, .slice A5 (List.length aGuard) c6, .slice A9 (List.length aNodes) c10]), (1, .agg #[.int .u8 s.1, .int .u8 s.2]), (2, .int .i64 q)] ⟨rfl, rfl, rfl, trivial⟩
 rw [board_Goes] at hP
 refine wp_seq ?_
 refine wp_region_lit ?_
 refine h_box H E rfl rfl rfl ?_
 intro w14 g13 a hc15 hg17 H_ E_
 replace E := E_ _ rfl; clear E_
 replace H := H_; clear H_; try dsimp only [setn, addE, goneL] at H
 refine h_box H E rfl rfl rfl ?_
 intro w19 g18 a hc20 hg22 H_ E_
 replace E := E_ _ rfl; clear E_
 replace H := H_; clear H_; try dsimp only [setn, addE, goneL] at H
 refine vn tbok 2 [] [] [] E (by kernel_rfl) (by kernel_rfl) trivial ?_
 clear E; intro a E
 refine wpList_nil ?_
 refine th_n ?_
 refine wp_seq ?_
 refine wp_seq ?_
 refine wp_region_lit ?_
 refine vn tbok 2 [.agg #[.int .i64 aProps, .slice A1 (List.length aAccept) c2, .slice A5 (List.length aGuard) c6, .slice A9 (List.length aNodes) c10], .agg #[.int .u8 s.1, .int .u8 s.2]] [(17, .agg #[.int .i64 aProps, .slice A1 (List.length aAccept) c2, .slice A5 (List.length aGuard) c6, .slice A9 (List.length aNodes) c10]), (18, .agg #[.int .u8 s.1, .int .u8 s.2])] [cellsAt w19 g13 (0) [.int .i64 aProps, .slice A1 (List.length aAccept) c2, .slice A5 (List.length aGuard) c6, .slice A9 (List.length aNodes) c10], cellsAt w19 g18 (0) [.int .u8 s.1, .int .u8 s.2]] E (by kernel_rfl) (by kernel_rfl) ⟨(H.box 3 rfl).sub 0 _ rfl, (H.box 4 rfl).sub 0 _ rfl⟩ ?_
 clear E; intro a E
 obtain ⟨r23, h24, hP⟩ := bind_inv hP
 obtain ⟨Fa25, Hc26, hb27⟩ := H.call [] [(0, false), (1, false), (2, false)] rfl rfl trivial
 refine e_call E rfl rfl Try.func25 rfl rfl rfl (board_Check_calls A1 c2 A5 c6 A9 c10 aProps aAccept aGuard aNodes (s.1, s.2) hk3 hk7 hk11 Hc26 h24) ?_
 rintro v28 w29 a ⟨rfl, HR30⟩ E_
 replace E := E_ _ rfl; clear E_
 obtain ⟨H_, hc31⟩ := hb27 _ _ HR30 rfl
 replace H := H_; clear H_; try dsimp only [setn, addE, goneL] at H
 refine vn tbok 1 [] [(8, .int .i64 r23)] [] E (by kernel_rfl) (by kernel_rfl) trivial ?_
 clear E; intro a E
 refine wpList_nil ?_
 refine th_n ?_
 refine wp_seq ?_
 refine wp_region_lit ?_
 refine vn tbok 2 [] [(21, .bool ((r23 : Int) != 0))] [] E (by kernel_rfl) (by kernel_rfl) trivial ?_
 clear E; intro a E
 refine wpList_nil ?_
 refine th_n ?_
 refine E.cases (t := 21) rfl (fun hb_ E_ => ?_) (fun hb_ E_ => ?_)
 ·
  replace E := E_; clear E_
  have h32 : ¬ ((r23 : Int) = 0) := bne_iff_ne.1 hb_
  clear hb_; replace hP := ite_f h32 hP
  refine c_true E rfl ?_
  refine wp_seq ?_
  refine wp_region_lit ?_
  refine vn tbok 3 [] [(6, .slice none 0 0), (7, .int .i64 r23)] [] E (by kernel_rfl) (by kernel_rfl) trivial ?_
  clear E; intro a E
  refine wpList_nil ?_
  refine th_n ?_
  refine wp_ret ?_
  refine th_ret ?_
  replace H := H.nilrow (cSl (cInt .i64)) 23; try dsimp only [setn, addE, goneL] at H
  obtain rfl := Option.some.inj hP
  refine ret2 E rfl rfl rfl ?_
  exact ⟨_, rfl, none, 0, rfl, H.sel [5] rfl⟩
 replace E := E_; clear E_
 have h34 : (r23 : Int) = 0 := bne_eq_false_iff_eq.1 hb_
 clear hb_; replace hP := ite_t h34 hP
 refine c_false E rfl ?_
 refine wp_skip ?_
 refine th_n ?_
 refine wp_seq ?_
 refine wp_seq ?_
 refine wp_region_lit ?_
 refine vn tbok 3 [] [(25, .bool (decide (q < 0)))] [] E (by kernel_rfl) (by kernel_rfl) trivial ?_
 clear E; intro a E
 refine E.cases (t := 25) rfl (fun hb_ E_ => ?_) (fun hb_ E_ => ?_)
 ·
  replace E := E_; clear E_
  have h35 : q < 0 := of_decide_eq_true hb_
  clear hb_; replace hP := ite_t h35 hP
  refine vn tbok 6 [] [(31, .bool true)] [] E (by kernel_rfl) (by kernel_rfl) trivial ?_
  clear E; intro a E
  refine wpList_nil ?_
  refine th_n ?_
  refine c_true E rfl ?_
  refine wp_seq ?_
  refine wp_region_lit ?_
  refine vn tbok 2 [] [(6, .slice none 0 0), (7, .int .i64 2)] [] E (by kernel_rfl) (by kernel_rfl) trivial ?_
  clear E; intro a E
  refine wpList_nil ?_
  refine th_n ?_
  refine wp_ret ?_
  refine th_ret ?_
  replace H := H.nilrow (cSl (cInt .i64)) 23; try dsimp only [setn, addE, goneL] at H
  obtain rfl := Option.some.inj hP
  refine ret2 E rfl rfl rfl ?_
  exact ⟨_, rfl, none, 0, rfl, H.sel [5] rfl⟩
 replace E := E_; clear E_
 have h37 : ¬ (q < 0) := of_decide_eq_false hb_
 clear hb_; replace hP := ite_f h37 hP
 refine vn tbok 6 [.slice A1 (List.length aAccept) c2] [(31, .bool (decide ((((List.length aAccept) : Nat) : Int) ≤ q)))] [World.cell? w29 ⟨g13, 1, none⟩ = some (.slice A1 (List.length aAccept) c2)] E (by kernel_rfl) (by kernel_rfl) ((H.box 3 rfl).cell (j := 1) rfl) ?_
 clear E; intro a E
 refine wpList_nil ?_
 refine th_n ?_
 refine E.cases (t := 31) rfl (fun hb_ E_ => ?_) (fun hb_ E_ => ?_)
 ·
  replace E := E_; clear E_
  have h38 : (((List.length aAccept) : Nat) : Int) ≤ q := of_decide_eq_true hb_
  clear hb_; replace hP := ite_t h38 hP
  refine c_true E rfl ?_
  refine wp_seq ?_
  refine wp_region_lit ?_
  refine vn tbok 2 [] [(6, .slice none 0 0), (7, .int .i64 2)] [] E (by kernel_rfl) (by kernel_rfl) trivial ?_
  clear E; intro a E
  refine wpList_nil ?_
  refine th_n ?_
  refine wp_ret ?_
  refine th_ret ?_
  replace H := H.nilrow (cSl (cInt .i64)) 23; try dsimp only [setn, addE, goneL] at H
  obtain rfl := Option.some.inj hP
  refine ret2 E rfl rfl rfl ?_
  exact ⟨_, rfl, none, 0, rfl, H.sel [5] rfl⟩
 replace E := E_; clear E_
 have h40 : ¬ ((((List.length aAccept) : Nat) : Int) ≤ q) := of_decide_eq_false hb_
 clear hb_; replace hP := ite_f h40 hP
 refine c_false E rfl ?_
 refine wp_skip ?_
 refine th_n ?_
 refine wp_seq ?_
 refine wp_region_lit ?_
 refine vn tbok 1 [] [(9, .slice none 0 0)] [] E (by kernel_rfl) (by kernel_rfl) trivial ?_
 clear E; intro a E
 refine wpList_nil ?_
 refine th_n ?_
 refine wp_seq ?_
 refine wp_seq ?_
 refine wp_region_lit ?_
 refine vn tbok 2 [.int .u8 s.1] [(33, .int .u8 s.1)] [World.cell? w29 ⟨g18, 0, none⟩ = some (.int .u8 s.1)] E (by kernel_rfl) (by kernel_rfl) ((H.box 4 rfl).cell (j := 0) rfl) ?_
 clear E; intro a E
 obtain ⟨r41, h42, hP⟩ := bind_inv hP
 obtain ⟨Fa43, Hc44, hb45⟩ := H.call [] [] rfl rfl trivial
 refine e_call E rfl rfl Try.func33 rfl rfl rfl (board_Moves_calls  s.1  Hc44 h42) ?_
 rintro v46 w47 a ⟨A50, c51, rfl, HR48⟩ E_
 replace E := E_ _ rfl; clear E_
 obtain ⟨H_, hc49⟩ := hb45 _ _ HR48 rfl
 replace H := H_; clear H_; try dsimp only [setn, addE, goneL] at H
 refine vn tbok 2 [] [(35, .int .i64 (((List.length r41) : Nat) : Int)), (36, .int .i64 0)] [] E (by kernel_rfl) (by kernel_rfl) trivial ?_
 clear E; intro a E
 refine wpList_nil ?_
 refine th_n ?_
 refine wp_block ?_
 obtain ⟨x304, hL305, hK306⟩ := bind_inv hP
 clear hP
 replace H := H.nilrow (cSl (cInt .i64)) 23; try dsimp only [setn, addE, goneL] at H
 refine loop_cut (fun i_ a w_ => (i_ = 0 ∧ ∃ (x310 : List (List Int)), ∃ (A301 : Option Addr) (c302 : Nat), Fr a 73 [(9, .slice A301 (List.length x310) c302)] ∧ Hp S Fa w0 w_ [.row true (cSl (cInt .i64)) 23 A301 c302 x310] ∧ x304 = x310)) ?_ ?_
 ·
  refine loopV (fun m309 a w308 => ∃ (out174 : List (List Int)) (x177 : Int), ∃ (A175 : Option Addr) (c176 : Nat), Fr a 73 [(2, .int .i64 q), (3, .pointer (some ⟨g13, 0, none⟩)), (4, .pointer (some ⟨g18, 0, none⟩)), (9, .slice A175 (List.length out174) c176), (34, .slice A50 (List.length r41) c51), (35, .int .i64 (((List.length r41) : Nat) : Int)), (36, .int .i64 x177)] ∧ Hp S Fa w0 w308 [.ro false cBool A1 aAccept, .ro false (cInt .i64) A5 aGuard, .ro false cNode A9 aNodes, .box g13 26 [.int .i64 aProps, .slice A1 (List.length aAccept) c2, .slice A5 (List.length aGuard) c6, .slice A9 (List.length aNodes) c10], .box g18 29 [.int .u8 s.1, .int .u8 s.2], .row true (cSl (cInt .i64)) 23 A175 c176 out174, .row true (cInt .u8) 27 A50 c51 r41] ∧ board_Goes_l0 N aGuard aNodes s q r41 m309 out174 x177 = some x304) N ?_ ?_
  ·
   exact ⟨[], 0, none, 0, E.pick _ ⟨rfl, rfl, rfl, rfl, rfl, rfl, rfl, trivial⟩, H.sel [0, 1, 2, 3, 4, 6, 5] rfl, hL305⟩
  clear E H hL305; intro m309 a w308 hI_
  obtain ⟨out174, x177, A175, c176, E, H, hP⟩ := hI_
  obtain ⟨m303, rfl⟩ : ∃ q_, m309 = q_ + 1 := by cases m309 with | zero => rw [board_Goes_l0] at hP; cases hP | succ q_ => exact ⟨q_, rfl⟩
  rw [board_Goes_l0] at hP
  refine wp_seq ?_
  refine wp_region_lit ?_
  refine vn tbok 1 [] [(37, .bool (decide (x177 < (((List.length r41) : Nat) : Int))))] [] E (by kernel_rfl) (by kernel_rfl) trivial ?_
  clear E; intro a E
  refine wpList_nil ?_
  refine th_n ?_
  refine wp_seq ?_
  refine E.cases (t := 37) rfl (fun hb_ E_ => ?_) (fun hb_ E_ => ?_)
  ·
   replace E := E_; clear E_
   have h311 : x177 < (((List.length r41) : Nat) : Int) := of_decide_eq_true hb_
   clear hb_; replace hP := ite_t h311 hP
   refine c_true E rfl ?_
   refine wp_skip ?_
   refine th_n ?_
   refine wp_seq ?_
   refine wp_block ?_
   refine wp_seq ?_
   refine wp_region_lit ?_
   obtain ⟨g312, hP⟩ := ask_inv hP
   obtain ⟨b313, e_b313⟩ := H.raddr 6 rfl (idx_pos g312)
   subst e_b313
   refine vn tbok 3 [.int .u8 (List.getD r41 (Int.toNat x177) 0)] [(11, .int .u8 (List.getD r41 (Int.toNat x177) 0))] [0 ≤ x177 ∧ x177 < (((List.length r41) : Nat) : Int), World.cell? w308 ⟨b313, 0 + (Int.toNat x177) * 1, none⟩ = some (.int .u8 (List.getD r41 (Int.toNat x177) 0))] E (by kernel_rfl) (by kernel_rfl) ⟨g312, Rds.at1 (H.rd 6 rds_row) 0 g312⟩ ?_
   clear E; intro a E
   refine wpList_nil ?_
   refine th_n ?_
   refine wp_seq ?_
   refine wp_region_lit ?_
   refine vn tbok 1 [] [(12, .slice none 0 0)] [] E (by kernel_rfl) (by kernel_rfl) trivial ?_
   clear E; intro a E
   refine wpList_nil ?_
   refine th_n ?_
   refine wp_seq ?_
   refine wp_seq ?_
   refine wp_region_lit ?_
   refine vn tbok 2 [.int .u8 s.2] [(41, .int .u8 s.2)] [World.cell? w308 ⟨g18, 1, none⟩ = some (.int .u8 s.2)] E (by kernel_rfl) (by kernel_rfl) ((H.box 4 rfl).cell (j := 1) rfl) ?_
   clear E; intro a E
   obtain ⟨r315, h316, hP⟩ := bind_inv hP
   obtain ⟨Fa317, Hc318, hb319⟩ := H.call [] [] rfl rfl trivial
   refine e_call E rfl rfl Try.func33 rfl rfl rfl (board_Moves_calls  s.2  Hc318 h316) ?_
   rintro v320 w321 a ⟨A324, c325, rfl, HR322⟩ E_
   replace E := E_ _ rfl; clear E_
   obtain ⟨H_, hc323⟩ := hb319 _ _ HR322 rfl
   replace H := H_; clear H_; try dsimp only [setn, addE, goneL] at H
   refine vn tbok 2 [] [(43, .int .i64 (((List.length r315) : Nat) : Int)), (44, .int .i64 0)] [] E (by kernel_rfl) (by kernel_rfl) trivial ?_
   clear E; intro a E
   refine wpList_nil ?_
   refine th_n ?_
   refine wp_block ?_
   obtain ⟨x418, hL419, hK420⟩ := bind_inv hP
   clear hP
   replace H := H.nilrow (cInt .i64) 3; try dsimp only [setn, addE, goneL] at H
   refine loop_cut (fun i_ a w_ => (i_ = 2 ∧ ∃ (x424 : List Int), ∃ (A415 : Option Addr) (c416 : Nat), Fr a 73 [(2, .int .i64 q), (3, .pointer (some ⟨g13, 0, none⟩)), (4, .pointer (some ⟨g18, 0, none⟩)), (9, .slice A175 (List.length out174) c176), (12, .slice A415 (List.length x424) c416), (34, .slice (some ⟨b313, 0, none⟩) (List.length r41) c51), (35, .int .i64 (((List.length r41) : Nat) : Int)), (36, .int .i64 x177)] ∧ Hp S Fa w0 w_ [.ro false cBool A1 aAccept, .ro false (cInt .i64) A5 aGuard, .ro false cNode A9 aNodes, .box g13 26 [.int .i64 aProps, .slice A1 (List.length aAccept) c2, .slice A5 (List.length aGuard) c6, .slice A9 (List.length aNodes) c10], .box g18 29 [.int .u8 s.1, .int .u8 s.2], .row true (cSl (cInt .i64)) 23 A175 c176 out174, .row true (cInt .i64) 3 A415 c416 x424, .row true (cInt .u8) 27 (some ⟨b313, 0, none⟩) c51 r41] ∧ x418 = x424)) ?_ ?_
   ·
    refine loopV (fun m423 a w422 => ∃ (row368 : List Int) (x371 : Int), ∃ (A369 : Option Addr) (c370 : Nat), Fr a 73 [(2, .int .i64 q), (3, .pointer (some ⟨g13, 0, none⟩)), (4, .pointer (some ⟨g18, 0, none⟩)), (9, .slice A175 (List.length out174) c176), (11, .int .u8 (List.getD r41 (Int.toNat x177) 0)), (12, .slice A369 (List.length row368) c370), (34, .slice (some ⟨b313, 0, none⟩) (List.length r41) c51), (35, .int .i64 (((List.length r41) : Nat) : Int)), (36, .int .i64 x177), (42, .slice A324 (List.length r315) c325), (43, .int .i64 (((List.length r315) : Nat) : Int)), (44, .int .i64 x371)] ∧ Hp S Fa w0 w422 [.ro false cBool A1 aAccept, .ro false (cInt .i64) A5 aGuard, .ro false cNode A9 aNodes, .box g13 26 [.int .i64 aProps, .slice A1 (List.length aAccept) c2, .slice A5 (List.length aGuard) c6, .slice A9 (List.length aNodes) c10], .box g18 29 [.int .u8 s.1, .int .u8 s.2], .row true (cSl (cInt .i64)) 23 A175 c176 out174, .row true (cInt .i64) 3 A369 c370 row368, .row true (cInt .u8) 27 (some ⟨b313, 0, none⟩) c51 r41, .row true (cInt .u8) 27 A324 c325 r315] ∧ board_Goes_l1 N aGuard aNodes q r41 x177 r315 m423 row368 x371 = some x418) N ?_ ?_
    ·
     exact ⟨[], 0, none, 0, E.pick _ ⟨rfl, rfl, rfl, rfl, rfl, rfl, rfl, rfl, rfl, rfl, rfl, rfl, trivial⟩, H.sel [0, 1, 2, 3, 4, 5, 8, 6, 7] rfl, hL419⟩
    clear E H hL419; intro m423 a w422 hI_
    obtain ⟨row368, x371, A369, c370, E, H, hP⟩ := hI_
    obtain ⟨m417, rfl⟩ : ∃ q_, m423 = q_ + 1 := by cases m423 with | zero => rw [board_Goes_l1] at hP; cases hP | succ q_ => exact ⟨q_, rfl⟩
    rw [board_Goes_l1] at hP
    refine wp_seq ?_
    refine wp_region_lit ?_
    refine vn tbok 1 [] [(45, .bool (decide (x371 < (((List.length r315) : Nat) : Int))))] [] E (by kernel_rfl) (by kernel_rfl) trivial ?_
    clear E; intro a E
    refine wpList_nil ?_
    refine th_n ?_
    refine wp_seq ?_
    refine E.cases (t := 45) rfl (fun hb_ E_ => ?_) (fun hb_ E_ => ?_)
    ·
     replace E := E_; clear E_
     have h425 : x371 < (((List.length r315) : Nat) : Int) := of_decide_eq_true hb_
     clear hb_; replace hP := ite_t h425 hP
     refine c_true E rfl ?_
     refine wp_skip ?_
     refine th_n ?_
     refine wp_seq ?_
     refine wp_block ?_
     refine wp_seq ?_
     refine wp_region_lit ?_
     obtain ⟨g426, hP⟩ := ask_inv hP
     obtain ⟨b427, e_b427⟩ := H.raddr 8 rfl (idx_pos g426)
     subst e_b427
     refine vn tbok 3 [.int .u8 (List.getD r315 (Int.toNat x371) 0)] [(14, .int .u8 (List.getD r315 (Int.toNat x371) 0))] [0 ≤ x371 ∧ x371 < (((List.length r315) : Nat) : Int), World.cell? w422 ⟨b427, 0 + (Int.toNat x371) * 1, none⟩ = some (.int .u8 (List.getD r315 (Int.toNat x371) 0))] E (by kernel_rfl) (by kernel_rfl) ⟨g426, Rds.at1 (H.rd 8 rds_row) 0 g426⟩ ?_
     clear E; intro a E
     refine wpList_nil ?_
     refine th_n ?_
     refine wp_seq ?_
     obtain ⟨g429, hP⟩ := ask_inv hP
     obtain ⟨b430, o431, e_b430⟩ := (H.rd 1 rds_ro).addr (idx_pos g429)
     subst e_b430
     obtain ⟨r432, h433, hP⟩ := bind_inv hP
     have HR444 := H
     refine dr_start (S := fun w_ => Chg (atL []) w422 w_) (by kernel_rfl) ?_
     intro w441 hc442
     have HS443 : Chg (atL []) w422 w441 := hc442.mono (fun _ _ h_ => h_.elim)
     replace H := H.ext hc442
     refine dn tbok (by kernel_rfl) [0, 1, 2, 3, 4, 5, 6, 7, 8, 9] [.slice A9 (List.length aNodes) c10, .slice (some ⟨b430, o431, none⟩) (List.length aGuard) c6, .int .i64 (List.getD aGuard (Int.toNat q) 0), .int .u8 (orV .u8 (List.getD r41 (Int.toNat x177) 0) (List.getD r315 (Int.toNat x371) 0))] [(50, .slice A9 (List.length aNodes) c10), (55, .int .i64 (List.getD aGuard (Int.toNat q) 0)), (58, .int .u8 (orV .u8 (List.getD r41 (Int.toNat x177) 0) (List.getD r315 (Int.toNat x371) 0)))] (fun w_ => [World.cell? w_ ⟨g13, 3, none⟩ = some (.slice A9 (List.length aNodes) c10), World.cell? w_ ⟨g13, 2, none⟩ = some (.slice (some ⟨b430, o431, none⟩) (List.length aGuard) c6), 0 ≤ q ∧ q < (((List.length aGuard) : Nat) : Int), World.cell? w_ ⟨b430, o431 + (Int.toNat q) * 1, none⟩ = some (.int .i64 (List.getD aGuard (Int.toNat q) 0)), IntKind.u8.wrap (BitVec.ofInt (IntKind.bits .u8) (List.getD r41 (Int.toNat x177) 0) ||| BitVec.ofInt (IntKind.bits .u8) (List.getD r315 (Int.toNat x371) 0)).toNat = orV .u8 (List.getD r41 (Int.toNat x177) 0) (List.getD r315 (Int.toNat x371) 0)]) 6 E (fun _ _ => by kernel_rfl) (by kernel_rfl) (fun w_ hS_ => ⟨(HR444.boxk [] hS_ 3 rfl rfl).cell (j := 3) rfl, (HR444.boxk [] hS_ 3 rfl rfl).cell (j := 2) rfl, g429, Rds.at1 (HR444.rdk [] hS_ 1 rds_ro rfl) 0 g429, rfl⟩) (by kernel_rfl) HS443 ?_
     clear E; intro a E
     refine wpAnyH_all (rs := [10]) (by kernel_rfl) (by simp) ?_
     refine all1 ?_
     refine wpOp_of_list rfl ?_
     obtain ⟨Fa445, Hc446, hb447⟩ := H.call [] [(2, false)] rfl rfl trivial
     refine e_call E rfl rfl Try.func59 rfl rfl rfl (guard_Go_calls A9 c10 aNodes (List.getD aGuard (Int.toNat q) 0) (orV .u8 (List.getD r41 (Int.toNat x177) 0) (List.getD r315 (Int.toNat x371) 0)) hk11 Hc446 h433) ?_
     rintro v448 w449 a ⟨rfl, HR450⟩ E_
     replace E := E_ _ rfl; clear E_
     obtain ⟨H_, hc451⟩ := hb447 _ _ HR450 rfl
     replace HS443 := HS443.ext (callS_ext hc451)
     replace H := H_; clear H_; try dsimp only [setn, addE, goneL] at H
     refine wpList_nil ?_
     refine th_n ⟨HS443, ?_⟩
     refine dn tbok (by kernel_rfl) [11, 12, 13, 14, 15] [] [(15, .int .i64 r432.1)] (fun w_ => []) 0 E (fun _ _ => by kernel_rfl) (by kernel_rfl) (fun w_ hS_ => trivial) (by kernel_rfl) HS443 ?_
     clear E; intro a E
     refine dr_done (by kernel_rfl) ?_
     clear HS443 HR444
     refine th_n ?_
     refine wp_region_lit ?_
     refine vn tbok 2 [] [(62, .slice A369 (List.length row368) c370), (63, .int .i64 r432.1)] [] E (by kernel_rfl) (by kernel_rfl) trivial ?_
     clear E; intro a E
     refine h_buildSlice (ps := [(0, .int .i64 r432.1)]) (cs := [.int .i64 r432.1]) H E rfl rfl tbok rfl rfl (by kernel_rfl) ?_
     intro w453 g452 a hc454 hg456 H_ E_
     replace E := E_ _ rfl; clear E_
     replace H := H_; clear H_; try dsimp only [setn, addE, goneL] at H
     obtain ⟨g457, hP⟩ := ask_inv hP
     refine h_append (cInt .i64) (xs := row368) (ys := ([r432.1] : List Int)) (0 : Int) H 6 rfl E rfl rfl tbok rfl rfl rfl rfl rfl (fun _ _ => rfl) rfl rfl (fun _ HF_ => HF_.srcB 9 rfl (⟨_, _, rfl, rfl, rfl⟩)) g457 ?_
     intro w458 A459 c460 a hc461 hA462 H_ E_
     replace E := E_ _ rfl; clear E_
     replace H := H_; clear H_; try dsimp only [setn, addE, goneL] at H
     refine vn tbok 1 [] [(12, .slice A459 (List.length (row368 ++ ([r432.1] : List Int))) c460)] [] E (by kernel_rfl) (by kernel_rfl) trivial ?_
     clear E; intro a E
     refine wpList_nil ?_
     refine bl_n ?_
     refine th_n ?_
     refine wp_region_lit ?_
     obtain ⟨g463, hP⟩ := ask_inv hP
     refine vn tbok 2 [.int .i64 (x371 + 1)] [(44, .int .i64 (x371 + 1))] [IntKind.i64.wrap (x371 + 1) = x371 + 1] E (by kernel_rfl) (by kernel_rfl) (wrap_in g463) ?_
     clear E; intro a E
     refine wpList_nil ?_
     exact th_n ⟨m417, Nat.lt_succ_self _, row368 ++ ([r432.1] : List Int), x371 + 1, A459, c460, E.pick _ ⟨rfl, rfl, rfl, rfl, rfl, rfl, rfl, rfl, rfl, rfl, rfl, rfl, trivial⟩, H.sel [0, 1, 2, 3, 4, 5, 6, 7, 8] rfl, hP⟩
    replace E := E_; clear E_
    have h464 : ¬ (x371 < (((List.length r315) : Nat) : Int)) := of_decide_eq_false hb_
    clear hb_; replace hP := ite_f h464 hP
    refine c_false E rfl ?_
    refine wp_exit ?_
    refine th_exit ?_
    have hx_ := Option.some.inj hP
    refine th_exit (.inl ⟨2, rfl, ?_⟩)
    exact ⟨rfl, row368, A369, c370, E.pick _ ⟨rfl, rfl, rfl, rfl, rfl, rfl, rfl, rfl, trivial⟩, H.sel [0, 1, 2, 3, 4, 5, 6, 7] rfl, hx_.symm⟩
   clear E H hL419; intro i_ a w422 hM_
   obtain ⟨rfl, x424, A415, c416, E, H, hx_⟩ := hM_
   subst hx_; have hP := hK420; clear hK420
   refine bl_hit ?_
   refine th_n ?_
   refine wp_region_lit ?_
   refine vn tbok 2 [] [(67, .slice A175 (List.length out174) c176), (68, .slice A415 (List.length x418) c416)] [] E (by kernel_rfl) (by kernel_rfl) trivial ?_
   clear E; intro a E
   refine h_buildSlice (ps := [(0, .slice A415 (List.length x418) c416)]) (cs := [.slice A415 (List.length x418) c416]) H E rfl rfl tbok rfl rfl (by kernel_rfl) ?_
   intro w466 g465 a hc467 hg469 H_ E_
   replace E := E_ _ rfl; clear E_
   replace H := H_; clear H_; try dsimp only [setn, addE, goneL] at H
   have hk470 := H.rcap 6 rfl
   replace H := H.frz 6 rfl; try dsimp only [setn, addE, goneL] at H
   obtain ⟨g471, hP⟩ := ask_inv hP
   refine h_append (cSl (cInt .i64)) (xs := out174) (ys := ([x418] : List (List Int))) ([] : List Int) H 5 rfl E rfl rfl tbok rfl rfl rfl rfl rfl (fun _ _ => kSl_nil) rfl rfl (fun _ HF_ => HF_.srcB 8 rfl ⟨_, _, rfl, ⟨_, _, rfl, hk470, (HF_.roC 6 rfl)⟩, rfl⟩) g471 ?_
   intro w472 A473 c474 a hc475 hA476 H_ E_
   replace E := E_ _ rfl; clear E_
   replace H := H_; clear H_; try dsimp only [setn, addE, goneL] at H
   refine vn tbok 1 [] [(9, .slice A473 (List.length (out174 ++ ([x418] : List (List Int)))) c474)] [] E (by kernel_rfl) (by kernel_rfl) trivial ?_
   clear E; intro a E
   refine wpList_nil ?_
   refine bl_n ?_
   refine th_n ?_
   refine wp_region_lit ?_
   obtain ⟨g477, hP⟩ := ask_inv hP
   refine vn tbok 2 [.int .i64 (x177 + 1)] [(36, .int .i64 (x177 + 1))] [IntKind.i64.wrap (x177 + 1) = x177 + 1] E (by kernel_rfl) (by kernel_rfl) (wrap_in g477) ?_
   clear E; intro a E
   refine wpList_nil ?_
   exact th_n ⟨m303, Nat.lt_succ_self _, out174 ++ ([x418] : List (List Int)), x177 + 1, A473, c474, E.pick _ ⟨rfl, rfl, rfl, rfl, rfl, rfl, rfl, trivial⟩, H.sel [0, 1, 2, 3, 4, 5, 7] rfl, hP⟩
  replace E := E_; clear E_
  have h478 : ¬ (x177 < (((List.length r41) : Nat) : Int)) := of_decide_eq_false hb_
  clear hb_; replace hP := ite_f h478 hP
  refine c_false E rfl ?_
  refine wp_exit ?_
  refine th_exit ?_
  have hx_ := Option.some.inj hP
  refine th_exit (.inl ⟨0, rfl, ?_⟩)
  exact ⟨rfl, out174, A175, c176, E.pick _ ⟨rfl, trivial⟩, H.sel [5] rfl, hx_.symm⟩
 clear E H hL305; intro i_ a w308 hM_
 obtain ⟨rfl, x310, A301, c302, E, H, hx_⟩ := hM_
 subst hx_; have hP := hK306; clear hK306
 refine bl_hit ?_
 refine th_n ?_
 refine wp_seq ?_
 refine wp_region_lit ?_
 refine vn tbok 3 [] [(6, .slice A301 (List.length x304) c302), (7, .int .i64 0)] [] E (by kernel_rfl) (by kernel_rfl) trivial ?_
 clear E; intro a E
 refine wpList_nil ?_
 refine th_n ?_
 refine wp_ret ?_
 obtain rfl := Option.some.inj hP
 refine ret2 E rfl rfl rfl ?_
 exact ⟨_, rfl, A301, c302, rfl, H.sel [0] rfl⟩

end Go.V
