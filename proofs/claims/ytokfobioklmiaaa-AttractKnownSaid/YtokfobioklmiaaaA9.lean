/- Plain functions, and the calls that give them. -/
import Derived.Test.YtokfobioklmiaaaA8
set_option linter.all false
set_option linter.unusedVariables false
set_option linter.unnecessarySimpa false
set_option linter.unusedSimpArgs false
namespace Go.V
open Go Go.Proofs
/-! rejoinder/attract.Step -/
def attract_Step (N : Nat) (aProps : Int) (aAccept : List Bool) (aGuard : List Int) (aNodes : List Nd) (s : Int × Int) (won : List Bool) : Option ((List Bool) × Int) :=
  Option.bind (attract_rows N aProps aAccept aGuard aNodes (s.1, s.2)) fun r27 =>
  if (r27.2 : Int) = 0 then
    if ((((List.length won) : Nat) : Int) : Int) = (((List.length r27.1) : Nat) : Int) then
      Option.bind (attract_before N r27.1 won) fun r45 =>
      some (r45, 0)
    else
      some ([], 2)
  else
    some ([], r27.2)
set_option maxRecDepth 100000 in
theorem attract_Step_calls {N : Nat} {S Fa : Nat → Prop} {w0 : World} {r : (List Bool) × Int} (A1 : Option Addr) (c2 : Nat) (A5 : Option Addr) (c6 : Nat) (A9 : Option Addr) (c10 : Nat) (A13 : Option Addr) (c14 : Nat) (aProps : Int) (aAccept : List Bool) (aGuard : List Int) (aNodes : List Nd) (s : Int × Int) (won : List Bool) (hk3 : List.length aAccept ≤ c2) (hk7 : List.length aGuard ≤ c6) (hk11 : List.length aNodes ≤ c10) (hk15 : List.length won ≤ c14) (H : Hp S Fa w0 w0 [.ro false cBool A1 aAccept, .ro false (cInt .i64) A5 aGuard, .ro false cNode A9 aNodes, .ro false cBool A13 won]) (hP : attract_Step N aProps aAccept aGuard aNodes s won = some r) :
    Calls Try.prog 20 #[.agg #[.int .i64 aProps, .slice A1 (List.length aAccept) c2, .slice A5 (List.length aGuard) c6, .slice A9 (List.length aNodes) c10], .agg #[.int .u8 s.1, .int .u8 s.2], .slice A13 (List.length won) c14] w0 fun e w' => ∃ v, e = .returned v ∧ ∃ (A57 : Option Addr) (c58 : Nat), v = .tuple #[.slice A57 (List.length r.1) c58, .int .i64 r.2] ∧ Hp S Fa w0 w' [.row true cBool 4 A57 c58 r.1] := by
  refine enterV (n := 27) Try.func20 rfl rfl rfl ?_
  intro a E
  replace E := E.pick [(0, .agg #[.int .i64 aProps, .slice A1 (List.length aAccept) c2, .slice A5 (List.length aGuard) c6, .slice A9 (List.length aNodes) c10]), (1, .agg #[.int .u8 s.1, .int .u8 s.2]), (2, .slice A13 (List.length won) c14)] ⟨rfl, rfl, rfl, trivial⟩
  rw [attract_Step] at hP
  refine wp_seq ?_
  refine wp_region_lit ?_
  refine h_box H E rfl rfl rfl ?_
  intro w18 g17 a hc19 hg21 H_ E_
  replace E := E_ _ rfl; clear E_
  replace H : Hp S Fa w0 w18 [.ro false cBool A1 aAccept, .ro false (cInt .i64) A5 aGuard, .ro false cNode A9 aNodes, .ro false cBool A13 won, .box g17 26 [.int .i64 aProps, .slice A1 (List.length aAccept) c2, .slice A5 (List.length aGuard) c6, .slice A9 (List.length aNodes) c10]] := H_; clear H_
  refine h_box H E rfl rfl rfl ?_
  intro w23 g22 a hc24 hg26 H_ E_
  replace E := E_ _ rfl; clear E_
  replace H : Hp S Fa w0 w23 [.ro false cBool A1 aAccept, .ro false (cInt .i64) A5 aGuard, .ro false cNode A9 aNodes, .ro false cBool A13 won, .box g17 26 [.int .i64 aProps, .slice A1 (List.length aAccept) c2, .slice A5 (List.length aGuard) c6, .slice A9 (List.length aNodes) c10], .box g22 29 [.int .u8 s.1, .int .u8 s.2]] := H_; clear H_
  refine vrun (w := w23) (lp := [(2, .slice A13 (List.length won) c14), (3, .pointer (some ⟨g17, 0, none⟩)), (4, .pointer (some ⟨g22, 0, none⟩))]) (φ := []) tbok 2 [] [2, 3, 4] E (by kernel_rfl) trivial ?_
  clear E; intro a E
  refine wpList_nil ?_
  refine th_n ?_
  refine wp_seq ?_
  refine wp_region_lit ?_
  refine vrun (w := w23) (lp := [(2, .slice A13 (List.length won) c14), (11, .agg #[.int .i64 aProps, .slice A1 (List.length aAccept) c2, .slice A5 (List.length aGuard) c6, .slice A9 (List.length aNodes) c10]), (12, .agg #[.int .u8 s.1, .int .u8 s.2])]) (φ := [cellsAt w23 g17 (0) [.int .i64 aProps, .slice A1 (List.length aAccept) c2, .slice A5 (List.length aGuard) c6, .slice A9 (List.length aNodes) c10], cellsAt w23 g22 (0) [.int .u8 s.1, .int .u8 s.2]]) tbok 2 [.agg #[.int .i64 aProps, .slice A1 (List.length aAccept) c2, .slice A5 (List.length aGuard) c6, .slice A9 (List.length aNodes) c10], .agg #[.int .u8 s.1, .int .u8 s.2]] [2, 11, 12] E (by kernel_rfl) ⟨(H.box 4 rfl).sub 0 _ rfl, (H.box 5 rfl).sub 0 _ rfl⟩ ?_
  clear E; intro a E
  obtain ⟨r27, h28, hP⟩ := bind_inv hP
  obtain ⟨Fa29, Hc30, hb31⟩ := H.call [] [(0, false), (1, false), (2, false)] rfl rfl trivial
  refine e_call E rfl rfl Try.func28 rfl rfl rfl (attract_rows_calls A1 c2 A5 c6 A9 c10 aProps aAccept aGuard aNodes (s.1, s.2) hk3 hk7 hk11 Hc30 h28) ?_
  rintro v32 w33 a ⟨A36, c37, rfl, HR34⟩ E_
  replace E := E_ _ rfl; clear E_
  obtain ⟨H_, hc35⟩ := hb31 _ _ HR34 rfl
  replace H : Hp S Fa w0 w33 [.ro false cBool A1 aAccept, .ro false (cInt .i64) A5 aGuard, .ro false cNode A9 aNodes, .ro false cBool A13 won, .box g17 26 [.int .i64 aProps, .slice A1 (List.length aAccept) c2, .slice A5 (List.length aGuard) c6, .slice A9 (List.length aNodes) c10], .box g22 29 [.int .u8 s.1, .int .u8 s.2], .row true (cSl (cSl (cInt .i64))) 40 A36 c37 r27.1] := H_; clear H_
  refine vrun (w := w33) (lp := [(2, .slice A13 (List.length won) c14), (8, .slice A36 (List.length r27.1) c37), (9, .int .i64 r27.2)]) (φ := []) tbok 5 [] [2, 8, 9] E (by kernel_rfl) trivial ?_
  clear E; intro a E
  refine wpList_nil ?_
  refine th_n ?_
  refine wp_seq ?_
  refine wp_seq ?_
  refine wp_region_lit ?_
  refine vrun (w := w33) (lp := [(2, .slice A13 (List.length won) c14), (8, .slice A36 (List.length r27.1) c37), (9, .int .i64 r27.2), (17, .bool ((r27.2 : Int) != 0))]) (φ := []) tbok 2 [] [2, 8, 9, 17] E (by kernel_rfl) trivial ?_
  clear E; intro a E
  refine wpList_nil ?_
  refine th_n ?_
  refine E.cases (t := 17) rfl (fun hb_ E_ => ?_) (fun hb_ E_ => ?_)
  · replace E := E_; clear E_
    have h39 : ¬ ((r27.2 : Int) = 0) := bne_iff_ne.1 hb_
    clear hb_; replace hP := ite_f h39 hP
    refine c_true E rfl ?_
    refine wp_seq ?_
    refine wp_region_lit ?_
    refine vrun (w := w33) (lp := [(6, .slice none 0 0), (7, .int .i64 r27.2)]) (φ := []) tbok 3 [] [6, 7] E (by kernel_rfl) trivial ?_
    clear E; intro a E
    refine wpList_nil ?_
    refine th_n ?_
    refine wp_ret ?_
    refine th_ret ?_
    replace H : Hp S Fa w0 w33 [.ro false cBool A1 aAccept, .ro false (cInt .i64) A5 aGuard, .ro false cNode A9 aNodes, .ro false cBool A13 won, .box g17 26 [.int .i64 aProps, .slice A1 (List.length aAccept) c2, .slice A5 (List.length aGuard) c6, .slice A9 (List.length aNodes) c10], .box g22 29 [.int .u8 s.1, .int .u8 s.2], .row true (cSl (cSl (cInt .i64))) 40 A36 c37 r27.1, .row true cBool 4 none 0 []] := H.nilrow cBool 4
    obtain rfl := Option.some.inj hP
    refine ret2 E rfl rfl rfl ?_
    exact ⟨_, rfl, none, 0, rfl, H.sel [7] rfl⟩
  · replace E := E_; clear E_
    have h41 : (r27.2 : Int) = 0 := bne_eq_false_iff_eq.1 hb_
    clear hb_; replace hP := ite_t h41 hP
    refine c_false E rfl ?_
    refine wp_skip ?_
    refine th_n ?_
    refine wp_seq ?_
    refine wp_seq ?_
    refine wp_region_lit ?_
    refine vrun (w := w33) (lp := [(2, .slice A13 (List.length won) c14), (8, .slice A36 (List.length r27.1) c37), (23, .bool (((((List.length won) : Nat) : Int) : Int) != (((List.length r27.1) : Nat) : Int)))]) (φ := []) tbok 5 [] [2, 8, 23] E (by kernel_rfl) trivial ?_
    clear E; intro a E
    refine wpList_nil ?_
    refine th_n ?_
    refine E.cases (t := 23) rfl (fun hb_ E_ => ?_) (fun hb_ E_ => ?_)
    · replace E := E_; clear E_
      have h42 : ¬ (((((List.length won) : Nat) : Int) : Int) = (((List.length r27.1) : Nat) : Int)) := bne_iff_ne.1 hb_
      clear hb_; replace hP := ite_f h42 hP
      refine c_true E rfl ?_
      refine wp_seq ?_
      refine wp_region_lit ?_
      refine vrun (w := w33) (lp := [(6, .slice none 0 0), (7, .int .i64 2)]) (φ := []) tbok 2 [] [6, 7] E (by kernel_rfl) trivial ?_
      clear E; intro a E
      refine wpList_nil ?_
      refine th_n ?_
      refine wp_ret ?_
      refine th_ret ?_
      replace H : Hp S Fa w0 w33 [.ro false cBool A1 aAccept, .ro false (cInt .i64) A5 aGuard, .ro false cNode A9 aNodes, .ro false cBool A13 won, .box g17 26 [.int .i64 aProps, .slice A1 (List.length aAccept) c2, .slice A5 (List.length aGuard) c6, .slice A9 (List.length aNodes) c10], .box g22 29 [.int .u8 s.1, .int .u8 s.2], .row true (cSl (cSl (cInt .i64))) 40 A36 c37 r27.1, .row true cBool 4 none 0 []] := H.nilrow cBool 4
      obtain rfl := Option.some.inj hP
      refine ret2 E rfl rfl rfl ?_
      exact ⟨_, rfl, none, 0, rfl, H.sel [7] rfl⟩
    · replace E := E_; clear E_
      have h44 : ((((List.length won) : Nat) : Int) : Int) = (((List.length r27.1) : Nat) : Int) := bne_eq_false_iff_eq.1 hb_
      clear hb_; replace hP := ite_t h44 hP
      refine c_false E rfl ?_
      refine wp_skip ?_
      refine th_n ?_
      refine wp_seq ?_
      refine wp_region_lit ?_
      refine vrun (w := w33) (lp := [(24, .slice A36 (List.length r27.1) c37), (25, .slice A13 (List.length won) c14)]) (φ := []) tbok 2 [] [24, 25] E (by kernel_rfl) trivial ?_
      clear E; intro a E
      obtain ⟨r45, h46, hP⟩ := bind_inv hP
      obtain ⟨Fa47, Hc48, hb49⟩ := H.call [] [(6, false), (3, false)] rfl rfl trivial
      refine e_call E rfl rfl Try.func30 rfl rfl rfl (attract_before_calls A36 c37 A13 c14 r27.1 won (H.rcap 6 rfl) hk15 Hc48 h46) ?_
      rintro v50 w51 a ⟨A54, c55, rfl, HR52⟩ E_
      replace E := E_ _ rfl; clear E_
      obtain ⟨H_, hc53⟩ := hb49 _ _ HR52 rfl
      replace H : Hp S Fa w0 w51 [.ro false cBool A1 aAccept, .ro false (cInt .i64) A5 aGuard, .ro false cNode A9 aNodes, .ro false cBool A13 won, .box g17 26 [.int .i64 aProps, .slice A1 (List.length aAccept) c2, .slice A5 (List.length aGuard) c6, .slice A9 (List.length aNodes) c10], .box g22 29 [.int .u8 s.1, .int .u8 s.2], .row true (cSl (cSl (cInt .i64))) 40 A36 c37 r27.1, .row true cBool 4 A54 c55 r45] := H_; clear H_
      refine vrun (w := w51) (lp := [(6, .slice A54 (List.length r45) c55), (7, .int .i64 0)]) (φ := []) tbok 2 [] [6, 7] E (by kernel_rfl) trivial ?_
      clear E; intro a E
      refine wpList_nil ?_
      refine th_n ?_
      refine wp_ret ?_
      obtain rfl := Option.some.inj hP
      refine ret2 E rfl rfl rfl ?_
      exact ⟨_, rfl, A54, c55, rfl, H.sel [7] rfl⟩

/-! rejoinder/rejoinderkit.SameBools -/
def kit_SameBools_l0 (N : Nat) (aa : List Bool) (b : List Bool) : Nat → Int → Option (Unit ⊕ Bool)
  | 0, _ => none
  | m41 + 1, i25 =>
    if i25 < (((List.length aa) : Nat) : Int) then
      ask (idx i25 (List.length aa)) <|
      ask (idx i25 (List.length b)) <|
      if (List.getD aa (Int.toNat i25) false) = (List.getD b (Int.toNat i25) false) then
        ask (in64 (i25 + 1)) <|
        kit_SameBools_l0 N aa b m41 (i25 + 1)
      else
        some (Sum.inr false)
    else
      some (Sum.inl ())
def kit_SameBools (N : Nat) (aa : List Bool) (b : List Bool) : Option Bool :=
  if ((((List.length aa) : Nat) : Int) : Int) = (((List.length b) : Nat) : Int) then
    Option.bind (kit_SameBools_l0 N aa b N 0) fun x42 =>
    Sum.elim (fun x47 =>
      some true)
     (fun x63 =>
      some x63) x42
  else
    some false
set_option maxRecDepth 100000 in
theorem kit_SameBools_calls {N : Nat} {S Fa : Nat → Prop} {w0 : World} {r : Bool} (A1 : Option Addr) (c2 : Nat) (A5 : Option Addr) (c6 : Nat) (aa : List Bool) (b : List Bool) (hk3 : List.length aa ≤ c2) (hk7 : List.length b ≤ c6) (H : Hp S Fa w0 w0 [.ro false cBool A1 aa, .ro false cBool A5 b]) (hP : kit_SameBools N aa b = some r) :
    Calls Try.prog 23 #[.slice A1 (List.length aa) c2, .slice A5 (List.length b) c6] w0 fun e w' => ∃ v, e = .returned v ∧ v = .bool r ∧ Hp S Fa w0 w' [] := by
  refine enterV (n := 26) Try.func23 rfl rfl rfl ?_
  intro a E
  replace E := E.pick [(0, .slice A1 (List.length aa) c2), (1, .slice A5 (List.length b) c6)] ⟨rfl, rfl, trivial⟩
  rw [kit_SameBools] at hP
  refine wp_seq ?_
  refine wp_region_lit ?_
  refine vrun (w := w0) (lp := [(0, .slice A1 (List.length aa) c2), (1, .slice A5 (List.length b) c6)]) (φ := []) tbok 1 [] [0, 1] E (by kernel_rfl) trivial ?_
  clear E; intro a E
  refine wpList_nil ?_
  refine th_n ?_
  refine wp_seq ?_
  refine wp_seq ?_
  refine wp_region_lit ?_
  refine vrun (w := w0) (lp := [(0, .slice A1 (List.length aa) c2), (1, .slice A5 (List.length b) c6), (10, .bool (((((List.length aa) : Nat) : Int) : Int) != (((List.length b) : Nat) : Int)))]) (φ := []) tbok 5 [] [0, 1, 10] E (by kernel_rfl) trivial ?_
  clear E; intro a E
  refine wpList_nil ?_
  refine th_n ?_
  refine E.cases (t := 10) rfl (fun hb_ E_ => ?_) (fun hb_ E_ => ?_)
  · replace E := E_; clear E_
    have h9 : ¬ (((((List.length aa) : Nat) : Int) : Int) = (((List.length b) : Nat) : Int)) := bne_iff_ne.1 hb_
    clear hb_; replace hP := ite_f h9 hP
    refine c_true E rfl ?_
    refine wp_seq ?_
    refine wp_region_lit ?_
    refine vrun (w := w0) (lp := [(4, .bool false)]) (φ := []) tbok 1 [] [4] E (by kernel_rfl) trivial ?_
    clear E; intro a E
    refine wpList_nil ?_
    refine th_n ?_
    refine wp_ret ?_
    refine th_ret ?_
    obtain rfl := Option.some.inj hP
    refine ret1 E rfl rfl ?_
    exact ⟨_, rfl, rfl, H.sel [] rfl⟩
  · replace E := E_; clear E_
    have h10 : ((((List.length aa) : Nat) : Int) : Int) = (((List.length b) : Nat) : Int) := bne_eq_false_iff_eq.1 hb_
    clear hb_; replace hP := ite_t h10 hP
    refine c_false E rfl ?_
    refine wp_skip ?_
    refine th_n ?_
    refine wp_seq ?_
    refine wp_seq ?_
    refine wp_region_lit ?_
    refine vrun (w := w0) (lp := [(0, .slice A1 (List.length aa) c2), (1, .slice A5 (List.length b) c6), (5, .int .i64 0)]) (φ := []) tbok 1 [] [0, 1, 5] E (by kernel_rfl) trivial ?_
    clear E; intro a E
    refine wpList_nil ?_
    refine th_n ?_
    refine wp_block ?_
    obtain ⟨x42, hL43, hK44⟩ := bind_inv hP
    clear hP
    refine loop_cut (fun i_ a w_ => (i_ = 0 ∧ ∃ (x47 : Unit), Fr a 26 [] ∧ Hp S Fa w0 w_ [] ∧ x42 = Sum.inl x47)) ?_ ?_
    · skip
      refine loopV (fun m46 a w45 => ∃ (i25 : Int), Fr a 26 [(0, .slice A1 (List.length aa) c2), (1, .slice A5 (List.length b) c6), (5, .int .i64 i25)] ∧ Hp S Fa w0 w45 [.ro false cBool A1 aa, .ro false cBool A5 b] ∧ kit_SameBools_l0 N aa b m46 i25 = some x42) N ?_ ?_
      · exact ⟨0, E.pick _ ⟨rfl, rfl, rfl, trivial⟩, H.sel [0, 1] rfl, hL43⟩
      · clear E H hL43; intro m46 a w45 hI_
        obtain ⟨i25, E, H, hP⟩ := hI_
        obtain ⟨m41, rfl⟩ : ∃ q_, m46 = q_ + 1 := by cases m46 with | zero => rw [kit_SameBools_l0] at hP; cases hP | succ q_ => exact ⟨q_, rfl⟩
        rw [kit_SameBools_l0] at hP
        refine wp_seq ?_
        refine wp_seq ?_
        refine wp_region_lit ?_
        refine vrun (w := w45) (lp := [(0, .slice A1 (List.length aa) c2), (1, .slice A5 (List.length b) c6), (5, .int .i64 i25), (14, .bool (decide (i25 < (((List.length aa) : Nat) : Int))))]) (φ := []) tbok 4 [] [0, 1, 5, 14] E (by kernel_rfl) trivial ?_
        clear E; intro a E
        refine wpList_nil ?_
        refine th_n ?_
        refine E.cases (t := 14) rfl (fun hb_ E_ => ?_) (fun hb_ E_ => ?_)
        · replace E := E_; clear E_
          have h48 : i25 < (((List.length aa) : Nat) : Int) := of_decide_eq_true hb_
          clear hb_; replace hP := ite_t h48 hP
          refine c_true E rfl ?_
          refine wp_skip ?_
          refine th_n ?_
          refine wp_seq ?_
          refine wp_block ?_
          refine wp_seq ?_
          obtain ⟨g49, hP⟩ := ask_inv hP
          obtain ⟨b50, o51, e_b50⟩ := (H.rd 0 rds_ro).addr (idx_pos g49)
          subst e_b50
          obtain ⟨g52, hP⟩ := ask_inv hP
          obtain ⟨b53, o54, e_b53⟩ := (H.rd 1 rds_ro).addr (idx_pos g52)
          subst e_b53
          have HR58 := H
          refine dr_start (S := fun w_ => Chg (atL (pickE [.ro false cBool (some ⟨b50, o51, none⟩) aa, .ro false cBool (some ⟨b53, o54, none⟩) b] [])) w45 w_) (by kernel_rfl) ?_
          intro w55 hc56
          have HS57 : Chg (atL (pickE [.ro false cBool (some ⟨b50, o51, none⟩) aa, .ro false cBool (some ⟨b53, o54, none⟩) b] [])) w45 w55 := hc56.mono (fun _ _ h_ => h_.elim)
          replace H : Hp S Fa w0 w55 [.ro false cBool (some ⟨b50, o51, none⟩) aa, .ro false cBool (some ⟨b53, o54, none⟩) b] := H.ext hc56
          refine drun (lp := [(0, .slice (some ⟨b50, o51, none⟩) (List.length aa) c2), (1, .slice (some ⟨b53, o54, none⟩) (List.length b) c6), (5, .int .i64 i25), (25, .bool (!((List.getD aa (Int.toNat i25) false) == (List.getD b (Int.toNat i25) false))))]) tbok (by kernel_rfl) [0, 1, 2, 3, 4, 5, 6, 7, 8] [.bool (List.getD aa (Int.toNat i25) false), .bool (List.getD b (Int.toNat i25) false)] [0, 1, 5, 25] (fun w_ => [0 ≤ i25 ∧ i25 < (((List.length aa) : Nat) : Int), World.cell? w_ ⟨b50, o51 + (Int.toNat i25) * 1, none⟩ = some (.bool (List.getD aa (Int.toNat i25) false)), 0 ≤ i25 ∧ i25 < (((List.length b) : Nat) : Int), World.cell? w_ ⟨b53, o54 + (Int.toNat i25) * 1, none⟩ = some (.bool (List.getD b (Int.toNat i25) false))]) (fuel := 0) E (fun _ _ => by kernel_rfl) (fun w_ hS_ => ⟨g49, Rds.at1 (HR58.rdk [] hS_ 0 rds_ro rfl) false g49, g52, Rds.at1 (HR58.rdk [] hS_ 1 rds_ro rfl) false g52⟩) (by kernel_rfl) HS57 ?_
          clear E; intro a E
          refine dr_done (by kernel_rfl) ?_
          clear HS57 HR58
          refine th_n ?_
          refine E.cases (t := 25) rfl (fun hb_ E_ => ?_) (fun hb_ E_ => ?_)
          · replace E := E_; clear E_
            have h59 : ¬ ((List.getD aa (Int.toNat i25) false) = (List.getD b (Int.toNat i25) false)) := (by simpa using hb_)
            clear hb_; replace hP := ite_f h59 hP
            refine c_true E rfl ?_
            refine wp_seq ?_
            refine wp_region_lit ?_
            refine vrun (w := w55) (lp := [(4, .bool false)]) (φ := []) tbok 1 [] [4] E (by kernel_rfl) trivial ?_
            clear E; intro a E
            refine wpList_nil ?_
            refine th_n ?_
            refine wp_ret ?_
            refine bl_ret ?_
            refine th_ret ?_
            refine th_ret ?_
            refine .inr ⟨rfl, ?_⟩
            refine bl_ret ?_
            refine th_ret ?_
            have hx_ := Option.some.inj hP; subst hx_
            have hP : some (false) = some r := hK44
            obtain rfl := Option.some.inj hP
            refine ret1 E rfl rfl ?_
            exact ⟨_, rfl, rfl, H.sel [] rfl⟩
          · replace E := E_; clear E_
            have h60 : (List.getD aa (Int.toNat i25) false) = (List.getD b (Int.toNat i25) false) := (by simpa using hb_)
            clear hb_; replace hP := ite_t h60 hP
            refine c_false E rfl ?_
            refine wp_skip ?_
            refine bl_n ?_
            refine th_n ?_
            refine wp_region_lit ?_
            obtain ⟨g61, hP⟩ := ask_inv hP
            refine vrun (w := w55) (lp := [(0, .slice (some ⟨b50, o51, none⟩) (List.length aa) c2), (1, .slice (some ⟨b53, o54, none⟩) (List.length b) c6), (5, .int .i64 (i25 + 1))]) (φ := [IntKind.i64.wrap (i25 + 1) = i25 + 1]) tbok 3 [.int .i64 (i25 + 1)] [0, 1, 5] E (by kernel_rfl) (wrap_in g61) ?_
            clear E; intro a E
            refine wpList_nil ?_
            exact th_n ⟨m41, Nat.lt_succ_self _, i25 + 1, E.pick _ ⟨rfl, rfl, rfl, trivial⟩, H.sel [0, 1] rfl, hP⟩
        · replace E := E_; clear E_
          have h62 : ¬ (i25 < (((List.length aa) : Nat) : Int)) := of_decide_eq_false hb_
          clear hb_; replace hP := ite_f h62 hP
          refine c_false E rfl ?_
          refine wp_exit ?_
          refine th_exit ?_
          have hx_ := Option.some.inj hP
          refine th_exit (.inl ⟨0, rfl, ?_⟩)
          exact ⟨rfl, (), E.pick _ trivial, H.sel [] rfl, hx_.symm⟩
    · clear E H hL43; intro i_ a w45 hM_
      obtain ⟨rfl, x47, E, H, hx_⟩ := hM_
      subst hx_; have hP := elim_l hK44
      clear hK44
      refine bl_hit ?_
      refine th_n ?_
      refine wp_seq ?_
      refine wp_region_lit ?_
      refine vrun (w := w45) (lp := [(4, .bool true)]) (φ := []) tbok 1 [] [4] E (by kernel_rfl) trivial ?_
      clear E; intro a E
      refine wpList_nil ?_
      refine th_n ?_
      refine wp_ret ?_
      obtain rfl := Option.some.inj hP
      refine ret1 E rfl rfl ?_
      exact ⟨_, rfl, rfl, H.sel [] rfl⟩

/-! rejoinder/rejoinderlaw23.AttractKnown -/
def law23_AttractKnown_l0 (N : Nat) : Nat → Int → Option (Unit ⊕ Bool)
  | 0, _ => none
  | m753 + 1, i166 =>
    if i166 < 4 then
      Option.bind (law23_Until N) fun r761 =>
      ask (idx i166 4) <|
      Option.bind (attract_Ranks N r761.1 r761.2.1 r761.2.2.1 r761.2.2.2 (List.getD ([(1, 2), (2, 1), (0, 3), (3, 0)] : List (Int × Int)) (Int.toNat i166) (0, 0))) fun r780 =>
      Option.bind (law23_Until N) fun r822 =>
      Option.bind (attract_Wins N r822.1 r822.2.1 r822.2.2.1 r822.2.2.2 (List.getD ([(1, 2), (2, 1), (0, 3), (3, 0)] : List (Int × Int)) (Int.toNat i166) (0, 0))) fun r840 =>
      if (Int.tmod i166 2 : Int) = 0 then
        if (r780.2 : Int) = 0 then
          if (r840.2 : Int) = 0 then
            Option.bind (kit_SameInts N r780.1 ([1, -1, 0] : List Int)) fun r886 =>
            if r886 = true then
              if r840.1 = ((Int.tmod i166 2 : Int) == 0) then
                ask (in64 (i166 + 1)) <|
                law23_AttractKnown_l0 N m753 (i166 + 1)
              else
                some (Sum.inr false)
            else
              some (Sum.inr false)
          else
            some (Sum.inr false)
        else
          some (Sum.inr false)
      else
        if (r780.2 : Int) = 0 then
          if (r840.2 : Int) = 0 then
            Option.bind (kit_SameInts N r780.1 ([-1, -1, 0] : List Int)) fun r910 =>
            if r910 = true then
              if r840.1 = ((Int.tmod i166 2 : Int) == 0) then
                ask (in64 (i166 + 1)) <|
                law23_AttractKnown_l0 N m753 (i166 + 1)
              else
                some (Sum.inr false)
            else
              some (Sum.inr false)
          else
            some (Sum.inr false)
        else
          some (Sum.inr false)
    else
      some (Sum.inl ())
def law23_AttractKnown (N : Nat) : Option Bool :=
  Option.bind (law23_AttractKnown_l0 N N 0) fun x754 =>
  Sum.elim (fun x759 =>
    Option.bind (law23_Until N) fun r926 =>
    Option.bind (attract_Ranks N r926.1 r926.2.1 r926.2.2.1 r926.2.2.2 (1, 0)) fun r944 =>
    Option.bind (law23_Until N) fun r956 =>
    ask (idx (0 : Int) 4) <|
    Option.bind (attract_Step N r956.1 r956.2.1 r956.2.2.1 r956.2.2.2 (List.getD ([(1, 2), (2, 1), (0, 3), (3, 0)] : List (Int × Int)) (Int.toNat (0 : Int)) (0, 0)) []) fun r976 =>
    Option.bind (law23_Until N) fun r1019 =>
    Option.bind (attract_Step N r1019.1 r1019.2.1 r1019.2.2.1 r1019.2.2.2 (List.getD ([(1, 2), (2, 1), (0, 3), (3, 0)] : List (Int × Int)) (Int.toNat (0 : Int)) (0, 0)) ([false, false, true] : List Bool)) fun r1042 =>
    Option.bind (law23_awake N) fun r1090 =>
    if r1090 = true then
      if (r944.2 : Int) = 13 then
        if (r976.2 : Int) = 2 then
          Option.bind (kit_SameBools N r1042.1 ([true, false, true] : List Bool)) fun r1107 =>
          if r1107 = true then
            some ((r1042.2 : Int) == 0)
          else
            some false
        else
          some false
      else
        some false
    else
      some false)
   (fun x925 =>
    some x925) x754
set_option maxRecDepth 100000 in
theorem law23_AttractKnown_calls {N : Nat} {S Fa : Nat → Prop} {w0 : World} {r : Bool} (H : Hp S Fa w0 w0 []) (hP : law23_AttractKnown N  = some r) :
    Calls Try.prog 6 #[] w0 fun e w' => ∃ v, e = .returned v ∧ v = .bool r ∧ Hp S Fa w0 w' [] := by
  refine enterV (n := 107) Try.func6 rfl rfl rfl ?_
  intro a E
  replace E := E.pick [] trivial
  rw [law23_AttractKnown] at hP
  refine wp_seq ?_
  refine wp_region_lit ?_
  refine vrun (w := w0) (lp := []) (φ := []) tbok 1 [] [] E (by kernel_rfl) trivial ?_
  clear E; intro a E
  refine wpList_nil ?_
  refine th_n ?_
  refine wp_seq ?_
  refine wp_region_lit ?_
  refine e_build (ps := [(0, .int .u8 1), (1, .int .u8 2)]) (v := .agg #[.int .u8 1, .int .u8 2]) E rfl rfl tbok rfl (by kernel_rfl) rfl ?_
  clear E; intro a E
  refine e_build (ps := [(0, .int .u8 2), (1, .int .u8 1)]) (v := .agg #[.int .u8 2, .int .u8 1]) E rfl rfl tbok rfl (by kernel_rfl) rfl ?_
  clear E; intro a E
  refine e_build (ps := [(1, .int .u8 3)]) (v := .agg #[.int .u8 0, .int .u8 3]) E rfl rfl tbok rfl (by kernel_rfl) rfl ?_
  clear E; intro a E
  refine e_build (ps := [(0, .int .u8 3)]) (v := .agg #[.int .u8 3, .int .u8 0]) E rfl rfl tbok rfl (by kernel_rfl) rfl ?_
  clear E; intro a E
  refine h_buildSlice (ps := [(0, .agg #[.int .u8 1, .int .u8 2]), (1, .agg #[.int .u8 2, .int .u8 1]), (2, .agg #[.int .u8 0, .int .u8 3]), (3, .agg #[.int .u8 3, .int .u8 0])]) (cs := [.int .u8 1, .int .u8 2, .int .u8 2, .int .u8 1, .int .u8 0, .int .u8 3, .int .u8 3, .int .u8 0]) H E rfl rfl tbok rfl rfl (by kernel_rfl) ?_
  intro w2 g1 a hc3 hg5 H_ E_
  replace E := E_ _ rfl; clear E_
  replace H : Hp S Fa w0 w2 [.box g1 29 [.int .u8 1, .int .u8 2, .int .u8 2, .int .u8 1, .int .u8 0, .int .u8 3, .int .u8 3, .int .u8 0]] := H_; clear H_
  refine vrun (w := w2) (lp := [(1, .slice (some ⟨g1, 0, none⟩) 4 4)]) (φ := []) tbok 1 [] [1] E (by kernel_rfl) trivial ?_
  clear E; intro a E
  refine wpList_nil ?_
  refine th_n ?_
  refine wp_seq ?_
  refine wp_seq ?_
  refine wp_region_lit ?_
  refine vrun (w := w2) (lp := [(1, .slice (some ⟨g1, 0, none⟩) 4 4), (2, .int .i64 0)]) (φ := []) tbok 1 [] [1, 2] E (by kernel_rfl) trivial ?_
  clear E; intro a E
  refine wpList_nil ?_
  refine th_n ?_
  refine wp_block ?_
  obtain ⟨x754, hL755, hK756⟩ := bind_inv hP
  clear hP
  replace H : Hp S Fa w0 w2 [.rowx true cS28 29 (some ⟨g1, 0, none⟩) (List.length ([(1, 2), (2, 1), (0, 3), (3, 0)] : List (Int × Int))) ([(1, 2), (2, 1), (0, 3), (3, 0)] : List (Int × Int)) []] := H.boxRow cS28 true ([(1, 2), (2, 1), (0, 3), (3, 0)] : List (Int × Int)) 0 rfl (fun _ _ => ⟨_, _, rfl, rfl, ⟨_, _, rfl, rfl, ⟨_, _, rfl, rfl, ⟨_, _, rfl, rfl, rfl⟩⟩⟩⟩) (by decide)
  refine loop_cut (fun i_ a w_ => (i_ = 0 ∧ ∃ (x759 : Unit), Fr a 107 [(1, .slice (some ⟨g1, 0, none⟩) 4 (List.length ([(1, 2), (2, 1), (0, 3), (3, 0)] : List (Int × Int))))] ∧ Hp S Fa w0 w_ [.rowx true cS28 29 (some ⟨g1, 0, none⟩) (List.length ([(1, 2), (2, 1), (0, 3), (3, 0)] : List (Int × Int))) ([(1, 2), (2, 1), (0, 3), (3, 0)] : List (Int × Int)) []] ∧ x754 = Sum.inl x759)) ?_ ?_
  · skip
    refine loopV (fun m758 a w757 => ∃ (i166 : Int), Fr a 107 [(1, .slice (some ⟨g1, 0, none⟩) 4 (List.length ([(1, 2), (2, 1), (0, 3), (3, 0)] : List (Int × Int)))), (2, .int .i64 i166)] ∧ Hp S Fa w0 w757 [.rowx true cS28 29 (some ⟨g1, 0, none⟩) (List.length ([(1, 2), (2, 1), (0, 3), (3, 0)] : List (Int × Int))) ([(1, 2), (2, 1), (0, 3), (3, 0)] : List (Int × Int)) []] ∧ law23_AttractKnown_l0 N m758 i166 = some x754) N ?_ ?_
    · exact ⟨0, E.pick _ ⟨rfl, rfl, trivial⟩, H.sel [0] rfl, hL755⟩
    · clear E H hL755; intro m758 a w757 hI_
      obtain ⟨i166, E, H, hP⟩ := hI_
      obtain ⟨m753, rfl⟩ : ∃ q_, m758 = q_ + 1 := by cases m758 with | zero => rw [law23_AttractKnown_l0] at hP; cases hP | succ q_ => exact ⟨q_, rfl⟩
      rw [law23_AttractKnown_l0] at hP
      refine wp_seq ?_
      refine wp_seq ?_
      refine wp_region_lit ?_
      refine vrun (w := w757) (lp := [(1, .slice (some ⟨g1, 0, none⟩) 4 (List.length ([(1, 2), (2, 1), (0, 3), (3, 0)] : List (Int × Int)))), (2, .int .i64 i166), (22, .bool (decide (i166 < 4)))]) (φ := []) tbok 4 [] [1, 2, 22] E (by kernel_rfl) trivial ?_
      clear E; intro a E
      refine wpList_nil ?_
      refine th_n ?_
      refine E.cases (t := 22) rfl (fun hb_ E_ => ?_) (fun hb_ E_ => ?_)
      · replace E := E_; clear E_
        have h760 : i166 < 4 := of_decide_eq_true hb_
        clear hb_; replace hP := ite_t h760 hP
        refine c_true E rfl ?_
        refine wp_skip ?_
        refine th_n ?_
        refine wp_seq ?_
        refine wp_block ?_
        refine wp_seq ?_
        obtain ⟨r761, h762, hP⟩ := bind_inv hP
        obtain ⟨g779, hP⟩ := ask_inv hP
        obtain ⟨r780, h781, hP⟩ := bind_inv hP
        have HR795 := H
        refine dr_start (S := fun w_ => Chg (atL (pickE [.rowx true cS28 29 (some ⟨g1, 0, none⟩) (List.length ([(1, 2), (2, 1), (0, 3), (3, 0)] : List (Int × Int))) ([(1, 2), (2, 1), (0, 3), (3, 0)] : List (Int × Int)) []] [])) w757 w_) (by kernel_rfl) ?_
        intro w792 hc793
        have HS794 : Chg (atL (pickE [.rowx true cS28 29 (some ⟨g1, 0, none⟩) (List.length ([(1, 2), (2, 1), (0, 3), (3, 0)] : List (Int × Int))) ([(1, 2), (2, 1), (0, 3), (3, 0)] : List (Int × Int)) []] [])) w757 w792 := hc793.mono (fun _ _ h_ => h_.elim)
        replace H : Hp S Fa w0 w792 [.rowx true cS28 29 (some ⟨g1, 0, none⟩) (List.length ([(1, 2), (2, 1), (0, 3), (3, 0)] : List (Int × Int))) ([(1, 2), (2, 1), (0, 3), (3, 0)] : List (Int × Int)) []] := H.ext hc793
        refine drun (lp := [(1, .slice (some ⟨g1, 0, none⟩) 4 (List.length ([(1, 2), (2, 1), (0, 3), (3, 0)] : List (Int × Int)))), (2, .int .i64 i166), (30, .agg #[.int .u8 ((List.getD ([(1, 2), (2, 1), (0, 3), (3, 0)] : List (Int × Int)) (Int.toNat i166) (0, 0)).1), .int .u8 ((List.getD ([(1, 2), (2, 1), (0, 3), (3, 0)] : List (Int × Int)) (Int.toNat i166) (0, 0)).2)])]) tbok (by kernel_rfl) [1, 2, 3, 4] [.agg #[.int .u8 ((List.getD ([(1, 2), (2, 1), (0, 3), (3, 0)] : List (Int × Int)) (Int.toNat i166) (0, 0)).1), .int .u8 ((List.getD ([(1, 2), (2, 1), (0, 3), (3, 0)] : List (Int × Int)) (Int.toNat i166) (0, 0)).2)]] [1, 2, 30] (fun w_ => [0 ≤ i166 ∧ i166 < ((4 : Nat) : Int), cellsAt w_ g1 (0 + (Int.toNat i166) * 2) [.int .u8 ((List.getD ([(1, 2), (2, 1), (0, 3), (3, 0)] : List (Int × Int)) (Int.toNat i166) (0, 0)).1), .int .u8 ((List.getD ([(1, 2), (2, 1), (0, 3), (3, 0)] : List (Int × Int)) (Int.toNat i166) (0, 0)).2)]]) (fuel := 7) E (fun _ _ => by kernel_rfl) (fun w_ hS_ => ⟨g779, Rds.atP (HR795.rdk [] hS_ 0 rds_rowx rfl) (0, 0) g779⟩) (by kernel_rfl) HS794 ?_
        clear E; intro a E
        refine wpAnyH_all (rs := [0]) (by kernel_rfl) (by simp) ?_
        refine all1 ?_
        · refine wpOp_of_list rfl ?_
          obtain ⟨Fa796, Hc797, hb798⟩ := H.call [] [] rfl rfl trivial
          refine e_call E rfl rfl Try.func26 rfl rfl rfl (law23_Until_calls    Hc797 h762) ?_
          rintro v799 w800 a ⟨A803, c804, A806, c807, A809, c810, rfl, HR801⟩ E_
          replace E := E_ _ rfl; clear E_
          obtain ⟨H_, hc802⟩ := hb798 _ _ HR801 rfl
          replace HS794 := HS794.ext (callS_ext hc802)
          replace H : Hp S Fa w0 w800 [.rowx true cS28 29 (some ⟨g1, 0, none⟩) (List.length ([(1, 2), (2, 1), (0, 3), (3, 0)] : List (Int × Int))) ([(1, 2), (2, 1), (0, 3), (3, 0)] : List (Int × Int)) [], .row true cBool 4 A803 c804 r761.2.1, .row true (cInt .i64) 3 A806 c807 r761.2.2.1, .row true cNode 69 A809 c810 r761.2.2.2] := H_; clear H_
          refine wpList_nil ?_
          refine th_n ⟨HS794, ?_⟩
          refine wpAnyH_all (rs := [5]) (by kernel_rfl) (by simp) ?_
          refine all1 ?_
          · refine wpOp_of_list rfl ?_
            obtain ⟨Fa812, Hc813, hb814⟩ := H.call [] [(1, false), (2, false), (3, false)] rfl rfl trivial
            refine e_call E rfl rfl Try.func11 rfl rfl rfl (attract_Ranks_calls A803 c804 A806 c807 A809 c810 r761.1 r761.2.1 r761.2.2.1 r761.2.2.2 (List.getD ([(1, 2), (2, 1), (0, 3), (3, 0)] : List (Int × Int)) (Int.toNat i166) (0, 0)) (H.rcap 1 rfl) (H.rcap 2 rfl) (H.rcap 3 rfl) Hc813 h781) ?_
            rintro v815 w816 a ⟨A819, c820, rfl, HR817⟩ E_
            replace E := E_ _ rfl; clear E_
            obtain ⟨H_, hc818⟩ := hb814 _ _ HR817 rfl
            replace HS794 := HS794.ext (callS_ext hc818)
            replace H : Hp S Fa w0 w816 [.rowx true cS28 29 (some ⟨g1, 0, none⟩) (List.length ([(1, 2), (2, 1), (0, 3), (3, 0)] : List (Int × Int))) ([(1, 2), (2, 1), (0, 3), (3, 0)] : List (Int × Int)) [], .row true cBool 4 A803 c804 r761.2.1, .row true (cInt .i64) 3 A806 c807 r761.2.2.1, .row true cNode 69 A809 c810 r761.2.2.2, .row true (cInt .i64) 3 A819 c820 r780.1] := H_; clear H_
            refine wpList_nil ?_
            refine th_n ⟨HS794, ?_⟩
            refine drun (lp := [(1, .slice (some ⟨g1, 0, none⟩) 4 (List.length ([(1, 2), (2, 1), (0, 3), (3, 0)] : List (Int × Int)))), (2, .int .i64 i166), (3, .slice A819 (List.length r780.1) c820), (4, .int .i64 r780.2)]) tbok (by kernel_rfl) [6, 7, 8, 9, 10] [] [1, 2, 3, 4] (fun w_ => []) (fuel := 0) E (fun _ _ => by kernel_rfl) (fun w_ hS_ => trivial) (by kernel_rfl) HS794 ?_
            clear E; intro a E
            refine dr_done (by kernel_rfl) ?_
            clear HS794 HR795
            refine th_n ?_
            refine wp_seq ?_
            obtain ⟨r822, h823, hP⟩ := bind_inv hP
            obtain ⟨r840, h841, hP⟩ := bind_inv hP
            have HR852 := H
            refine dr_start (S := fun w_ => Chg (atL (pickE [.rowx true cS28 29 (some ⟨g1, 0, none⟩) (List.length ([(1, 2), (2, 1), (0, 3), (3, 0)] : List (Int × Int))) ([(1, 2), (2, 1), (0, 3), (3, 0)] : List (Int × Int)) [], .row true cBool 4 A803 c804 r761.2.1, .row true (cInt .i64) 3 A806 c807 r761.2.2.1, .row true cNode 69 A809 c810 r761.2.2.2, .row true (cInt .i64) 3 A819 c820 r780.1] [])) w816 w_) (by kernel_rfl) ?_
            intro w849 hc850
            have HS851 : Chg (atL (pickE [.rowx true cS28 29 (some ⟨g1, 0, none⟩) (List.length ([(1, 2), (2, 1), (0, 3), (3, 0)] : List (Int × Int))) ([(1, 2), (2, 1), (0, 3), (3, 0)] : List (Int × Int)) [], .row true cBool 4 A803 c804 r761.2.1, .row true (cInt .i64) 3 A806 c807 r761.2.2.1, .row true cNode 69 A809 c810 r761.2.2.2, .row true (cInt .i64) 3 A819 c820 r780.1] [])) w816 w849 := hc850.mono (fun _ _ h_ => h_.elim)
            replace H : Hp S Fa w0 w849 [.rowx true cS28 29 (some ⟨g1, 0, none⟩) (List.length ([(1, 2), (2, 1), (0, 3), (3, 0)] : List (Int × Int))) ([(1, 2), (2, 1), (0, 3), (3, 0)] : List (Int × Int)) [], .row true cBool 4 A803 c804 r761.2.1, .row true (cInt .i64) 3 A806 c807 r761.2.2.1, .row true cNode 69 A809 c810 r761.2.2.2, .row true (cInt .i64) 3 A819 c820 r780.1] := H.ext hc850
            refine drun (lp := [(1, .slice (some ⟨g1, 0, none⟩) 4 (List.length ([(1, 2), (2, 1), (0, 3), (3, 0)] : List (Int × Int)))), (2, .int .i64 i166), (3, .slice A819 (List.length r780.1) c820), (4, .int .i64 r780.2), (39, .agg #[.int .u8 ((List.getD ([(1, 2), (2, 1), (0, 3), (3, 0)] : List (Int × Int)) (Int.toNat i166) (0, 0)).1), .int .u8 ((List.getD ([(1, 2), (2, 1), (0, 3), (3, 0)] : List (Int × Int)) (Int.toNat i166) (0, 0)).2)])]) tbok (by kernel_rfl) [1, 2, 3, 4] [.agg #[.int .u8 ((List.getD ([(1, 2), (2, 1), (0, 3), (3, 0)] : List (Int × Int)) (Int.toNat i166) (0, 0)).1), .int .u8 ((List.getD ([(1, 2), (2, 1), (0, 3), (3, 0)] : List (Int × Int)) (Int.toNat i166) (0, 0)).2)]] [1, 2, 3, 4, 39] (fun w_ => [0 ≤ i166 ∧ i166 < ((4 : Nat) : Int), cellsAt w_ g1 (0 + (Int.toNat i166) * 2) [.int .u8 ((List.getD ([(1, 2), (2, 1), (0, 3), (3, 0)] : List (Int × Int)) (Int.toNat i166) (0, 0)).1), .int .u8 ((List.getD ([(1, 2), (2, 1), (0, 3), (3, 0)] : List (Int × Int)) (Int.toNat i166) (0, 0)).2)]]) (fuel := 7) E (fun _ _ => by kernel_rfl) (fun w_ hS_ => ⟨g779, Rds.atP (HR852.rdk [] hS_ 0 rds_rowx rfl) (0, 0) g779⟩) (by kernel_rfl) HS851 ?_
            clear E; intro a E
            refine wpAnyH_all (rs := [0]) (by kernel_rfl) (by simp) ?_
            refine all1 ?_
            · refine wpOp_of_list rfl ?_
              obtain ⟨Fa853, Hc854, hb855⟩ := H.call [] [] rfl rfl trivial
              refine e_call E rfl rfl Try.func26 rfl rfl rfl (law23_Until_calls    Hc854 h823) ?_
              rintro v856 w857 a ⟨A860, c861, A863, c864, A866, c867, rfl, HR858⟩ E_
              replace E := E_ _ rfl; clear E_
              obtain ⟨H_, hc859⟩ := hb855 _ _ HR858 rfl
              replace HS851 := HS851.ext (callS_ext hc859)
              replace H : Hp S Fa w0 w857 [.rowx true cS28 29 (some ⟨g1, 0, none⟩) (List.length ([(1, 2), (2, 1), (0, 3), (3, 0)] : List (Int × Int))) ([(1, 2), (2, 1), (0, 3), (3, 0)] : List (Int × Int)) [], .row true cBool 4 A803 c804 r761.2.1, .row true (cInt .i64) 3 A806 c807 r761.2.2.1, .row true cNode 69 A809 c810 r761.2.2.2, .row true (cInt .i64) 3 A819 c820 r780.1, .row true cBool 4 A860 c861 r822.2.1, .row true (cInt .i64) 3 A863 c864 r822.2.2.1, .row true cNode 69 A866 c867 r822.2.2.2] := H_; clear H_
              refine wpList_nil ?_
              refine th_n ⟨HS851, ?_⟩
              refine wpAnyH_all (rs := [5]) (by kernel_rfl) (by simp) ?_
              refine all1 ?_
              · refine wpOp_of_list rfl ?_
                obtain ⟨Fa869, Hc870, hb871⟩ := H.call [] [(5, false), (6, false), (7, false)] rfl rfl trivial
                refine e_call E rfl rfl Try.func12 rfl rfl rfl (attract_Wins_calls A860 c861 A863 c864 A866 c867 r822.1 r822.2.1 r822.2.2.1 r822.2.2.2 (List.getD ([(1, 2), (2, 1), (0, 3), (3, 0)] : List (Int × Int)) (Int.toNat i166) (0, 0)) (H.rcap 5 rfl) (H.rcap 6 rfl) (H.rcap 7 rfl) Hc870 h841) ?_
                rintro v872 w873 a ⟨rfl, HR874⟩ E_
                replace E := E_ _ rfl; clear E_
                obtain ⟨H_, hc875⟩ := hb871 _ _ HR874 rfl
                replace HS851 := HS851.ext (callS_ext hc875)
                replace H : Hp S Fa w0 w873 [.rowx true cS28 29 (some ⟨g1, 0, none⟩) (List.length ([(1, 2), (2, 1), (0, 3), (3, 0)] : List (Int × Int))) ([(1, 2), (2, 1), (0, 3), (3, 0)] : List (Int × Int)) [], .row true cBool 4 A803 c804 r761.2.1, .row true (cInt .i64) 3 A806 c807 r761.2.2.1, .row true cNode 69 A809 c810 r761.2.2.2, .row true (cInt .i64) 3 A819 c820 r780.1, .row true cBool 4 A860 c861 r822.2.1, .row true (cInt .i64) 3 A863 c864 r822.2.2.1, .row true cNode 69 A866 c867 r822.2.2.2] := H_; clear H_
                refine wpList_nil ?_
                refine th_n ⟨HS851, ?_⟩
                refine drun (lp := [(1, .slice (some ⟨g1, 0, none⟩) 4 (List.length ([(1, 2), (2, 1), (0, 3), (3, 0)] : List (Int × Int)))), (2, .int .i64 i166), (3, .slice A819 (List.length r780.1) c820), (4, .int .i64 r780.2), (5, .bool r840.1), (6, .int .i64 r840.2)]) tbok (by kernel_rfl) [6, 7, 8, 9, 10] [] [1, 2, 3, 4, 5, 6] (fun w_ => []) (fuel := 0) E (fun _ _ => by kernel_rfl) (fun w_ hS_ => trivial) (by kernel_rfl) HS851 ?_
                clear E; intro a E
                refine dr_done (by kernel_rfl) ?_
                clear HS851 HR852
                refine th_n ?_
                refine wp_seq ?_
                refine wp_region_lit ?_
                refine vrun (w := w873) (lp := [(1, .slice (some ⟨g1, 0, none⟩) 4 (List.length ([(1, 2), (2, 1), (0, 3), (3, 0)] : List (Int × Int)))), (2, .int .i64 i166), (3, .slice A819 (List.length r780.1) c820), (4, .int .i64 r780.2), (5, .bool r840.1), (6, .int .i64 r840.2), (7, .int .i64 (-1))]) (φ := []) tbok 1 [] [1, 2, 3, 4, 5, 6, 7] E (by kernel_rfl) trivial ?_
                clear E; intro a E
                refine wpList_nil ?_
                refine th_n ?_
                refine wp_seq ?_
                refine wp_seq ?_
                refine wp_region_lit ?_
                refine vrun (w := w873) (lp := [(1, .slice (some ⟨g1, 0, none⟩) 4 (List.length ([(1, 2), (2, 1), (0, 3), (3, 0)] : List (Int × Int)))), (2, .int .i64 i166), (3, .slice A819 (List.length r780.1) c820), (4, .int .i64 r780.2), (5, .bool r840.1), (6, .int .i64 r840.2), (7, .int .i64 (-1)), (45, .bool ((Int.tmod i166 2 : Int) == 0))]) (φ := [(2 : Int) ≠ 0 ∧ Int.tmod i166 2 = Int.tmod i166 2]) tbok 3 [.int .i64 (Int.tmod i166 2)] [1, 2, 3, 4, 5, 6, 7, 45] E (by kernel_rfl) (⟨by decide, rfl⟩) ?_
                clear E; intro a E
                refine wpList_nil ?_
                refine th_n ?_
                refine E.cases (t := 45) rfl (fun hb_ E_ => ?_) (fun hb_ E_ => ?_)
                · replace E := E_; clear E_
                  have h876 : (Int.tmod i166 2 : Int) = 0 := eq_of_beq hb_
                  clear hb_; replace hP := ite_t h876 hP
                  refine c_true E rfl ?_
                  refine wp_region_lit ?_
                  refine vrun (w := w873) (lp := [(1, .slice (some ⟨g1, 0, none⟩) 4 (List.length ([(1, 2), (2, 1), (0, 3), (3, 0)] : List (Int × Int)))), (2, .int .i64 i166), (3, .slice A819 (List.length r780.1) c820), (4, .int .i64 r780.2), (5, .bool r840.1), (6, .int .i64 r840.2), (7, .int .i64 1)]) (φ := []) tbok 1 [] [1, 2, 3, 4, 5, 6, 7] E (by kernel_rfl) trivial ?_
                  clear E; intro a E
                  refine wpList_nil ?_
                  refine th_n ?_
                  refine wp_seq ?_
                  refine wp_region_lit ?_
                  refine vrun (w := w873) (lp := [(1, .slice (some ⟨g1, 0, none⟩) 4 (List.length ([(1, 2), (2, 1), (0, 3), (3, 0)] : List (Int × Int)))), (2, .int .i64 i166), (3, .slice A819 (List.length r780.1) c820), (5, .bool r840.1), (6, .int .i64 r840.2), (7, .int .i64 1), (48, .bool ((r780.2 : Int) != 0))]) (φ := []) tbok 3 [] [1, 2, 3, 5, 6, 7, 48] E (by kernel_rfl) trivial ?_
                  clear E; intro a E
                  refine E.cases (t := 48) rfl (fun hb_ E_ => ?_) (fun hb_ E_ => ?_)
                  · replace E := E_; clear E_
                    have h877 : ¬ ((r780.2 : Int) = 0) := bne_iff_ne.1 hb_
                    clear hb_; replace hP := ite_f h877 hP
                    refine vrun (w := w873) (lp := [(1, .slice (some ⟨g1, 0, none⟩) 4 (List.length ([(1, 2), (2, 1), (0, 3), (3, 0)] : List (Int × Int)))), (2, .int .i64 i166), (49, .tuple #[]), (50, .tuple #[]), (53, .tuple #[]), (54, .tuple #[]), (55, .tuple #[]), (56, .tuple #[]), (57, .tuple #[]), (60, .tuple #[]), (61, .tuple #[]), (62, .tuple #[]), (63, .tuple #[]), (64, .tuple #[]), (65, .bool true)]) (φ := []) tbok 17 [] [1, 2, 49, 50, 53, 54, 55, 56, 57, 60, 61, 62, 63, 64, 65] E (by kernel_rfl) trivial ?_
                    clear E; intro a E
                    refine wpList_nil ?_
                    refine th_n ?_
                    refine c_true E rfl ?_
                    refine wp_seq ?_
                    refine wp_region_lit ?_
                    refine vrun (w := w873) (lp := [(0, .bool false)]) (φ := []) tbok 1 [] [0] E (by kernel_rfl) trivial ?_
                    clear E; intro a E
                    refine wpList_nil ?_
                    refine th_n ?_
                    refine wp_ret ?_
                    refine bl_ret ?_
                    refine th_ret ?_
                    refine th_ret ?_
                    refine .inr ⟨rfl, ?_⟩
                    refine bl_ret ?_
                    refine th_ret ?_
                    have hx_ := Option.some.inj hP; subst hx_
                    have hP : some (false) = some r := hK756
                    obtain rfl := Option.some.inj hP
                    refine ret1 E rfl rfl ?_
                    exact ⟨_, rfl, rfl, H.sel [] rfl⟩
                  · replace E := E_; clear E_
                    have h878 : (r780.2 : Int) = 0 := bne_eq_false_iff_eq.1 hb_
                    clear hb_; replace hP := ite_t h878 hP
                    refine vrun (w := w873) (lp := [(1, .slice (some ⟨g1, 0, none⟩) 4 (List.length ([(1, 2), (2, 1), (0, 3), (3, 0)] : List (Int × Int)))), (2, .int .i64 i166), (3, .slice A819 (List.length r780.1) c820), (5, .bool r840.1), (7, .int .i64 1), (49, .int .i64 r840.2), (50, .bool ((r840.2 : Int) != 0)), (52, .bool ((r840.2 : Int) != 0))]) (φ := []) tbok 4 [] [1, 2, 3, 5, 7, 49, 50, 52] E (by kernel_rfl) trivial ?_
                    clear E; intro a E
                    refine E.cases (t := 52) rfl (fun hb_ E_ => ?_) (fun hb_ E_ => ?_)
                    · replace E := E_; clear E_
                      have h879 : ¬ ((r840.2 : Int) = 0) := bne_iff_ne.1 hb_
                      clear hb_; replace hP := ite_f h879 hP
                      refine vrun (w := w873) (lp := [(1, .slice (some ⟨g1, 0, none⟩) 4 (List.length ([(1, 2), (2, 1), (0, 3), (3, 0)] : List (Int × Int)))), (2, .int .i64 i166), (49, .int .i64 r840.2), (50, .bool ((r840.2 : Int) != 0)), (53, .tuple #[]), (54, .tuple #[]), (55, .tuple #[]), (56, .tuple #[]), (57, .tuple #[]), (60, .tuple #[]), (61, .tuple #[]), (62, .tuple #[]), (63, .tuple #[]), (64, .tuple #[]), (65, .bool true)]) (φ := []) tbok 13 [] [1, 2, 49, 50, 53, 54, 55, 56, 57, 60, 61, 62, 63, 64, 65] E (by kernel_rfl) trivial ?_
                      clear E; intro a E
                      refine wpList_nil ?_
                      refine th_n ?_
                      refine c_true E rfl ?_
                      refine wp_seq ?_
                      refine wp_region_lit ?_
                      refine vrun (w := w873) (lp := [(0, .bool false)]) (φ := []) tbok 1 [] [0] E (by kernel_rfl) trivial ?_
                      clear E; intro a E
                      refine wpList_nil ?_
                      refine th_n ?_
                      refine wp_ret ?_
                      refine bl_ret ?_
                      refine th_ret ?_
                      refine th_ret ?_
                      refine .inr ⟨rfl, ?_⟩
                      refine bl_ret ?_
                      refine th_ret ?_
                      have hx_ := Option.some.inj hP; subst hx_
                      have hP : some (false) = some r := hK756
                      obtain rfl := Option.some.inj hP
                      refine ret1 E rfl rfl ?_
                      exact ⟨_, rfl, rfl, H.sel [] rfl⟩
                    · replace E := E_; clear E_
                      have h880 : (r840.2 : Int) = 0 := bne_eq_false_iff_eq.1 hb_
                      clear hb_; replace hP := ite_t h880 hP
                      refine vrun (w := w873) (lp := [(1, .slice (some ⟨g1, 0, none⟩) 4 (List.length ([(1, 2), (2, 1), (0, 3), (3, 0)] : List (Int × Int)))), (2, .int .i64 i166), (5, .bool r840.1), (49, .int .i64 r840.2), (50, .bool ((r840.2 : Int) != 0)), (52, .bool false), (53, .slice A819 (List.length r780.1) c820), (54, .int .i64 1)]) (φ := []) tbok 2 [] [1, 2, 5, 49, 50, 52, 53, 54] E (by kernel_rfl) trivial ?_
                      clear E; intro a E
                      refine h_buildSlice (ps := [(0, .int .i64 1), (1, .int .i64 (-1)), (2, .int .i64 0)]) (cs := [.int .i64 1, .int .i64 (-1), .int .i64 0]) H E rfl rfl tbok rfl rfl (by kernel_rfl) ?_
                      intro w882 g881 a hc883 hg885 H_ E_
                      replace E := E_ _ rfl; clear E_
                      replace H : Hp S Fa w0 w882 [.rowx true cS28 29 (some ⟨g1, 0, none⟩) (List.length ([(1, 2), (2, 1), (0, 3), (3, 0)] : List (Int × Int))) ([(1, 2), (2, 1), (0, 3), (3, 0)] : List (Int × Int)) [], .row true cBool 4 A803 c804 r761.2.1, .row true (cInt .i64) 3 A806 c807 r761.2.2.1, .row true cNode 69 A809 c810 r761.2.2.2, .row true (cInt .i64) 3 A819 c820 r780.1, .row true cBool 4 A860 c861 r822.2.1, .row true (cInt .i64) 3 A863 c864 r822.2.2.1, .row true cNode 69 A866 c867 r822.2.2.2, .box g881 3 [.int .i64 1, .int .i64 (-1), .int .i64 0]] := H_; clear H_
                      replace H : Hp S Fa w0 w882 [.rowx true cS28 29 (some ⟨g1, 0, none⟩) (List.length ([(1, 2), (2, 1), (0, 3), (3, 0)] : List (Int × Int))) ([(1, 2), (2, 1), (0, 3), (3, 0)] : List (Int × Int)) [], .row true cBool 4 A803 c804 r761.2.1, .row true (cInt .i64) 3 A806 c807 r761.2.2.1, .row true cNode 69 A809 c810 r761.2.2.2, .row true (cInt .i64) 3 A819 c820 r780.1, .row true cBool 4 A860 c861 r822.2.1, .row true (cInt .i64) 3 A863 c864 r822.2.2.1, .row true cNode 69 A866 c867 r822.2.2.2, .rowx true (cInt .i64) 3 (some ⟨g881, 0, none⟩) (List.length ([1, -1, 0] : List Int)) ([1, -1, 0] : List Int) []] := H.boxRow (cInt .i64) true ([1, -1, 0] : List Int) 8 rfl (fun _ _ => ⟨_, _, rfl, rfl, ⟨_, _, rfl, rfl, ⟨_, _, rfl, rfl, rfl⟩⟩⟩) (by decide)
                      obtain ⟨r886, h887, hP⟩ := bind_inv hP
                      obtain ⟨Fa888, Hc889, hb890⟩ := H.call [] [(4, false), (8, false)] rfl rfl trivial
                      refine e_call E rfl rfl Try.func22 rfl rfl rfl (kit_SameInts_calls A819 c820 (some ⟨g881, 0, none⟩) 3 r780.1 ([1, -1, 0] : List Int) (H.rcap 4 rfl) (H.rcapx 8 rfl) Hc889 h887) ?_
                      rintro v891 w892 a ⟨rfl, HR893⟩ E_
                      replace E := E_ _ rfl; clear E_
                      obtain ⟨H_, hc894⟩ := hb890 _ _ HR893 rfl
                      replace H : Hp S Fa w0 w892 [.rowx true cS28 29 (some ⟨g1, 0, none⟩) (List.length ([(1, 2), (2, 1), (0, 3), (3, 0)] : List (Int × Int))) ([(1, 2), (2, 1), (0, 3), (3, 0)] : List (Int × Int)) [], .row true cBool 4 A803 c804 r761.2.1, .row true (cInt .i64) 3 A806 c807 r761.2.2.1, .row true cNode 69 A809 c810 r761.2.2.2, .row true (cInt .i64) 3 A819 c820 r780.1, .row true cBool 4 A860 c861 r822.2.1, .row true (cInt .i64) 3 A863 c864 r822.2.2.1, .row true cNode 69 A866 c867 r822.2.2.2, .rowx true (cInt .i64) 3 (some ⟨g881, 0, none⟩) (List.length ([1, -1, 0] : List Int)) ([1, -1, 0] : List Int) []] := H_; clear H_
                      refine vrun (w := w892) (lp := [(1, .slice (some ⟨g1, 0, none⟩) 4 (List.length ([(1, 2), (2, 1), (0, 3), (3, 0)] : List (Int × Int)))), (2, .int .i64 i166), (5, .bool r840.1), (49, .int .i64 r840.2), (50, .bool ((r840.2 : Int) != 0)), (53, .slice A819 (List.length r780.1) c820), (54, .int .i64 1), (55, .slice (some ⟨g881, 0, none⟩) 3 3), (56, .bool r886), (57, .bool (!r886)), (59, .bool (!r886))]) (φ := []) tbok 3 [] [1, 2, 5, 49, 50, 53, 54, 55, 56, 57, 59] E (by kernel_rfl) trivial ?_
                      clear E; intro a E
                      refine E.cases (t := 59) rfl (fun hb_ E_ => ?_) (fun hb_ E_ => ?_)
                      · replace E := E_; clear E_
                        have h895 : ¬ (r886 = true) := (ne_true_of_eq_false (not_t hb_))
                        clear hb_; replace hP := ite_f h895 hP
                        refine vrun (w := w892) (lp := [(1, .slice (some ⟨g1, 0, none⟩) 4 (List.length ([(1, 2), (2, 1), (0, 3), (3, 0)] : List (Int × Int)))), (2, .int .i64 i166), (49, .int .i64 r840.2), (50, .bool ((r840.2 : Int) != 0)), (53, .slice A819 (List.length r780.1) c820), (54, .int .i64 1), (55, .slice (some ⟨g881, 0, none⟩) 3 3), (56, .bool r886), (57, .bool (!r886)), (60, .tuple #[]), (61, .tuple #[]), (62, .tuple #[]), (63, .tuple #[]), (64, .tuple #[]), (65, .bool true)]) (φ := []) tbok 6 [] [1, 2, 49, 50, 53, 54, 55, 56, 57, 60, 61, 62, 63, 64, 65] E (by kernel_rfl) trivial ?_
                        clear E; intro a E
                        refine wpList_nil ?_
                        refine th_n ?_
                        refine c_true E rfl ?_
                        refine wp_seq ?_
                        refine wp_region_lit ?_
                        refine vrun (w := w892) (lp := [(0, .bool false)]) (φ := []) tbok 1 [] [0] E (by kernel_rfl) trivial ?_
                        clear E; intro a E
                        refine wpList_nil ?_
                        refine th_n ?_
                        refine wp_ret ?_
                        refine bl_ret ?_
                        refine th_ret ?_
                        refine th_ret ?_
                        refine .inr ⟨rfl, ?_⟩
                        refine bl_ret ?_
                        refine th_ret ?_
                        have hx_ := Option.some.inj hP; subst hx_
                        have hP : some (false) = some r := hK756
                        obtain rfl := Option.some.inj hP
                        refine ret1 E rfl rfl ?_
                        exact ⟨_, rfl, rfl, H.sel [] rfl⟩
                      · replace E := E_; clear E_
                        have h896 : r886 = true := (not_f hb_)
                        clear hb_; replace hP := ite_t h896 hP
                        refine vrun (w := w892) (lp := [(1, .slice (some ⟨g1, 0, none⟩) 4 (List.length ([(1, 2), (2, 1), (0, 3), (3, 0)] : List (Int × Int)))), (2, .int .i64 i166), (49, .int .i64 r840.2), (50, .bool ((r840.2 : Int) != 0)), (53, .slice A819 (List.length r780.1) c820), (54, .int .i64 1), (55, .slice (some ⟨g881, 0, none⟩) 3 3), (56, .bool r886), (57, .bool (!r886)), (60, .bool r840.1), (61, .int .i64 i166), (62, .int .i64 (Int.tmod i166 2)), (63, .bool ((Int.tmod i166 2 : Int) == 0)), (64, .bool (!(r840.1 == ((Int.tmod i166 2 : Int) == 0)))), (65, .bool (!(r840.1 == ((Int.tmod i166 2 : Int) == 0))))]) (φ := [(2 : Int) ≠ 0 ∧ Int.tmod i166 2 = Int.tmod i166 2]) tbok 6 [.int .i64 (Int.tmod i166 2)] [1, 2, 49, 50, 53, 54, 55, 56, 57, 60, 61, 62, 63, 64, 65] E (by kernel_rfl) (⟨by decide, rfl⟩) ?_
                        clear E; intro a E
                        refine wpList_nil ?_
                        refine th_n ?_
                        refine E.cases (t := 65) rfl (fun hb_ E_ => ?_) (fun hb_ E_ => ?_)
                        · replace E := E_; clear E_
                          have h897 : ¬ (r840.1 = ((Int.tmod i166 2 : Int) == 0)) := (by simpa using hb_)
                          clear hb_; replace hP := ite_f h897 hP
                          refine c_true E rfl ?_
                          refine wp_seq ?_
                          refine wp_region_lit ?_
                          refine vrun (w := w892) (lp := [(0, .bool false)]) (φ := []) tbok 1 [] [0] E (by kernel_rfl) trivial ?_
                          clear E; intro a E
                          refine wpList_nil ?_
                          refine th_n ?_
                          refine wp_ret ?_
                          refine bl_ret ?_
                          refine th_ret ?_
                          refine th_ret ?_
                          refine .inr ⟨rfl, ?_⟩
                          refine bl_ret ?_
                          refine th_ret ?_
                          have hx_ := Option.some.inj hP; subst hx_
                          have hP : some (false) = some r := hK756
                          obtain rfl := Option.some.inj hP
                          refine ret1 E rfl rfl ?_
                          exact ⟨_, rfl, rfl, H.sel [] rfl⟩
                        · replace E := E_; clear E_
                          have h898 : r840.1 = ((Int.tmod i166 2 : Int) == 0) := (by simpa using hb_)
                          clear hb_; replace hP := ite_t h898 hP
                          refine c_false E rfl ?_
                          refine wp_skip ?_
                          refine bl_n ?_
                          refine th_n ?_
                          refine wp_region_lit ?_
                          obtain ⟨g899, hP⟩ := ask_inv hP
                          refine vrun (w := w892) (lp := [(1, .slice (some ⟨g1, 0, none⟩) 4 (List.length ([(1, 2), (2, 1), (0, 3), (3, 0)] : List (Int × Int)))), (2, .int .i64 (i166 + 1)), (49, .int .i64 r840.2), (50, .bool ((r840.2 : Int) != 0)), (53, .slice A819 (List.length r780.1) c820), (54, .int .i64 1), (55, .slice (some ⟨g881, 0, none⟩) 3 3), (56, .bool r886), (57, .bool (!r886)), (60, .bool r840.1), (61, .int .i64 i166), (62, .int .i64 (Int.tmod i166 2)), (63, .bool ((Int.tmod i166 2 : Int) == 0)), (64, .bool (!(r840.1 == ((Int.tmod i166 2 : Int) == 0))))]) (φ := [IntKind.i64.wrap (i166 + 1) = i166 + 1]) tbok 3 [.int .i64 (i166 + 1)] [1, 2, 49, 50, 53, 54, 55, 56, 57, 60, 61, 62, 63, 64] E (by kernel_rfl) (wrap_in g899) ?_
                          clear E; intro a E
                          refine wpList_nil ?_
                          exact th_n ⟨m753, Nat.lt_succ_self _, i166 + 1, E.pick _ ⟨rfl, rfl, trivial⟩, H.sel [0] rfl, hP⟩
                · replace E := E_; clear E_
                  have h900 : ¬ ((Int.tmod i166 2 : Int) = 0) := ne_of_beq_false hb_
                  clear hb_; replace hP := ite_f h900 hP
                  refine c_false E rfl ?_
                  refine wp_skip ?_
                  refine th_n ?_
                  refine wp_seq ?_
                  refine wp_region_lit ?_
                  refine vrun (w := w873) (lp := [(1, .slice (some ⟨g1, 0, none⟩) 4 (List.length ([(1, 2), (2, 1), (0, 3), (3, 0)] : List (Int × Int)))), (2, .int .i64 i166), (3, .slice A819 (List.length r780.1) c820), (5, .bool r840.1), (6, .int .i64 r840.2), (7, .int .i64 (-1)), (48, .bool ((r780.2 : Int) != 0))]) (φ := []) tbok 3 [] [1, 2, 3, 5, 6, 7, 48] E (by kernel_rfl) trivial ?_
                  clear E; intro a E
                  refine E.cases (t := 48) rfl (fun hb_ E_ => ?_) (fun hb_ E_ => ?_)
                  · replace E := E_; clear E_
                    have h901 : ¬ ((r780.2 : Int) = 0) := bne_iff_ne.1 hb_
                    clear hb_; replace hP := ite_f h901 hP
                    refine vrun (w := w873) (lp := [(1, .slice (some ⟨g1, 0, none⟩) 4 (List.length ([(1, 2), (2, 1), (0, 3), (3, 0)] : List (Int × Int)))), (2, .int .i64 i166), (49, .tuple #[]), (50, .tuple #[]), (53, .tuple #[]), (54, .tuple #[]), (55, .tuple #[]), (56, .tuple #[]), (57, .tuple #[]), (60, .tuple #[]), (61, .tuple #[]), (62, .tuple #[]), (63, .tuple #[]), (64, .tuple #[]), (65, .bool true)]) (φ := []) tbok 17 [] [1, 2, 49, 50, 53, 54, 55, 56, 57, 60, 61, 62, 63, 64, 65] E (by kernel_rfl) trivial ?_
                    clear E; intro a E
                    refine wpList_nil ?_
                    refine th_n ?_
                    refine c_true E rfl ?_
                    refine wp_seq ?_
                    refine wp_region_lit ?_
                    refine vrun (w := w873) (lp := [(0, .bool false)]) (φ := []) tbok 1 [] [0] E (by kernel_rfl) trivial ?_
                    clear E; intro a E
                    refine wpList_nil ?_
                    refine th_n ?_
                    refine wp_ret ?_
                    refine bl_ret ?_
                    refine th_ret ?_
                    refine th_ret ?_
                    refine .inr ⟨rfl, ?_⟩
                    refine bl_ret ?_
                    refine th_ret ?_
                    have hx_ := Option.some.inj hP; subst hx_
                    have hP : some (false) = some r := hK756
                    obtain rfl := Option.some.inj hP
                    refine ret1 E rfl rfl ?_
                    exact ⟨_, rfl, rfl, H.sel [] rfl⟩
                  · replace E := E_; clear E_
                    have h902 : (r780.2 : Int) = 0 := bne_eq_false_iff_eq.1 hb_
                    clear hb_; replace hP := ite_t h902 hP
                    refine vrun (w := w873) (lp := [(1, .slice (some ⟨g1, 0, none⟩) 4 (List.length ([(1, 2), (2, 1), (0, 3), (3, 0)] : List (Int × Int)))), (2, .int .i64 i166), (3, .slice A819 (List.length r780.1) c820), (5, .bool r840.1), (7, .int .i64 (-1)), (49, .int .i64 r840.2), (50, .bool ((r840.2 : Int) != 0)), (52, .bool ((r840.2 : Int) != 0))]) (φ := []) tbok 4 [] [1, 2, 3, 5, 7, 49, 50, 52] E (by kernel_rfl) trivial ?_
                    clear E; intro a E
                    refine E.cases (t := 52) rfl (fun hb_ E_ => ?_) (fun hb_ E_ => ?_)
                    · replace E := E_; clear E_
                      have h903 : ¬ ((r840.2 : Int) = 0) := bne_iff_ne.1 hb_
                      clear hb_; replace hP := ite_f h903 hP
                      refine vrun (w := w873) (lp := [(1, .slice (some ⟨g1, 0, none⟩) 4 (List.length ([(1, 2), (2, 1), (0, 3), (3, 0)] : List (Int × Int)))), (2, .int .i64 i166), (49, .int .i64 r840.2), (50, .bool ((r840.2 : Int) != 0)), (53, .tuple #[]), (54, .tuple #[]), (55, .tuple #[]), (56, .tuple #[]), (57, .tuple #[]), (60, .tuple #[]), (61, .tuple #[]), (62, .tuple #[]), (63, .tuple #[]), (64, .tuple #[]), (65, .bool true)]) (φ := []) tbok 13 [] [1, 2, 49, 50, 53, 54, 55, 56, 57, 60, 61, 62, 63, 64, 65] E (by kernel_rfl) trivial ?_
                      clear E; intro a E
                      refine wpList_nil ?_
                      refine th_n ?_
                      refine c_true E rfl ?_
                      refine wp_seq ?_
                      refine wp_region_lit ?_
                      refine vrun (w := w873) (lp := [(0, .bool false)]) (φ := []) tbok 1 [] [0] E (by kernel_rfl) trivial ?_
                      clear E; intro a E
                      refine wpList_nil ?_
                      refine th_n ?_
                      refine wp_ret ?_
                      refine bl_ret ?_
                      refine th_ret ?_
                      refine th_ret ?_
                      refine .inr ⟨rfl, ?_⟩
                      refine bl_ret ?_
                      refine th_ret ?_
                      have hx_ := Option.some.inj hP; subst hx_
                      have hP : some (false) = some r := hK756
                      obtain rfl := Option.some.inj hP
                      refine ret1 E rfl rfl ?_
                      exact ⟨_, rfl, rfl, H.sel [] rfl⟩
                    · replace E := E_; clear E_
                      have h904 : (r840.2 : Int) = 0 := bne_eq_false_iff_eq.1 hb_
                      clear hb_; replace hP := ite_t h904 hP
                      refine vrun (w := w873) (lp := [(1, .slice (some ⟨g1, 0, none⟩) 4 (List.length ([(1, 2), (2, 1), (0, 3), (3, 0)] : List (Int × Int)))), (2, .int .i64 i166), (5, .bool r840.1), (49, .int .i64 r840.2), (50, .bool ((r840.2 : Int) != 0)), (52, .bool false), (53, .slice A819 (List.length r780.1) c820), (54, .int .i64 (-1))]) (φ := []) tbok 2 [] [1, 2, 5, 49, 50, 52, 53, 54] E (by kernel_rfl) trivial ?_
                      clear E; intro a E
                      refine h_buildSlice (ps := [(0, .int .i64 (-1)), (1, .int .i64 (-1)), (2, .int .i64 0)]) (cs := [.int .i64 (-1), .int .i64 (-1), .int .i64 0]) H E rfl rfl tbok rfl rfl (by kernel_rfl) ?_
                      intro w906 g905 a hc907 hg909 H_ E_
                      replace E := E_ _ rfl; clear E_
                      replace H : Hp S Fa w0 w906 [.rowx true cS28 29 (some ⟨g1, 0, none⟩) (List.length ([(1, 2), (2, 1), (0, 3), (3, 0)] : List (Int × Int))) ([(1, 2), (2, 1), (0, 3), (3, 0)] : List (Int × Int)) [], .row true cBool 4 A803 c804 r761.2.1, .row true (cInt .i64) 3 A806 c807 r761.2.2.1, .row true cNode 69 A809 c810 r761.2.2.2, .row true (cInt .i64) 3 A819 c820 r780.1, .row true cBool 4 A860 c861 r822.2.1, .row true (cInt .i64) 3 A863 c864 r822.2.2.1, .row true cNode 69 A866 c867 r822.2.2.2, .box g905 3 [.int .i64 (-1), .int .i64 (-1), .int .i64 0]] := H_; clear H_
                      replace H : Hp S Fa w0 w906 [.rowx true cS28 29 (some ⟨g1, 0, none⟩) (List.length ([(1, 2), (2, 1), (0, 3), (3, 0)] : List (Int × Int))) ([(1, 2), (2, 1), (0, 3), (3, 0)] : List (Int × Int)) [], .row true cBool 4 A803 c804 r761.2.1, .row true (cInt .i64) 3 A806 c807 r761.2.2.1, .row true cNode 69 A809 c810 r761.2.2.2, .row true (cInt .i64) 3 A819 c820 r780.1, .row true cBool 4 A860 c861 r822.2.1, .row true (cInt .i64) 3 A863 c864 r822.2.2.1, .row true cNode 69 A866 c867 r822.2.2.2, .rowx true (cInt .i64) 3 (some ⟨g905, 0, none⟩) (List.length ([-1, -1, 0] : List Int)) ([-1, -1, 0] : List Int) []] := H.boxRow (cInt .i64) true ([-1, -1, 0] : List Int) 8 rfl (fun _ _ => ⟨_, _, rfl, rfl, ⟨_, _, rfl, rfl, ⟨_, _, rfl, rfl, rfl⟩⟩⟩) (by decide)
                      obtain ⟨r910, h911, hP⟩ := bind_inv hP
                      obtain ⟨Fa912, Hc913, hb914⟩ := H.call [] [(4, false), (8, false)] rfl rfl trivial
                      refine e_call E rfl rfl Try.func22 rfl rfl rfl (kit_SameInts_calls A819 c820 (some ⟨g905, 0, none⟩) 3 r780.1 ([-1, -1, 0] : List Int) (H.rcap 4 rfl) (H.rcapx 8 rfl) Hc913 h911) ?_
                      rintro v915 w916 a ⟨rfl, HR917⟩ E_
                      replace E := E_ _ rfl; clear E_
                      obtain ⟨H_, hc918⟩ := hb914 _ _ HR917 rfl
                      replace H : Hp S Fa w0 w916 [.rowx true cS28 29 (some ⟨g1, 0, none⟩) (List.length ([(1, 2), (2, 1), (0, 3), (3, 0)] : List (Int × Int))) ([(1, 2), (2, 1), (0, 3), (3, 0)] : List (Int × Int)) [], .row true cBool 4 A803 c804 r761.2.1, .row true (cInt .i64) 3 A806 c807 r761.2.2.1, .row true cNode 69 A809 c810 r761.2.2.2, .row true (cInt .i64) 3 A819 c820 r780.1, .row true cBool 4 A860 c861 r822.2.1, .row true (cInt .i64) 3 A863 c864 r822.2.2.1, .row true cNode 69 A866 c867 r822.2.2.2, .rowx true (cInt .i64) 3 (some ⟨g905, 0, none⟩) (List.length ([-1, -1, 0] : List Int)) ([-1, -1, 0] : List Int) []] := H_; clear H_
                      refine vrun (w := w916) (lp := [(1, .slice (some ⟨g1, 0, none⟩) 4 (List.length ([(1, 2), (2, 1), (0, 3), (3, 0)] : List (Int × Int)))), (2, .int .i64 i166), (5, .bool r840.1), (49, .int .i64 r840.2), (50, .bool ((r840.2 : Int) != 0)), (53, .slice A819 (List.length r780.1) c820), (54, .int .i64 (-1)), (55, .slice (some ⟨g905, 0, none⟩) 3 3), (56, .bool r910), (57, .bool (!r910)), (59, .bool (!r910))]) (φ := []) tbok 3 [] [1, 2, 5, 49, 50, 53, 54, 55, 56, 57, 59] E (by kernel_rfl) trivial ?_
                      clear E; intro a E
                      refine E.cases (t := 59) rfl (fun hb_ E_ => ?_) (fun hb_ E_ => ?_)
                      · replace E := E_; clear E_
                        have h919 : ¬ (r910 = true) := (ne_true_of_eq_false (not_t hb_))
                        clear hb_; replace hP := ite_f h919 hP
                        refine vrun (w := w916) (lp := [(1, .slice (some ⟨g1, 0, none⟩) 4 (List.length ([(1, 2), (2, 1), (0, 3), (3, 0)] : List (Int × Int)))), (2, .int .i64 i166), (49, .int .i64 r840.2), (50, .bool ((r840.2 : Int) != 0)), (53, .slice A819 (List.length r780.1) c820), (54, .int .i64 (-1)), (55, .slice (some ⟨g905, 0, none⟩) 3 3), (56, .bool r910), (57, .bool (!r910)), (60, .tuple #[]), (61, .tuple #[]), (62, .tuple #[]), (63, .tuple #[]), (64, .tuple #[]), (65, .bool true)]) (φ := []) tbok 6 [] [1, 2, 49, 50, 53, 54, 55, 56, 57, 60, 61, 62, 63, 64, 65] E (by kernel_rfl) trivial ?_
                        clear E; intro a E
                        refine wpList_nil ?_
                        refine th_n ?_
                        refine c_true E rfl ?_
                        refine wp_seq ?_
                        refine wp_region_lit ?_
                        refine vrun (w := w916) (lp := [(0, .bool false)]) (φ := []) tbok 1 [] [0] E (by kernel_rfl) trivial ?_
                        clear E; intro a E
                        refine wpList_nil ?_
                        refine th_n ?_
                        refine wp_ret ?_
                        refine bl_ret ?_
                        refine th_ret ?_
                        refine th_ret ?_
                        refine .inr ⟨rfl, ?_⟩
                        refine bl_ret ?_
                        refine th_ret ?_
                        have hx_ := Option.some.inj hP; subst hx_
                        have hP : some (false) = some r := hK756
                        obtain rfl := Option.some.inj hP
                        refine ret1 E rfl rfl ?_
                        exact ⟨_, rfl, rfl, H.sel [] rfl⟩
                      · replace E := E_; clear E_
                        have h920 : r910 = true := (not_f hb_)
                        clear hb_; replace hP := ite_t h920 hP
                        refine vrun (w := w916) (lp := [(1, .slice (some ⟨g1, 0, none⟩) 4 (List.length ([(1, 2), (2, 1), (0, 3), (3, 0)] : List (Int × Int)))), (2, .int .i64 i166), (49, .int .i64 r840.2), (50, .bool ((r840.2 : Int) != 0)), (53, .slice A819 (List.length r780.1) c820), (54, .int .i64 (-1)), (55, .slice (some ⟨g905, 0, none⟩) 3 3), (56, .bool r910), (57, .bool (!r910)), (60, .bool r840.1), (61, .int .i64 i166), (62, .int .i64 (Int.tmod i166 2)), (63, .bool ((Int.tmod i166 2 : Int) == 0)), (64, .bool (!(r840.1 == ((Int.tmod i166 2 : Int) == 0)))), (65, .bool (!(r840.1 == ((Int.tmod i166 2 : Int) == 0))))]) (φ := [(2 : Int) ≠ 0 ∧ Int.tmod i166 2 = Int.tmod i166 2]) tbok 6 [.int .i64 (Int.tmod i166 2)] [1, 2, 49, 50, 53, 54, 55, 56, 57, 60, 61, 62, 63, 64, 65] E (by kernel_rfl) (⟨by decide, rfl⟩) ?_
                        clear E; intro a E
                        refine wpList_nil ?_
                        refine th_n ?_
                        refine E.cases (t := 65) rfl (fun hb_ E_ => ?_) (fun hb_ E_ => ?_)
                        · replace E := E_; clear E_
                          have h921 : ¬ (r840.1 = ((Int.tmod i166 2 : Int) == 0)) := (by simpa using hb_)
                          clear hb_; replace hP := ite_f h921 hP
                          refine c_true E rfl ?_
                          refine wp_seq ?_
                          refine wp_region_lit ?_
                          refine vrun (w := w916) (lp := [(0, .bool false)]) (φ := []) tbok 1 [] [0] E (by kernel_rfl) trivial ?_
                          clear E; intro a E
                          refine wpList_nil ?_
                          refine th_n ?_
                          refine wp_ret ?_
                          refine bl_ret ?_
                          refine th_ret ?_
                          refine th_ret ?_
                          refine .inr ⟨rfl, ?_⟩
                          refine bl_ret ?_
                          refine th_ret ?_
                          have hx_ := Option.some.inj hP; subst hx_
                          have hP : some (false) = some r := hK756
                          obtain rfl := Option.some.inj hP
                          refine ret1 E rfl rfl ?_
                          exact ⟨_, rfl, rfl, H.sel [] rfl⟩
                        · replace E := E_; clear E_
                          have h922 : r840.1 = ((Int.tmod i166 2 : Int) == 0) := (by simpa using hb_)
                          clear hb_; replace hP := ite_t h922 hP
                          refine c_false E rfl ?_
                          refine wp_skip ?_
                          refine bl_n ?_
                          refine th_n ?_
                          refine wp_region_lit ?_
                          obtain ⟨g923, hP⟩ := ask_inv hP
                          refine vrun (w := w916) (lp := [(1, .slice (some ⟨g1, 0, none⟩) 4 (List.length ([(1, 2), (2, 1), (0, 3), (3, 0)] : List (Int × Int)))), (2, .int .i64 (i166 + 1)), (49, .int .i64 r840.2), (50, .bool ((r840.2 : Int) != 0)), (53, .slice A819 (List.length r780.1) c820), (54, .int .i64 (-1)), (55, .slice (some ⟨g905, 0, none⟩) 3 3), (56, .bool r910), (57, .bool (!r910)), (60, .bool r840.1), (61, .int .i64 i166), (62, .int .i64 (Int.tmod i166 2)), (63, .bool ((Int.tmod i166 2 : Int) == 0)), (64, .bool (!(r840.1 == ((Int.tmod i166 2 : Int) == 0))))]) (φ := [IntKind.i64.wrap (i166 + 1) = i166 + 1]) tbok 3 [.int .i64 (i166 + 1)] [1, 2, 49, 50, 53, 54, 55, 56, 57, 60, 61, 62, 63, 64] E (by kernel_rfl) (wrap_in g923) ?_
                          clear E; intro a E
                          refine wpList_nil ?_
                          exact th_n ⟨m753, Nat.lt_succ_self _, i166 + 1, E.pick _ ⟨rfl, rfl, trivial⟩, H.sel [0] rfl, hP⟩
      · replace E := E_; clear E_
        have h924 : ¬ (i166 < 4) := of_decide_eq_false hb_
        clear hb_; replace hP := ite_f h924 hP
        refine c_false E rfl ?_
        refine wp_exit ?_
        refine th_exit ?_
        have hx_ := Option.some.inj hP
        refine th_exit (.inl ⟨0, rfl, ?_⟩)
        exact ⟨rfl, (), E.pick _ ⟨rfl, trivial⟩, H.sel [0] rfl, hx_.symm⟩
  · clear E H hL755; intro i_ a w757 hM_
    obtain ⟨rfl, x759, E, H, hx_⟩ := hM_
    subst hx_; have hP := elim_l hK756
    clear hK756
    refine bl_hit ?_
    refine th_n ?_
    refine wp_seq ?_
    refine wp_region_lit ?_
    obtain ⟨r926, h927, hP⟩ := bind_inv hP
    obtain ⟨Fa928, Hc929, hb930⟩ := H.call [] [] rfl rfl trivial
    refine e_call E rfl rfl Try.func26 rfl rfl rfl (law23_Until_calls    Hc929 h927) ?_
    rintro v931 w932 a ⟨A935, c936, A938, c939, A941, c942, rfl, HR933⟩ E_
    replace E := E_ _ rfl; clear E_
    obtain ⟨H_, hc934⟩ := hb930 _ _ HR933 rfl
    replace H : Hp S Fa w0 w932 [.rowx true cS28 29 (some ⟨g1, 0, none⟩) (List.length ([(1, 2), (2, 1), (0, 3), (3, 0)] : List (Int × Int))) ([(1, 2), (2, 1), (0, 3), (3, 0)] : List (Int × Int)) [], .row true cBool 4 A935 c936 r926.2.1, .row true (cInt .i64) 3 A938 c939 r926.2.2.1, .row true cNode 69 A941 c942 r926.2.2.2] := H_; clear H_
    refine e_build (ps := [(0, .int .u8 1)]) (v := .agg #[.int .u8 1, .int .u8 0]) E rfl rfl tbok rfl (by kernel_rfl) rfl ?_
    clear E; intro a E
    obtain ⟨r944, h945, hP⟩ := bind_inv hP
    obtain ⟨Fa946, Hc947, hb948⟩ := H.call [] [(1, false), (2, false), (3, false)] rfl rfl trivial
    refine e_call E rfl rfl Try.func11 rfl rfl rfl (attract_Ranks_calls A935 c936 A938 c939 A941 c942 r926.1 r926.2.1 r926.2.2.1 r926.2.2.2 (1, 0) (H.rcap 1 rfl) (H.rcap 2 rfl) (H.rcap 3 rfl) Hc947 h945) ?_
    rintro v949 w950 a ⟨A953, c954, rfl, HR951⟩ E_
    replace E := E_ _ rfl; clear E_
    obtain ⟨H_, hc952⟩ := hb948 _ _ HR951 rfl
    replace H : Hp S Fa w0 w950 [.rowx true cS28 29 (some ⟨g1, 0, none⟩) (List.length ([(1, 2), (2, 1), (0, 3), (3, 0)] : List (Int × Int))) ([(1, 2), (2, 1), (0, 3), (3, 0)] : List (Int × Int)) [], .row true cBool 4 A935 c936 r926.2.1, .row true (cInt .i64) 3 A938 c939 r926.2.2.1, .row true cNode 69 A941 c942 r926.2.2.2, .row true (cInt .i64) 3 A953 c954 r944.1] := H_; clear H_
    refine vrun (w := w950) (lp := [(1, .slice (some ⟨g1, 0, none⟩) 4 (List.length ([(1, 2), (2, 1), (0, 3), (3, 0)] : List (Int × Int)))), (9, .int .i64 r944.2)]) (φ := []) tbok 5 [] [1, 9] E (by kernel_rfl) trivial ?_
    clear E; intro a E
    refine wpList_nil ?_
    refine th_n ?_
    refine wp_seq ?_
    obtain ⟨r956, h957, hP⟩ := bind_inv hP
    obtain ⟨g974, hP⟩ := ask_inv hP
    obtain ⟨r976, h977, hP⟩ := bind_inv hP
    have HR991 := H
    refine dr_start (S := fun w_ => Chg (atL (pickE [.rowx true cS28 29 (some ⟨g1, 0, none⟩) (List.length ([(1, 2), (2, 1), (0, 3), (3, 0)] : List (Int × Int))) ([(1, 2), (2, 1), (0, 3), (3, 0)] : List (Int × Int)) [], .row true cBool 4 A935 c936 r926.2.1, .row true (cInt .i64) 3 A938 c939 r926.2.2.1, .row true cNode 69 A941 c942 r926.2.2.2, .row true (cInt .i64) 3 A953 c954 r944.1] [])) w950 w_) (by kernel_rfl) ?_
    intro w988 hc989
    have HS990 : Chg (atL (pickE [.rowx true cS28 29 (some ⟨g1, 0, none⟩) (List.length ([(1, 2), (2, 1), (0, 3), (3, 0)] : List (Int × Int))) ([(1, 2), (2, 1), (0, 3), (3, 0)] : List (Int × Int)) [], .row true cBool 4 A935 c936 r926.2.1, .row true (cInt .i64) 3 A938 c939 r926.2.2.1, .row true cNode 69 A941 c942 r926.2.2.2, .row true (cInt .i64) 3 A953 c954 r944.1] [])) w950 w988 := hc989.mono (fun _ _ h_ => h_.elim)
    replace H : Hp S Fa w0 w988 [.rowx true cS28 29 (some ⟨g1, 0, none⟩) (List.length ([(1, 2), (2, 1), (0, 3), (3, 0)] : List (Int × Int))) ([(1, 2), (2, 1), (0, 3), (3, 0)] : List (Int × Int)) [], .row true cBool 4 A935 c936 r926.2.1, .row true (cInt .i64) 3 A938 c939 r926.2.2.1, .row true cNode 69 A941 c942 r926.2.2.2, .row true (cInt .i64) 3 A953 c954 r944.1] := H.ext hc989
    refine drun (lp := [(1, .slice (some ⟨g1, 0, none⟩) 4 (List.length ([(1, 2), (2, 1), (0, 3), (3, 0)] : List (Int × Int)))), (9, .int .i64 r944.2), (76, .agg #[.int .u8 ((List.getD ([(1, 2), (2, 1), (0, 3), (3, 0)] : List (Int × Int)) (Int.toNat (0 : Int)) (0, 0)).1), .int .u8 ((List.getD ([(1, 2), (2, 1), (0, 3), (3, 0)] : List (Int × Int)) (Int.toNat (0 : Int)) (0, 0)).2)])]) tbok (by kernel_rfl) [1, 2, 3] [.agg #[.int .u8 ((List.getD ([(1, 2), (2, 1), (0, 3), (3, 0)] : List (Int × Int)) (Int.toNat (0 : Int)) (0, 0)).1), .int .u8 ((List.getD ([(1, 2), (2, 1), (0, 3), (3, 0)] : List (Int × Int)) (Int.toNat (0 : Int)) (0, 0)).2)]] [1, 9, 76] (fun w_ => [0 ≤ (0 : Int) ∧ (0 : Int) < ((4 : Nat) : Int), cellsAt w_ g1 (0 + (Int.toNat (0 : Int)) * 2) [.int .u8 ((List.getD ([(1, 2), (2, 1), (0, 3), (3, 0)] : List (Int × Int)) (Int.toNat (0 : Int)) (0, 0)).1), .int .u8 ((List.getD ([(1, 2), (2, 1), (0, 3), (3, 0)] : List (Int × Int)) (Int.toNat (0 : Int)) (0, 0)).2)]]) (fuel := 7) E (fun _ _ => by kernel_rfl) (fun w_ hS_ => ⟨g974, Rds.atP (HR991.rdk [] hS_ 0 rds_rowx rfl) (0, 0) g974⟩) (by kernel_rfl) HS990 ?_
    clear E; intro a E
    refine wpAnyH_all (rs := [0]) (by kernel_rfl) (by simp) ?_
    refine all1 ?_
    · refine wpOp_of_list rfl ?_
      obtain ⟨Fa992, Hc993, hb994⟩ := H.call [] [] rfl rfl trivial
      refine e_call E rfl rfl Try.func26 rfl rfl rfl (law23_Until_calls    Hc993 h957) ?_
      rintro v995 w996 a ⟨A999, c1000, A1002, c1003, A1005, c1006, rfl, HR997⟩ E_
      replace E := E_ _ rfl; clear E_
      obtain ⟨H_, hc998⟩ := hb994 _ _ HR997 rfl
      replace HS990 := HS990.ext (callS_ext hc998)
      replace H : Hp S Fa w0 w996 [.rowx true cS28 29 (some ⟨g1, 0, none⟩) (List.length ([(1, 2), (2, 1), (0, 3), (3, 0)] : List (Int × Int))) ([(1, 2), (2, 1), (0, 3), (3, 0)] : List (Int × Int)) [], .row true cBool 4 A935 c936 r926.2.1, .row true (cInt .i64) 3 A938 c939 r926.2.2.1, .row true cNode 69 A941 c942 r926.2.2.2, .row true (cInt .i64) 3 A953 c954 r944.1, .row true cBool 4 A999 c1000 r956.2.1, .row true (cInt .i64) 3 A1002 c1003 r956.2.2.1, .row true cNode 69 A1005 c1006 r956.2.2.2] := H_; clear H_
      refine wpList_nil ?_
      refine th_n ⟨HS990, ?_⟩
      refine wpAnyH_all (rs := [4]) (by kernel_rfl) (by simp) ?_
      refine all1 ?_
      · refine wpOp_of_list rfl ?_
        replace H : Hp S Fa w0 w996 [.rowx true cS28 29 (some ⟨g1, 0, none⟩) (List.length ([(1, 2), (2, 1), (0, 3), (3, 0)] : List (Int × Int))) ([(1, 2), (2, 1), (0, 3), (3, 0)] : List (Int × Int)) [], .row true cBool 4 A935 c936 r926.2.1, .row true (cInt .i64) 3 A938 c939 r926.2.2.1, .row true cNode 69 A941 c942 r926.2.2.2, .row true (cInt .i64) 3 A953 c954 r944.1, .row true cBool 4 A999 c1000 r956.2.1, .row true (cInt .i64) 3 A1002 c1003 r956.2.2.1, .row true cNode 69 A1005 c1006 r956.2.2.2, .row true cBool 4 none 0 []] := H.nilrow cBool 4
        obtain ⟨Fa1009, Hc1010, hb1011⟩ := H.call [] [(5, false), (6, false), (7, false), (8, false)] rfl rfl trivial
        refine e_call E rfl rfl Try.func20 rfl rfl rfl (attract_Step_calls A999 c1000 A1002 c1003 A1005 c1006 none 0 r956.1 r956.2.1 r956.2.2.1 r956.2.2.2 (List.getD ([(1, 2), (2, 1), (0, 3), (3, 0)] : List (Int × Int)) (Int.toNat (0 : Int)) (0, 0)) [] (H.rcap 5 rfl) (H.rcap 6 rfl) (H.rcap 7 rfl) (Nat.le_refl _) Hc1010 h977) ?_
        rintro v1012 w1013 a ⟨A1016, c1017, rfl, HR1014⟩ E_
        replace E := E_ _ rfl; clear E_
        obtain ⟨H_, hc1015⟩ := hb1011 _ _ HR1014 rfl
        replace HS990 := HS990.ext (callS_ext hc1015)
        replace H : Hp S Fa w0 w1013 [.rowx true cS28 29 (some ⟨g1, 0, none⟩) (List.length ([(1, 2), (2, 1), (0, 3), (3, 0)] : List (Int × Int))) ([(1, 2), (2, 1), (0, 3), (3, 0)] : List (Int × Int)) [], .row true cBool 4 A935 c936 r926.2.1, .row true (cInt .i64) 3 A938 c939 r926.2.2.1, .row true cNode 69 A941 c942 r926.2.2.2, .row true (cInt .i64) 3 A953 c954 r944.1, .row true cBool 4 A999 c1000 r956.2.1, .row true (cInt .i64) 3 A1002 c1003 r956.2.2.1, .row true cNode 69 A1005 c1006 r956.2.2.2, .row true cBool 4 none 0 [], .row true cBool 4 A1016 c1017 r976.1] := H_; clear H_
        refine wpList_nil ?_
        refine th_n ⟨HS990, ?_⟩
        refine drun (lp := [(1, .slice (some ⟨g1, 0, none⟩) 4 (List.length ([(1, 2), (2, 1), (0, 3), (3, 0)] : List (Int × Int)))), (9, .int .i64 r944.2), (11, .int .i64 r976.2)]) tbok (by kernel_rfl) [5, 6, 7, 8, 9] [] [1, 9, 11] (fun w_ => []) (fuel := 0) E (fun _ _ => by kernel_rfl) (fun w_ hS_ => trivial) (by kernel_rfl) HS990 ?_
        clear E; intro a E
        refine dr_done (by kernel_rfl) ?_
        clear HS990 HR991
        refine th_n ?_
        refine wp_seq ?_
        obtain ⟨r1019, h1020, hP⟩ := bind_inv hP
        obtain ⟨r1042, h1043, hP⟩ := bind_inv hP
        have HR1057 := H
        refine dr_start (S := fun w_ => Chg (atL (pickE [.rowx true cS28 29 (some ⟨g1, 0, none⟩) (List.length ([(1, 2), (2, 1), (0, 3), (3, 0)] : List (Int × Int))) ([(1, 2), (2, 1), (0, 3), (3, 0)] : List (Int × Int)) [], .row true cBool 4 A935 c936 r926.2.1, .row true (cInt .i64) 3 A938 c939 r926.2.2.1, .row true cNode 69 A941 c942 r926.2.2.2, .row true (cInt .i64) 3 A953 c954 r944.1, .row true cBool 4 A999 c1000 r956.2.1, .row true (cInt .i64) 3 A1002 c1003 r956.2.2.1, .row true cNode 69 A1005 c1006 r956.2.2.2, .row true cBool 4 none 0 [], .row true cBool 4 A1016 c1017 r976.1] [])) w1013 w_) (by kernel_rfl) ?_
        intro w1054 hc1055
        have HS1056 : Chg (atL (pickE [.rowx true cS28 29 (some ⟨g1, 0, none⟩) (List.length ([(1, 2), (2, 1), (0, 3), (3, 0)] : List (Int × Int))) ([(1, 2), (2, 1), (0, 3), (3, 0)] : List (Int × Int)) [], .row true cBool 4 A935 c936 r926.2.1, .row true (cInt .i64) 3 A938 c939 r926.2.2.1, .row true cNode 69 A941 c942 r926.2.2.2, .row true (cInt .i64) 3 A953 c954 r944.1, .row true cBool 4 A999 c1000 r956.2.1, .row true (cInt .i64) 3 A1002 c1003 r956.2.2.1, .row true cNode 69 A1005 c1006 r956.2.2.2, .row true cBool 4 none 0 [], .row true cBool 4 A1016 c1017 r976.1] [])) w1013 w1054 := hc1055.mono (fun _ _ h_ => h_.elim)
        replace H : Hp S Fa w0 w1054 [.rowx true cS28 29 (some ⟨g1, 0, none⟩) (List.length ([(1, 2), (2, 1), (0, 3), (3, 0)] : List (Int × Int))) ([(1, 2), (2, 1), (0, 3), (3, 0)] : List (Int × Int)) [], .row true cBool 4 A935 c936 r926.2.1, .row true (cInt .i64) 3 A938 c939 r926.2.2.1, .row true cNode 69 A941 c942 r926.2.2.2, .row true (cInt .i64) 3 A953 c954 r944.1, .row true cBool 4 A999 c1000 r956.2.1, .row true (cInt .i64) 3 A1002 c1003 r956.2.2.1, .row true cNode 69 A1005 c1006 r956.2.2.2, .row true cBool 4 none 0 [], .row true cBool 4 A1016 c1017 r976.1] := H.ext hc1055
        refine drun (lp := [(9, .int .i64 r944.2), (11, .int .i64 r976.2), (84, .agg #[.int .u8 ((List.getD ([(1, 2), (2, 1), (0, 3), (3, 0)] : List (Int × Int)) (Int.toNat (0 : Int)) (0, 0)).1), .int .u8 ((List.getD ([(1, 2), (2, 1), (0, 3), (3, 0)] : List (Int × Int)) (Int.toNat (0 : Int)) (0, 0)).2)])]) tbok (by kernel_rfl) [1, 2, 3] [.agg #[.int .u8 ((List.getD ([(1, 2), (2, 1), (0, 3), (3, 0)] : List (Int × Int)) (Int.toNat (0 : Int)) (0, 0)).1), .int .u8 ((List.getD ([(1, 2), (2, 1), (0, 3), (3, 0)] : List (Int × Int)) (Int.toNat (0 : Int)) (0, 0)).2)]] [9, 11, 84] (fun w_ => [0 ≤ (0 : Int) ∧ (0 : Int) < ((4 : Nat) : Int), cellsAt w_ g1 (0 + (Int.toNat (0 : Int)) * 2) [.int .u8 ((List.getD ([(1, 2), (2, 1), (0, 3), (3, 0)] : List (Int × Int)) (Int.toNat (0 : Int)) (0, 0)).1), .int .u8 ((List.getD ([(1, 2), (2, 1), (0, 3), (3, 0)] : List (Int × Int)) (Int.toNat (0 : Int)) (0, 0)).2)]]) (fuel := 8) E (fun _ _ => by kernel_rfl) (fun w_ hS_ => ⟨g974, Rds.atP (HR1057.rdk [] hS_ 0 rds_rowx rfl) (0, 0) g974⟩) (by kernel_rfl) HS1056 ?_
        clear E; intro a E
        refine wpAnyH_all (rs := [0, 4]) (by kernel_rfl) (by simp) ?_
        refine all2 ?_ ?_
        · refine wpOp_of_list rfl ?_
          obtain ⟨Fa1058, Hc1059, hb1060⟩ := H.call [] [] rfl rfl trivial
          refine e_call E rfl rfl Try.func26 rfl rfl rfl (law23_Until_calls    Hc1059 h1020) ?_
          rintro v1061 w1062 a ⟨A1065, c1066, A1068, c1069, A1071, c1072, rfl, HR1063⟩ E_
          replace E := E_ _ rfl; clear E_
          obtain ⟨H_, hc1064⟩ := hb1060 _ _ HR1063 rfl
          replace HS1056 := HS1056.ext (callS_ext hc1064)
          replace H : Hp S Fa w0 w1062 [.rowx true cS28 29 (some ⟨g1, 0, none⟩) (List.length ([(1, 2), (2, 1), (0, 3), (3, 0)] : List (Int × Int))) ([(1, 2), (2, 1), (0, 3), (3, 0)] : List (Int × Int)) [], .row true cBool 4 A935 c936 r926.2.1, .row true (cInt .i64) 3 A938 c939 r926.2.2.1, .row true cNode 69 A941 c942 r926.2.2.2, .row true (cInt .i64) 3 A953 c954 r944.1, .row true cBool 4 A999 c1000 r956.2.1, .row true (cInt .i64) 3 A1002 c1003 r956.2.2.1, .row true cNode 69 A1005 c1006 r956.2.2.2, .row true cBool 4 none 0 [], .row true cBool 4 A1016 c1017 r976.1, .row true cBool 4 A1065 c1066 r1019.2.1, .row true (cInt .i64) 3 A1068 c1069 r1019.2.2.1, .row true cNode 69 A1071 c1072 r1019.2.2.2] := H_; clear H_
          refine wpList_nil ?_
          refine th_n ⟨HS1056, ?_⟩
          refine wpAnyH_all (rs := [4]) (by kernel_rfl) (by simp) ?_
          refine all1 ?_
          · refine wpOp_of_list rfl ?_
            refine h_buildSlice (ps := [(0, .bool false), (1, .bool false), (2, .bool true)]) (cs := [.bool false, .bool false, .bool true]) H E rfl rfl tbok rfl rfl (by kernel_rfl) ?_
            intro w1075 g1074 a hc1076 hg1078 H_ E_
            replace E := E_ _ rfl; clear E_
            have hin1079 : ∀ q_, q_ < w1013.heap.size → q_ = g1074 → (atL (pickE [.rowx true cS28 29 (some ⟨g1, 0, none⟩) (List.length ([(1, 2), (2, 1), (0, 3), (3, 0)] : List (Int × Int))) ([(1, 2), (2, 1), (0, 3), (3, 0)] : List (Int × Int)) [], .row true cBool 4 A935 c936 r926.2.1, .row true (cInt .i64) 3 A938 c939 r926.2.2.1, .row true cNode 69 A941 c942 r926.2.2.2, .row true (cInt .i64) 3 A953 c954 r944.1, .row true cBool 4 A999 c1000 r956.2.1, .row true (cInt .i64) 3 A1002 c1003 r956.2.2.1, .row true cNode 69 A1005 c1006 r956.2.2.2, .row true cBool 4 none 0 [], .row true cBool 4 A1016 c1017 r976.1] [])) q_ := fun q_ h1_ h2_ => by have hs_ := HS1056.size; have h4_ : q_ = g1074 := h2_; exfalso; omega
            replace HS1056 := HS1056.ext hc1076
            replace H : Hp S Fa w0 w1075 [.rowx true cS28 29 (some ⟨g1, 0, none⟩) (List.length ([(1, 2), (2, 1), (0, 3), (3, 0)] : List (Int × Int))) ([(1, 2), (2, 1), (0, 3), (3, 0)] : List (Int × Int)) [], .row true cBool 4 A935 c936 r926.2.1, .row true (cInt .i64) 3 A938 c939 r926.2.2.1, .row true cNode 69 A941 c942 r926.2.2.2, .row true (cInt .i64) 3 A953 c954 r944.1, .row true cBool 4 A999 c1000 r956.2.1, .row true (cInt .i64) 3 A1002 c1003 r956.2.2.1, .row true cNode 69 A1005 c1006 r956.2.2.2, .row true cBool 4 none 0 [], .row true cBool 4 A1016 c1017 r976.1, .row true cBool 4 A1065 c1066 r1019.2.1, .row true (cInt .i64) 3 A1068 c1069 r1019.2.2.1, .row true cNode 69 A1071 c1072 r1019.2.2.2, .box g1074 4 [.bool false, .bool false, .bool true]] := H_; clear H_
            refine wpList_nil ?_
            refine th_n ⟨HS1056, ?_⟩
            refine wpAnyH_all (rs := [5]) (by kernel_rfl) (by simp) ?_
            refine all1 ?_
            · refine wpOp_of_list rfl ?_
              replace H : Hp S Fa w0 w1075 [.rowx true cS28 29 (some ⟨g1, 0, none⟩) (List.length ([(1, 2), (2, 1), (0, 3), (3, 0)] : List (Int × Int))) ([(1, 2), (2, 1), (0, 3), (3, 0)] : List (Int × Int)) [], .row true cBool 4 A935 c936 r926.2.1, .row true (cInt .i64) 3 A938 c939 r926.2.2.1, .row true cNode 69 A941 c942 r926.2.2.2, .row true (cInt .i64) 3 A953 c954 r944.1, .row true cBool 4 A999 c1000 r956.2.1, .row true (cInt .i64) 3 A1002 c1003 r956.2.2.1, .row true cNode 69 A1005 c1006 r956.2.2.2, .row true cBool 4 none 0 [], .row true cBool 4 A1016 c1017 r976.1, .row true cBool 4 A1065 c1066 r1019.2.1, .row true (cInt .i64) 3 A1068 c1069 r1019.2.2.1, .row true cNode 69 A1071 c1072 r1019.2.2.2, .rowx true cBool 4 (some ⟨g1074, 0, none⟩) (List.length ([false, false, true] : List Bool)) ([false, false, true] : List Bool) []] := H.boxRow cBool true ([false, false, true] : List Bool) 13 rfl (fun _ _ => ⟨_, _, rfl, rfl, ⟨_, _, rfl, rfl, ⟨_, _, rfl, rfl, rfl⟩⟩⟩) (by decide)
              obtain ⟨Fa1080, Hc1081, hb1082⟩ := H.call [] [(10, false), (11, false), (12, false), (13, false)] rfl rfl trivial
              refine e_call E rfl rfl Try.func20 rfl rfl rfl (attract_Step_calls A1065 c1066 A1068 c1069 A1071 c1072 (some ⟨g1074, 0, none⟩) 3 r1019.1 r1019.2.1 r1019.2.2.1 r1019.2.2.2 (List.getD ([(1, 2), (2, 1), (0, 3), (3, 0)] : List (Int × Int)) (Int.toNat (0 : Int)) (0, 0)) ([false, false, true] : List Bool) (H.rcap 10 rfl) (H.rcap 11 rfl) (H.rcap 12 rfl) (H.rcapx 13 rfl) Hc1081 h1043) ?_
              rintro v1083 w1084 a ⟨A1087, c1088, rfl, HR1085⟩ E_
              replace E := E_ _ rfl; clear E_
              obtain ⟨H_, hc1086⟩ := hb1082 _ _ HR1085 rfl
              replace HS1056 := HS1056.ext (callS_ext hc1086)
              replace H : Hp S Fa w0 w1084 [.rowx true cS28 29 (some ⟨g1, 0, none⟩) (List.length ([(1, 2), (2, 1), (0, 3), (3, 0)] : List (Int × Int))) ([(1, 2), (2, 1), (0, 3), (3, 0)] : List (Int × Int)) [], .row true cBool 4 A935 c936 r926.2.1, .row true (cInt .i64) 3 A938 c939 r926.2.2.1, .row true cNode 69 A941 c942 r926.2.2.2, .row true (cInt .i64) 3 A953 c954 r944.1, .row true cBool 4 A999 c1000 r956.2.1, .row true (cInt .i64) 3 A1002 c1003 r956.2.2.1, .row true cNode 69 A1005 c1006 r956.2.2.2, .row true cBool 4 none 0 [], .row true cBool 4 A1016 c1017 r976.1, .row true cBool 4 A1065 c1066 r1019.2.1, .row true (cInt .i64) 3 A1068 c1069 r1019.2.2.1, .row true cNode 69 A1071 c1072 r1019.2.2.2, .rowx true cBool 4 (some ⟨g1074, 0, none⟩) (List.length ([false, false, true] : List Bool)) ([false, false, true] : List Bool) [], .row true cBool 4 A1087 c1088 r1042.1] := H_; clear H_
              refine wpList_nil ?_
              refine th_n ⟨HS1056, ?_⟩
              refine drun (lp := [(9, .int .i64 r944.2), (11, .int .i64 r976.2), (12, .slice A1087 (List.length r1042.1) c1088), (13, .int .i64 r1042.2)]) tbok (by kernel_rfl) [6, 7, 8, 9, 10] [] [9, 11, 12, 13] (fun w_ => []) (fuel := 0) E (fun _ _ => by kernel_rfl) (fun w_ hS_ => trivial) (by kernel_rfl) HS1056 ?_
              clear E; intro a E
              refine dr_done (by kernel_rfl) ?_
              clear HS1056 HR1057
              refine th_n ?_
              refine wp_seq ?_
              refine wp_region_lit ?_
              obtain ⟨r1090, h1091, hP⟩ := bind_inv hP
              obtain ⟨Fa1092, Hc1093, hb1094⟩ := H.call [] [] rfl rfl trivial
              refine e_call E rfl rfl Try.func7 rfl rfl rfl (law23_awake_calls    Hc1093 h1091) ?_
              rintro v1095 w1096 a ⟨rfl, HR1097⟩ E_
              replace E := E_ _ rfl; clear E_
              obtain ⟨H_, hc1098⟩ := hb1094 _ _ HR1097 rfl
              replace H : Hp S Fa w0 w1096 [.rowx true cS28 29 (some ⟨g1, 0, none⟩) (List.length ([(1, 2), (2, 1), (0, 3), (3, 0)] : List (Int × Int))) ([(1, 2), (2, 1), (0, 3), (3, 0)] : List (Int × Int)) [], .row true cBool 4 A935 c936 r926.2.1, .row true (cInt .i64) 3 A938 c939 r926.2.2.1, .row true cNode 69 A941 c942 r926.2.2.2, .row true (cInt .i64) 3 A953 c954 r944.1, .row true cBool 4 A999 c1000 r956.2.1, .row true (cInt .i64) 3 A1002 c1003 r956.2.2.1, .row true cNode 69 A1005 c1006 r956.2.2.2, .row true cBool 4 none 0 [], .row true cBool 4 A1016 c1017 r976.1, .row true cBool 4 A1065 c1066 r1019.2.1, .row true (cInt .i64) 3 A1068 c1069 r1019.2.2.1, .row true cNode 69 A1071 c1072 r1019.2.2.2, .rowx true cBool 4 (some ⟨g1074, 0, none⟩) (List.length ([false, false, true] : List Bool)) ([false, false, true] : List Bool) [], .row true cBool 4 A1087 c1088 r1042.1] := H_; clear H_
              refine vrun (w := w1096) (lp := [(9, .int .i64 r944.2), (11, .int .i64 r976.2), (12, .slice A1087 (List.length r1042.1) c1088), (13, .int .i64 r1042.2), (90, .bool r1090)]) (φ := []) tbok 1 [] [9, 11, 12, 13, 90] E (by kernel_rfl) trivial ?_
              clear E; intro a E
              refine E.cases (t := 90) rfl (fun hb_ E_ => ?_) (fun hb_ E_ => ?_)
              · replace E := E_; clear E_
                have h1099 : r1090 = true := hb_
                clear hb_; replace hP := ite_t h1099 hP
                refine vrun (w := w1096) (lp := [(11, .int .i64 r976.2), (12, .slice A1087 (List.length r1042.1) c1088), (13, .int .i64 r1042.2), (94, .bool ((r944.2 : Int) == 13))]) (φ := []) tbok 4 [] [11, 12, 13, 94] E (by kernel_rfl) trivial ?_
                clear E; intro a E
                refine E.cases (t := 94) rfl (fun hb_ E_ => ?_) (fun hb_ E_ => ?_)
                · replace E := E_; clear E_
                  have h1100 : (r944.2 : Int) = 13 := eq_of_beq hb_
                  clear hb_; replace hP := ite_t h1100 hP
                  refine vrun (w := w1096) (lp := [(12, .slice A1087 (List.length r1042.1) c1088), (13, .int .i64 r1042.2), (98, .bool ((r976.2 : Int) == 2))]) (φ := []) tbok 4 [] [12, 13, 98] E (by kernel_rfl) trivial ?_
                  clear E; intro a E
                  refine E.cases (t := 98) rfl (fun hb_ E_ => ?_) (fun hb_ E_ => ?_)
                  · replace E := E_; clear E_
                    have h1101 : (r976.2 : Int) = 2 := eq_of_beq hb_
                    clear hb_; replace hP := ite_t h1101 hP
                    refine vrun (w := w1096) (lp := [(13, .int .i64 r1042.2), (98, .bool true), (99, .slice A1087 (List.length r1042.1) c1088)]) (φ := []) tbok 1 [] [13, 98, 99] E (by kernel_rfl) trivial ?_
                    clear E; intro a E
                    refine h_buildSlice (ps := [(0, .bool true), (1, .bool false), (2, .bool true)]) (cs := [.bool true, .bool false, .bool true]) H E rfl rfl tbok rfl rfl (by kernel_rfl) ?_
                    intro w1103 g1102 a hc1104 hg1106 H_ E_
                    replace E := E_ _ rfl; clear E_
                    replace H : Hp S Fa w0 w1103 [.rowx true cS28 29 (some ⟨g1, 0, none⟩) (List.length ([(1, 2), (2, 1), (0, 3), (3, 0)] : List (Int × Int))) ([(1, 2), (2, 1), (0, 3), (3, 0)] : List (Int × Int)) [], .row true cBool 4 A935 c936 r926.2.1, .row true (cInt .i64) 3 A938 c939 r926.2.2.1, .row true cNode 69 A941 c942 r926.2.2.2, .row true (cInt .i64) 3 A953 c954 r944.1, .row true cBool 4 A999 c1000 r956.2.1, .row true (cInt .i64) 3 A1002 c1003 r956.2.2.1, .row true cNode 69 A1005 c1006 r956.2.2.2, .row true cBool 4 none 0 [], .row true cBool 4 A1016 c1017 r976.1, .row true cBool 4 A1065 c1066 r1019.2.1, .row true (cInt .i64) 3 A1068 c1069 r1019.2.2.1, .row true cNode 69 A1071 c1072 r1019.2.2.2, .rowx true cBool 4 (some ⟨g1074, 0, none⟩) (List.length ([false, false, true] : List Bool)) ([false, false, true] : List Bool) [], .row true cBool 4 A1087 c1088 r1042.1, .box g1102 4 [.bool true, .bool false, .bool true]] := H_; clear H_
                    replace H : Hp S Fa w0 w1103 [.rowx true cS28 29 (some ⟨g1, 0, none⟩) (List.length ([(1, 2), (2, 1), (0, 3), (3, 0)] : List (Int × Int))) ([(1, 2), (2, 1), (0, 3), (3, 0)] : List (Int × Int)) [], .row true cBool 4 A935 c936 r926.2.1, .row true (cInt .i64) 3 A938 c939 r926.2.2.1, .row true cNode 69 A941 c942 r926.2.2.2, .row true (cInt .i64) 3 A953 c954 r944.1, .row true cBool 4 A999 c1000 r956.2.1, .row true (cInt .i64) 3 A1002 c1003 r956.2.2.1, .row true cNode 69 A1005 c1006 r956.2.2.2, .row true cBool 4 none 0 [], .row true cBool 4 A1016 c1017 r976.1, .row true cBool 4 A1065 c1066 r1019.2.1, .row true (cInt .i64) 3 A1068 c1069 r1019.2.2.1, .row true cNode 69 A1071 c1072 r1019.2.2.2, .rowx true cBool 4 (some ⟨g1074, 0, none⟩) (List.length ([false, false, true] : List Bool)) ([false, false, true] : List Bool) [], .row true cBool 4 A1087 c1088 r1042.1, .rowx true cBool 4 (some ⟨g1102, 0, none⟩) (List.length ([true, false, true] : List Bool)) ([true, false, true] : List Bool) []] := H.boxRow cBool true ([true, false, true] : List Bool) 15 rfl (fun _ _ => ⟨_, _, rfl, rfl, ⟨_, _, rfl, rfl, ⟨_, _, rfl, rfl, rfl⟩⟩⟩) (by decide)
                    obtain ⟨r1107, h1108, hP⟩ := bind_inv hP
                    obtain ⟨Fa1109, Hc1110, hb1111⟩ := H.call [] [(14, false), (15, false)] rfl rfl trivial
                    refine e_call E rfl rfl Try.func23 rfl rfl rfl (kit_SameBools_calls A1087 c1088 (some ⟨g1102, 0, none⟩) 3 r1042.1 ([true, false, true] : List Bool) (H.rcap 14 rfl) (H.rcapx 15 rfl) Hc1110 h1108) ?_
                    rintro v1112 w1113 a ⟨rfl, HR1114⟩ E_
                    replace E := E_ _ rfl; clear E_
                    obtain ⟨H_, hc1115⟩ := hb1111 _ _ HR1114 rfl
                    replace H : Hp S Fa w0 w1113 [.rowx true cS28 29 (some ⟨g1, 0, none⟩) (List.length ([(1, 2), (2, 1), (0, 3), (3, 0)] : List (Int × Int))) ([(1, 2), (2, 1), (0, 3), (3, 0)] : List (Int × Int)) [], .row true cBool 4 A935 c936 r926.2.1, .row true (cInt .i64) 3 A938 c939 r926.2.2.1, .row true cNode 69 A941 c942 r926.2.2.2, .row true (cInt .i64) 3 A953 c954 r944.1, .row true cBool 4 A999 c1000 r956.2.1, .row true (cInt .i64) 3 A1002 c1003 r956.2.2.1, .row true cNode 69 A1005 c1006 r956.2.2.2, .row true cBool 4 none 0 [], .row true cBool 4 A1016 c1017 r976.1, .row true cBool 4 A1065 c1066 r1019.2.1, .row true (cInt .i64) 3 A1068 c1069 r1019.2.2.1, .row true cNode 69 A1071 c1072 r1019.2.2.2, .rowx true cBool 4 (some ⟨g1074, 0, none⟩) (List.length ([false, false, true] : List Bool)) ([false, false, true] : List Bool) [], .row true cBool 4 A1087 c1088 r1042.1, .rowx true cBool 4 (some ⟨g1102, 0, none⟩) (List.length ([true, false, true] : List Bool)) ([true, false, true] : List Bool) []] := H_; clear H_
                    refine vrun (w := w1113) (lp := [(13, .int .i64 r1042.2), (103, .bool r1107)]) (φ := []) tbok 2 [] [13, 103] E (by kernel_rfl) trivial ?_
                    clear E; intro a E
                    refine E.cases (t := 103) rfl (fun hb_ E_ => ?_) (fun hb_ E_ => ?_)
                    · replace E := E_; clear E_
                      have h1116 : r1107 = true := hb_
                      clear hb_; replace hP := ite_t h1116 hP
                      refine vrun (w := w1113) (lp := [(0, .bool ((r1042.2 : Int) == 0))]) (φ := []) tbok 4 [] [0] E (by kernel_rfl) trivial ?_
                      clear E; intro a E
                      refine wpList_nil ?_
                      refine th_n ?_
                      refine wp_ret ?_
                      obtain rfl := Option.some.inj hP
                      refine ret1 E rfl rfl ?_
                      exact ⟨_, rfl, rfl, H.sel [] rfl⟩
                    · replace E := E_; clear E_
                      have h1117 : ¬ (r1107 = true) := (ne_true_of_eq_false hb_)
                      clear hb_; replace hP := ite_f h1117 hP
                      refine vrun (w := w1113) (lp := [(0, .bool false)]) (φ := []) tbok 4 [] [0] E (by kernel_rfl) trivial ?_
                      clear E; intro a E
                      refine wpList_nil ?_
                      refine th_n ?_
                      refine wp_ret ?_
                      obtain rfl := Option.some.inj hP
                      refine ret1 E rfl rfl ?_
                      exact ⟨_, rfl, rfl, H.sel [] rfl⟩
                  · replace E := E_; clear E_
                    have h1118 : ¬ ((r976.2 : Int) = 2) := ne_of_beq_false hb_
                    clear hb_; replace hP := ite_f h1118 hP
                    refine vrun (w := w1096) (lp := [(0, .bool false)]) (φ := []) tbok 9 [] [0] E (by kernel_rfl) trivial ?_
                    clear E; intro a E
                    refine wpList_nil ?_
                    refine th_n ?_
                    refine wp_ret ?_
                    obtain rfl := Option.some.inj hP
                    refine ret1 E rfl rfl ?_
                    exact ⟨_, rfl, rfl, H.sel [] rfl⟩
                · replace E := E_; clear E_
                  have h1119 : ¬ ((r944.2 : Int) = 13) := ne_of_beq_false hb_
                  clear hb_; replace hP := ite_f h1119 hP
                  refine vrun (w := w1096) (lp := [(0, .bool false)]) (φ := []) tbok 13 [] [0] E (by kernel_rfl) trivial ?_
                  clear E; intro a E
                  refine wpList_nil ?_
                  refine th_n ?_
                  refine wp_ret ?_
                  obtain rfl := Option.some.inj hP
                  refine ret1 E rfl rfl ?_
                  exact ⟨_, rfl, rfl, H.sel [] rfl⟩
              · replace E := E_; clear E_
                have h1120 : ¬ (r1090 = true) := (ne_true_of_eq_false hb_)
                clear hb_; replace hP := ite_f h1120 hP
                refine vrun (w := w1096) (lp := [(0, .bool false)]) (φ := []) tbok 17 [] [0] E (by kernel_rfl) trivial ?_
                clear E; intro a E
                refine wpList_nil ?_
                refine th_n ?_
                refine wp_ret ?_
                obtain rfl := Option.some.inj hP
                refine ret1 E rfl rfl ?_
                exact ⟨_, rfl, rfl, H.sel [] rfl⟩
        · refine wpOp_of_list rfl ?_
          refine h_buildSlice (ps := [(0, .bool false), (1, .bool false), (2, .bool true)]) (cs := [.bool false, .bool false, .bool true]) H E rfl rfl tbok rfl rfl (by kernel_rfl) ?_
          intro w1122 g1121 a hc1123 hg1125 H_ E_
          replace E := E_ _ rfl; clear E_
          have hin1126 : ∀ q_, q_ < w1013.heap.size → q_ = g1121 → (atL (pickE [.rowx true cS28 29 (some ⟨g1, 0, none⟩) (List.length ([(1, 2), (2, 1), (0, 3), (3, 0)] : List (Int × Int))) ([(1, 2), (2, 1), (0, 3), (3, 0)] : List (Int × Int)) [], .row true cBool 4 A935 c936 r926.2.1, .row true (cInt .i64) 3 A938 c939 r926.2.2.1, .row true cNode 69 A941 c942 r926.2.2.2, .row true (cInt .i64) 3 A953 c954 r944.1, .row true cBool 4 A999 c1000 r956.2.1, .row true (cInt .i64) 3 A1002 c1003 r956.2.2.1, .row true cNode 69 A1005 c1006 r956.2.2.2, .row true cBool 4 none 0 [], .row true cBool 4 A1016 c1017 r976.1] [])) q_ := fun q_ h1_ h2_ => by have hs_ := HS1056.size; have h4_ : q_ = g1121 := h2_; exfalso; omega
          replace HS1056 := HS1056.ext hc1123
          replace H : Hp S Fa w0 w1122 [.rowx true cS28 29 (some ⟨g1, 0, none⟩) (List.length ([(1, 2), (2, 1), (0, 3), (3, 0)] : List (Int × Int))) ([(1, 2), (2, 1), (0, 3), (3, 0)] : List (Int × Int)) [], .row true cBool 4 A935 c936 r926.2.1, .row true (cInt .i64) 3 A938 c939 r926.2.2.1, .row true cNode 69 A941 c942 r926.2.2.2, .row true (cInt .i64) 3 A953 c954 r944.1, .row true cBool 4 A999 c1000 r956.2.1, .row true (cInt .i64) 3 A1002 c1003 r956.2.2.1, .row true cNode 69 A1005 c1006 r956.2.2.2, .row true cBool 4 none 0 [], .row true cBool 4 A1016 c1017 r976.1, .box g1121 4 [.bool false, .bool false, .bool true]] := H_; clear H_
          refine wpList_nil ?_
          refine th_n ⟨HS1056, ?_⟩
          refine wpAnyH_all (rs := [0]) (by kernel_rfl) (by simp) ?_
          refine all1 ?_
          · refine wpOp_of_list rfl ?_
            obtain ⟨Fa1127, Hc1128, hb1129⟩ := H.call [] [] rfl rfl trivial
            refine e_call E rfl rfl Try.func26 rfl rfl rfl (law23_Until_calls    Hc1128 h1020) ?_
            rintro v1130 w1131 a ⟨A1134, c1135, A1137, c1138, A1140, c1141, rfl, HR1132⟩ E_
            replace E := E_ _ rfl; clear E_
            obtain ⟨H_, hc1133⟩ := hb1129 _ _ HR1132 rfl
            replace HS1056 := HS1056.ext (callS_ext hc1133)
            replace H : Hp S Fa w0 w1131 [.rowx true cS28 29 (some ⟨g1, 0, none⟩) (List.length ([(1, 2), (2, 1), (0, 3), (3, 0)] : List (Int × Int))) ([(1, 2), (2, 1), (0, 3), (3, 0)] : List (Int × Int)) [], .row true cBool 4 A935 c936 r926.2.1, .row true (cInt .i64) 3 A938 c939 r926.2.2.1, .row true cNode 69 A941 c942 r926.2.2.2, .row true (cInt .i64) 3 A953 c954 r944.1, .row true cBool 4 A999 c1000 r956.2.1, .row true (cInt .i64) 3 A1002 c1003 r956.2.2.1, .row true cNode 69 A1005 c1006 r956.2.2.2, .row true cBool 4 none 0 [], .row true cBool 4 A1016 c1017 r976.1, .box g1121 4 [.bool false, .bool false, .bool true], .row true cBool 4 A1134 c1135 r1019.2.1, .row true (cInt .i64) 3 A1137 c1138 r1019.2.2.1, .row true cNode 69 A1140 c1141 r1019.2.2.2] := H_; clear H_
            refine wpList_nil ?_
            refine th_n ⟨HS1056, ?_⟩
            refine wpAnyH_all (rs := [5]) (by kernel_rfl) (by simp) ?_
            refine all1 ?_
            · refine wpOp_of_list rfl ?_
              replace H : Hp S Fa w0 w1131 [.rowx true cS28 29 (some ⟨g1, 0, none⟩) (List.length ([(1, 2), (2, 1), (0, 3), (3, 0)] : List (Int × Int))) ([(1, 2), (2, 1), (0, 3), (3, 0)] : List (Int × Int)) [], .row true cBool 4 A935 c936 r926.2.1, .row true (cInt .i64) 3 A938 c939 r926.2.2.1, .row true cNode 69 A941 c942 r926.2.2.2, .row true (cInt .i64) 3 A953 c954 r944.1, .row true cBool 4 A999 c1000 r956.2.1, .row true (cInt .i64) 3 A1002 c1003 r956.2.2.1, .row true cNode 69 A1005 c1006 r956.2.2.2, .row true cBool 4 none 0 [], .row true cBool 4 A1016 c1017 r976.1, .rowx true cBool 4 (some ⟨g1121, 0, none⟩) (List.length ([false, false, true] : List Bool)) ([false, false, true] : List Bool) [], .row true cBool 4 A1134 c1135 r1019.2.1, .row true (cInt .i64) 3 A1137 c1138 r1019.2.2.1, .row true cNode 69 A1140 c1141 r1019.2.2.2] := H.boxRow cBool true ([false, false, true] : List Bool) 10 rfl (fun _ _ => ⟨_, _, rfl, rfl, ⟨_, _, rfl, rfl, ⟨_, _, rfl, rfl, rfl⟩⟩⟩) (by decide)
              obtain ⟨Fa1143, Hc1144, hb1145⟩ := H.call [] [(11, false), (12, false), (13, false), (10, false)] rfl rfl trivial
              refine e_call E rfl rfl Try.func20 rfl rfl rfl (attract_Step_calls A1134 c1135 A1137 c1138 A1140 c1141 (some ⟨g1121, 0, none⟩) 3 r1019.1 r1019.2.1 r1019.2.2.1 r1019.2.2.2 (List.getD ([(1, 2), (2, 1), (0, 3), (3, 0)] : List (Int × Int)) (Int.toNat (0 : Int)) (0, 0)) ([false, false, true] : List Bool) (H.rcap 11 rfl) (H.rcap 12 rfl) (H.rcap 13 rfl) (H.rcapx 10 rfl) Hc1144 h1043) ?_
              rintro v1146 w1147 a ⟨A1150, c1151, rfl, HR1148⟩ E_
              replace E := E_ _ rfl; clear E_
              obtain ⟨H_, hc1149⟩ := hb1145 _ _ HR1148 rfl
              replace HS1056 := HS1056.ext (callS_ext hc1149)
              replace H : Hp S Fa w0 w1147 [.rowx true cS28 29 (some ⟨g1, 0, none⟩) (List.length ([(1, 2), (2, 1), (0, 3), (3, 0)] : List (Int × Int))) ([(1, 2), (2, 1), (0, 3), (3, 0)] : List (Int × Int)) [], .row true cBool 4 A935 c936 r926.2.1, .row true (cInt .i64) 3 A938 c939 r926.2.2.1, .row true cNode 69 A941 c942 r926.2.2.2, .row true (cInt .i64) 3 A953 c954 r944.1, .row true cBool 4 A999 c1000 r956.2.1, .row true (cInt .i64) 3 A1002 c1003 r956.2.2.1, .row true cNode 69 A1005 c1006 r956.2.2.2, .row true cBool 4 none 0 [], .row true cBool 4 A1016 c1017 r976.1, .rowx true cBool 4 (some ⟨g1121, 0, none⟩) (List.length ([false, false, true] : List Bool)) ([false, false, true] : List Bool) [], .row true cBool 4 A1134 c1135 r1019.2.1, .row true (cInt .i64) 3 A1137 c1138 r1019.2.2.1, .row true cNode 69 A1140 c1141 r1019.2.2.2, .row true cBool 4 A1150 c1151 r1042.1] := H_; clear H_
              refine wpList_nil ?_
              refine th_n ⟨HS1056, ?_⟩
              refine drun (lp := [(9, .int .i64 r944.2), (11, .int .i64 r976.2), (12, .slice A1150 (List.length r1042.1) c1151), (13, .int .i64 r1042.2)]) tbok (by kernel_rfl) [6, 7, 8, 9, 10] [] [9, 11, 12, 13] (fun w_ => []) (fuel := 0) E (fun _ _ => by kernel_rfl) (fun w_ hS_ => trivial) (by kernel_rfl) HS1056 ?_
              clear E; intro a E
              refine dr_done (by kernel_rfl) ?_
              clear HS1056 HR1057
              refine th_n ?_
              refine wp_seq ?_
              refine wp_region_lit ?_
              obtain ⟨r1090, h1154, hP⟩ := bind_inv hP
              obtain ⟨Fa1155, Hc1156, hb1157⟩ := H.call [] [] rfl rfl trivial
              refine e_call E rfl rfl Try.func7 rfl rfl rfl (law23_awake_calls    Hc1156 h1154) ?_
              rintro v1158 w1159 a ⟨rfl, HR1160⟩ E_
              replace E := E_ _ rfl; clear E_
              obtain ⟨H_, hc1161⟩ := hb1157 _ _ HR1160 rfl
              replace H : Hp S Fa w0 w1159 [.rowx true cS28 29 (some ⟨g1, 0, none⟩) (List.length ([(1, 2), (2, 1), (0, 3), (3, 0)] : List (Int × Int))) ([(1, 2), (2, 1), (0, 3), (3, 0)] : List (Int × Int)) [], .row true cBool 4 A935 c936 r926.2.1, .row true (cInt .i64) 3 A938 c939 r926.2.2.1, .row true cNode 69 A941 c942 r926.2.2.2, .row true (cInt .i64) 3 A953 c954 r944.1, .row true cBool 4 A999 c1000 r956.2.1, .row true (cInt .i64) 3 A1002 c1003 r956.2.2.1, .row true cNode 69 A1005 c1006 r956.2.2.2, .row true cBool 4 none 0 [], .row true cBool 4 A1016 c1017 r976.1, .rowx true cBool 4 (some ⟨g1121, 0, none⟩) (List.length ([false, false, true] : List Bool)) ([false, false, true] : List Bool) [], .row true cBool 4 A1134 c1135 r1019.2.1, .row true (cInt .i64) 3 A1137 c1138 r1019.2.2.1, .row true cNode 69 A1140 c1141 r1019.2.2.2, .row true cBool 4 A1150 c1151 r1042.1] := H_; clear H_
              refine vrun (w := w1159) (lp := [(9, .int .i64 r944.2), (11, .int .i64 r976.2), (12, .slice A1150 (List.length r1042.1) c1151), (13, .int .i64 r1042.2), (90, .bool r1090)]) (φ := []) tbok 1 [] [9, 11, 12, 13, 90] E (by kernel_rfl) trivial ?_
              clear E; intro a E
              refine E.cases (t := 90) rfl (fun hb_ E_ => ?_) (fun hb_ E_ => ?_)
              · replace E := E_; clear E_
                have h1162 : r1090 = true := hb_
                clear hb_; replace hP := ite_t h1162 hP
                refine vrun (w := w1159) (lp := [(11, .int .i64 r976.2), (12, .slice A1150 (List.length r1042.1) c1151), (13, .int .i64 r1042.2), (94, .bool ((r944.2 : Int) == 13))]) (φ := []) tbok 4 [] [11, 12, 13, 94] E (by kernel_rfl) trivial ?_
                clear E; intro a E
                refine E.cases (t := 94) rfl (fun hb_ E_ => ?_) (fun hb_ E_ => ?_)
                · replace E := E_; clear E_
                  have h1163 : (r944.2 : Int) = 13 := eq_of_beq hb_
                  clear hb_; replace hP := ite_t h1163 hP
                  refine vrun (w := w1159) (lp := [(12, .slice A1150 (List.length r1042.1) c1151), (13, .int .i64 r1042.2), (98, .bool ((r976.2 : Int) == 2))]) (φ := []) tbok 4 [] [12, 13, 98] E (by kernel_rfl) trivial ?_
                  clear E; intro a E
                  refine E.cases (t := 98) rfl (fun hb_ E_ => ?_) (fun hb_ E_ => ?_)
                  · replace E := E_; clear E_
                    have h1164 : (r976.2 : Int) = 2 := eq_of_beq hb_
                    clear hb_; replace hP := ite_t h1164 hP
                    refine vrun (w := w1159) (lp := [(13, .int .i64 r1042.2), (98, .bool true), (99, .slice A1150 (List.length r1042.1) c1151)]) (φ := []) tbok 1 [] [13, 98, 99] E (by kernel_rfl) trivial ?_
                    clear E; intro a E
                    refine h_buildSlice (ps := [(0, .bool true), (1, .bool false), (2, .bool true)]) (cs := [.bool true, .bool false, .bool true]) H E rfl rfl tbok rfl rfl (by kernel_rfl) ?_
                    intro w1166 g1165 a hc1167 hg1169 H_ E_
                    replace E := E_ _ rfl; clear E_
                    replace H : Hp S Fa w0 w1166 [.rowx true cS28 29 (some ⟨g1, 0, none⟩) (List.length ([(1, 2), (2, 1), (0, 3), (3, 0)] : List (Int × Int))) ([(1, 2), (2, 1), (0, 3), (3, 0)] : List (Int × Int)) [], .row true cBool 4 A935 c936 r926.2.1, .row true (cInt .i64) 3 A938 c939 r926.2.2.1, .row true cNode 69 A941 c942 r926.2.2.2, .row true (cInt .i64) 3 A953 c954 r944.1, .row true cBool 4 A999 c1000 r956.2.1, .row true (cInt .i64) 3 A1002 c1003 r956.2.2.1, .row true cNode 69 A1005 c1006 r956.2.2.2, .row true cBool 4 none 0 [], .row true cBool 4 A1016 c1017 r976.1, .rowx true cBool 4 (some ⟨g1121, 0, none⟩) (List.length ([false, false, true] : List Bool)) ([false, false, true] : List Bool) [], .row true cBool 4 A1134 c1135 r1019.2.1, .row true (cInt .i64) 3 A1137 c1138 r1019.2.2.1, .row true cNode 69 A1140 c1141 r1019.2.2.2, .row true cBool 4 A1150 c1151 r1042.1, .box g1165 4 [.bool true, .bool false, .bool true]] := H_; clear H_
                    replace H : Hp S Fa w0 w1166 [.rowx true cS28 29 (some ⟨g1, 0, none⟩) (List.length ([(1, 2), (2, 1), (0, 3), (3, 0)] : List (Int × Int))) ([(1, 2), (2, 1), (0, 3), (3, 0)] : List (Int × Int)) [], .row true cBool 4 A935 c936 r926.2.1, .row true (cInt .i64) 3 A938 c939 r926.2.2.1, .row true cNode 69 A941 c942 r926.2.2.2, .row true (cInt .i64) 3 A953 c954 r944.1, .row true cBool 4 A999 c1000 r956.2.1, .row true (cInt .i64) 3 A1002 c1003 r956.2.2.1, .row true cNode 69 A1005 c1006 r956.2.2.2, .row true cBool 4 none 0 [], .row true cBool 4 A1016 c1017 r976.1, .rowx true cBool 4 (some ⟨g1121, 0, none⟩) (List.length ([false, false, true] : List Bool)) ([false, false, true] : List Bool) [], .row true cBool 4 A1134 c1135 r1019.2.1, .row true (cInt .i64) 3 A1137 c1138 r1019.2.2.1, .row true cNode 69 A1140 c1141 r1019.2.2.2, .row true cBool 4 A1150 c1151 r1042.1, .rowx true cBool 4 (some ⟨g1165, 0, none⟩) (List.length ([true, false, true] : List Bool)) ([true, false, true] : List Bool) []] := H.boxRow cBool true ([true, false, true] : List Bool) 15 rfl (fun _ _ => ⟨_, _, rfl, rfl, ⟨_, _, rfl, rfl, ⟨_, _, rfl, rfl, rfl⟩⟩⟩) (by decide)
                    obtain ⟨r1107, h1171, hP⟩ := bind_inv hP
                    obtain ⟨Fa1172, Hc1173, hb1174⟩ := H.call [] [(14, false), (15, false)] rfl rfl trivial
                    refine e_call E rfl rfl Try.func23 rfl rfl rfl (kit_SameBools_calls A1150 c1151 (some ⟨g1165, 0, none⟩) 3 r1042.1 ([true, false, true] : List Bool) (H.rcap 14 rfl) (H.rcapx 15 rfl) Hc1173 h1171) ?_
                    rintro v1175 w1176 a ⟨rfl, HR1177⟩ E_
                    replace E := E_ _ rfl; clear E_
                    obtain ⟨H_, hc1178⟩ := hb1174 _ _ HR1177 rfl
                    replace H : Hp S Fa w0 w1176 [.rowx true cS28 29 (some ⟨g1, 0, none⟩) (List.length ([(1, 2), (2, 1), (0, 3), (3, 0)] : List (Int × Int))) ([(1, 2), (2, 1), (0, 3), (3, 0)] : List (Int × Int)) [], .row true cBool 4 A935 c936 r926.2.1, .row true (cInt .i64) 3 A938 c939 r926.2.2.1, .row true cNode 69 A941 c942 r926.2.2.2, .row true (cInt .i64) 3 A953 c954 r944.1, .row true cBool 4 A999 c1000 r956.2.1, .row true (cInt .i64) 3 A1002 c1003 r956.2.2.1, .row true cNode 69 A1005 c1006 r956.2.2.2, .row true cBool 4 none 0 [], .row true cBool 4 A1016 c1017 r976.1, .rowx true cBool 4 (some ⟨g1121, 0, none⟩) (List.length ([false, false, true] : List Bool)) ([false, false, true] : List Bool) [], .row true cBool 4 A1134 c1135 r1019.2.1, .row true (cInt .i64) 3 A1137 c1138 r1019.2.2.1, .row true cNode 69 A1140 c1141 r1019.2.2.2, .row true cBool 4 A1150 c1151 r1042.1, .rowx true cBool 4 (some ⟨g1165, 0, none⟩) (List.length ([true, false, true] : List Bool)) ([true, false, true] : List Bool) []] := H_; clear H_
                    refine vrun (w := w1176) (lp := [(13, .int .i64 r1042.2), (103, .bool r1107)]) (φ := []) tbok 2 [] [13, 103] E (by kernel_rfl) trivial ?_
                    clear E; intro a E
                    refine E.cases (t := 103) rfl (fun hb_ E_ => ?_) (fun hb_ E_ => ?_)
                    · replace E := E_; clear E_
                      have h1179 : r1107 = true := hb_
                      clear hb_; replace hP := ite_t h1179 hP
                      refine vrun (w := w1176) (lp := [(0, .bool ((r1042.2 : Int) == 0))]) (φ := []) tbok 4 [] [0] E (by kernel_rfl) trivial ?_
                      clear E; intro a E
                      refine wpList_nil ?_
                      refine th_n ?_
                      refine wp_ret ?_
                      obtain rfl := Option.some.inj hP
                      refine ret1 E rfl rfl ?_
                      exact ⟨_, rfl, rfl, H.sel [] rfl⟩
                    · replace E := E_; clear E_
                      have h1180 : ¬ (r1107 = true) := (ne_true_of_eq_false hb_)
                      clear hb_; replace hP := ite_f h1180 hP
                      refine vrun (w := w1176) (lp := [(0, .bool false)]) (φ := []) tbok 4 [] [0] E (by kernel_rfl) trivial ?_
                      clear E; intro a E
                      refine wpList_nil ?_
                      refine th_n ?_
                      refine wp_ret ?_
                      obtain rfl := Option.some.inj hP
                      refine ret1 E rfl rfl ?_
                      exact ⟨_, rfl, rfl, H.sel [] rfl⟩
                  · replace E := E_; clear E_
                    have h1181 : ¬ ((r976.2 : Int) = 2) := ne_of_beq_false hb_
                    clear hb_; replace hP := ite_f h1181 hP
                    refine vrun (w := w1159) (lp := [(0, .bool false)]) (φ := []) tbok 9 [] [0] E (by kernel_rfl) trivial ?_
                    clear E; intro a E
                    refine wpList_nil ?_
                    refine th_n ?_
                    refine wp_ret ?_
                    obtain rfl := Option.some.inj hP
                    refine ret1 E rfl rfl ?_
                    exact ⟨_, rfl, rfl, H.sel [] rfl⟩
                · replace E := E_; clear E_
                  have h1182 : ¬ ((r944.2 : Int) = 13) := ne_of_beq_false hb_
                  clear hb_; replace hP := ite_f h1182 hP
                  refine vrun (w := w1159) (lp := [(0, .bool false)]) (φ := []) tbok 13 [] [0] E (by kernel_rfl) trivial ?_
                  clear E; intro a E
                  refine wpList_nil ?_
                  refine th_n ?_
                  refine wp_ret ?_
                  obtain rfl := Option.some.inj hP
                  refine ret1 E rfl rfl ?_
                  exact ⟨_, rfl, rfl, H.sel [] rfl⟩
              · replace E := E_; clear E_
                have h1183 : ¬ (r1090 = true) := (ne_true_of_eq_false hb_)
                clear hb_; replace hP := ite_f h1183 hP
                refine vrun (w := w1159) (lp := [(0, .bool false)]) (φ := []) tbok 17 [] [0] E (by kernel_rfl) trivial ?_
                clear E; intro a E
                refine wpList_nil ?_
                refine th_n ?_
                refine wp_ret ?_
                obtain rfl := Option.some.inj hP
                refine ret1 E rfl rfl ?_
                exact ⟨_, rfl, rfl, H.sel [] rfl⟩

end Go.V
