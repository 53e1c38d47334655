/- Plain functions, and the calls that give them. -/
import Derived.Test.YtokfobioklmiaaaA1
set_option linter.all false
set_option linter.unusedVariables false
set_option linter.unnecessarySimpa false
set_option linter.unusedSimpArgs false
namespace Go.V
open Go Go.Proofs
/-! rejoinder/board.Check -/
def board_Check (N : Nat) (aProps : Int) (aAccept : List Bool) (aGuard : List Int) (aNodes : List Nd) (s : Int × Int) : Option Int :=
  Option.bind (guard_Check N aProps aAccept aGuard aNodes) fun r23 =>
  if (r23 : Int) = 0 then
    ask (idx (0 : Int) (List.length aAccept)) <|
    if (List.getD aAccept (Int.toNat (0 : Int)) false) = true then
      some 12
    else
      if (andV .u8 s.1 s.2 : Int) = 0 then
        ask (in64 (orV .u8 s.1 s.2)) <|
        ask (0 ≤ aProps) <|
        ask (in64 ((shlV .i64 1 aProps) - 1)) <|
        if (orV .u8 s.1 s.2 : Int) = (shlV .i64 1 aProps) - 1 then
          some 0
        else
          some 13
      else
        some 13
  else
    some r23
set_option maxRecDepth 100000 in
theorem board_Check_calls {N : Nat} {S Fa : Nat → Prop} {w0 : World} {r : Int} (A1 : Option Addr) (c2 : Nat) (A5 : Option Addr) (c6 : Nat) (A9 : Option Addr) (c10 : Nat) (aProps : Int) (aAccept : List Bool) (aGuard : List Int) (aNodes : List Nd) (s : Int × Int) (hk3 : List.length aAccept ≤ c2) (hk7 : List.length aGuard ≤ c6) (hk11 : List.length aNodes ≤ c10) (H : Hp S Fa w0 w0 [.ro false cBool A1 aAccept, .ro false (cInt .i64) A5 aGuard, .ro false cNode A9 aNodes]) (hP : board_Check N aProps aAccept aGuard aNodes s = some r) :
    Calls Try.prog 9 #[.agg #[.int .i64 aProps, .slice A1 (List.length aAccept) c2, .slice A5 (List.length aGuard) c6, .slice A9 (List.length aNodes) c10], .agg #[.int .u8 s.1, .int .u8 s.2]] w0 fun e w' => ∃ v, e = .returned v ∧ v = .int .i64 r ∧ Hp S Fa w0 w' [] := by
  refine enterV (n := 34) Try.func9 rfl rfl rfl ?_
  intro a E
  replace E := E.pick [(0, .agg #[.int .i64 aProps, .slice A1 (List.length aAccept) c2, .slice A5 (List.length aGuard) c6, .slice A9 (List.length aNodes) c10]), (1, .agg #[.int .u8 s.1, .int .u8 s.2])] ⟨rfl, rfl, trivial⟩
  rw [board_Check] at hP
  refine wp_seq ?_
  refine wp_region_lit ?_
  refine h_box H E rfl rfl rfl ?_
  intro w14 g13 a hc15 hg17 H_ E_
  replace E := E_ _ rfl; clear E_
  replace H : Hp S Fa w0 w14 [.ro false cBool A1 aAccept, .ro false (cInt .i64) A5 aGuard, .ro false cNode A9 aNodes, .box g13 26 [.int .i64 aProps, .slice A1 (List.length aAccept) c2, .slice A5 (List.length aGuard) c6, .slice A9 (List.length aNodes) c10]] := H_; clear H_
  refine h_box H E rfl rfl rfl ?_
  intro w19 g18 a hc20 hg22 H_ E_
  replace E := E_ _ rfl; clear E_
  replace H : Hp S Fa w0 w19 [.ro false cBool A1 aAccept, .ro false (cInt .i64) A5 aGuard, .ro false cNode A9 aNodes, .box g13 26 [.int .i64 aProps, .slice A1 (List.length aAccept) c2, .slice A5 (List.length aGuard) c6, .slice A9 (List.length aNodes) c10], .box g18 29 [.int .u8 s.1, .int .u8 s.2]] := H_; clear H_
  refine vrun (w := w19) (lp := [(2, .pointer (some ⟨g13, 0, none⟩)), (3, .pointer (some ⟨g18, 0, none⟩))]) (φ := []) tbok 1 [] [2, 3] E (by kernel_rfl) trivial ?_
  clear E; intro a E
  refine wpList_nil ?_
  refine th_n ?_
  refine wp_seq ?_
  refine wp_seq ?_
  refine wp_region_lit ?_
  refine vrun (w := w19) (lp := [(2, .pointer (some ⟨g13, 0, none⟩)), (3, .pointer (some ⟨g18, 0, none⟩)), (6, .agg #[.int .i64 aProps, .slice A1 (List.length aAccept) c2, .slice A5 (List.length aGuard) c6, .slice A9 (List.length aNodes) c10])]) (φ := [cellsAt w19 g13 (0) [.int .i64 aProps, .slice A1 (List.length aAccept) c2, .slice A5 (List.length aGuard) c6, .slice A9 (List.length aNodes) c10]]) tbok 1 [.agg #[.int .i64 aProps, .slice A1 (List.length aAccept) c2, .slice A5 (List.length aGuard) c6, .slice A9 (List.length aNodes) c10]] [2, 3, 6] E (by kernel_rfl) ((H.box 3 rfl).sub 0 _ rfl) ?_
  clear E; intro a E
  obtain ⟨r23, h24, hP⟩ := bind_inv hP
  obtain ⟨Fa25, Hc26, hb27⟩ := H.call [] [(0, false), (1, false), (2, false)] rfl rfl trivial
  refine e_call E rfl rfl Try.func27 rfl rfl rfl (guard_Check_calls A1 c2 A5 c6 A9 c10 aProps aAccept aGuard aNodes hk3 hk7 hk11 Hc26 h24) ?_
  rintro v28 w29 a ⟨rfl, HR30⟩ E_
  replace E := E_ _ rfl; clear E_
  obtain ⟨H_, hc31⟩ := hb27 _ _ HR30 rfl
  replace H : Hp S Fa w0 w29 [.ro false cBool A1 aAccept, .ro false (cInt .i64) A5 aGuard, .ro false cNode A9 aNodes, .box g13 26 [.int .i64 aProps, .slice A1 (List.length aAccept) c2, .slice A5 (List.length aGuard) c6, .slice A9 (List.length aNodes) c10], .box g18 29 [.int .u8 s.1, .int .u8 s.2]] := H_; clear H_
  refine vrun (w := w29) (lp := [(2, .pointer (some ⟨g13, 0, none⟩)), (3, .pointer (some ⟨g18, 0, none⟩)), (5, .int .i64 r23)]) (φ := []) tbok 1 [] [2, 3, 5] E (by kernel_rfl) trivial ?_
  clear E; intro a E
  refine wpList_nil ?_
  refine th_n ?_
  refine wp_seq ?_
  refine wp_region_lit ?_
  refine vrun (w := w29) (lp := [(2, .pointer (some ⟨g13, 0, none⟩)), (3, .pointer (some ⟨g18, 0, none⟩)), (5, .int .i64 r23), (9, .bool ((r23 : Int) != 0))]) (φ := []) tbok 2 [] [2, 3, 5, 9] E (by kernel_rfl) trivial ?_
  clear E; intro a E
  refine wpList_nil ?_
  refine th_n ?_
  refine E.cases (t := 9) rfl (fun hb_ E_ => ?_) (fun hb_ E_ => ?_)
  · replace E := E_; clear E_
    have h32 : ¬ ((r23 : Int) = 0) := bne_iff_ne.1 hb_
    clear hb_; replace hP := ite_f h32 hP
    refine c_true E rfl ?_
    refine wp_seq ?_
    refine wp_region_lit ?_
    refine vrun (w := w29) (lp := [(4, .int .i64 r23)]) (φ := []) tbok 2 [] [4] E (by kernel_rfl) trivial ?_
    clear E; intro a E
    refine wpList_nil ?_
    refine th_n ?_
    refine wp_ret ?_
    refine th_ret ?_
    obtain rfl := Option.some.inj hP
    refine ret1 E rfl rfl ?_
    exact ⟨_, rfl, rfl, H.sel [] rfl⟩
  · replace E := E_; clear E_
    have h33 : (r23 : Int) = 0 := bne_eq_false_iff_eq.1 hb_
    clear hb_; replace hP := ite_t h33 hP
    refine c_false E rfl ?_
    refine wp_skip ?_
    refine th_n ?_
    refine wp_seq ?_
    refine wp_seq ?_
    refine wp_region_lit ?_
    obtain ⟨g34, hP⟩ := ask_inv hP
    obtain ⟨b35, o36, e_b35⟩ := (H.rd 0 rds_ro).addr (idx_pos g34)
    subst e_b35
    refine vrun (w := w29) (lp := [(2, .pointer (some ⟨g13, 0, none⟩)), (3, .pointer (some ⟨g18, 0, none⟩)), (14, .bool (List.getD aAccept (Int.toNat (0 : Int)) false))]) (φ := [World.cell? w29 ⟨g13, 1, none⟩ = some (.slice (some ⟨b35, o36, none⟩) (List.length aAccept) c2), 0 ≤ (0 : Int) ∧ (0 : Int) < (((List.length aAccept) : Nat) : Int), World.cell? w29 ⟨b35, o36 + (Int.toNat (0 : Int)) * 1, none⟩ = some (.bool (List.getD aAccept (Int.toNat (0 : Int)) false))]) tbok 4 [.slice (some ⟨b35, o36, none⟩) (List.length aAccept) c2, .bool (List.getD aAccept (Int.toNat (0 : Int)) false)] [2, 3, 14] E (by kernel_rfl) ⟨(H.box 3 rfl).cell (j := 1) rfl, g34, Rds.at1 (H.rd 0 rds_ro) false g34⟩ ?_
    clear E; intro a E
    refine wpList_nil ?_
    refine th_n ?_
    refine E.cases (t := 14) rfl (fun hb_ E_ => ?_) (fun hb_ E_ => ?_)
    · replace E := E_; clear E_
      have h37 : (List.getD aAccept (Int.toNat (0 : Int)) false) = true := hb_
      clear hb_; replace hP := ite_t h37 hP
      refine c_true E rfl ?_
      refine wp_seq ?_
      refine wp_region_lit ?_
      refine vrun (w := w29) (lp := [(4, .int .i64 12)]) (φ := []) tbok 1 [] [4] E (by kernel_rfl) trivial ?_
      clear E; intro a E
      refine wpList_nil ?_
      refine th_n ?_
      refine wp_ret ?_
      refine th_ret ?_
      obtain rfl := Option.some.inj hP
      refine ret1 E rfl rfl ?_
      exact ⟨_, rfl, rfl, H.sel [] rfl⟩
    · replace E := E_; clear E_
      have h38 : ¬ ((List.getD aAccept (Int.toNat (0 : Int)) false) = true) := (ne_true_of_eq_false hb_)
      clear hb_; replace hP := ite_f h38 hP
      refine c_false E rfl ?_
      refine wp_skip ?_
      refine th_n ?_
      refine wp_seq ?_
      refine wp_seq ?_
      by_cases h39 : (andV .u8 s.1 s.2 : Int) = 0
      · replace hP := ite_t h39 hP
        obtain ⟨g40, hP⟩ := ask_inv hP
        obtain ⟨g41, hP⟩ := ask_inv hP
        obtain ⟨g42, hP⟩ := ask_inv hP
        have HR46 := H
        refine dr_start (S := fun w_ => Chg (atL (pickE [.ro false cBool (some ⟨b35, o36, none⟩) aAccept, .ro false (cInt .i64) A5 aGuard, .ro false cNode A9 aNodes, .box g13 26 [.int .i64 aProps, .slice (some ⟨b35, o36, none⟩) (List.length aAccept) c2, .slice A5 (List.length aGuard) c6, .slice A9 (List.length aNodes) c10], .box g18 29 [.int .u8 s.1, .int .u8 s.2]] [])) w29 w_) (by kernel_rfl) ?_
        intro w43 hc44
        have HS45 : Chg (atL (pickE [.ro false cBool (some ⟨b35, o36, none⟩) aAccept, .ro false (cInt .i64) A5 aGuard, .ro false cNode A9 aNodes, .box g13 26 [.int .i64 aProps, .slice (some ⟨b35, o36, none⟩) (List.length aAccept) c2, .slice A5 (List.length aGuard) c6, .slice A9 (List.length aNodes) c10], .box g18 29 [.int .u8 s.1, .int .u8 s.2]] [])) w29 w43 := hc44.mono (fun _ _ h_ => h_.elim)
        replace H : Hp S Fa w0 w43 [.ro false cBool (some ⟨b35, o36, none⟩) aAccept, .ro false (cInt .i64) A5 aGuard, .ro false cNode A9 aNodes, .box g13 26 [.int .i64 aProps, .slice (some ⟨b35, o36, none⟩) (List.length aAccept) c2, .slice A5 (List.length aGuard) c6, .slice A9 (List.length aNodes) c10], .box g18 29 [.int .u8 s.1, .int .u8 s.2]] := H.ext hc44
        refine drun (lp := [(2, .pointer (some ⟨g13, 0, none⟩)), (3, .pointer (some ⟨g18, 0, none⟩)), (21, .bool ((andV .u8 s.1 s.2 : Int) != 0))]) tbok (by kernel_rfl) [0, 1, 2, 3, 4, 5, 6] [.int .u8 s.1, .int .u8 s.2, .int .u8 (andV .u8 s.1 s.2)] [2, 3, 21] (fun w_ => [World.cell? w_ ⟨g18, 0, none⟩ = some (.int .u8 s.1), World.cell? w_ ⟨g18, 1, none⟩ = some (.int .u8 s.2), IntKind.u8.wrap (BitVec.ofInt (IntKind.bits .u8) s.1 &&& BitVec.ofInt (IntKind.bits .u8) s.2).toNat = andV .u8 s.1 s.2]) (fuel := 12) E (fun _ _ => by kernel_rfl) (fun w_ hS_ => ⟨(HR46.boxk [] hS_ 4 rfl rfl).cell (j := 0) rfl, (HR46.boxk [] hS_ 4 rfl rfl).cell (j := 1) rfl, rfl⟩) (by kernel_rfl) HS45 ?_
        clear E; intro a E
        replace E := E.same (t := 21) (u := .bool false) rfl (congrArg Value.bool (bne_eq_false_iff_eq.2 h39))
        refine drun (lp := [(21, .bool false), (33, .bool ((orV .u8 s.1 s.2 : Int) != ((shlV .i64 1 aProps) - 1)))]) tbok (by kernel_rfl) [7, 8, 9, 10, 11, 12, 13, 14, 15, 16, 17, 18] [.int .u8 s.1, .int .u8 s.2, .int .u8 (orV .u8 s.1 s.2), .int .i64 (orV .u8 s.1 s.2), .int .i64 aProps, .int .i64 (shlV .i64 1 aProps), .int .i64 ((shlV .i64 1 aProps) - 1)] [21, 33] (fun w_ => [World.cell? w_ ⟨g18, 0, none⟩ = some (.int .u8 s.1), World.cell? w_ ⟨g18, 1, none⟩ = some (.int .u8 s.2), IntKind.u8.wrap (BitVec.ofInt (IntKind.bits .u8) s.1 ||| BitVec.ofInt (IntKind.bits .u8) s.2).toNat = orV .u8 s.1 s.2, IntKind.i64.wrap (orV .u8 s.1 s.2) = (orV .u8 s.1 s.2), World.cell? w_ ⟨g13, 0, none⟩ = some (.int .i64 aProps), 0 ≤ aProps ∧ IntKind.i64.wrap (1 * 2 ^ (min (Int.toNat aProps) (IntKind.bits .i64))) = shlV .i64 1 aProps, IntKind.i64.wrap ((shlV .i64 1 aProps) - 1) = (shlV .i64 1 aProps) - 1]) (fuel := 0) E (fun _ _ => by kernel_rfl) (fun w_ hS_ => ⟨(HR46.boxk [] hS_ 4 rfl rfl).cell (j := 0) rfl, (HR46.boxk [] hS_ 4 rfl rfl).cell (j := 1) rfl, rfl, wrap_in g40, (HR46.boxk [] hS_ 3 rfl rfl).cell (j := 0) rfl, ⟨g41, rfl⟩, wrap_in g42⟩) (by kernel_rfl) HS45 ?_
        clear E; intro a E
        refine dr_done (by kernel_rfl) ?_
        clear HS45 HR46
        refine th_n ?_
        refine E.cases (t := 33) rfl (fun hb_ E_ => ?_) (fun hb_ E_ => ?_)
        · replace E := E_; clear E_
          have h47 : ¬ ((orV .u8 s.1 s.2 : Int) = (shlV .i64 1 aProps) - 1) := bne_iff_ne.1 hb_
          clear hb_; replace hP := ite_f h47 hP
          refine c_true E rfl ?_
          refine wp_seq ?_
          refine wp_region_lit ?_
          refine vrun (w := w43) (lp := [(4, .int .i64 13)]) (φ := []) tbok 1 [] [4] E (by kernel_rfl) trivial ?_
          clear E; intro a E
          refine wpList_nil ?_
          refine th_n ?_
          refine wp_ret ?_
          refine th_ret ?_
          obtain rfl := Option.some.inj hP
          refine ret1 E rfl rfl ?_
          exact ⟨_, rfl, rfl, H.sel [] rfl⟩
        · replace E := E_; clear E_
          have h48 : (orV .u8 s.1 s.2 : Int) = (shlV .i64 1 aProps) - 1 := bne_eq_false_iff_eq.1 hb_
          clear hb_; replace hP := ite_t h48 hP
          refine c_false E rfl ?_
          refine wp_skip ?_
          refine th_n ?_
          refine wp_seq ?_
          refine wp_region_lit ?_
          refine vrun (w := w43) (lp := [(4, .int .i64 0)]) (φ := []) tbok 1 [] [4] E (by kernel_rfl) trivial ?_
          clear E; intro a E
          refine wpList_nil ?_
          refine th_n ?_
          refine wp_ret ?_
          obtain rfl := Option.some.inj hP
          refine ret1 E rfl rfl ?_
          exact ⟨_, rfl, rfl, H.sel [] rfl⟩
      · replace hP := ite_f h39 hP
        have HR52 := H
        refine dr_start (S := fun w_ => Chg (atL (pickE [.ro false cBool (some ⟨b35, o36, none⟩) aAccept, .ro false (cInt .i64) A5 aGuard, .ro false cNode A9 aNodes, .box g13 26 [.int .i64 aProps, .slice (some ⟨b35, o36, none⟩) (List.length aAccept) c2, .slice A5 (List.length aGuard) c6, .slice A9 (List.length aNodes) c10], .box g18 29 [.int .u8 s.1, .int .u8 s.2]] [])) w29 w_) (by kernel_rfl) ?_
        intro w49 hc50
        have HS51 : Chg (atL (pickE [.ro false cBool (some ⟨b35, o36, none⟩) aAccept, .ro false (cInt .i64) A5 aGuard, .ro false cNode A9 aNodes, .box g13 26 [.int .i64 aProps, .slice (some ⟨b35, o36, none⟩) (List.length aAccept) c2, .slice A5 (List.length aGuard) c6, .slice A9 (List.length aNodes) c10], .box g18 29 [.int .u8 s.1, .int .u8 s.2]] [])) w29 w49 := hc50.mono (fun _ _ h_ => h_.elim)
        replace H : Hp S Fa w0 w49 [.ro false cBool (some ⟨b35, o36, none⟩) aAccept, .ro false (cInt .i64) A5 aGuard, .ro false cNode A9 aNodes, .box g13 26 [.int .i64 aProps, .slice (some ⟨b35, o36, none⟩) (List.length aAccept) c2, .slice A5 (List.length aGuard) c6, .slice A9 (List.length aNodes) c10], .box g18 29 [.int .u8 s.1, .int .u8 s.2]] := H.ext hc50
        refine drun (lp := [(2, .pointer (some ⟨g13, 0, none⟩)), (3, .pointer (some ⟨g18, 0, none⟩)), (21, .bool ((andV .u8 s.1 s.2 : Int) != 0))]) tbok (by kernel_rfl) [0, 1, 2, 3, 4, 5, 6] [.int .u8 s.1, .int .u8 s.2, .int .u8 (andV .u8 s.1 s.2)] [2, 3, 21] (fun w_ => [World.cell? w_ ⟨g18, 0, none⟩ = some (.int .u8 s.1), World.cell? w_ ⟨g18, 1, none⟩ = some (.int .u8 s.2), IntKind.u8.wrap (BitVec.ofInt (IntKind.bits .u8) s.1 &&& BitVec.ofInt (IntKind.bits .u8) s.2).toNat = andV .u8 s.1 s.2]) (fuel := 12) E (fun _ _ => by kernel_rfl) (fun w_ hS_ => ⟨(HR52.boxk [] hS_ 4 rfl rfl).cell (j := 0) rfl, (HR52.boxk [] hS_ 4 rfl rfl).cell (j := 1) rfl, rfl⟩) (by kernel_rfl) HS51 ?_
        clear E; intro a E
        replace E := E.same (t := 21) (u := .bool true) rfl (congrArg Value.bool (bne_iff_ne.2 h39))
        refine drun (lp := [(21, .bool true), (33, .bool true)]) tbok (by kernel_rfl) [7, 8, 9, 10, 11, 12, 13, 14, 15, 16, 17, 18] [] [21, 33] (fun w_ => []) (fuel := 0) E (fun _ _ => by kernel_rfl) (fun w_ hS_ => trivial) (by kernel_rfl) HS51 ?_
        clear E; intro a E
        refine dr_done (by kernel_rfl) ?_
        clear HS51 HR52
        refine th_n ?_
        refine c_true E rfl ?_
        refine wp_seq ?_
        refine wp_region_lit ?_
        refine vrun (w := w49) (lp := [(4, .int .i64 13)]) (φ := []) tbok 1 [] [4] E (by kernel_rfl) trivial ?_
        clear E; intro a E
        refine wpList_nil ?_
        refine th_n ?_
        refine wp_ret ?_
        refine th_ret ?_
        obtain rfl := Option.some.inj hP
        refine ret1 E rfl rfl ?_
        exact ⟨_, rfl, rfl, H.sel [] rfl⟩

/-! slices.Reverse[[]rejoinder/api.Letter,rejoinder/api.Letter] -/
def slices_Reverse_api_Letter_api_Letter_l0 (N : Nat) : Nat → (List Int) → Int → Int → Option (List Int)
  | 0, _, _, _ => none
  | m140 + 1, s64, i68, j69 =>
    if i68 < j69 then
      ask (idx j69 (List.length s64)) <|
      ask (idx i68 (List.length s64)) <|
      ask (idx j69 (List.length (List.set s64 (Int.toNat i68) (List.getD s64 (Int.toNat j69) 0)))) <|
      ask (in64 (i68 + 1)) <|
      ask (in64 (j69 - 1)) <|
      slices_Reverse_api_Letter_api_Letter_l0 N m140 (List.set (List.set s64 (Int.toNat i68) (List.getD s64 (Int.toNat j69) 0)) (Int.toNat j69) (List.getD s64 (Int.toNat i68) 0)) (i68 + 1) (j69 - 1)
    else
      some s64
def slices_Reverse_api_Letter_api_Letter (N : Nat) (s : List Int) : Option (List Int) :=
  ask (in64 ((((List.length s) : Nat) : Int) - 1)) <|
  Option.bind (slices_Reverse_api_Letter_api_Letter_l0 N N s 0 ((((List.length s) : Nat) : Int) - 1)) fun x141 =>
  some x141
set_option maxRecDepth 100000 in
theorem slices_Reverse_api_Letter_api_Letter_calls {N : Nat} {S Fa : Nat → Prop} {w0 : World} {r : List Int} (A1 : Option Addr) (c2 : Nat) (s : List Int) (H : Hp S Fa w0 w0 [.row true (cInt .u8) 27 A1 c2 s]) (hP : slices_Reverse_api_Letter_api_Letter N s = some r) :
    Calls Try.prog 43 #[.slice A1 (List.length s) c2] w0 fun e w' => ∃ v, e = .returned v ∧ v = .tuple #[] ∧ List.length r = List.length s ∧ Hp S Fa w0 w' [.row true (cInt .u8) 27 A1 c2 r] := by
  refine enterV (n := 28) Try.func43 rfl rfl rfl ?_
  intro a E
  replace E := E.pick [(0, .slice A1 (List.length s) c2)] ⟨rfl, trivial⟩
  rw [slices_Reverse_api_Letter_api_Letter] at hP
  refine wp_seq ?_
  refine wp_region_lit ?_
  obtain ⟨g4, hP⟩ := ask_inv hP
  refine vrun (w := w0) (lp := [(0, .slice A1 (List.length s) c2), (2, .int .i64 0), (3, .int .i64 ((((List.length s) : Nat) : Int) - 1))]) (φ := [IntKind.i64.wrap ((((List.length s) : Nat) : Int) - 1) = (((List.length s) : Nat) : Int) - 1]) tbok 5 [.int .i64 ((((List.length s) : Nat) : Int) - 1)] [0, 2, 3] E (by kernel_rfl) (wrap_in g4) ?_
  clear E; intro a E
  refine wpList_nil ?_
  refine th_n ?_
  refine wp_block ?_
  obtain ⟨x141, hL142, hK143⟩ := bind_inv hP
  clear hP
  refine loop_cut (fun i_ a w_ => (i_ = 0 ∧ ∃ (x146 : List Int), Fr a 28 [] ∧ Hp S Fa w0 w_ [.row true (cInt .u8) 27 A1 c2 x146] ∧ List.length x146 = List.length s ∧ x141 = x146)) ?_ ?_
  · skip
    refine loopV (fun m145 a w144 => ∃ (s64 : List Int) (i68 : Int) (j69 : Int), Fr a 28 [(0, .slice A1 (List.length s64) c2), (2, .int .i64 i68), (3, .int .i64 j69)] ∧ Hp S Fa w0 w144 [.row true (cInt .u8) 27 A1 c2 s64] ∧ List.length s64 = List.length s ∧ slices_Reverse_api_Letter_api_Letter_l0 N m145 s64 i68 j69 = some x141) N ?_ ?_
    · exact ⟨s, 0, (((List.length s) : Nat) : Int) - 1, E.pick _ ⟨rfl, rfl, rfl, trivial⟩, H.sel [0] rfl, rfl, hL142⟩
    · clear E H hL142; intro m145 a w144 hI_
      obtain ⟨s64, i68, j69, E, H, hl67, hP⟩ := hI_
      obtain ⟨m140, rfl⟩ : ∃ q_, m145 = q_ + 1 := by cases m145 with | zero => rw [slices_Reverse_api_Letter_api_Letter_l0] at hP; cases hP | succ q_ => exact ⟨q_, rfl⟩
      rw [slices_Reverse_api_Letter_api_Letter_l0] at hP
      refine wp_seq ?_
      refine wp_seq ?_
      refine wp_region_lit ?_
      refine vrun (w := w144) (lp := [(0, .slice A1 (List.length s64) c2), (2, .int .i64 i68), (3, .int .i64 j69), (9, .bool (decide (i68 < j69)))]) (φ := []) tbok 3 [] [0, 2, 3, 9] E (by kernel_rfl) trivial ?_
      clear E; intro a E
      refine wpList_nil ?_
      refine th_n ?_
      refine E.cases (t := 9) rfl (fun hb_ E_ => ?_) (fun hb_ E_ => ?_)
      · replace E := E_; clear E_
        have h147 : i68 < j69 := of_decide_eq_true hb_
        clear hb_; replace hP := ite_t h147 hP
        refine c_true E rfl ?_
        refine wp_skip ?_
        refine th_n ?_
        refine wp_seq ?_
        refine wp_block ?_
        obtain ⟨g148, hP⟩ := ask_inv hP
        obtain ⟨b149, e_b149⟩ := H.raddr 0 rfl (idx_pos g148)
        subst e_b149
        obtain ⟨g151, hP⟩ := ask_inv hP
        obtain ⟨g155, hP⟩ := ask_inv hP
        have HR162 := H
        refine dr_start (S := fun w_ => Chg (atL (pickE [.row true (cInt .u8) 27 (some ⟨b149, 0, none⟩) c2 s64] [0])) w144 w_) (by kernel_rfl) ?_
        intro w159 hc160
        have HS161 : Chg (atL (pickE [.row true (cInt .u8) 27 (some ⟨b149, 0, none⟩) c2 s64] [0])) w144 w159 := hc160.mono (fun _ _ h_ => h_.elim)
        replace H : Hp S Fa w0 w159 [.row true (cInt .u8) 27 (some ⟨b149, 0, none⟩) c2 s64] := H.ext hc160
        refine drun (lp := [(0, .slice (some ⟨b149, 0, none⟩) (List.length s64) c2), (2, .int .i64 i68), (3, .int .i64 j69), (14, .slice (some ⟨b149, 0, none⟩) (List.length s64) c2), (15, .int .i64 i68), (16, .slice (some ⟨b149, 0, none⟩) (List.length s64) c2), (17, .int .i64 j69), (18, .slice (some ⟨b149, 0, none⟩) (List.length s64) c2), (19, .int .i64 j69), (22, .slice (some ⟨b149, 0, none⟩) (List.length s64) c2), (23, .int .i64 i68)]) tbok (by kernel_rfl) [0, 1, 2, 3, 4, 5, 8, 9] [] [0, 2, 3, 14, 15, 16, 17, 18, 19, 22, 23] (fun w_ => []) (fuel := 8) E (fun _ _ => by kernel_rfl) (fun w_ hS_ => trivial) (by kernel_rfl) HS161 ?_
        clear E; intro a E
        refine wpAnyH_all (rs := [6, 10]) (by kernel_rfl) (by simp) ?_
        refine all2 ?_ ?_
        · refine wpOp_of_list rfl ?_
          refine vrun (w := w159) (lp := [(0, .slice (some ⟨b149, 0, none⟩) (List.length s64) c2), (2, .int .i64 i68), (3, .int .i64 j69), (14, .slice (some ⟨b149, 0, none⟩) (List.length s64) c2), (15, .int .i64 i68), (16, .slice (some ⟨b149, 0, none⟩) (List.length s64) c2), (17, .int .i64 j69), (18, .slice (some ⟨b149, 0, none⟩) (List.length s64) c2), (19, .int .i64 j69), (20, .pointer (some ⟨b149, 0 + (Int.toNat j69) * 1, none⟩)), (22, .slice (some ⟨b149, 0, none⟩) (List.length s64) c2), (23, .int .i64 i68)]) (φ := [0 ≤ j69 ∧ j69 < (((List.length s64) : Nat) : Int)]) tbok 1 [] [0, 2, 3, 14, 15, 16, 17, 18, 19, 20, 22, 23] E (by kernel_rfl) (g148) ?_
          clear E; intro a E
          refine wpList_nil ?_
          refine th_n ⟨HS161, ?_⟩
          refine wpAnyH_all (rs := [7, 10]) (by kernel_rfl) (by simp) ?_
          refine all2 ?_ ?_
          · refine wpOp_of_list rfl ?_
            refine vrun (w := w159) (lp := [(0, .slice (some ⟨b149, 0, none⟩) (List.length s64) c2), (2, .int .i64 i68), (3, .int .i64 j69), (14, .slice (some ⟨b149, 0, none⟩) (List.length s64) c2), (15, .int .i64 i68), (16, .slice (some ⟨b149, 0, none⟩) (List.length s64) c2), (17, .int .i64 j69), (20, .pointer (some ⟨b149, 0 + (Int.toNat j69) * 1, none⟩)), (21, .int .u8 (List.getD s64 (Int.toNat j69) 0)), (22, .slice (some ⟨b149, 0, none⟩) (List.length s64) c2), (23, .int .i64 i68)]) (φ := [World.cell? w159 ⟨b149, 0 + (Int.toNat j69) * 1, none⟩ = some (.int .u8 (List.getD s64 (Int.toNat j69) 0))]) tbok 1 [.int .u8 (List.getD s64 (Int.toNat j69) 0)] [0, 2, 3, 14, 15, 16, 17, 20, 21, 22, 23] E (by kernel_rfl) (Rds.at1 (H.rd 0 rds_row) 0 g148) ?_
            clear E; intro a E
            refine wpList_nil ?_
            refine th_n ⟨HS161, ?_⟩
            refine wpAnyH_all (rs := [10]) (by kernel_rfl) (by simp) ?_
            refine all1 ?_
            · refine wpOp_of_list rfl ?_
              refine vrun (w := w159) (lp := [(0, .slice (some ⟨b149, 0, none⟩) (List.length s64) c2), (2, .int .i64 i68), (3, .int .i64 j69), (14, .slice (some ⟨b149, 0, none⟩) (List.length s64) c2), (15, .int .i64 i68), (16, .slice (some ⟨b149, 0, none⟩) (List.length s64) c2), (17, .int .i64 j69), (21, .int .u8 (List.getD s64 (Int.toNat j69) 0)), (22, .slice (some ⟨b149, 0, none⟩) (List.length s64) c2), (23, .int .i64 i68), (24, .pointer (some ⟨b149, 0 + (Int.toNat i68) * 1, none⟩))]) (φ := [0 ≤ i68 ∧ i68 < (((List.length s64) : Nat) : Int)]) tbok 1 [] [0, 2, 3, 14, 15, 16, 17, 21, 22, 23, 24] E (by kernel_rfl) (g151) ?_
              clear E; intro a E
              refine wpList_nil ?_
              refine th_n ⟨HS161, ?_⟩
              refine wpAnyH_all (rs := [11]) (by kernel_rfl) (by simp) ?_
              refine all1 ?_
              · refine wpOp_of_list rfl ?_
                refine vrun (w := w159) (lp := [(0, .slice (some ⟨b149, 0, none⟩) (List.length s64) c2), (2, .int .i64 i68), (3, .int .i64 j69), (14, .slice (some ⟨b149, 0, none⟩) (List.length s64) c2), (15, .int .i64 i68), (16, .slice (some ⟨b149, 0, none⟩) (List.length s64) c2), (17, .int .i64 j69), (21, .int .u8 (List.getD s64 (Int.toNat j69) 0)), (24, .pointer (some ⟨b149, 0 + (Int.toNat i68) * 1, none⟩)), (25, .int .u8 (List.getD s64 (Int.toNat i68) 0))]) (φ := [World.cell? w159 ⟨b149, 0 + (Int.toNat i68) * 1, none⟩ = some (.int .u8 (List.getD s64 (Int.toNat i68) 0))]) tbok 1 [.int .u8 (List.getD s64 (Int.toNat i68) 0)] [0, 2, 3, 14, 15, 16, 17, 21, 24, 25] E (by kernel_rfl) (Rds.at1 (H.rd 0 rds_row) 0 g151) ?_
                clear E; intro a E
                refine wpList_nil ?_
                refine th_n ⟨HS161, ?_⟩
                refine wpAnyH_all (rs := [12]) (by kernel_rfl) (by simp) ?_
                refine all1 ?_
                · refine wpOp_of_list rfl ?_
                  refine vrun (w := w159) (lp := [(0, .slice (some ⟨b149, 0, none⟩) (List.length s64) c2), (2, .int .i64 i68), (3, .int .i64 j69), (14, .slice (some ⟨b149, 0, none⟩) (List.length s64) c2), (15, .int .i64 i68), (16, .slice (some ⟨b149, 0, none⟩) (List.length s64) c2), (17, .int .i64 j69), (21, .int .u8 (List.getD s64 (Int.toNat j69) 0)), (25, .int .u8 (List.getD s64 (Int.toNat i68) 0)), (26, .pointer (some ⟨b149, 0 + (Int.toNat i68) * 1, none⟩))]) (φ := [0 ≤ i68 ∧ i68 < (((List.length s64) : Nat) : Int)]) tbok 1 [] [0, 2, 3, 14, 15, 16, 17, 21, 25, 26] E (by kernel_rfl) (g151) ?_
                  clear E; intro a E
                  refine wpList_nil ?_
                  refine th_n ⟨HS161, ?_⟩
                  refine wpAnyH_all (rs := [13]) (by kernel_rfl) (by simp) ?_
                  refine all1 ?_
                  · refine wpOp_of_list rfl ?_
                    refine h_set (g := b149) (i := i68) (List.getD s64 (Int.toNat j69) 0) H 0 rfl E rfl rfl rfl rfl tbok rfl (fun _ HF_ => rfl) rfl g151 rfl ?_
                    clear E; intro w163 a hc164 H_ E
                    replace HS161 := HS161.trans hc164 (fun k_ hk_ h_ => (fun _ _ h_ => Or.inl h_) k_ hk_ h_)
                    replace H : Hp S Fa w0 w163 [.row true (cInt .u8) 27 (some ⟨b149, 0, none⟩) c2 (List.set s64 (Int.toNat i68) (List.getD s64 (Int.toNat j69) 0))] := H_; clear H_
                    have hn165 : (List.length s64) = (List.length (List.set s64 (Int.toNat i68) (List.getD s64 (Int.toNat j69) 0))) := by simp only [List.length_set]
                    replace E := E.same (t := 0) (u := .slice (some ⟨b149, 0, none⟩) (List.length (List.set s64 (Int.toNat i68) (List.getD s64 (Int.toNat j69) 0))) c2) rfl (congrArg (fun n_ => Value.slice (some ⟨b149, 0, none⟩) n_ c2) hn165)
                    replace E := E.same (t := 14) (u := .slice (some ⟨b149, 0, none⟩) (List.length (List.set s64 (Int.toNat i68) (List.getD s64 (Int.toNat j69) 0))) c2) rfl (congrArg (fun n_ => Value.slice (some ⟨b149, 0, none⟩) n_ c2) hn165)
                    replace E := E.same (t := 16) (u := .slice (some ⟨b149, 0, none⟩) (List.length (List.set s64 (Int.toNat i68) (List.getD s64 (Int.toNat j69) 0))) c2) rfl (congrArg (fun n_ => Value.slice (some ⟨b149, 0, none⟩) n_ c2) hn165)
                    refine wpList_nil ?_
                    refine th_n ⟨HS161, ?_⟩
                    refine wpAnyH_all (rs := [14]) (by kernel_rfl) (by simp) ?_
                    refine all1 ?_
                    · refine wpOp_of_list rfl ?_
                      refine vrun (w := w163) (lp := [(0, .slice (some ⟨b149, 0, none⟩) (List.length (List.set s64 (Int.toNat i68) (List.getD s64 (Int.toNat j69) 0))) c2), (2, .int .i64 i68), (3, .int .i64 j69), (16, .slice (some ⟨b149, 0, none⟩) (List.length (List.set s64 (Int.toNat i68) (List.getD s64 (Int.toNat j69) 0))) c2), (17, .int .i64 j69), (25, .int .u8 (List.getD s64 (Int.toNat i68) 0)), (27, .pointer (some ⟨b149, 0 + (Int.toNat j69) * 1, none⟩))]) (φ := [0 ≤ j69 ∧ j69 < (((List.length (List.set s64 (Int.toNat i68) (List.getD s64 (Int.toNat j69) 0))) : Nat) : Int)]) tbok 1 [] [0, 2, 3, 16, 17, 25, 27] E (by kernel_rfl) (g155) ?_
                      clear E; intro a E
                      refine wpList_nil ?_
                      refine th_n ⟨HS161, ?_⟩
                      refine wpAnyH_all (rs := [15]) (by kernel_rfl) (by simp) ?_
                      refine all1 ?_
                      · refine wpOp_of_list rfl ?_
                        refine h_set (g := b149) (i := j69) (List.getD s64 (Int.toNat i68) 0) H 0 rfl E rfl rfl rfl rfl tbok rfl (fun _ HF_ => rfl) rfl g155 rfl ?_
                        clear E; intro w166 a hc167 H_ E
                        replace HS161 := HS161.trans hc167 (fun k_ hk_ h_ => (fun _ _ h_ => Or.inl h_) k_ hk_ h_)
                        replace H : Hp S Fa w0 w166 [.row true (cInt .u8) 27 (some ⟨b149, 0, none⟩) c2 (List.set (List.set s64 (Int.toNat i68) (List.getD s64 (Int.toNat j69) 0)) (Int.toNat j69) (List.getD s64 (Int.toNat i68) 0))] := H_; clear H_
                        have hn168 : (List.length (List.set s64 (Int.toNat i68) (List.getD s64 (Int.toNat j69) 0))) = (List.length (List.set (List.set s64 (Int.toNat i68) (List.getD s64 (Int.toNat j69) 0)) (Int.toNat j69) (List.getD s64 (Int.toNat i68) 0))) := by simp only [List.length_set]
                        replace E := E.same (t := 0) (u := .slice (some ⟨b149, 0, none⟩) (List.length (List.set (List.set s64 (Int.toNat i68) (List.getD s64 (Int.toNat j69) 0)) (Int.toNat j69) (List.getD s64 (Int.toNat i68) 0))) c2) rfl (congrArg (fun n_ => Value.slice (some ⟨b149, 0, none⟩) n_ c2) hn168)
                        replace E := E.same (t := 16) (u := .slice (some ⟨b149, 0, none⟩) (List.length (List.set (List.set s64 (Int.toNat i68) (List.getD s64 (Int.toNat j69) 0)) (Int.toNat j69) (List.getD s64 (Int.toNat i68) 0))) c2) rfl (congrArg (fun n_ => Value.slice (some ⟨b149, 0, none⟩) n_ c2) hn168)
                        refine wpList_nil ?_
                        refine th_n ⟨HS161, ?_⟩
                        refine dr_done (by kernel_rfl) ?_
                        clear HS161 HR162
                        refine bl_n ?_
                        refine th_n ?_
                        refine wp_region_lit ?_
                        obtain ⟨g169, hP⟩ := ask_inv hP
                        obtain ⟨g170, hP⟩ := ask_inv hP
                        refine vrun (w := w166) (lp := [(0, .slice (some ⟨b149, 0, none⟩) (List.length (List.set (List.set s64 (Int.toNat i68) (List.getD s64 (Int.toNat j69) 0)) (Int.toNat j69) (List.getD s64 (Int.toNat i68) 0))) c2), (2, .int .i64 (i68 + 1)), (3, .int .i64 (j69 - 1))]) (φ := [IntKind.i64.wrap (i68 + 1) = i68 + 1, IntKind.i64.wrap (j69 - 1) = j69 - 1]) tbok 6 [.int .i64 (i68 + 1), .int .i64 (j69 - 1)] [0, 2, 3] E (by kernel_rfl) ⟨wrap_in g169, wrap_in g170⟩ ?_
                        clear E; intro a E
                        refine wpList_nil ?_
                        exact th_n ⟨m140, Nat.lt_succ_self _, List.set (List.set s64 (Int.toNat i68) (List.getD s64 (Int.toNat j69) 0)) (Int.toNat j69) (List.getD s64 (Int.toNat i68) 0), i68 + 1, j69 - 1, E.pick _ ⟨rfl, rfl, rfl, trivial⟩, H.sel [0] rfl, (Eq.trans List.length_set (Eq.trans List.length_set hl67)), hP⟩
          · refine wpOp_of_list rfl ?_
            refine vrun (w := w159) (lp := [(0, .slice (some ⟨b149, 0, none⟩) (List.length s64) c2), (2, .int .i64 i68), (3, .int .i64 j69), (14, .slice (some ⟨b149, 0, none⟩) (List.length s64) c2), (15, .int .i64 i68), (16, .slice (some ⟨b149, 0, none⟩) (List.length s64) c2), (17, .int .i64 j69), (20, .pointer (some ⟨b149, 0 + (Int.toNat j69) * 1, none⟩)), (22, .slice (some ⟨b149, 0, none⟩) (List.length s64) c2), (23, .int .i64 i68), (24, .pointer (some ⟨b149, 0 + (Int.toNat i68) * 1, none⟩))]) (φ := [0 ≤ i68 ∧ i68 < (((List.length s64) : Nat) : Int)]) tbok 1 [] [0, 2, 3, 14, 15, 16, 17, 20, 22, 23, 24] E (by kernel_rfl) (g151) ?_
            clear E; intro a E
            refine wpList_nil ?_
            refine th_n ⟨HS161, ?_⟩
            refine wpAnyH_all (rs := [7, 11]) (by kernel_rfl) (by simp) ?_
            refine all2 ?_ ?_
            · refine wpOp_of_list rfl ?_
              refine vrun (w := w159) (lp := [(0, .slice (some ⟨b149, 0, none⟩) (List.length s64) c2), (2, .int .i64 i68), (3, .int .i64 j69), (14, .slice (some ⟨b149, 0, none⟩) (List.length s64) c2), (15, .int .i64 i68), (16, .slice (some ⟨b149, 0, none⟩) (List.length s64) c2), (17, .int .i64 j69), (20, .pointer (some ⟨b149, 0 + (Int.toNat j69) * 1, none⟩)), (21, .int .u8 (List.getD s64 (Int.toNat j69) 0)), (24, .pointer (some ⟨b149, 0 + (Int.toNat i68) * 1, none⟩))]) (φ := [World.cell? w159 ⟨b149, 0 + (Int.toNat j69) * 1, none⟩ = some (.int .u8 (List.getD s64 (Int.toNat j69) 0))]) tbok 1 [.int .u8 (List.getD s64 (Int.toNat j69) 0)] [0, 2, 3, 14, 15, 16, 17, 20, 21, 24] E (by kernel_rfl) (Rds.at1 (H.rd 0 rds_row) 0 g148) ?_
              clear E; intro a E
              refine wpList_nil ?_
              refine th_n ⟨HS161, ?_⟩
              refine wpAnyH_all (rs := [11]) (by kernel_rfl) (by simp) ?_
              refine all1 ?_
              · refine wpOp_of_list rfl ?_
                refine vrun (w := w159) (lp := [(0, .slice (some ⟨b149, 0, none⟩) (List.length s64) c2), (2, .int .i64 i68), (3, .int .i64 j69), (14, .slice (some ⟨b149, 0, none⟩) (List.length s64) c2), (15, .int .i64 i68), (16, .slice (some ⟨b149, 0, none⟩) (List.length s64) c2), (17, .int .i64 j69), (21, .int .u8 (List.getD s64 (Int.toNat j69) 0)), (24, .pointer (some ⟨b149, 0 + (Int.toNat i68) * 1, none⟩)), (25, .int .u8 (List.getD s64 (Int.toNat i68) 0))]) (φ := [World.cell? w159 ⟨b149, 0 + (Int.toNat i68) * 1, none⟩ = some (.int .u8 (List.getD s64 (Int.toNat i68) 0))]) tbok 1 [.int .u8 (List.getD s64 (Int.toNat i68) 0)] [0, 2, 3, 14, 15, 16, 17, 21, 24, 25] E (by kernel_rfl) (Rds.at1 (H.rd 0 rds_row) 0 g151) ?_
                clear E; intro a E
                refine wpList_nil ?_
                refine th_n ⟨HS161, ?_⟩
                refine wpAnyH_all (rs := [12]) (by kernel_rfl) (by simp) ?_
                refine all1 ?_
                · refine wpOp_of_list rfl ?_
                  refine vrun (w := w159) (lp := [(0, .slice (some ⟨b149, 0, none⟩) (List.length s64) c2), (2, .int .i64 i68), (3, .int .i64 j69), (14, .slice (some ⟨b149, 0, none⟩) (List.length s64) c2), (15, .int .i64 i68), (16, .slice (some ⟨b149, 0, none⟩) (List.length s64) c2), (17, .int .i64 j69), (21, .int .u8 (List.getD s64 (Int.toNat j69) 0)), (25, .int .u8 (List.getD s64 (Int.toNat i68) 0)), (26, .pointer (some ⟨b149, 0 + (Int.toNat i68) * 1, none⟩))]) (φ := [0 ≤ i68 ∧ i68 < (((List.length s64) : Nat) : Int)]) tbok 1 [] [0, 2, 3, 14, 15, 16, 17, 21, 25, 26] E (by kernel_rfl) (g151) ?_
                  clear E; intro a E
                  refine wpList_nil ?_
                  refine th_n ⟨HS161, ?_⟩
                  refine wpAnyH_all (rs := [13]) (by kernel_rfl) (by simp) ?_
                  refine all1 ?_
                  · refine wpOp_of_list rfl ?_
                    refine h_set (g := b149) (i := i68) (List.getD s64 (Int.toNat j69) 0) H 0 rfl E rfl rfl rfl rfl tbok rfl (fun _ HF_ => rfl) rfl g151 rfl ?_
                    clear E; intro w171 a hc172 H_ E
                    replace HS161 := HS161.trans hc172 (fun k_ hk_ h_ => (fun _ _ h_ => Or.inl h_) k_ hk_ h_)
                    replace H : Hp S Fa w0 w171 [.row true (cInt .u8) 27 (some ⟨b149, 0, none⟩) c2 (List.set s64 (Int.toNat i68) (List.getD s64 (Int.toNat j69) 0))] := H_; clear H_
                    have hn173 : (List.length s64) = (List.length (List.set s64 (Int.toNat i68) (List.getD s64 (Int.toNat j69) 0))) := by simp only [List.length_set]
                    replace E := E.same (t := 0) (u := .slice (some ⟨b149, 0, none⟩) (List.length (List.set s64 (Int.toNat i68) (List.getD s64 (Int.toNat j69) 0))) c2) rfl (congrArg (fun n_ => Value.slice (some ⟨b149, 0, none⟩) n_ c2) hn173)
                    replace E := E.same (t := 14) (u := .slice (some ⟨b149, 0, none⟩) (List.length (List.set s64 (Int.toNat i68) (List.getD s64 (Int.toNat j69) 0))) c2) rfl (congrArg (fun n_ => Value.slice (some ⟨b149, 0, none⟩) n_ c2) hn173)
                    replace E := E.same (t := 16) (u := .slice (some ⟨b149, 0, none⟩) (List.length (List.set s64 (Int.toNat i68) (List.getD s64 (Int.toNat j69) 0))) c2) rfl (congrArg (fun n_ => Value.slice (some ⟨b149, 0, none⟩) n_ c2) hn173)
                    refine wpList_nil ?_
                    refine th_n ⟨HS161, ?_⟩
                    refine wpAnyH_all (rs := [14]) (by kernel_rfl) (by simp) ?_
                    refine all1 ?_
                    · refine wpOp_of_list rfl ?_
                      refine vrun (w := w171) (lp := [(0, .slice (some ⟨b149, 0, none⟩) (List.length (List.set s64 (Int.toNat i68) (List.getD s64 (Int.toNat j69) 0))) c2), (2, .int .i64 i68), (3, .int .i64 j69), (16, .slice (some ⟨b149, 0, none⟩) (List.length (List.set s64 (Int.toNat i68) (List.getD s64 (Int.toNat j69) 0))) c2), (17, .int .i64 j69), (25, .int .u8 (List.getD s64 (Int.toNat i68) 0)), (27, .pointer (some ⟨b149, 0 + (Int.toNat j69) * 1, none⟩))]) (φ := [0 ≤ j69 ∧ j69 < (((List.length (List.set s64 (Int.toNat i68) (List.getD s64 (Int.toNat j69) 0))) : Nat) : Int)]) tbok 1 [] [0, 2, 3, 16, 17, 25, 27] E (by kernel_rfl) (g155) ?_
                      clear E; intro a E
                      refine wpList_nil ?_
                      refine th_n ⟨HS161, ?_⟩
                      refine wpAnyH_all (rs := [15]) (by kernel_rfl) (by simp) ?_
                      refine all1 ?_
                      · refine wpOp_of_list rfl ?_
                        refine h_set (g := b149) (i := j69) (List.getD s64 (Int.toNat i68) 0) H 0 rfl E rfl rfl rfl rfl tbok rfl (fun _ HF_ => rfl) rfl g155 rfl ?_
                        clear E; intro w174 a hc175 H_ E
                        replace HS161 := HS161.trans hc175 (fun k_ hk_ h_ => (fun _ _ h_ => Or.inl h_) k_ hk_ h_)
                        replace H : Hp S Fa w0 w174 [.row true (cInt .u8) 27 (some ⟨b149, 0, none⟩) c2 (List.set (List.set s64 (Int.toNat i68) (List.getD s64 (Int.toNat j69) 0)) (Int.toNat j69) (List.getD s64 (Int.toNat i68) 0))] := H_; clear H_
                        have hn176 : (List.length (List.set s64 (Int.toNat i68) (List.getD s64 (Int.toNat j69) 0))) = (List.length (List.set (List.set s64 (Int.toNat i68) (List.getD s64 (Int.toNat j69) 0)) (Int.toNat j69) (List.getD s64 (Int.toNat i68) 0))) := by simp only [List.length_set]
                        replace E := E.same (t := 0) (u := .slice (some ⟨b149, 0, none⟩) (List.length (List.set (List.set s64 (Int.toNat i68) (List.getD s64 (Int.toNat j69) 0)) (Int.toNat j69) (List.getD s64 (Int.toNat i68) 0))) c2) rfl (congrArg (fun n_ => Value.slice (some ⟨b149, 0, none⟩) n_ c2) hn176)
                        replace E := E.same (t := 16) (u := .slice (some ⟨b149, 0, none⟩) (List.length (List.set (List.set s64 (Int.toNat i68) (List.getD s64 (Int.toNat j69) 0)) (Int.toNat j69) (List.getD s64 (Int.toNat i68) 0))) c2) rfl (congrArg (fun n_ => Value.slice (some ⟨b149, 0, none⟩) n_ c2) hn176)
                        refine wpList_nil ?_
                        refine th_n ⟨HS161, ?_⟩
                        refine dr_done (by kernel_rfl) ?_
                        clear HS161 HR162
                        refine bl_n ?_
                        refine th_n ?_
                        refine wp_region_lit ?_
                        obtain ⟨g177, hP⟩ := ask_inv hP
                        obtain ⟨g178, hP⟩ := ask_inv hP
                        refine vrun (w := w174) (lp := [(0, .slice (some ⟨b149, 0, none⟩) (List.length (List.set (List.set s64 (Int.toNat i68) (List.getD s64 (Int.toNat j69) 0)) (Int.toNat j69) (List.getD s64 (Int.toNat i68) 0))) c2), (2, .int .i64 (i68 + 1)), (3, .int .i64 (j69 - 1))]) (φ := [IntKind.i64.wrap (i68 + 1) = i68 + 1, IntKind.i64.wrap (j69 - 1) = j69 - 1]) tbok 6 [.int .i64 (i68 + 1), .int .i64 (j69 - 1)] [0, 2, 3] E (by kernel_rfl) ⟨wrap_in g177, wrap_in g178⟩ ?_
                        clear E; intro a E
                        refine wpList_nil ?_
                        exact th_n ⟨m140, Nat.lt_succ_self _, List.set (List.set s64 (Int.toNat i68) (List.getD s64 (Int.toNat j69) 0)) (Int.toNat j69) (List.getD s64 (Int.toNat i68) 0), i68 + 1, j69 - 1, E.pick _ ⟨rfl, rfl, rfl, trivial⟩, H.sel [0] rfl, (Eq.trans List.length_set (Eq.trans List.length_set hl67)), hP⟩
            · refine wpOp_of_list rfl ?_
              refine vrun (w := w159) (lp := [(0, .slice (some ⟨b149, 0, none⟩) (List.length s64) c2), (2, .int .i64 i68), (3, .int .i64 j69), (14, .slice (some ⟨b149, 0, none⟩) (List.length s64) c2), (15, .int .i64 i68), (16, .slice (some ⟨b149, 0, none⟩) (List.length s64) c2), (17, .int .i64 j69), (20, .pointer (some ⟨b149, 0 + (Int.toNat j69) * 1, none⟩)), (24, .pointer (some ⟨b149, 0 + (Int.toNat i68) * 1, none⟩)), (25, .int .u8 (List.getD s64 (Int.toNat i68) 0))]) (φ := [World.cell? w159 ⟨b149, 0 + (Int.toNat i68) * 1, none⟩ = some (.int .u8 (List.getD s64 (Int.toNat i68) 0))]) tbok 1 [.int .u8 (List.getD s64 (Int.toNat i68) 0)] [0, 2, 3, 14, 15, 16, 17, 20, 24, 25] E (by kernel_rfl) (Rds.at1 (H.rd 0 rds_row) 0 g151) ?_
              clear E; intro a E
              refine wpList_nil ?_
              refine th_n ⟨HS161, ?_⟩
              refine wpAnyH_all (rs := [7]) (by kernel_rfl) (by simp) ?_
              refine all1 ?_
              · refine wpOp_of_list rfl ?_
                refine vrun (w := w159) (lp := [(0, .slice (some ⟨b149, 0, none⟩) (List.length s64) c2), (2, .int .i64 i68), (3, .int .i64 j69), (14, .slice (some ⟨b149, 0, none⟩) (List.length s64) c2), (15, .int .i64 i68), (16, .slice (some ⟨b149, 0, none⟩) (List.length s64) c2), (17, .int .i64 j69), (20, .pointer (some ⟨b149, 0 + (Int.toNat j69) * 1, none⟩)), (21, .int .u8 (List.getD s64 (Int.toNat j69) 0)), (25, .int .u8 (List.getD s64 (Int.toNat i68) 0))]) (φ := [World.cell? w159 ⟨b149, 0 + (Int.toNat j69) * 1, none⟩ = some (.int .u8 (List.getD s64 (Int.toNat j69) 0))]) tbok 1 [.int .u8 (List.getD s64 (Int.toNat j69) 0)] [0, 2, 3, 14, 15, 16, 17, 20, 21, 25] E (by kernel_rfl) (Rds.at1 (H.rd 0 rds_row) 0 g148) ?_
                clear E; intro a E
                refine wpList_nil ?_
                refine th_n ⟨HS161, ?_⟩
                refine wpAnyH_all (rs := [12]) (by kernel_rfl) (by simp) ?_
                refine all1 ?_
                · refine wpOp_of_list rfl ?_
                  refine vrun (w := w159) (lp := [(0, .slice (some ⟨b149, 0, none⟩) (List.length s64) c2), (2, .int .i64 i68), (3, .int .i64 j69), (14, .slice (some ⟨b149, 0, none⟩) (List.length s64) c2), (15, .int .i64 i68), (16, .slice (some ⟨b149, 0, none⟩) (List.length s64) c2), (17, .int .i64 j69), (21, .int .u8 (List.getD s64 (Int.toNat j69) 0)), (25, .int .u8 (List.getD s64 (Int.toNat i68) 0)), (26, .pointer (some ⟨b149, 0 + (Int.toNat i68) * 1, none⟩))]) (φ := [0 ≤ i68 ∧ i68 < (((List.length s64) : Nat) : Int)]) tbok 1 [] [0, 2, 3, 14, 15, 16, 17, 21, 25, 26] E (by kernel_rfl) (g151) ?_
                  clear E; intro a E
                  refine wpList_nil ?_
                  refine th_n ⟨HS161, ?_⟩
                  refine wpAnyH_all (rs := [13]) (by kernel_rfl) (by simp) ?_
                  refine all1 ?_
                  · refine wpOp_of_list rfl ?_
                    refine h_set (g := b149) (i := i68) (List.getD s64 (Int.toNat j69) 0) H 0 rfl E rfl rfl rfl rfl tbok rfl (fun _ HF_ => rfl) rfl g151 rfl ?_
                    clear E; intro w179 a hc180 H_ E
                    replace HS161 := HS161.trans hc180 (fun k_ hk_ h_ => (fun _ _ h_ => Or.inl h_) k_ hk_ h_)
                    replace H : Hp S Fa w0 w179 [.row true (cInt .u8) 27 (some ⟨b149, 0, none⟩) c2 (List.set s64 (Int.toNat i68) (List.getD s64 (Int.toNat j69) 0))] := H_; clear H_
                    have hn181 : (List.length s64) = (List.length (List.set s64 (Int.toNat i68) (List.getD s64 (Int.toNat j69) 0))) := by simp only [List.length_set]
                    replace E := E.same (t := 0) (u := .slice (some ⟨b149, 0, none⟩) (List.length (List.set s64 (Int.toNat i68) (List.getD s64 (Int.toNat j69) 0))) c2) rfl (congrArg (fun n_ => Value.slice (some ⟨b149, 0, none⟩) n_ c2) hn181)
                    replace E := E.same (t := 14) (u := .slice (some ⟨b149, 0, none⟩) (List.length (List.set s64 (Int.toNat i68) (List.getD s64 (Int.toNat j69) 0))) c2) rfl (congrArg (fun n_ => Value.slice (some ⟨b149, 0, none⟩) n_ c2) hn181)
                    replace E := E.same (t := 16) (u := .slice (some ⟨b149, 0, none⟩) (List.length (List.set s64 (Int.toNat i68) (List.getD s64 (Int.toNat j69) 0))) c2) rfl (congrArg (fun n_ => Value.slice (some ⟨b149, 0, none⟩) n_ c2) hn181)
                    refine wpList_nil ?_
                    refine th_n ⟨HS161, ?_⟩
                    refine wpAnyH_all (rs := [14]) (by kernel_rfl) (by simp) ?_
                    refine all1 ?_
                    · refine wpOp_of_list rfl ?_
                      refine vrun (w := w179) (lp := [(0, .slice (some ⟨b149, 0, none⟩) (List.length (List.set s64 (Int.toNat i68) (List.getD s64 (Int.toNat j69) 0))) c2), (2, .int .i64 i68), (3, .int .i64 j69), (16, .slice (some ⟨b149, 0, none⟩) (List.length (List.set s64 (Int.toNat i68) (List.getD s64 (Int.toNat j69) 0))) c2), (17, .int .i64 j69), (25, .int .u8 (List.getD s64 (Int.toNat i68) 0)), (27, .pointer (some ⟨b149, 0 + (Int.toNat j69) * 1, none⟩))]) (φ := [0 ≤ j69 ∧ j69 < (((List.length (List.set s64 (Int.toNat i68) (List.getD s64 (Int.toNat j69) 0))) : Nat) : Int)]) tbok 1 [] [0, 2, 3, 16, 17, 25, 27] E (by kernel_rfl) (g155) ?_
                      clear E; intro a E
                      refine wpList_nil ?_
                      refine th_n ⟨HS161, ?_⟩
                      refine wpAnyH_all (rs := [15]) (by kernel_rfl) (by simp) ?_
                      refine all1 ?_
                      · refine wpOp_of_list rfl ?_
                        refine h_set (g := b149) (i := j69) (List.getD s64 (Int.toNat i68) 0) H 0 rfl E rfl rfl rfl rfl tbok rfl (fun _ HF_ => rfl) rfl g155 rfl ?_
                        clear E; intro w182 a hc183 H_ E
                        replace HS161 := HS161.trans hc183 (fun k_ hk_ h_ => (fun _ _ h_ => Or.inl h_) k_ hk_ h_)
                        replace H : Hp S Fa w0 w182 [.row true (cInt .u8) 27 (some ⟨b149, 0, none⟩) c2 (List.set (List.set s64 (Int.toNat i68) (List.getD s64 (Int.toNat j69) 0)) (Int.toNat j69) (List.getD s64 (Int.toNat i68) 0))] := H_; clear H_
                        have hn184 : (List.length (List.set s64 (Int.toNat i68) (List.getD s64 (Int.toNat j69) 0))) = (List.length (List.set (List.set s64 (Int.toNat i68) (List.getD s64 (Int.toNat j69) 0)) (Int.toNat j69) (List.getD s64 (Int.toNat i68) 0))) := by simp only [List.length_set]
                        replace E := E.same (t := 0) (u := .slice (some ⟨b149, 0, none⟩) (List.length (List.set (List.set s64 (Int.toNat i68) (List.getD s64 (Int.toNat j69) 0)) (Int.toNat j69) (List.getD s64 (Int.toNat i68) 0))) c2) rfl (congrArg (fun n_ => Value.slice (some ⟨b149, 0, none⟩) n_ c2) hn184)
                        replace E := E.same (t := 16) (u := .slice (some ⟨b149, 0, none⟩) (List.length (List.set (List.set s64 (Int.toNat i68) (List.getD s64 (Int.toNat j69) 0)) (Int.toNat j69) (List.getD s64 (Int.toNat i68) 0))) c2) rfl (congrArg (fun n_ => Value.slice (some ⟨b149, 0, none⟩) n_ c2) hn184)
                        refine wpList_nil ?_
                        refine th_n ⟨HS161, ?_⟩
                        refine dr_done (by kernel_rfl) ?_
                        clear HS161 HR162
                        refine bl_n ?_
                        refine th_n ?_
                        refine wp_region_lit ?_
                        obtain ⟨g185, hP⟩ := ask_inv hP
                        obtain ⟨g186, hP⟩ := ask_inv hP
                        refine vrun (w := w182) (lp := [(0, .slice (some ⟨b149, 0, none⟩) (List.length (List.set (List.set s64 (Int.toNat i68) (List.getD s64 (Int.toNat j69) 0)) (Int.toNat j69) (List.getD s64 (Int.toNat i68) 0))) c2), (2, .int .i64 (i68 + 1)), (3, .int .i64 (j69 - 1))]) (φ := [IntKind.i64.wrap (i68 + 1) = i68 + 1, IntKind.i64.wrap (j69 - 1) = j69 - 1]) tbok 6 [.int .i64 (i68 + 1), .int .i64 (j69 - 1)] [0, 2, 3] E (by kernel_rfl) ⟨wrap_in g185, wrap_in g186⟩ ?_
                        clear E; intro a E
                        refine wpList_nil ?_
                        exact th_n ⟨m140, Nat.lt_succ_self _, List.set (List.set s64 (Int.toNat i68) (List.getD s64 (Int.toNat j69) 0)) (Int.toNat j69) (List.getD s64 (Int.toNat i68) 0), i68 + 1, j69 - 1, E.pick _ ⟨rfl, rfl, rfl, trivial⟩, H.sel [0] rfl, (Eq.trans List.length_set (Eq.trans List.length_set hl67)), hP⟩
        · refine wpOp_of_list rfl ?_
          refine vrun (w := w159) (lp := [(0, .slice (some ⟨b149, 0, none⟩) (List.length s64) c2), (2, .int .i64 i68), (3, .int .i64 j69), (14, .slice (some ⟨b149, 0, none⟩) (List.length s64) c2), (15, .int .i64 i68), (16, .slice (some ⟨b149, 0, none⟩) (List.length s64) c2), (17, .int .i64 j69), (18, .slice (some ⟨b149, 0, none⟩) (List.length s64) c2), (19, .int .i64 j69), (22, .slice (some ⟨b149, 0, none⟩) (List.length s64) c2), (23, .int .i64 i68), (24, .pointer (some ⟨b149, 0 + (Int.toNat i68) * 1, none⟩))]) (φ := [0 ≤ i68 ∧ i68 < (((List.length s64) : Nat) : Int)]) tbok 1 [] [0, 2, 3, 14, 15, 16, 17, 18, 19, 22, 23, 24] E (by kernel_rfl) (g151) ?_
          clear E; intro a E
          refine wpList_nil ?_
          refine th_n ⟨HS161, ?_⟩
          refine wpAnyH_all (rs := [6, 11]) (by kernel_rfl) (by simp) ?_
          refine all2 ?_ ?_
          · refine wpOp_of_list rfl ?_
            refine vrun (w := w159) (lp := [(0, .slice (some ⟨b149, 0, none⟩) (List.length s64) c2), (2, .int .i64 i68), (3, .int .i64 j69), (14, .slice (some ⟨b149, 0, none⟩) (List.length s64) c2), (15, .int .i64 i68), (16, .slice (some ⟨b149, 0, none⟩) (List.length s64) c2), (17, .int .i64 j69), (18, .slice (some ⟨b149, 0, none⟩) (List.length s64) c2), (19, .int .i64 j69), (20, .pointer (some ⟨b149, 0 + (Int.toNat j69) * 1, none⟩)), (24, .pointer (some ⟨b149, 0 + (Int.toNat i68) * 1, none⟩))]) (φ := [0 ≤ j69 ∧ j69 < (((List.length s64) : Nat) : Int)]) tbok 1 [] [0, 2, 3, 14, 15, 16, 17, 18, 19, 20, 24] E (by kernel_rfl) (g148) ?_
            clear E; intro a E
            refine wpList_nil ?_
            refine th_n ⟨HS161, ?_⟩
            refine wpAnyH_all (rs := [7, 11]) (by kernel_rfl) (by simp) ?_
            refine all2 ?_ ?_
            · refine wpOp_of_list rfl ?_
              refine vrun (w := w159) (lp := [(0, .slice (some ⟨b149, 0, none⟩) (List.length s64) c2), (2, .int .i64 i68), (3, .int .i64 j69), (14, .slice (some ⟨b149, 0, none⟩) (List.length s64) c2), (15, .int .i64 i68), (16, .slice (some ⟨b149, 0, none⟩) (List.length s64) c2), (17, .int .i64 j69), (20, .pointer (some ⟨b149, 0 + (Int.toNat j69) * 1, none⟩)), (21, .int .u8 (List.getD s64 (Int.toNat j69) 0)), (24, .pointer (some ⟨b149, 0 + (Int.toNat i68) * 1, none⟩))]) (φ := [World.cell? w159 ⟨b149, 0 + (Int.toNat j69) * 1, none⟩ = some (.int .u8 (List.getD s64 (Int.toNat j69) 0))]) tbok 1 [.int .u8 (List.getD s64 (Int.toNat j69) 0)] [0, 2, 3, 14, 15, 16, 17, 20, 21, 24] E (by kernel_rfl) (Rds.at1 (H.rd 0 rds_row) 0 g148) ?_
              clear E; intro a E
              refine wpList_nil ?_
              refine th_n ⟨HS161, ?_⟩
              refine wpAnyH_all (rs := [11]) (by kernel_rfl) (by simp) ?_
              refine all1 ?_
              · refine wpOp_of_list rfl ?_
                refine vrun (w := w159) (lp := [(0, .slice (some ⟨b149, 0, none⟩) (List.length s64) c2), (2, .int .i64 i68), (3, .int .i64 j69), (14, .slice (some ⟨b149, 0, none⟩) (List.length s64) c2), (15, .int .i64 i68), (16, .slice (some ⟨b149, 0, none⟩) (List.length s64) c2), (17, .int .i64 j69), (21, .int .u8 (List.getD s64 (Int.toNat j69) 0)), (24, .pointer (some ⟨b149, 0 + (Int.toNat i68) * 1, none⟩)), (25, .int .u8 (List.getD s64 (Int.toNat i68) 0))]) (φ := [World.cell? w159 ⟨b149, 0 + (Int.toNat i68) * 1, none⟩ = some (.int .u8 (List.getD s64 (Int.toNat i68) 0))]) tbok 1 [.int .u8 (List.getD s64 (Int.toNat i68) 0)] [0, 2, 3, 14, 15, 16, 17, 21, 24, 25] E (by kernel_rfl) (Rds.at1 (H.rd 0 rds_row) 0 g151) ?_
                clear E; intro a E
                refine wpList_nil ?_
                refine th_n ⟨HS161, ?_⟩
                refine wpAnyH_all (rs := [12]) (by kernel_rfl) (by simp) ?_
                refine all1 ?_
                · refine wpOp_of_list rfl ?_
                  refine vrun (w := w159) (lp := [(0, .slice (some ⟨b149, 0, none⟩) (List.length s64) c2), (2, .int .i64 i68), (3, .int .i64 j69), (14, .slice (some ⟨b149, 0, none⟩) (List.length s64) c2), (15, .int .i64 i68), (16, .slice (some ⟨b149, 0, none⟩) (List.length s64) c2), (17, .int .i64 j69), (21, .int .u8 (List.getD s64 (Int.toNat j69) 0)), (25, .int .u8 (List.getD s64 (Int.toNat i68) 0)), (26, .pointer (some ⟨b149, 0 + (Int.toNat i68) * 1, none⟩))]) (φ := [0 ≤ i68 ∧ i68 < (((List.length s64) : Nat) : Int)]) tbok 1 [] [0, 2, 3, 14, 15, 16, 17, 21, 25, 26] E (by kernel_rfl) (g151) ?_
                  clear E; intro a E
                  refine wpList_nil ?_
                  refine th_n ⟨HS161, ?_⟩
                  refine wpAnyH_all (rs := [13]) (by kernel_rfl) (by simp) ?_
                  refine all1 ?_
                  · refine wpOp_of_list rfl ?_
                    refine h_set (g := b149) (i := i68) (List.getD s64 (Int.toNat j69) 0) H 0 rfl E rfl rfl rfl rfl tbok rfl (fun _ HF_ => rfl) rfl g151 rfl ?_
                    clear E; intro w187 a hc188 H_ E
                    replace HS161 := HS161.trans hc188 (fun k_ hk_ h_ => (fun _ _ h_ => Or.inl h_) k_ hk_ h_)
                    replace H : Hp S Fa w0 w187 [.row true (cInt .u8) 27 (some ⟨b149, 0, none⟩) c2 (List.set s64 (Int.toNat i68) (List.getD s64 (Int.toNat j69) 0))] := H_; clear H_
                    have hn189 : (List.length s64) = (List.length (List.set s64 (Int.toNat i68) (List.getD s64 (Int.toNat j69) 0))) := by simp only [List.length_set]
                    replace E := E.same (t := 0) (u := .slice (some ⟨b149, 0, none⟩) (List.length (List.set s64 (Int.toNat i68) (List.getD s64 (Int.toNat j69) 0))) c2) rfl (congrArg (fun n_ => Value.slice (some ⟨b149, 0, none⟩) n_ c2) hn189)
                    replace E := E.same (t := 14) (u := .slice (some ⟨b149, 0, none⟩) (List.length (List.set s64 (Int.toNat i68) (List.getD s64 (Int.toNat j69) 0))) c2) rfl (congrArg (fun n_ => Value.slice (some ⟨b149, 0, none⟩) n_ c2) hn189)
                    replace E := E.same (t := 16) (u := .slice (some ⟨b149, 0, none⟩) (List.length (List.set s64 (Int.toNat i68) (List.getD s64 (Int.toNat j69) 0))) c2) rfl (congrArg (fun n_ => Value.slice (some ⟨b149, 0, none⟩) n_ c2) hn189)
                    refine wpList_nil ?_
                    refine th_n ⟨HS161, ?_⟩
                    refine wpAnyH_all (rs := [14]) (by kernel_rfl) (by simp) ?_
                    refine all1 ?_
                    · refine wpOp_of_list rfl ?_
                      refine vrun (w := w187) (lp := [(0, .slice (some ⟨b149, 0, none⟩) (List.length (List.set s64 (Int.toNat i68) (List.getD s64 (Int.toNat j69) 0))) c2), (2, .int .i64 i68), (3, .int .i64 j69), (16, .slice (some ⟨b149, 0, none⟩) (List.length (List.set s64 (Int.toNat i68) (List.getD s64 (Int.toNat j69) 0))) c2), (17, .int .i64 j69), (25, .int .u8 (List.getD s64 (Int.toNat i68) 0)), (27, .pointer (some ⟨b149, 0 + (Int.toNat j69) * 1, none⟩))]) (φ := [0 ≤ j69 ∧ j69 < (((List.length (List.set s64 (Int.toNat i68) (List.getD s64 (Int.toNat j69) 0))) : Nat) : Int)]) tbok 1 [] [0, 2, 3, 16, 17, 25, 27] E (by kernel_rfl) (g155) ?_
                      clear E; intro a E
                      refine wpList_nil ?_
                      refine th_n ⟨HS161, ?_⟩
                      refine wpAnyH_all (rs := [15]) (by kernel_rfl) (by simp) ?_
                      refine all1 ?_
                      · refine wpOp_of_list rfl ?_
                        refine h_set (g := b149) (i := j69) (List.getD s64 (Int.toNat i68) 0) H 0 rfl E rfl rfl rfl rfl tbok rfl (fun _ HF_ => rfl) rfl g155 rfl ?_
                        clear E; intro w190 a hc191 H_ E
                        replace HS161 := HS161.trans hc191 (fun k_ hk_ h_ => (fun _ _ h_ => Or.inl h_) k_ hk_ h_)
                        replace H : Hp S Fa w0 w190 [.row true (cInt .u8) 27 (some ⟨b149, 0, none⟩) c2 (List.set (List.set s64 (Int.toNat i68) (List.getD s64 (Int.toNat j69) 0)) (Int.toNat j69) (List.getD s64 (Int.toNat i68) 0))] := H_; clear H_
                        have hn192 : (List.length (List.set s64 (Int.toNat i68) (List.getD s64 (Int.toNat j69) 0))) = (List.length (List.set (List.set s64 (Int.toNat i68) (List.getD s64 (Int.toNat j69) 0)) (Int.toNat j69) (List.getD s64 (Int.toNat i68) 0))) := by simp only [List.length_set]
                        replace E := E.same (t := 0) (u := .slice (some ⟨b149, 0, none⟩) (List.length (List.set (List.set s64 (Int.toNat i68) (List.getD s64 (Int.toNat j69) 0)) (Int.toNat j69) (List.getD s64 (Int.toNat i68) 0))) c2) rfl (congrArg (fun n_ => Value.slice (some ⟨b149, 0, none⟩) n_ c2) hn192)
                        replace E := E.same (t := 16) (u := .slice (some ⟨b149, 0, none⟩) (List.length (List.set (List.set s64 (Int.toNat i68) (List.getD s64 (Int.toNat j69) 0)) (Int.toNat j69) (List.getD s64 (Int.toNat i68) 0))) c2) rfl (congrArg (fun n_ => Value.slice (some ⟨b149, 0, none⟩) n_ c2) hn192)
                        refine wpList_nil ?_
                        refine th_n ⟨HS161, ?_⟩
                        refine dr_done (by kernel_rfl) ?_
                        clear HS161 HR162
                        refine bl_n ?_
                        refine th_n ?_
                        refine wp_region_lit ?_
                        obtain ⟨g193, hP⟩ := ask_inv hP
                        obtain ⟨g194, hP⟩ := ask_inv hP
                        refine vrun (w := w190) (lp := [(0, .slice (some ⟨b149, 0, none⟩) (List.length (List.set (List.set s64 (Int.toNat i68) (List.getD s64 (Int.toNat j69) 0)) (Int.toNat j69) (List.getD s64 (Int.toNat i68) 0))) c2), (2, .int .i64 (i68 + 1)), (3, .int .i64 (j69 - 1))]) (φ := [IntKind.i64.wrap (i68 + 1) = i68 + 1, IntKind.i64.wrap (j69 - 1) = j69 - 1]) tbok 6 [.int .i64 (i68 + 1), .int .i64 (j69 - 1)] [0, 2, 3] E (by kernel_rfl) ⟨wrap_in g193, wrap_in g194⟩ ?_
                        clear E; intro a E
                        refine wpList_nil ?_
                        exact th_n ⟨m140, Nat.lt_succ_self _, List.set (List.set s64 (Int.toNat i68) (List.getD s64 (Int.toNat j69) 0)) (Int.toNat j69) (List.getD s64 (Int.toNat i68) 0), i68 + 1, j69 - 1, E.pick _ ⟨rfl, rfl, rfl, trivial⟩, H.sel [0] rfl, (Eq.trans List.length_set (Eq.trans List.length_set hl67)), hP⟩
            · refine wpOp_of_list rfl ?_
              refine vrun (w := w159) (lp := [(0, .slice (some ⟨b149, 0, none⟩) (List.length s64) c2), (2, .int .i64 i68), (3, .int .i64 j69), (14, .slice (some ⟨b149, 0, none⟩) (List.length s64) c2), (15, .int .i64 i68), (16, .slice (some ⟨b149, 0, none⟩) (List.length s64) c2), (17, .int .i64 j69), (20, .pointer (some ⟨b149, 0 + (Int.toNat j69) * 1, none⟩)), (24, .pointer (some ⟨b149, 0 + (Int.toNat i68) * 1, none⟩)), (25, .int .u8 (List.getD s64 (Int.toNat i68) 0))]) (φ := [World.cell? w159 ⟨b149, 0 + (Int.toNat i68) * 1, none⟩ = some (.int .u8 (List.getD s64 (Int.toNat i68) 0))]) tbok 1 [.int .u8 (List.getD s64 (Int.toNat i68) 0)] [0, 2, 3, 14, 15, 16, 17, 20, 24, 25] E (by kernel_rfl) (Rds.at1 (H.rd 0 rds_row) 0 g151) ?_
              clear E; intro a E
              refine wpList_nil ?_
              refine th_n ⟨HS161, ?_⟩
              refine wpAnyH_all (rs := [7]) (by kernel_rfl) (by simp) ?_
              refine all1 ?_
              · refine wpOp_of_list rfl ?_
                refine vrun (w := w159) (lp := [(0, .slice (some ⟨b149, 0, none⟩) (List.length s64) c2), (2, .int .i64 i68), (3, .int .i64 j69), (14, .slice (some ⟨b149, 0, none⟩) (List.length s64) c2), (15, .int .i64 i68), (16, .slice (some ⟨b149, 0, none⟩) (List.length s64) c2), (17, .int .i64 j69), (20, .pointer (some ⟨b149, 0 + (Int.toNat j69) * 1, none⟩)), (21, .int .u8 (List.getD s64 (Int.toNat j69) 0)), (25, .int .u8 (List.getD s64 (Int.toNat i68) 0))]) (φ := [World.cell? w159 ⟨b149, 0 + (Int.toNat j69) * 1, none⟩ = some (.int .u8 (List.getD s64 (Int.toNat j69) 0))]) tbok 1 [.int .u8 (List.getD s64 (Int.toNat j69) 0)] [0, 2, 3, 14, 15, 16, 17, 20, 21, 25] E (by kernel_rfl) (Rds.at1 (H.rd 0 rds_row) 0 g148) ?_
                clear E; intro a E
                refine wpList_nil ?_
                refine th_n ⟨HS161, ?_⟩
                refine wpAnyH_all (rs := [12]) (by kernel_rfl) (by simp) ?_
                refine all1 ?_
                · refine wpOp_of_list rfl ?_
                  refine vrun (w := w159) (lp := [(0, .slice (some ⟨b149, 0, none⟩) (List.length s64) c2), (2, .int .i64 i68), (3, .int .i64 j69), (14, .slice (some ⟨b149, 0, none⟩) (List.length s64) c2), (15, .int .i64 i68), (16, .slice (some ⟨b149, 0, none⟩) (List.length s64) c2), (17, .int .i64 j69), (21, .int .u8 (List.getD s64 (Int.toNat j69) 0)), (25, .int .u8 (List.getD s64 (Int.toNat i68) 0)), (26, .pointer (some ⟨b149, 0 + (Int.toNat i68) * 1, none⟩))]) (φ := [0 ≤ i68 ∧ i68 < (((List.length s64) : Nat) : Int)]) tbok 1 [] [0, 2, 3, 14, 15, 16, 17, 21, 25, 26] E (by kernel_rfl) (g151) ?_
                  clear E; intro a E
                  refine wpList_nil ?_
                  refine th_n ⟨HS161, ?_⟩
                  refine wpAnyH_all (rs := [13]) (by kernel_rfl) (by simp) ?_
                  refine all1 ?_
                  · refine wpOp_of_list rfl ?_
                    refine h_set (g := b149) (i := i68) (List.getD s64 (Int.toNat j69) 0) H 0 rfl E rfl rfl rfl rfl tbok rfl (fun _ HF_ => rfl) rfl g151 rfl ?_
                    clear E; intro w195 a hc196 H_ E
                    replace HS161 := HS161.trans hc196 (fun k_ hk_ h_ => (fun _ _ h_ => Or.inl h_) k_ hk_ h_)
                    replace H : Hp S Fa w0 w195 [.row true (cInt .u8) 27 (some ⟨b149, 0, none⟩) c2 (List.set s64 (Int.toNat i68) (List.getD s64 (Int.toNat j69) 0))] := H_; clear H_
                    have hn197 : (List.length s64) = (List.length (List.set s64 (Int.toNat i68) (List.getD s64 (Int.toNat j69) 0))) := by simp only [List.length_set]
                    replace E := E.same (t := 0) (u := .slice (some ⟨b149, 0, none⟩) (List.length (List.set s64 (Int.toNat i68) (List.getD s64 (Int.toNat j69) 0))) c2) rfl (congrArg (fun n_ => Value.slice (some ⟨b149, 0, none⟩) n_ c2) hn197)
                    replace E := E.same (t := 14) (u := .slice (some ⟨b149, 0, none⟩) (List.length (List.set s64 (Int.toNat i68) (List.getD s64 (Int.toNat j69) 0))) c2) rfl (congrArg (fun n_ => Value.slice (some ⟨b149, 0, none⟩) n_ c2) hn197)
                    replace E := E.same (t := 16) (u := .slice (some ⟨b149, 0, none⟩) (List.length (List.set s64 (Int.toNat i68) (List.getD s64 (Int.toNat j69) 0))) c2) rfl (congrArg (fun n_ => Value.slice (some ⟨b149, 0, none⟩) n_ c2) hn197)
                    refine wpList_nil ?_
                    refine th_n ⟨HS161, ?_⟩
                    refine wpAnyH_all (rs := [14]) (by kernel_rfl) (by simp) ?_
                    refine all1 ?_
                    · refine wpOp_of_list rfl ?_
                      refine vrun (w := w195) (lp := [(0, .slice (some ⟨b149, 0, none⟩) (List.length (List.set s64 (Int.toNat i68) (List.getD s64 (Int.toNat j69) 0))) c2), (2, .int .i64 i68), (3, .int .i64 j69), (16, .slice (some ⟨b149, 0, none⟩) (List.length (List.set s64 (Int.toNat i68) (List.getD s64 (Int.toNat j69) 0))) c2), (17, .int .i64 j69), (25, .int .u8 (List.getD s64 (Int.toNat i68) 0)), (27, .pointer (some ⟨b149, 0 + (Int.toNat j69) * 1, none⟩))]) (φ := [0 ≤ j69 ∧ j69 < (((List.length (List.set s64 (Int.toNat i68) (List.getD s64 (Int.toNat j69) 0))) : Nat) : Int)]) tbok 1 [] [0, 2, 3, 16, 17, 25, 27] E (by kernel_rfl) (g155) ?_
                      clear E; intro a E
                      refine wpList_nil ?_
                      refine th_n ⟨HS161, ?_⟩
                      refine wpAnyH_all (rs := [15]) (by kernel_rfl) (by simp) ?_
                      refine all1 ?_
                      · refine wpOp_of_list rfl ?_
                        refine h_set (g := b149) (i := j69) (List.getD s64 (Int.toNat i68) 0) H 0 rfl E rfl rfl rfl rfl tbok rfl (fun _ HF_ => rfl) rfl g155 rfl ?_
                        clear E; intro w198 a hc199 H_ E
                        replace HS161 := HS161.trans hc199 (fun k_ hk_ h_ => (fun _ _ h_ => Or.inl h_) k_ hk_ h_)
                        replace H : Hp S Fa w0 w198 [.row true (cInt .u8) 27 (some ⟨b149, 0, none⟩) c2 (List.set (List.set s64 (Int.toNat i68) (List.getD s64 (Int.toNat j69) 0)) (Int.toNat j69) (List.getD s64 (Int.toNat i68) 0))] := H_; clear H_
                        have hn200 : (List.length (List.set s64 (Int.toNat i68) (List.getD s64 (Int.toNat j69) 0))) = (List.length (List.set (List.set s64 (Int.toNat i68) (List.getD s64 (Int.toNat j69) 0)) (Int.toNat j69) (List.getD s64 (Int.toNat i68) 0))) := by simp only [List.length_set]
                        replace E := E.same (t := 0) (u := .slice (some ⟨b149, 0, none⟩) (List.length (List.set (List.set s64 (Int.toNat i68) (List.getD s64 (Int.toNat j69) 0)) (Int.toNat j69) (List.getD s64 (Int.toNat i68) 0))) c2) rfl (congrArg (fun n_ => Value.slice (some ⟨b149, 0, none⟩) n_ c2) hn200)
                        replace E := E.same (t := 16) (u := .slice (some ⟨b149, 0, none⟩) (List.length (List.set (List.set s64 (Int.toNat i68) (List.getD s64 (Int.toNat j69) 0)) (Int.toNat j69) (List.getD s64 (Int.toNat i68) 0))) c2) rfl (congrArg (fun n_ => Value.slice (some ⟨b149, 0, none⟩) n_ c2) hn200)
                        refine wpList_nil ?_
                        refine th_n ⟨HS161, ?_⟩
                        refine dr_done (by kernel_rfl) ?_
                        clear HS161 HR162
                        refine bl_n ?_
                        refine th_n ?_
                        refine wp_region_lit ?_
                        obtain ⟨g201, hP⟩ := ask_inv hP
                        obtain ⟨g202, hP⟩ := ask_inv hP
                        refine vrun (w := w198) (lp := [(0, .slice (some ⟨b149, 0, none⟩) (List.length (List.set (List.set s64 (Int.toNat i68) (List.getD s64 (Int.toNat j69) 0)) (Int.toNat j69) (List.getD s64 (Int.toNat i68) 0))) c2), (2, .int .i64 (i68 + 1)), (3, .int .i64 (j69 - 1))]) (φ := [IntKind.i64.wrap (i68 + 1) = i68 + 1, IntKind.i64.wrap (j69 - 1) = j69 - 1]) tbok 6 [.int .i64 (i68 + 1), .int .i64 (j69 - 1)] [0, 2, 3] E (by kernel_rfl) ⟨wrap_in g201, wrap_in g202⟩ ?_
                        clear E; intro a E
                        refine wpList_nil ?_
                        exact th_n ⟨m140, Nat.lt_succ_self _, List.set (List.set s64 (Int.toNat i68) (List.getD s64 (Int.toNat j69) 0)) (Int.toNat j69) (List.getD s64 (Int.toNat i68) 0), i68 + 1, j69 - 1, E.pick _ ⟨rfl, rfl, rfl, trivial⟩, H.sel [0] rfl, (Eq.trans List.length_set (Eq.trans List.length_set hl67)), hP⟩
          · refine wpOp_of_list rfl ?_
            refine vrun (w := w159) (lp := [(0, .slice (some ⟨b149, 0, none⟩) (List.length s64) c2), (2, .int .i64 i68), (3, .int .i64 j69), (14, .slice (some ⟨b149, 0, none⟩) (List.length s64) c2), (15, .int .i64 i68), (16, .slice (some ⟨b149, 0, none⟩) (List.length s64) c2), (17, .int .i64 j69), (18, .slice (some ⟨b149, 0, none⟩) (List.length s64) c2), (19, .int .i64 j69), (24, .pointer (some ⟨b149, 0 + (Int.toNat i68) * 1, none⟩)), (25, .int .u8 (List.getD s64 (Int.toNat i68) 0))]) (φ := [World.cell? w159 ⟨b149, 0 + (Int.toNat i68) * 1, none⟩ = some (.int .u8 (List.getD s64 (Int.toNat i68) 0))]) tbok 1 [.int .u8 (List.getD s64 (Int.toNat i68) 0)] [0, 2, 3, 14, 15, 16, 17, 18, 19, 24, 25] E (by kernel_rfl) (Rds.at1 (H.rd 0 rds_row) 0 g151) ?_
            clear E; intro a E
            refine wpList_nil ?_
            refine th_n ⟨HS161, ?_⟩
            refine wpAnyH_all (rs := [6]) (by kernel_rfl) (by simp) ?_
            refine all1 ?_
            · refine wpOp_of_list rfl ?_
              refine vrun (w := w159) (lp := [(0, .slice (some ⟨b149, 0, none⟩) (List.length s64) c2), (2, .int .i64 i68), (3, .int .i64 j69), (14, .slice (some ⟨b149, 0, none⟩) (List.length s64) c2), (15, .int .i64 i68), (16, .slice (some ⟨b149, 0, none⟩) (List.length s64) c2), (17, .int .i64 j69), (18, .slice (some ⟨b149, 0, none⟩) (List.length s64) c2), (19, .int .i64 j69), (20, .pointer (some ⟨b149, 0 + (Int.toNat j69) * 1, none⟩)), (25, .int .u8 (List.getD s64 (Int.toNat i68) 0))]) (φ := [0 ≤ j69 ∧ j69 < (((List.length s64) : Nat) : Int)]) tbok 1 [] [0, 2, 3, 14, 15, 16, 17, 18, 19, 20, 25] E (by kernel_rfl) (g148) ?_
              clear E; intro a E
              refine wpList_nil ?_
              refine th_n ⟨HS161, ?_⟩
              refine wpAnyH_all (rs := [7]) (by kernel_rfl) (by simp) ?_
              refine all1 ?_
              · refine wpOp_of_list rfl ?_
                refine vrun (w := w159) (lp := [(0, .slice (some ⟨b149, 0, none⟩) (List.length s64) c2), (2, .int .i64 i68), (3, .int .i64 j69), (14, .slice (some ⟨b149, 0, none⟩) (List.length s64) c2), (15, .int .i64 i68), (16, .slice (some ⟨b149, 0, none⟩) (List.length s64) c2), (17, .int .i64 j69), (20, .pointer (some ⟨b149, 0 + (Int.toNat j69) * 1, none⟩)), (21, .int .u8 (List.getD s64 (Int.toNat j69) 0)), (25, .int .u8 (List.getD s64 (Int.toNat i68) 0))]) (φ := [World.cell? w159 ⟨b149, 0 + (Int.toNat j69) * 1, none⟩ = some (.int .u8 (List.getD s64 (Int.toNat j69) 0))]) tbok 1 [.int .u8 (List.getD s64 (Int.toNat j69) 0)] [0, 2, 3, 14, 15, 16, 17, 20, 21, 25] E (by kernel_rfl) (Rds.at1 (H.rd 0 rds_row) 0 g148) ?_
                clear E; intro a E
                refine wpList_nil ?_
                refine th_n ⟨HS161, ?_⟩
                refine wpAnyH_all (rs := [12]) (by kernel_rfl) (by simp) ?_
                refine all1 ?_
                · refine wpOp_of_list rfl ?_
                  refine vrun (w := w159) (lp := [(0, .slice (some ⟨b149, 0, none⟩) (List.length s64) c2), (2, .int .i64 i68), (3, .int .i64 j69), (14, .slice (some ⟨b149, 0, none⟩) (List.length s64) c2), (15, .int .i64 i68), (16, .slice (some ⟨b149, 0, none⟩) (List.length s64) c2), (17, .int .i64 j69), (21, .int .u8 (List.getD s64 (Int.toNat j69) 0)), (25, .int .u8 (List.getD s64 (Int.toNat i68) 0)), (26, .pointer (some ⟨b149, 0 + (Int.toNat i68) * 1, none⟩))]) (φ := [0 ≤ i68 ∧ i68 < (((List.length s64) : Nat) : Int)]) tbok 1 [] [0, 2, 3, 14, 15, 16, 17, 21, 25, 26] E (by kernel_rfl) (g151) ?_
                  clear E; intro a E
                  refine wpList_nil ?_
                  refine th_n ⟨HS161, ?_⟩
                  refine wpAnyH_all (rs := [13]) (by kernel_rfl) (by simp) ?_
                  refine all1 ?_
                  · refine wpOp_of_list rfl ?_
                    refine h_set (g := b149) (i := i68) (List.getD s64 (Int.toNat j69) 0) H 0 rfl E rfl rfl rfl rfl tbok rfl (fun _ HF_ => rfl) rfl g151 rfl ?_
                    clear E; intro w203 a hc204 H_ E
                    replace HS161 := HS161.trans hc204 (fun k_ hk_ h_ => (fun _ _ h_ => Or.inl h_) k_ hk_ h_)
                    replace H : Hp S Fa w0 w203 [.row true (cInt .u8) 27 (some ⟨b149, 0, none⟩) c2 (List.set s64 (Int.toNat i68) (List.getD s64 (Int.toNat j69) 0))] := H_; clear H_
                    have hn205 : (List.length s64) = (List.length (List.set s64 (Int.toNat i68) (List.getD s64 (Int.toNat j69) 0))) := by simp only [List.length_set]
                    replace E := E.same (t := 0) (u := .slice (some ⟨b149, 0, none⟩) (List.length (List.set s64 (Int.toNat i68) (List.getD s64 (Int.toNat j69) 0))) c2) rfl (congrArg (fun n_ => Value.slice (some ⟨b149, 0, none⟩) n_ c2) hn205)
                    replace E := E.same (t := 14) (u := .slice (some ⟨b149, 0, none⟩) (List.length (List.set s64 (Int.toNat i68) (List.getD s64 (Int.toNat j69) 0))) c2) rfl (congrArg (fun n_ => Value.slice (some ⟨b149, 0, none⟩) n_ c2) hn205)
                    replace E := E.same (t := 16) (u := .slice (some ⟨b149, 0, none⟩) (List.length (List.set s64 (Int.toNat i68) (List.getD s64 (Int.toNat j69) 0))) c2) rfl (congrArg (fun n_ => Value.slice (some ⟨b149, 0, none⟩) n_ c2) hn205)
                    refine wpList_nil ?_
                    refine th_n ⟨HS161, ?_⟩
                    refine wpAnyH_all (rs := [14]) (by kernel_rfl) (by simp) ?_
                    refine all1 ?_
                    · refine wpOp_of_list rfl ?_
                      refine vrun (w := w203) (lp := [(0, .slice (some ⟨b149, 0, none⟩) (List.length (List.set s64 (Int.toNat i68) (List.getD s64 (Int.toNat j69) 0))) c2), (2, .int .i64 i68), (3, .int .i64 j69), (16, .slice (some ⟨b149, 0, none⟩) (List.length (List.set s64 (Int.toNat i68) (List.getD s64 (Int.toNat j69) 0))) c2), (17, .int .i64 j69), (25, .int .u8 (List.getD s64 (Int.toNat i68) 0)), (27, .pointer (some ⟨b149, 0 + (Int.toNat j69) * 1, none⟩))]) (φ := [0 ≤ j69 ∧ j69 < (((List.length (List.set s64 (Int.toNat i68) (List.getD s64 (Int.toNat j69) 0))) : Nat) : Int)]) tbok 1 [] [0, 2, 3, 16, 17, 25, 27] E (by kernel_rfl) (g155) ?_
                      clear E; intro a E
                      refine wpList_nil ?_
                      refine th_n ⟨HS161, ?_⟩
                      refine wpAnyH_all (rs := [15]) (by kernel_rfl) (by simp) ?_
                      refine all1 ?_
                      · refine wpOp_of_list rfl ?_
                        refine h_set (g := b149) (i := j69) (List.getD s64 (Int.toNat i68) 0) H 0 rfl E rfl rfl rfl rfl tbok rfl (fun _ HF_ => rfl) rfl g155 rfl ?_
                        clear E; intro w206 a hc207 H_ E
                        replace HS161 := HS161.trans hc207 (fun k_ hk_ h_ => (fun _ _ h_ => Or.inl h_) k_ hk_ h_)
                        replace H : Hp S Fa w0 w206 [.row true (cInt .u8) 27 (some ⟨b149, 0, none⟩) c2 (List.set (List.set s64 (Int.toNat i68) (List.getD s64 (Int.toNat j69) 0)) (Int.toNat j69) (List.getD s64 (Int.toNat i68) 0))] := H_; clear H_
                        have hn208 : (List.length (List.set s64 (Int.toNat i68) (List.getD s64 (Int.toNat j69) 0))) = (List.length (List.set (List.set s64 (Int.toNat i68) (List.getD s64 (Int.toNat j69) 0)) (Int.toNat j69) (List.getD s64 (Int.toNat i68) 0))) := by simp only [List.length_set]
                        replace E := E.same (t := 0) (u := .slice (some ⟨b149, 0, none⟩) (List.length (List.set (List.set s64 (Int.toNat i68) (List.getD s64 (Int.toNat j69) 0)) (Int.toNat j69) (List.getD s64 (Int.toNat i68) 0))) c2) rfl (congrArg (fun n_ => Value.slice (some ⟨b149, 0, none⟩) n_ c2) hn208)
                        replace E := E.same (t := 16) (u := .slice (some ⟨b149, 0, none⟩) (List.length (List.set (List.set s64 (Int.toNat i68) (List.getD s64 (Int.toNat j69) 0)) (Int.toNat j69) (List.getD s64 (Int.toNat i68) 0))) c2) rfl (congrArg (fun n_ => Value.slice (some ⟨b149, 0, none⟩) n_ c2) hn208)
                        refine wpList_nil ?_
                        refine th_n ⟨HS161, ?_⟩
                        refine dr_done (by kernel_rfl) ?_
                        clear HS161 HR162
                        refine bl_n ?_
                        refine th_n ?_
                        refine wp_region_lit ?_
                        obtain ⟨g209, hP⟩ := ask_inv hP
                        obtain ⟨g210, hP⟩ := ask_inv hP
                        refine vrun (w := w206) (lp := [(0, .slice (some ⟨b149, 0, none⟩) (List.length (List.set (List.set s64 (Int.toNat i68) (List.getD s64 (Int.toNat j69) 0)) (Int.toNat j69) (List.getD s64 (Int.toNat i68) 0))) c2), (2, .int .i64 (i68 + 1)), (3, .int .i64 (j69 - 1))]) (φ := [IntKind.i64.wrap (i68 + 1) = i68 + 1, IntKind.i64.wrap (j69 - 1) = j69 - 1]) tbok 6 [.int .i64 (i68 + 1), .int .i64 (j69 - 1)] [0, 2, 3] E (by kernel_rfl) ⟨wrap_in g209, wrap_in g210⟩ ?_
                        clear E; intro a E
                        refine wpList_nil ?_
                        exact th_n ⟨m140, Nat.lt_succ_self _, List.set (List.set s64 (Int.toNat i68) (List.getD s64 (Int.toNat j69) 0)) (Int.toNat j69) (List.getD s64 (Int.toNat i68) 0), i68 + 1, j69 - 1, E.pick _ ⟨rfl, rfl, rfl, trivial⟩, H.sel [0] rfl, (Eq.trans List.length_set (Eq.trans List.length_set hl67)), hP⟩
      · replace E := E_; clear E_
        have h211 : ¬ (i68 < j69) := of_decide_eq_false hb_
        clear hb_; replace hP := ite_f h211 hP
        refine c_false E rfl ?_
        refine wp_exit ?_
        refine th_exit ?_
        have hx_ := Option.some.inj hP
        refine th_exit (.inl ⟨0, rfl, ?_⟩)
        exact ⟨rfl, s64, E.pick _ trivial, H.sel [0] rfl, hl67, hx_.symm⟩
  · clear E H hL142; intro i_ a w144 hM_
    obtain ⟨rfl, x146, E, H, hl139, hx_⟩ := hM_
    subst hx_; have hP := hK143; clear hK143
    refine bl_hit ?_
    obtain rfl := Option.some.inj hP
    refine bodyPost_end (v := .tuple #[]) (by simp [results, Try.f43]) E.nodef ?_
    exact ⟨_, rfl, rfl, hl139, H.sel [0] rfl⟩

end Go.V
