/- Plain functions, and the calls that give them. -/
import Derived.Test.YtbgpakdldcfhiaaA5
set_option linter.all false
set_option linter.unusedVariables false
set_option linter.unnecessarySimpa false
set_option linter.unusedSimpArgs false
namespace Go.V
open Go Go.Proofs
/-! rejoinder/lang.Count -/
def lang_Count (N : Nat) (aProps : Int) (aAccept : List Bool) (aGuard : List Int) (aNodes : List Nd) (length : Int) : Option (Int × Int) :=
  Option.bind (lang_table N aProps aAccept aGuard aNodes) fun r18 =>
  if (r18.2 : Int) = 0 then
    if length < 0 then
      some (0, 2)
    else
      if 1024 < length then
        some (0, 2)
      else
        Option.bind (lang_counts N aProps aAccept aGuard aNodes r18.1 length) fun r36 =>
        ask (idx (0 : Int) (List.length r36)) <|
        if ((List.getD r36 (Int.toNat (0 : Int)) (0, false)).2) = true then
          some (0, 15)
        else
          some ((List.getD r36 (Int.toNat (0 : Int)) (0, false)).1, 0)
  else
    some (0, r18.2)
set_option maxRecDepth 100000 in
set_option maxHeartbeats 4000000 in
theorem lang_Count_calls {N : Nat} {S Fa : Nat → Prop} {w0 : World} {r : Int × Int} (A1 : Option Addr) (c2 : Nat) (A5 : Option Addr) (c6 : Nat) (A9 : Option Addr) (c10 : Nat) (aProps : Int) (aAccept : List Bool) (aGuard : List Int) (aNodes : List Nd) (length : Int) (hk3 : List.length aAccept ≤ c2) (hk7 : List.length aGuard ≤ c6) (hk11 : List.length aNodes ≤ c10) (H : Hp S Fa w0 w0 [.ro false cBool A1 aAccept, .ro false (cInt .i64) A5 aGuard, .ro false cNode A9 aNodes]) (hP : lang_Count N aProps aAccept aGuard aNodes length = some r) :
    Calls Try.prog 19 #[.agg #[.int .i64 aProps, .slice A1 (List.length aAccept) c2, .slice A5 (List.length aGuard) c6, .slice A9 (List.length aNodes) c10], .int .i64 length] w0 fun e w' => ∃ v, e = .returned v ∧ v = .tuple #[.int .u64 r.1, .int .i64 r.2] ∧ Hp S Fa w0 w' [] := by
 refine enterV (n := 33) Try.func19 rfl rfl rfl ?_
 intro a E
 replace E := E.pick [(0, .agg #[.int .i64 aProps, .slice A1 (List.length aAccept) c2, .slice A5 (List.length aGuard) c6, .slice A9 (List.length aNodes) c10]), (1, .int .i64 length)] ⟨rfl, rfl, trivial⟩
 rw [lang_Count] at hP
 refine wp_seq ?_
 refine wp_region_lit ?_
 refine h_box H E rfl rfl rfl ?_
 intro w14 g13 a hc15 hg17 H_ E_
 replace E := E_ _ rfl; clear E_
 replace H := H_; clear H_; try dsimp only [setn, addE, goneL] at H
 refine vr tbok 2 [] [(1, .int .i64 length), (2, .pointer (some ⟨g13, 0, none⟩))] [] E (by kernel_rfl) trivial ?_
 clear E; intro a E
 refine wpList_nil ?_
 refine th_n ?_
 refine wp_seq ?_
 refine wp_region_lit ?_
 refine vr tbok 1 [.agg #[.int .i64 aProps, .slice A1 (List.length aAccept) c2, .slice A5 (List.length aGuard) c6, .slice A9 (List.length aNodes) c10]] [(1, .int .i64 length), (2, .pointer (some ⟨g13, 0, none⟩)), (10, .agg #[.int .i64 aProps, .slice A1 (List.length aAccept) c2, .slice A5 (List.length aGuard) c6, .slice A9 (List.length aNodes) c10])] [cellsAt w14 g13 (0) [.int .i64 aProps, .slice A1 (List.length aAccept) c2, .slice A5 (List.length aGuard) c6, .slice A9 (List.length aNodes) c10]] E (by kernel_rfl) ((H.box 3 rfl).sub 0 _ rfl) ?_
 clear E; intro a E
 obtain ⟨r18, h19, hP⟩ := bind_inv hP
 obtain ⟨Fa20, Hc21, hb22⟩ := H.call [] [(0, false), (1, false), (2, false)] rfl rfl trivial
 refine e_call E rfl rfl Try.func29 rfl rfl rfl (lang_table_calls A1 c2 A5 c6 A9 c10 aProps aAccept aGuard aNodes hk3 hk7 hk11 Hc21 h19) ?_
 rintro v23 w24 a ⟨A27, c28, rfl, HR25⟩ E_
 replace E := E_ _ rfl; clear E_
 obtain ⟨H_, hc26⟩ := hb22 _ _ HR25 rfl
 replace H := H_; clear H_; try dsimp only [setn, addE, goneL] at H
 refine vr tbok 5 [] [(1, .int .i64 length), (2, .pointer (some ⟨g13, 0, none⟩)), (6, .slice A27 (List.length r18.1) c28), (7, .int .i64 r18.2)] [] E (by kernel_rfl) trivial ?_
 clear E; intro a E
 refine wpList_nil ?_
 refine th_n ?_
 refine wp_seq ?_
 refine wp_seq ?_
 refine wp_region_lit ?_
 refine vr tbok 2 [] [(1, .int .i64 length), (2, .pointer (some ⟨g13, 0, none⟩)), (6, .slice A27 (List.length r18.1) c28), (7, .int .i64 r18.2), (15, .bool ((r18.2 : Int) != 0))] [] E (by kernel_rfl) trivial ?_
 clear E; intro a E
 refine wpList_nil ?_
 refine th_n ?_
 refine E.cases (t := 15) rfl (fun hb_ E_ => ?_) (fun hb_ E_ => ?_)
 ·
  replace E := E_; clear E_
  have h30 : ¬ ((r18.2 : Int) = 0) := bne_iff_ne.1 hb_
  clear hb_; replace hP := ite_f h30 hP
  refine c_true E rfl ?_
  refine wp_seq ?_
  refine wp_region_lit ?_
  refine vr tbok 3 [] [(4, .int .u64 0), (5, .int .i64 r18.2)] [] E (by kernel_rfl) trivial ?_
  clear E; intro a E
  refine wpList_nil ?_
  refine th_n ?_
  refine wp_ret ?_
  refine th_ret ?_
  obtain rfl := Option.some.inj hP
  refine ret2 E rfl rfl rfl ?_
  exact ⟨_, rfl, rfl, H.sel [] rfl⟩
 replace E := E_; clear E_
 have h31 : (r18.2 : Int) = 0 := bne_eq_false_iff_eq.1 hb_
 clear hb_; replace hP := ite_t h31 hP
 refine c_false E rfl ?_
 refine wp_skip ?_
 refine th_n ?_
 refine wp_seq ?_
 refine wp_seq ?_
 refine wp_region_lit ?_
 refine vr tbok 3 [] [(1, .int .i64 length), (2, .pointer (some ⟨g13, 0, none⟩)), (6, .slice A27 (List.length r18.1) c28), (19, .bool (decide (length < 0)))] [] E (by kernel_rfl) trivial ?_
 clear E; intro a E
 refine E.cases (t := 19) rfl (fun hb_ E_ => ?_) (fun hb_ E_ => ?_)
 ·
  replace E := E_; clear E_
  have h32 : length < 0 := of_decide_eq_true hb_
  clear hb_; replace hP := ite_t h32 hP
  refine vr tbok 3 [] [(1, .int .i64 length), (2, .pointer (some ⟨g13, 0, none⟩)), (6, .slice A27 (List.length r18.1) c28), (22, .bool true)] [] E (by kernel_rfl) trivial ?_
  clear E; intro a E
  refine wpList_nil ?_
  refine th_n ?_
  refine c_true E rfl ?_
  refine wp_seq ?_
  refine wp_region_lit ?_
  refine vr tbok 2 [] [(4, .int .u64 0), (5, .int .i64 2)] [] E (by kernel_rfl) trivial ?_
  clear E; intro a E
  refine wpList_nil ?_
  refine th_n ?_
  refine wp_ret ?_
  refine th_ret ?_
  obtain rfl := Option.some.inj hP
  refine ret2 E rfl rfl rfl ?_
  exact ⟨_, rfl, rfl, H.sel [] rfl⟩
 replace E := E_; clear E_
 have h33 : ¬ (length < 0) := of_decide_eq_false hb_
 clear hb_; replace hP := ite_f h33 hP
 refine vr tbok 3 [] [(1, .int .i64 length), (2, .pointer (some ⟨g13, 0, none⟩)), (6, .slice A27 (List.length r18.1) c28), (22, .bool (decide (1024 < length)))] [] E (by kernel_rfl) trivial ?_
 clear E; intro a E
 refine wpList_nil ?_
 refine th_n ?_
 refine E.cases (t := 22) rfl (fun hb_ E_ => ?_) (fun hb_ E_ => ?_)
 ·
  replace E := E_; clear E_
  have h34 : 1024 < length := of_decide_eq_true hb_
  clear hb_; replace hP := ite_t h34 hP
  refine c_true E rfl ?_
  refine wp_seq ?_
  refine wp_region_lit ?_
  refine vr tbok 2 [] [(4, .int .u64 0), (5, .int .i64 2)] [] E (by kernel_rfl) trivial ?_
  clear E; intro a E
  refine wpList_nil ?_
  refine th_n ?_
  refine wp_ret ?_
  refine th_ret ?_
  obtain rfl := Option.some.inj hP
  refine ret2 E rfl rfl rfl ?_
  exact ⟨_, rfl, rfl, H.sel [] rfl⟩
 replace E := E_; clear E_
 have h35 : ¬ (1024 < length) := of_decide_eq_false hb_
 clear hb_; replace hP := ite_f h35 hP
 refine c_false E rfl ?_
 refine wp_skip ?_
 refine th_n ?_
 refine wp_seq ?_
 refine wp_region_lit ?_
 refine vr tbok 3 [.agg #[.int .i64 aProps, .slice A1 (List.length aAccept) c2, .slice A5 (List.length aGuard) c6, .slice A9 (List.length aNodes) c10]] [(23, .agg #[.int .i64 aProps, .slice A1 (List.length aAccept) c2, .slice A5 (List.length aGuard) c6, .slice A9 (List.length aNodes) c10]), (24, .slice A27 (List.length r18.1) c28), (25, .int .i64 length)] [cellsAt w24 g13 (0) [.int .i64 aProps, .slice A1 (List.length aAccept) c2, .slice A5 (List.length aGuard) c6, .slice A9 (List.length aNodes) c10]] E (by kernel_rfl) ((H.box 3 rfl).sub 0 _ rfl) ?_
 clear E; intro a E
 obtain ⟨r36, h37, hP⟩ := bind_inv hP
 obtain ⟨Fa38, Hc39, hb40⟩ := H.call [] [(0, false), (1, false), (2, false), (4, false)] rfl rfl trivial
 refine e_call E rfl rfl Try.func30 rfl rfl rfl (lang_counts_calls A1 c2 A5 c6 A9 c10 A27 c28 aProps aAccept aGuard aNodes r18.1 length hk3 hk7 hk11 (H.rcap 4 rfl) Hc39 h37) ?_
 rintro v41 w42 a ⟨A45, c46, rfl, HR43⟩ E_
 replace E := E_ _ rfl; clear E_
 obtain ⟨H_, hc44⟩ := hb40 _ _ HR43 rfl
 replace H := H_; clear H_; try dsimp only [setn, addE, goneL] at H
 obtain ⟨g48, hP⟩ := ask_inv hP
 obtain ⟨b49, e_b49⟩ := H.raddr 5 rfl (idx_pos g48)
 subst e_b49
 refine vr tbok 2 [.agg #[.int .u64 ((List.getD r36 (Int.toNat (0 : Int)) (0, false)).1), .bool ((List.getD r36 (Int.toNat (0 : Int)) (0, false)).2)]] [(28, .agg #[.int .u64 ((List.getD r36 (Int.toNat (0 : Int)) (0, false)).1), .bool ((List.getD r36 (Int.toNat (0 : Int)) (0, false)).2)])] [0 ≤ (0 : Int) ∧ (0 : Int) < (((List.length r36) : Nat) : Int), cellsAt w42 b49 (0 + (Int.toNat (0 : Int)) * 2) [.int .u64 ((List.getD r36 (Int.toNat (0 : Int)) (0, false)).1), .bool ((List.getD r36 (Int.toNat (0 : Int)) (0, false)).2)]] E (by kernel_rfl) ⟨g48, Rds.atP (H.rd 5 rds_row) (0, false) g48⟩ ?_
 clear E; intro a E
 refine h_alloc H E rfl rfl tbok rfl ?_
 intro w52 g51 a hc53 hg55 H_ E_
 replace E := E_ _ rfl; clear E_
 replace H := H_; clear H_; try dsimp only [setn, addE, goneL] at H
 refine h_store (g := g51) (off := 0) H 6 rfl E rfl rfl rfl rfl tbok rfl rfl rfl rfl rfl ?_
 clear E; intro w56 a hc57 H_ E
 replace H := H_; clear H_; try dsimp only [setn, addE, goneL] at H
 refine wpList_nil ?_
 refine th_n ?_
 refine wp_seq ?_
 refine wp_seq ?_
 refine wp_region_lit ?_
 refine vr tbok 2 [.bool ((List.getD r36 (Int.toNat (0 : Int)) (0, false)).2)] [(8, .pointer (some ⟨g51, 0, none⟩)), (30, .bool ((List.getD r36 (Int.toNat (0 : Int)) (0, false)).2))] [World.cell? w56 ⟨g51, 1, none⟩ = some (.bool ((List.getD r36 (Int.toNat (0 : Int)) (0, false)).2))] E (by kernel_rfl) ((H.box 6 rfl).cell (j := 1) rfl) ?_
 clear E; intro a E
 refine wpList_nil ?_
 refine th_n ?_
 refine E.cases (t := 30) rfl (fun hb_ E_ => ?_) (fun hb_ E_ => ?_)
 ·
  replace E := E_; clear E_
  have h58 : ((List.getD r36 (Int.toNat (0 : Int)) (0, false)).2) = true := hb_
  clear hb_; replace hP := ite_t h58 hP
  refine c_true E rfl ?_
  refine wp_seq ?_
  refine wp_region_lit ?_
  refine vr tbok 2 [] [(4, .int .u64 0), (5, .int .i64 15)] [] E (by kernel_rfl) trivial ?_
  clear E; intro a E
  refine wpList_nil ?_
  refine th_n ?_
  refine wp_ret ?_
  refine th_ret ?_
  obtain rfl := Option.some.inj hP
  refine ret2 E rfl rfl rfl ?_
  exact ⟨_, rfl, rfl, H.sel [] rfl⟩
 replace E := E_; clear E_
 have h59 : ¬ (((List.getD r36 (Int.toNat (0 : Int)) (0, false)).2) = true) := (ne_true_of_eq_false hb_)
 clear hb_; replace hP := ite_f h59 hP
 refine c_false E rfl ?_
 refine wp_skip ?_
 refine th_n ?_
 refine wp_seq ?_
 refine wp_region_lit ?_
 refine vr tbok 4 [.int .u64 ((List.getD r36 (Int.toNat (0 : Int)) (0, false)).1)] [(4, .int .u64 ((List.getD r36 (Int.toNat (0 : Int)) (0, false)).1)), (5, .int .i64 0)] [World.cell? w56 ⟨g51, 0, none⟩ = some (.int .u64 ((List.getD r36 (Int.toNat (0 : Int)) (0, false)).1))] E (by kernel_rfl) ((H.box 6 rfl).cell (j := 0) rfl) ?_
 clear E; intro a E
 refine wpList_nil ?_
 refine th_n ?_
 refine wp_ret ?_
 obtain rfl := Option.some.inj hP
 refine ret2 E rfl rfl rfl ?_
 exact ⟨_, rfl, rfl, H.sel [] rfl⟩

end Go.V
