/- Plain functions, and the calls that give them. -/
import Derived.Test.YtljkomkejdngcaaA4
set_option linter.all false
set_option linter.unusedVariables false
set_option linter.unnecessarySimpa false
set_option linter.unusedSimpArgs false
namespace Go.V
open Go Go.Proofs
/-! (*rejoinder/watch.Watch).Back -/
def watch_Watch_Back (N : Nat) (wboard : (Int × (List Bool) × (List Int) × (List Nd)) × (List Int) × (List Int)) (wcame : List Int) : Option (Int × Int × (List Int)) :=
  Option.bind (watch_Watch_none N wboard wcame) fun r114 =>
  if r114 = true then
    some (0, 1, wcame)
  else
    if ((((List.length wcame) : Nat) : Int) : Int) = 0 then
      some (0, 6, wcame)
    else
      ask (in64 ((((List.length wcame) : Nat) : Int) - 1)) <|
      ask (0 ≤ ((((List.length wcame) : Nat) : Int) - 1) ∧ ((((List.length wcame) : Nat) : Int) - 1) ≤ (((List.length wcame) : Nat) : Int)) <|
      Option.bind (watch_Watch_Verdict N wboard (List.take (Int.toNat ((((List.length wcame) : Nat) : Int) - 1)) wcame)) fun r147 =>
      some (r147, 0, (List.take (Int.toNat ((((List.length wcame) : Nat) : Int) - 1)) wcame))
set_option maxRecDepth 100000 in
set_option maxHeartbeats 4000000 in
theorem watch_Watch_Back_calls {N : Nat} {S Fa : Nat → Prop} {w0 : World} {r : Int × Int × (List Int)} (g1 : Nat) (b3 : Nat) (o4 : Nat) (A6 : Option Addr) (c7 : Nat) (wboard : (Int × (List Bool) × (List Int) × (List Nd)) × (List Int) × (List Int)) (wcame : List Int) (H : Hp S Fa w0 w0 [.box g1 27 [.pointer (some ⟨b3, o4, none⟩), .slice A6 (List.length wcame) c7], .row true (cInt .i64) 3 A6 c7 wcame, .ro false cS78 (some ⟨b3, o4, none⟩) ([wboard])]) (hP : watch_Watch_Back N wboard wcame = some r) :
    Calls Try.prog 10 #[.pointer (some ⟨g1, 0, none⟩)] w0 fun e w' => ∃ v, e = .returned v ∧ (∃ (x_ : Int × Int × (List Int)) (A12 : Option Addr) (c13 : Nat), r = x_ ∧ v = .tuple #[.int .u8 x_.1, .int .i64 x_.2.1] ∧ Hp S Fa w0 w' [.box g1 27 [.pointer (some ⟨b3, o4, none⟩), .slice A12 (List.length x_.2.2) c13], .row true (cInt .i64) 3 A12 c13 x_.2.2]) := by
 refine enterV (n := 30) Try.func10 rfl rfl rfl ?_
 intro a E
 replace E := E.pick [(0, .pointer (some ⟨g1, 0, none⟩))] ⟨rfl, trivial⟩
 rw [watch_Watch_Back] at hP
 refine wp_seq ?_
 refine wp_region_lit ?_
 refine vr tbok 2 [] [(0, .pointer (some ⟨g1, 0, none⟩))] [] E (by kernel_rfl) trivial ?_
 clear E; intro a E
 refine wpList_nil ?_
 refine th_n ?_
 refine wp_seq ?_
 refine wp_block ?_
 refine wp_seq ?_
 refine wp_region_lit ?_
 refine vr tbok 1 [] [(0, .pointer (some ⟨g1, 0, none⟩)), (5, .pointer (some ⟨g1, 0, none⟩))] [] E (by kernel_rfl) trivial ?_
 clear E; intro a E
 obtain ⟨r114, h115, hP⟩ := bind_inv hP
 obtain ⟨Fa116, Hc117, hb118⟩ := H.call [0, 1] [(2, false)] rfl rfl ⟨flat_plain, trivial⟩
 refine e_call E rfl rfl Try.func32 rfl rfl rfl (watch_Watch_none_calls g1 b3 o4 A6 c7 wboard wcame  Hc117 h115) ?_
 intro v124 w123 a hR125 E_
 obtain ⟨x_, hr_, rfl, HR127⟩ := hR125
 subst hr_
 replace E := E_ _ rfl; clear E_
 obtain ⟨H_, hc126⟩ := hb118 _ _ HR127 rfl
 replace H := H_; clear H_; try dsimp only [setn, addE, goneL] at H
 refine vr tbok 1 [] [(0, .pointer (some ⟨g1, 0, none⟩)), (4, .bool r114)] [] E (by kernel_rfl) trivial ?_
 clear E; intro a E
 refine wpList_nil ?_
 refine th_n ?_
 refine E.cases (t := 4) rfl (fun hb_ E_ => ?_) (fun hb_ E_ => ?_)
 ·
  replace E := E_; clear E_
  have h130 : r114 = true := hb_
  clear hb_; replace hP := ite_t h130 hP
  refine c_true E rfl ?_
  refine wp_seq ?_
  refine wp_region_lit ?_
  refine vr tbok 2 [] [(2, .int .u8 0), (3, .int .i64 1)] [] E (by kernel_rfl) trivial ?_
  clear E; intro a E
  refine wpList_nil ?_
  refine th_n ?_
  refine wp_ret ?_
  refine bl_ret ?_
  refine th_ret ?_
  obtain rfl := Option.some.inj hP
  refine ret2 E rfl rfl rfl ?_
  exact ⟨_, rfl, ⟨(0, 1, wcame), A6, c7, rfl, rfl, H.sel [4, 3] rfl⟩⟩
 ·
  replace E := E_; clear E_
  have h131 : ¬ (r114 = true) := (ne_true_of_eq_false hb_)
  clear hb_; replace hP := ite_f h131 hP
  refine c_false E rfl ?_
  refine wp_seq ?_
  refine wp_region_lit ?_
  refine vr tbok 7 [.slice A6 (List.length wcame) c7] [(0, .pointer (some ⟨g1, 0, none⟩)), (7, .bool (((((List.length wcame) : Nat) : Int) : Int) == 0))] [World.cell? w123 ⟨g1, 1, none⟩ = some (.slice A6 (List.length wcame) c7)] E (by kernel_rfl) ((H.box 4 rfl).cell (j := 1) rfl) ?_
  clear E; intro a E
  refine wpList_nil ?_
  refine th_n ?_
  refine E.cases (t := 7) rfl (fun hb_ E_ => ?_) (fun hb_ E_ => ?_)
  ·
   replace E := E_; clear E_
   have h132 : ((((List.length wcame) : Nat) : Int) : Int) = 0 := eq_of_beq hb_
   clear hb_; replace hP := ite_t h132 hP
   refine c_true E rfl ?_
   refine wp_seq ?_
   refine wp_region_lit ?_
   refine vr tbok 2 [] [(2, .int .u8 0), (3, .int .i64 6)] [] E (by kernel_rfl) trivial ?_
   clear E; intro a E
   refine wpList_nil ?_
   refine th_n ?_
   refine wp_ret ?_
   refine bl_ret ?_
   refine th_ret ?_
   obtain rfl := Option.some.inj hP
   refine ret2 E rfl rfl rfl ?_
   exact ⟨_, rfl, ⟨(0, 6, wcame), A6, c7, rfl, rfl, H.sel [4, 3] rfl⟩⟩
  ·
   replace E := E_; clear E_
   have h133 : ¬ (((((List.length wcame) : Nat) : Int) : Int) = 0) := ne_of_beq_false hb_
   clear hb_; replace hP := ite_f h133 hP
   refine c_false E rfl ?_
   refine wp_skip ?_
   refine bl_n ?_
   refine th_n ?_
   refine wp_seq ?_
   obtain ⟨g134, hP⟩ := ask_inv hP
   obtain ⟨g135, hP⟩ := ask_inv hP
   refine meet_cut (fun a w138 => Fr a 30 [(0, .pointer (some ⟨g1, 0, none⟩))] ∧ Hp S Fa w0 w138 [.ro false cS78 (some ⟨b3, o4, none⟩) ([wboard]), .row true (cInt .i64) 3 A6 c7 (List.take (Int.toNat ((((List.length wcame) : Nat) : Int) - 1)) wcame), .box g1 27 [.pointer (some ⟨b3, o4, none⟩), .slice A6 (List.length (List.take (Int.toNat ((((List.length wcame) : Nat) : Int) - 1)) wcame)) c7]]) ?_ ?_
   ·
    have HR142 := H
    refine dr_start (S := fun w_ => Chg (atL [.box g1 27 [.pointer (some ⟨b3, o4, none⟩), .slice A6 (List.length wcame) c7]]) w123 w_) (by kernel_rfl) ?_
    intro w139 hc140
    have HS141 : Chg (atL [.box g1 27 [.pointer (some ⟨b3, o4, none⟩), .slice A6 (List.length wcame) c7]]) w123 w139 := hc140.mono (fun _ _ h_ => h_.elim)
    replace H := H.ext hc140
    refine dr tbok (by kernel_rfl) [0, 1, 2, 3, 5, 6, 7] [] [(0, .pointer (some ⟨g1, 0, none⟩)), (14, .pointer (some ⟨g1, 0, none⟩)), (17, .pointer (some ⟨g1, 1, none⟩)), (21, .pointer (some ⟨g1, 1, none⟩))] (fun w_ => []) 8 E (fun _ _ => by kernel_rfl) (fun w_ hS_ => trivial) (by kernel_rfl) HS141 ?_
    clear E; intro a E
    refine wpAnyH_all (rs := [4, 8]) (by kernel_rfl) (by simp) ?_
    refine all2 ?_ ?_
    ·
     refine wpOp_of_list rfl ?_
     refine vr tbok 1 [.slice A6 (List.length wcame) c7] [(0, .pointer (some ⟨g1, 0, none⟩)), (14, .pointer (some ⟨g1, 0, none⟩)), (17, .pointer (some ⟨g1, 1, none⟩)), (18, .slice A6 (List.length wcame) c7), (21, .pointer (some ⟨g1, 1, none⟩))] [World.cell? w139 ⟨g1, 1, none⟩ = some (.slice A6 (List.length wcame) c7)] E (by kernel_rfl) ((H.box 4 rfl).cell (j := 1) rfl) ?_
     clear E; intro a E
     refine wpList_nil ?_
     refine th_n ⟨HS141, ?_⟩
     refine wpAnyH_all (rs := [8]) (by kernel_rfl) (by simp) ?_
     refine all1 ?_
     ·
      refine wpOp_of_list rfl ?_
      refine vr tbok 1 [.slice A6 (List.length wcame) c7] [(0, .pointer (some ⟨g1, 0, none⟩)), (14, .pointer (some ⟨g1, 0, none⟩)), (18, .slice A6 (List.length wcame) c7), (21, .pointer (some ⟨g1, 1, none⟩)), (22, .slice A6 (List.length wcame) c7)] [World.cell? w139 ⟨g1, 1, none⟩ = some (.slice A6 (List.length wcame) c7)] E (by kernel_rfl) ((H.box 4 rfl).cell (j := 1) rfl) ?_
      clear E; intro a E
      refine wpList_nil ?_
      refine th_n ⟨HS141, ?_⟩
      refine dr tbok (by kernel_rfl) [9, 10] [.int .i64 ((((List.length wcame) : Nat) : Int) - 1)] [(0, .pointer (some ⟨g1, 0, none⟩)), (14, .pointer (some ⟨g1, 0, none⟩)), (18, .slice A6 (List.length wcame) c7), (24, .int .i64 ((((List.length wcame) : Nat) : Int) - 1))] (fun w_ => [IntKind.i64.wrap ((((List.length wcame) : Nat) : Int) - 1) = (((List.length wcame) : Nat) : Int) - 1]) 4 E (fun _ _ => by kernel_rfl) (fun w_ hS_ => (wrap_in g134)) (by kernel_rfl) HS141 ?_
      clear E; intro a E
      refine wpAnyH_all (rs := [11]) (by kernel_rfl) (by simp) ?_
      refine all1 ?_
      ·
       refine wpOp_of_list rfl ?_
       refine vr tbok 1 [] [(0, .pointer (some ⟨g1, 0, none⟩)), (14, .pointer (some ⟨g1, 0, none⟩)), (18, .slice A6 (List.length wcame) c7), (24, .int .i64 ((((List.length wcame) : Nat) : Int) - 1)), (25, .slice A6 (Int.toNat ((((List.length wcame) : Nat) : Int) - 1)) c7)] [0 ≤ ((((List.length wcame) : Nat) : Int) - 1) ∧ ((((List.length wcame) : Nat) : Int) - 1) ≤ ((c7 : Nat) : Int)] E (by kernel_rfl) (cut_le g135 (H.rcap 3 rfl)) ?_
       clear E; intro a E
       replace H := H.cutRow 3 rfl (Int.toNat ((((List.length wcame) : Nat) : Int) - 1)); try dsimp only [setn, addE, goneL] at H
       replace E := E.same (t := 25) (u := .slice A6 (List.length (List.take (Int.toNat ((((List.length wcame) : Nat) : Int) - 1)) wcame)) c7) rfl (congrArg (fun n_ => Value.slice A6 n_ c7) (take_len g135))
       refine wpList_nil ?_
       refine th_n ⟨HS141, ?_⟩
       refine dr tbok (by kernel_rfl) [12, 13] [] [(0, .pointer (some ⟨g1, 0, none⟩)), (25, .slice A6 (List.length (List.take (Int.toNat ((((List.length wcame) : Nat) : Int) - 1)) wcame)) c7), (27, .pointer (some ⟨g1, 1, none⟩))] (fun w_ => []) 1 E (fun _ _ => by kernel_rfl) (fun w_ hS_ => trivial) (by kernel_rfl) HS141 ?_
       clear E; intro a E
       refine wpAnyH_all (rs := [14]) (by kernel_rfl) (by simp) ?_
       refine all1 ?_
       ·
        refine wpOp_of_list rfl ?_
        refine h_store (g := g1) (off := 1) H 4 rfl E rfl rfl rfl rfl tbok rfl rfl rfl rfl rfl ?_
        clear E; intro w143 a hc144 H_ E
        replace HS141 := HS141.trans hc144 (fun k_ hk_ h_ => (fun _ _ h_ => Or.inl h_) k_ hk_ h_)
        replace H := H_; clear H_; try dsimp only [setn, addE, goneL] at H
        refine wpList_nil ?_
        refine th_n ⟨HS141, ?_⟩
        refine dr_done (by kernel_rfl) ?_
        exact .inl ⟨rfl, E.pick _ ⟨rfl, trivial⟩, H.sel [2, 3, 4] rfl⟩
    ·
     refine wpOp_of_list rfl ?_
     refine vr tbok 1 [.slice A6 (List.length wcame) c7] [(0, .pointer (some ⟨g1, 0, none⟩)), (14, .pointer (some ⟨g1, 0, none⟩)), (17, .pointer (some ⟨g1, 1, none⟩)), (21, .pointer (some ⟨g1, 1, none⟩)), (22, .slice A6 (List.length wcame) c7)] [World.cell? w139 ⟨g1, 1, none⟩ = some (.slice A6 (List.length wcame) c7)] E (by kernel_rfl) ((H.box 4 rfl).cell (j := 1) rfl) ?_
     clear E; intro a E
     refine wpList_nil ?_
     refine th_n ⟨HS141, ?_⟩
     refine dr tbok (by kernel_rfl) [9, 10] [.int .i64 ((((List.length wcame) : Nat) : Int) - 1)] [(0, .pointer (some ⟨g1, 0, none⟩)), (14, .pointer (some ⟨g1, 0, none⟩)), (17, .pointer (some ⟨g1, 1, none⟩)), (24, .int .i64 ((((List.length wcame) : Nat) : Int) - 1))] (fun w_ => [IntKind.i64.wrap ((((List.length wcame) : Nat) : Int) - 1) = (((List.length wcame) : Nat) : Int) - 1]) 5 E (fun _ _ => by kernel_rfl) (fun w_ hS_ => (wrap_in g134)) (by kernel_rfl) HS141 ?_
     clear E; intro a E
     refine wpAnyH_all (rs := [4]) (by kernel_rfl) (by simp) ?_
     refine all1 ?_
     ·
      refine wpOp_of_list rfl ?_
      refine vr tbok 1 [.slice A6 (List.length wcame) c7] [(0, .pointer (some ⟨g1, 0, none⟩)), (14, .pointer (some ⟨g1, 0, none⟩)), (17, .pointer (some ⟨g1, 1, none⟩)), (18, .slice A6 (List.length wcame) c7), (24, .int .i64 ((((List.length wcame) : Nat) : Int) - 1))] [World.cell? w139 ⟨g1, 1, none⟩ = some (.slice A6 (List.length wcame) c7)] E (by kernel_rfl) ((H.box 4 rfl).cell (j := 1) rfl) ?_
      clear E; intro a E
      refine wpList_nil ?_
      refine th_n ⟨HS141, ?_⟩
      refine wpAnyH_all (rs := [11]) (by kernel_rfl) (by simp) ?_
      refine all1 ?_
      ·
       refine wpOp_of_list rfl ?_
       refine vr tbok 1 [] [(0, .pointer (some ⟨g1, 0, none⟩)), (14, .pointer (some ⟨g1, 0, none⟩)), (17, .pointer (some ⟨g1, 1, none⟩)), (18, .slice A6 (List.length wcame) c7), (24, .int .i64 ((((List.length wcame) : Nat) : Int) - 1)), (25, .slice A6 (Int.toNat ((((List.length wcame) : Nat) : Int) - 1)) c7)] [0 ≤ ((((List.length wcame) : Nat) : Int) - 1) ∧ ((((List.length wcame) : Nat) : Int) - 1) ≤ ((c7 : Nat) : Int)] E (by kernel_rfl) (cut_le g135 (H.rcap 3 rfl)) ?_
       clear E; intro a E
       replace H := H.cutRow 3 rfl (Int.toNat ((((List.length wcame) : Nat) : Int) - 1)); try dsimp only [setn, addE, goneL] at H
       replace E := E.same (t := 25) (u := .slice A6 (List.length (List.take (Int.toNat ((((List.length wcame) : Nat) : Int) - 1)) wcame)) c7) rfl (congrArg (fun n_ => Value.slice A6 n_ c7) (take_len g135))
       refine wpList_nil ?_
       refine th_n ⟨HS141, ?_⟩
       refine dr tbok (by kernel_rfl) [12, 13] [] [(0, .pointer (some ⟨g1, 0, none⟩)), (25, .slice A6 (List.length (List.take (Int.toNat ((((List.length wcame) : Nat) : Int) - 1)) wcame)) c7), (27, .pointer (some ⟨g1, 1, none⟩))] (fun w_ => []) 1 E (fun _ _ => by kernel_rfl) (fun w_ hS_ => trivial) (by kernel_rfl) HS141 ?_
       clear E; intro a E
       refine wpAnyH_all (rs := [14]) (by kernel_rfl) (by simp) ?_
       refine all1 ?_
       ·
        refine wpOp_of_list rfl ?_
        refine h_store (g := g1) (off := 1) H 4 rfl E rfl rfl rfl rfl tbok rfl rfl rfl rfl rfl ?_
        clear E; intro w145 a hc146 H_ E
        replace HS141 := HS141.trans hc146 (fun k_ hk_ h_ => (fun _ _ h_ => Or.inl h_) k_ hk_ h_)
        replace H := H_; clear H_; try dsimp only [setn, addE, goneL] at H
        refine wpList_nil ?_
        refine th_n ⟨HS141, ?_⟩
        refine dr_done (by kernel_rfl) ?_
        exact .inl ⟨rfl, E.pick _ ⟨rfl, trivial⟩, H.sel [2, 3, 4] rfl⟩
   ·
    clear E H; rintro a w138 ⟨E, H⟩
    refine th_n ?_
    refine wp_seq ?_
    refine wp_region_lit ?_
    refine vr tbok 1 [] [(28, .pointer (some ⟨g1, 0, none⟩))] [] E (by kernel_rfl) trivial ?_
    clear E; intro a E
    obtain ⟨r147, h148, hP⟩ := bind_inv hP
    obtain ⟨Fa149, Hc150, hb151⟩ := H.call [2, 1] [(0, false)] rfl rfl ⟨flat_plain, trivial⟩
    refine e_call E rfl rfl Try.func12 rfl rfl rfl (watch_Watch_Verdict_calls g1 b3 o4 A6 c7 wboard (List.take (Int.toNat ((((List.length wcame) : Nat) : Int) - 1)) wcame)  Hc150 h148) ?_
    intro v157 w156 a hR158 E_
    obtain ⟨x_, hr_, rfl, HR160⟩ := hR158
    subst hr_
    replace E := E_ _ rfl; clear E_
    obtain ⟨H_, hc159⟩ := hb151 _ _ HR160 rfl
    replace H := H_; clear H_; try dsimp only [setn, addE, goneL] at H
    refine vr tbok 2 [] [(2, .int .u8 r147), (3, .int .i64 0)] [] E (by kernel_rfl) trivial ?_
    clear E; intro a E
    refine wpList_nil ?_
    refine th_n ?_
    refine wp_ret ?_
    obtain rfl := Option.some.inj hP
    refine ret2 E rfl rfl rfl ?_
    exact ⟨_, rfl, ⟨(r147, 0, (List.take (Int.toNat ((((List.length wcame) : Nat) : Int) - 1)) wcame)), A6, c7, rfl, rfl, H.sel [4, 3] rfl⟩⟩

/-! rejoinder/watch.Told -/
def watch_Told (N : Nat) (aProps : Int) (aAccept : List Bool) (aGuard : List Int) (aNodes : List Nd) : Option ((List Int) × Int) :=
  Option.bind (guard_Check N aProps aAccept aGuard aNodes) fun r18 =>
  if (r18 : Int) = 0 then
    Option.bind (watch_made N aProps aAccept aGuard aNodes) fun r31 =>
    some (r31.2.2, 0)
  else
    some ([], r18)
set_option maxRecDepth 100000 in
set_option maxHeartbeats 4000000 in
theorem watch_Told_calls {N : Nat} {S Fa : Nat → Prop} {w0 : World} {r : (List Int) × Int} (A1 : Option Addr) (c2 : Nat) (A5 : Option Addr) (c6 : Nat) (A9 : Option Addr) (c10 : Nat) (aProps : Int) (aAccept : List Bool) (aGuard : List Int) (aNodes : List Nd) (hk3 : List.length aAccept ≤ c2) (hk7 : List.length aGuard ≤ c6) (hk11 : List.length aNodes ≤ c10) (H : Hp S Fa w0 w0 [.ro false cBool A1 aAccept, .ro false (cInt .i64) A5 aGuard, .ro false cNode A9 aNodes]) (hP : watch_Told N aProps aAccept aGuard aNodes = some r) :
    Calls Try.prog 21 #[.agg #[.int .i64 aProps, .slice A1 (List.length aAccept) c2, .slice A5 (List.length aGuard) c6, .slice A9 (List.length aNodes) c10]] w0 fun e w' => ∃ v, e = .returned v ∧ ∃ (A88 : Option Addr) (c89 : Nat), v = .tuple #[.slice A88 (List.length r.1) c89, .int .i64 r.2] ∧ List.length r.1 ≤ c89 ∧ Hp S Fa w0 w' [.ro true (cInt .u8) A88 r.1] := by
 refine enterV (n := 15) Try.func21 rfl rfl rfl ?_
 intro a E
 replace E := E.pick [(0, .agg #[.int .i64 aProps, .slice A1 (List.length aAccept) c2, .slice A5 (List.length aGuard) c6, .slice A9 (List.length aNodes) c10])] ⟨rfl, trivial⟩
 rw [watch_Told] at hP
 refine wp_seq ?_
 refine wp_region_lit ?_
 refine h_box H E rfl rfl rfl ?_
 intro w14 g13 a hc15 hg17 H_ E_
 replace E := E_ _ rfl; clear E_
 replace H := H_; clear H_; try dsimp only [setn, addE, goneL] at H
 refine vr tbok 2 [] [(1, .pointer (some ⟨g13, 0, none⟩))] [] E (by kernel_rfl) trivial ?_
 clear E; intro a E
 refine wpList_nil ?_
 refine th_n ?_
 refine wp_seq ?_
 refine wp_seq ?_
 refine wp_region_lit ?_
 refine vr tbok 1 [.agg #[.int .i64 aProps, .slice A1 (List.length aAccept) c2, .slice A5 (List.length aGuard) c6, .slice A9 (List.length aNodes) c10]] [(1, .pointer (some ⟨g13, 0, none⟩)), (5, .agg #[.int .i64 aProps, .slice A1 (List.length aAccept) c2, .slice A5 (List.length aGuard) c6, .slice A9 (List.length aNodes) c10])] [cellsAt w14 g13 (0) [.int .i64 aProps, .slice A1 (List.length aAccept) c2, .slice A5 (List.length aGuard) c6, .slice A9 (List.length aNodes) c10]] E (by kernel_rfl) ((H.box 3 rfl).sub 0 _ rfl) ?_
 clear E; intro a E
 obtain ⟨r18, h19, hP⟩ := bind_inv hP
 obtain ⟨Fa20, Hc21, hb22⟩ := H.call [] [(0, false), (1, false), (2, false)] rfl rfl trivial
 refine e_call E rfl rfl Try.func36 rfl rfl rfl (guard_Check_calls A1 c2 A5 c6 A9 c10 aProps aAccept aGuard aNodes hk3 hk7 hk11 Hc21 h19) ?_
 rintro v23 w24 a ⟨rfl, HR25⟩ E_
 replace E := E_ _ rfl; clear E_
 obtain ⟨H_, hc26⟩ := hb22 _ _ HR25 rfl
 replace H := H_; clear H_; try dsimp only [setn, addE, goneL] at H
 refine vr tbok 1 [] [(1, .pointer (some ⟨g13, 0, none⟩)), (4, .int .i64 r18)] [] E (by kernel_rfl) trivial ?_
 clear E; intro a E
 refine wpList_nil ?_
 refine th_n ?_
 refine wp_seq ?_
 refine wp_region_lit ?_
 refine vr tbok 2 [] [(1, .pointer (some ⟨g13, 0, none⟩)), (4, .int .i64 r18), (8, .bool ((r18 : Int) != 0))] [] E (by kernel_rfl) trivial ?_
 clear E; intro a E
 refine wpList_nil ?_
 refine th_n ?_
 refine E.cases (t := 8) rfl (fun hb_ E_ => ?_) (fun hb_ E_ => ?_)
 ·
  replace E := E_; clear E_
  have h27 : ¬ ((r18 : Int) = 0) := bne_iff_ne.1 hb_
  clear hb_; replace hP := ite_f h27 hP
  refine c_true E rfl ?_
  refine wp_seq ?_
  refine wp_region_lit ?_
  refine vr tbok 3 [] [(2, .slice none 0 0), (3, .int .i64 r18)] [] E (by kernel_rfl) trivial ?_
  clear E; intro a E
  refine wpList_nil ?_
  refine th_n ?_
  refine wp_ret ?_
  refine th_ret ?_
  replace H := H.nilrow (cInt .u8) 29; try dsimp only [setn, addE, goneL] at H
  have hk29 := H.rcap 4 rfl
  replace H := H.frz 4 rfl; try dsimp only [setn, addE, goneL] at H
  obtain rfl := Option.some.inj hP
  refine ret2 E rfl rfl rfl ?_
  exact ⟨_, rfl, none, 0, rfl, hk29, H.sel [4] rfl⟩
 ·
  replace E := E_; clear E_
  have h30 : (r18 : Int) = 0 := bne_eq_false_iff_eq.1 hb_
  clear hb_; replace hP := ite_t h30 hP
  refine c_false E rfl ?_
  refine wp_skip ?_
  refine th_n ?_
  refine wp_seq ?_
  refine wp_region_lit ?_
  refine vr tbok 1 [.agg #[.int .i64 aProps, .slice A1 (List.length aAccept) c2, .slice A5 (List.length aGuard) c6, .slice A9 (List.length aNodes) c10]] [(10, .agg #[.int .i64 aProps, .slice A1 (List.length aAccept) c2, .slice A5 (List.length aGuard) c6, .slice A9 (List.length aNodes) c10])] [cellsAt w24 g13 (0) [.int .i64 aProps, .slice A1 (List.length aAccept) c2, .slice A5 (List.length aGuard) c6, .slice A9 (List.length aNodes) c10]] E (by kernel_rfl) ((H.box 3 rfl).sub 0 _ rfl) ?_
  clear E; intro a E
  obtain ⟨r31, h32, hP⟩ := bind_inv hP
  obtain ⟨Fa33, Hc34, hb35⟩ := H.call [] [(0, false), (1, false), (2, false)] rfl rfl trivial
  refine e_call E rfl rfl Try.func38 rfl rfl rfl (watch_made_calls A1 c2 A5 c6 A9 c10 aProps aAccept aGuard aNodes hk3 hk7 hk11 Hc34 h32) ?_
  intro v41 w40 a hR42 E_
  obtain ⟨x_, b45, hr_, rfl, HR44⟩ := hR42
  subst hr_
  replace E := E_ _ rfl; clear E_
  obtain ⟨H_, hc43⟩ := hb35 _ _ HR44 rfl
  replace H := H_; clear H_; try dsimp only [setn, addE, goneL] at H
  obtain ⟨Fz47, cs49, HF48, hK50, hc51⟩ := H.elem 4 true (el_ro rfl) r31 (idx_one _)
  obtain ⟨_, _, rfl, hK52, hK53⟩ := hK50
  obtain ⟨_, _, rfl, hK54, hK55⟩ := hK52
  obtain rfl := hK54
  obtain ⟨_, _, rfl, hK56, hK57⟩ := hK55
  obtain ⟨A58, c59, rfl, hk60, hC61⟩ := hK56
  obtain ⟨_, _, rfl, hK63, hK64⟩ := hK57
  obtain ⟨A65, c66, rfl, hk67, hC68⟩ := hK63
  obtain ⟨A70, c71, rfl, hk72, hC73⟩ := hK64
  obtain ⟨_, _, rfl, hK75, hK76⟩ := hK53
  obtain ⟨A77, c78, rfl, hk79, hC80⟩ := hK75
  obtain ⟨A82, c83, rfl, hk84, hC85⟩ := hK76
  replace HF48 := HF48.ins hC61
  replace HF48 := HF48.ins hC68
  replace HF48 := HF48.ins hC73
  replace HF48 := HF48.ins hC80
  replace HF48 := HF48.ins hC85
  replace H := HF48.hp; try dsimp only [addE] at H
  have hc87 : cellsAt w40 b45 (0) [.int .i64 r31.1.1, .slice A58 (List.length r31.1.2.1) c59, .slice A65 (List.length r31.1.2.2.1) c66, .slice A70 (List.length r31.1.2.2.2) c71, .slice A77 (List.length r31.2.1) c78, .slice A82 (List.length r31.2.2) c83] := hc51
  refine vr tbok 5 [.slice A82 (List.length r31.2.2) c83] [(2, .slice A82 (List.length r31.2.2) c83), (3, .int .i64 0)] [World.cell? w40 ⟨b45, 5, none⟩ = some (.slice A82 (List.length r31.2.2) c83)] E (by kernel_rfl) (hc87.get 5 _ rfl) ?_
  clear E; intro a E
  refine wpList_nil ?_
  refine th_n ?_
  refine wp_ret ?_
  obtain rfl := Option.some.inj hP
  refine ret2 E rfl rfl rfl ?_
  exact ⟨_, rfl, A82, c83, rfl, hk84, H.sel [9] rfl⟩

/-! rejoinder/letter.Trace -/
def letter_Trace_l0 (N : Nat) (n : Int) (t : List Int) : Nat → Int → Option (Unit ⊕ Int)
  | 0, _ => none
  | m52 + 1, x34 =>
    if x34 < (((List.length t) : Nat) : Int) then
      ask (idx x34 (List.length t)) <|
      Option.bind (letter_Fits N n (List.getD t (Int.toNat x34) 0)) fun r63 =>
      if r63 = true then
        ask (in64 (x34 + 1)) <|
        letter_Trace_l0 N n t m52 (x34 + 1)
      else
        some (Sum.inr 2)
    else
      some (Sum.inl ())
def letter_Trace (N : Nat) (n : Int) (t : List Int) : Option Int :=
  Option.bind (letter_number N n) fun r5 =>
  if r5 = true then
    if 1024 < (((List.length t) : Nat) : Int) then
      some 3
    else
      Option.bind (letter_Trace_l0 N n t N 0) fun x53 =>
      Sum.elim (fun x58 =>
        some 0)
       (fun x76 =>
        some x76) x53
  else
    some 2
set_option maxRecDepth 100000 in
set_option maxHeartbeats 4000000 in
theorem letter_Trace_calls {N : Nat} {S Fa : Nat → Prop} {w0 : World} {r : Int} (A1 : Option Addr) (c2 : Nat) (n : Int) (t : List Int) (hk3 : List.length t ≤ c2) (H : Hp S Fa w0 w0 [.ro false (cInt .u8) A1 t]) (hP : letter_Trace N n t = some r) :
    Calls Try.prog 37 #[.int .i64 n, .slice A1 (List.length t) c2] w0 fun e w' => ∃ v, e = .returned v ∧ v = .int .i64 r ∧ Hp S Fa w0 w' [] := by
 refine enterV (n := 24) Try.func37 rfl rfl rfl ?_
 intro a E
 replace E := E.pick [(0, .int .i64 n), (1, .slice A1 (List.length t) c2)] ⟨rfl, rfl, trivial⟩
 rw [letter_Trace] at hP
 refine wp_seq ?_
 refine wp_region_lit ?_
 refine vr tbok 1 [] [(0, .int .i64 n), (1, .slice A1 (List.length t) c2)] [] E (by kernel_rfl) trivial ?_
 clear E; intro a E
 refine wpList_nil ?_
 refine th_n ?_
 refine wp_seq ?_
 refine wp_seq ?_
 refine wp_region_lit ?_
 refine vr tbok 1 [] [(0, .int .i64 n), (1, .slice A1 (List.length t) c2), (7, .int .i64 n)] [] E (by kernel_rfl) trivial ?_
 clear E; intro a E
 obtain ⟨r5, h6, hP⟩ := bind_inv hP
 obtain ⟨Fa7, Hc8, hb9⟩ := H.call [] [] rfl rfl trivial
 refine e_call E rfl rfl Try.func50 rfl rfl rfl (letter_number_calls  n  Hc8 h6) ?_
 rintro v10 w11 a ⟨rfl, HR12⟩ E_
 replace E := E_ _ rfl; clear E_
 obtain ⟨H_, hc13⟩ := hb9 _ _ HR12 rfl
 replace H := H_; clear H_; try dsimp only [setn, addE, goneL] at H
 refine vr tbok 1 [] [(0, .int .i64 n), (1, .slice A1 (List.length t) c2), (9, .bool (!r5))] [] E (by kernel_rfl) trivial ?_
 clear E; intro a E
 refine wpList_nil ?_
 refine th_n ?_
 refine E.cases (t := 9) rfl (fun hb_ E_ => ?_) (fun hb_ E_ => ?_)
 ·
  replace E := E_; clear E_
  have h14 : ¬ (r5 = true) := (ne_true_of_eq_false (not_t hb_))
  clear hb_; replace hP := ite_f h14 hP
  refine c_true E rfl ?_
  refine wp_seq ?_
  refine wp_region_lit ?_
  refine vr tbok 1 [] [(4, .int .i64 2)] [] E (by kernel_rfl) trivial ?_
  clear E; intro a E
  refine wpList_nil ?_
  refine th_n ?_
  refine wp_ret ?_
  refine th_ret ?_
  obtain rfl := Option.some.inj hP
  refine ret1 E rfl rfl ?_
  exact ⟨_, rfl, rfl, H.sel [] rfl⟩
 ·
  replace E := E_; clear E_
  have h15 : r5 = true := (not_f hb_)
  clear hb_; replace hP := ite_t h15 hP
  refine c_false E rfl ?_
  refine wp_skip ?_
  refine th_n ?_
  refine wp_seq ?_
  refine wp_seq ?_
  refine wp_region_lit ?_
  refine vr tbok 3 [] [(0, .int .i64 n), (1, .slice A1 (List.length t) c2), (12, .bool (decide (1024 < (((List.length t) : Nat) : Int))))] [] E (by kernel_rfl) trivial ?_
  clear E; intro a E
  refine wpList_nil ?_
  refine th_n ?_
  refine E.cases (t := 12) rfl (fun hb_ E_ => ?_) (fun hb_ E_ => ?_)
  ·
   replace E := E_; clear E_
   have h16 : 1024 < (((List.length t) : Nat) : Int) := of_decide_eq_true hb_
   clear hb_; replace hP := ite_t h16 hP
   refine c_true E rfl ?_
   refine wp_seq ?_
   refine wp_region_lit ?_
   refine vr tbok 1 [] [(4, .int .i64 3)] [] E (by kernel_rfl) trivial ?_
   clear E; intro a E
   refine wpList_nil ?_
   refine th_n ?_
   refine wp_ret ?_
   refine th_ret ?_
   obtain rfl := Option.some.inj hP
   refine ret1 E rfl rfl ?_
   exact ⟨_, rfl, rfl, H.sel [] rfl⟩
  ·
   replace E := E_; clear E_
   have h17 : ¬ (1024 < (((List.length t) : Nat) : Int)) := of_decide_eq_false hb_
   clear hb_; replace hP := ite_f h17 hP
   refine c_false E rfl ?_
   refine wp_skip ?_
   refine th_n ?_
   refine wp_seq ?_
   refine wp_seq ?_
   refine wp_region_lit ?_
   refine vr tbok 3 [] [(0, .int .i64 n), (13, .slice A1 (List.length t) c2), (14, .int .i64 (((List.length t) : Nat) : Int)), (15, .int .i64 0)] [] E (by kernel_rfl) trivial ?_
   clear E; intro a E
   refine wpList_nil ?_
   refine th_n ?_
   refine wp_block ?_
   obtain ⟨x53, hL54, hK55⟩ := bind_inv hP
   clear hP
   refine loop_cut (fun i_ a w_ => (i_ = 0 ∧ ∃ (x58 : Unit), Fr a 24 [] ∧ Hp S Fa w0 w_ [] ∧ x53 = Sum.inl x58)) ?_ ?_
   ·
    refine loopV (fun m57 a w56 => ∃ (x34 : Int), Fr a 24 [(0, .int .i64 n), (13, .slice A1 (List.length t) c2), (14, .int .i64 (((List.length t) : Nat) : Int)), (15, .int .i64 x34)] ∧ Hp S Fa w0 w56 [.ro false (cInt .u8) A1 t] ∧ letter_Trace_l0 N n t m57 x34 = some x53) N ?_ ?_
    ·
     exact ⟨0, E.pick _ ⟨rfl, rfl, rfl, rfl, trivial⟩, H.sel [0] rfl, hL54⟩
    ·
     clear E H hL54; intro m57 a w56 hI_
     obtain ⟨x34, E, H, hP⟩ := hI_
     obtain ⟨m52, rfl⟩ : ∃ q_, m57 = q_ + 1 := by cases m57 with | zero => rw [letter_Trace_l0] at hP; cases hP | succ q_ => exact ⟨q_, rfl⟩
     rw [letter_Trace_l0] at hP
     refine wp_seq ?_
     refine wp_region_lit ?_
     refine vr tbok 1 [] [(0, .int .i64 n), (13, .slice A1 (List.length t) c2), (14, .int .i64 (((List.length t) : Nat) : Int)), (15, .int .i64 x34), (16, .bool (decide (x34 < (((List.length t) : Nat) : Int))))] [] E (by kernel_rfl) trivial ?_
     clear E; intro a E
     refine wpList_nil ?_
     refine th_n ?_
     refine wp_seq ?_
     refine E.cases (t := 16) rfl (fun hb_ E_ => ?_) (fun hb_ E_ => ?_)
     ·
      replace E := E_; clear E_
      have h59 : x34 < (((List.length t) : Nat) : Int) := of_decide_eq_true hb_
      clear hb_; replace hP := ite_t h59 hP
      refine c_true E rfl ?_
      refine wp_skip ?_
      refine th_n ?_
      refine wp_seq ?_
      refine wp_block ?_
      refine wp_seq ?_
      refine wp_region_lit ?_
      obtain ⟨g60, hP⟩ := ask_inv hP
      obtain ⟨b61, o62, e_b61⟩ := (H.rd 0 rds_ro).addr (idx_pos g60)
      subst e_b61
      refine vr tbok 3 [.int .u8 (List.getD t (Int.toNat x34) 0)] [(0, .int .i64 n), (6, .int .u8 (List.getD t (Int.toNat x34) 0)), (13, .slice (some ⟨b61, o62, none⟩) (List.length t) c2), (14, .int .i64 (((List.length t) : Nat) : Int)), (15, .int .i64 x34)] [0 ≤ x34 ∧ x34 < (((List.length t) : Nat) : Int), World.cell? w56 ⟨b61, o62 + (Int.toNat x34) * 1, none⟩ = some (.int .u8 (List.getD t (Int.toNat x34) 0))] E (by kernel_rfl) ⟨g60, Rds.at1 (H.rd 0 rds_ro) 0 g60⟩ ?_
      clear E; intro a E
      refine wpList_nil ?_
      refine th_n ?_
      refine wp_seq ?_
      refine wp_region_lit ?_
      refine vr tbok 2 [] [(0, .int .i64 n), (13, .slice (some ⟨b61, o62, none⟩) (List.length t) c2), (14, .int .i64 (((List.length t) : Nat) : Int)), (15, .int .i64 x34), (19, .int .i64 n), (20, .int .u8 (List.getD t (Int.toNat x34) 0))] [] E (by kernel_rfl) trivial ?_
      clear E; intro a E
      obtain ⟨r63, h64, hP⟩ := bind_inv hP
      obtain ⟨Fa65, Hc66, hb67⟩ := H.call [] [] rfl rfl trivial
      refine e_call E rfl rfl Try.func33 rfl rfl rfl (letter_Fits_calls  n (List.getD t (Int.toNat x34) 0)  Hc66 h64) ?_
      rintro v68 w69 a ⟨rfl, HR70⟩ E_
      replace E := E_ _ rfl; clear E_
      obtain ⟨H_, hc71⟩ := hb67 _ _ HR70 rfl
      replace H := H_; clear H_; try dsimp only [setn, addE, goneL] at H
      refine vr tbok 1 [] [(0, .int .i64 n), (13, .slice (some ⟨b61, o62, none⟩) (List.length t) c2), (14, .int .i64 (((List.length t) : Nat) : Int)), (15, .int .i64 x34), (22, .bool (!r63))] [] E (by kernel_rfl) trivial ?_
      clear E; intro a E
      refine wpList_nil ?_
      refine th_n ?_
      refine E.cases (t := 22) rfl (fun hb_ E_ => ?_) (fun hb_ E_ => ?_)
      ·
       replace E := E_; clear E_
       have h72 : ¬ (r63 = true) := (ne_true_of_eq_false (not_t hb_))
       clear hb_; replace hP := ite_f h72 hP
       refine c_true E rfl ?_
       refine wp_seq ?_
       refine wp_region_lit ?_
       refine vr tbok 1 [] [(4, .int .i64 2)] [] E (by kernel_rfl) trivial ?_
       clear E; intro a E
       refine wpList_nil ?_
       refine th_n ?_
       refine wp_ret ?_
       refine bl_ret ?_
       refine th_ret ?_
       refine th_ret ?_
       refine .inr ⟨rfl, ?_⟩
       refine bl_ret ?_
       refine th_ret ?_
       have hx_ := Option.some.inj hP; subst hx_
       have hP : some (2) = some r := hK55
       obtain rfl := Option.some.inj hP
       refine ret1 E rfl rfl ?_
       exact ⟨_, rfl, rfl, H.sel [] rfl⟩
      ·
       replace E := E_; clear E_
       have h73 : r63 = true := (not_f hb_)
       clear hb_; replace hP := ite_t h73 hP
       refine c_false E rfl ?_
       refine wp_skip ?_
       refine bl_n ?_
       refine th_n ?_
       refine wp_region_lit ?_
       obtain ⟨g74, hP⟩ := ask_inv hP
       refine vr tbok 2 [.int .i64 (x34 + 1)] [(0, .int .i64 n), (13, .slice (some ⟨b61, o62, none⟩) (List.length t) c2), (14, .int .i64 (((List.length t) : Nat) : Int)), (15, .int .i64 (x34 + 1))] [IntKind.i64.wrap (x34 + 1) = x34 + 1] E (by kernel_rfl) (wrap_in g74) ?_
       clear E; intro a E
       refine wpList_nil ?_
       exact th_n ⟨m52, Nat.lt_succ_self _, x34 + 1, E.pick _ ⟨rfl, rfl, rfl, rfl, trivial⟩, H.sel [0] rfl, hP⟩
     ·
      replace E := E_; clear E_
      have h75 : ¬ (x34 < (((List.length t) : Nat) : Int)) := of_decide_eq_false hb_
      clear hb_; replace hP := ite_f h75 hP
      refine c_false E rfl ?_
      refine wp_exit ?_
      refine th_exit ?_
      have hx_ := Option.some.inj hP
      refine th_exit (.inl ⟨0, rfl, ?_⟩)
      exact ⟨rfl, (), E.pick _ trivial, H.sel [] rfl, hx_.symm⟩
   ·
    clear E H hL54; intro i_ a w56 hM_
    obtain ⟨rfl, x58, E, H, hx_⟩ := hM_
    subst hx_; have hP := elim_l hK55
    clear hK55
    refine bl_hit ?_
    refine th_n ?_
    refine wp_seq ?_
    refine wp_region_lit ?_
    refine vr tbok 1 [] [(4, .int .i64 0)] [] E (by kernel_rfl) trivial ?_
    clear E; intro a E
    refine wpList_nil ?_
    refine th_n ?_
    refine wp_ret ?_
    obtain rfl := Option.some.inj hP
    refine ret1 E rfl rfl ?_
    exact ⟨_, rfl, rfl, H.sel [] rfl⟩

/-! rejoinder/watch.All -/
def watch_All_l0 (N : Nat) (t : List Int) (r46 : (Int × (List Bool) × (List Int) × (List Nd)) × (List Int) × (List Int)) : Nat → (List Int) → (List Int) → Int → Option (List Int)
  | 0, _, _, _ => none
  | m168 + 1, w123, out126, x129 =>
    if x129 < (((List.length t) : Nat) : Int) then
      ask (idx x129 (List.length t)) <|
      Option.bind (watch_Watch_Feed N r46 w123 (List.getD t (Int.toNat x129) 0)) fun r179 =>
      ask (List.length out126 + List.length ([r179.1] : List Int) ≤ 1000000000) <|
      ask (in64 (x129 + 1)) <|
      watch_All_l0 N t r46 m168 r179.2.2 (out126 ++ ([r179.1] : List Int)) (x129 + 1)
    else
      some out126
def watch_All (N : Nat) (aProps : Int) (aAccept : List Bool) (aGuard : List Int) (aNodes : List Nd) (t : List Int) : Option ((List Int) × Int) :=
  Option.bind (guard_Check N aProps aAccept aGuard aNodes) fun r22 =>
  if (r22 : Int) = 0 then
    Option.bind (letter_Trace N aProps t) fun r34 =>
    if (r34 : Int) = 0 then
      Option.bind (watch_made N aProps aAccept aGuard aNodes) fun r46 =>
      Option.bind (watch_Watch_Verdict N r46 []) fun r68 =>
      Option.bind (watch_All_l0 N t r46 N [] ([r68] : List Int) 0) fun x169 =>
      some (x169, 0)
    else
      some ([], r34)
  else
    some ([], r22)
set_option maxRecDepth 100000 in
set_option maxHeartbeats 4000000 in
theorem watch_All_calls {N : Nat} {S Fa : Nat → Prop} {w0 : World} {r : (List Int) × Int} (A1 : Option Addr) (c2 : Nat) (A5 : Option Addr) (c6 : Nat) (A9 : Option Addr) (c10 : Nat) (A13 : Option Addr) (c14 : Nat) (aProps : Int) (aAccept : List Bool) (aGuard : List Int) (aNodes : List Nd) (t : List Int) (hk3 : List.length aAccept ≤ c2) (hk7 : List.length aGuard ≤ c6) (hk11 : List.length aNodes ≤ c10) (hk15 : List.length t ≤ c14) (H : Hp S Fa w0 w0 [.ro false cBool A1 aAccept, .ro false (cInt .i64) A5 aGuard, .ro false cNode A9 aNodes, .ro false (cInt .u8) A13 t]) (hP : watch_All N aProps aAccept aGuard aNodes t = some r) :
    Calls Try.prog 19 #[.agg #[.int .i64 aProps, .slice A1 (List.length aAccept) c2, .slice A5 (List.length aGuard) c6, .slice A9 (List.length aNodes) c10], .slice A13 (List.length t) c14] w0 fun e w' => ∃ v, e = .returned v ∧ ∃ (A210 : Option Addr) (c211 : Nat), v = .tuple #[.slice A210 (List.length r.1) c211, .int .i64 r.2] ∧ Hp S Fa w0 w' [.row true (cInt .u8) 29 A210 c211 r.1] := by
 refine enterV (n := 51) Try.func19 rfl rfl rfl ?_
 intro a E
 replace E := E.pick [(0, .agg #[.int .i64 aProps, .slice A1 (List.length aAccept) c2, .slice A5 (List.length aGuard) c6, .slice A9 (List.length aNodes) c10]), (1, .slice A13 (List.length t) c14)] ⟨rfl, rfl, trivial⟩
 rw [watch_All] at hP
 refine wp_seq ?_
 refine wp_region_lit ?_
 refine h_box H E rfl rfl rfl ?_
 intro w18 g17 a hc19 hg21 H_ E_
 replace E := E_ _ rfl; clear E_
 replace H := H_; clear H_; try dsimp only [setn, addE, goneL] at H
 refine vr tbok 2 [] [(1, .slice A13 (List.length t) c14), (2, .pointer (some ⟨g17, 0, none⟩))] [] E (by kernel_rfl) trivial ?_
 clear E; intro a E
 refine wpList_nil ?_
 refine th_n ?_
 refine wp_seq ?_
 refine wp_seq ?_
 refine wp_region_lit ?_
 refine vr tbok 1 [.agg #[.int .i64 aProps, .slice A1 (List.length aAccept) c2, .slice A5 (List.length aGuard) c6, .slice A9 (List.length aNodes) c10]] [(1, .slice A13 (List.length t) c14), (2, .pointer (some ⟨g17, 0, none⟩)), (14, .agg #[.int .i64 aProps, .slice A1 (List.length aAccept) c2, .slice A5 (List.length aGuard) c6, .slice A9 (List.length aNodes) c10])] [cellsAt w18 g17 (0) [.int .i64 aProps, .slice A1 (List.length aAccept) c2, .slice A5 (List.length aGuard) c6, .slice A9 (List.length aNodes) c10]] E (by kernel_rfl) ((H.box 4 rfl).sub 0 _ rfl) ?_
 clear E; intro a E
 obtain ⟨r22, h23, hP⟩ := bind_inv hP
 obtain ⟨Fa24, Hc25, hb26⟩ := H.call [] [(0, false), (1, false), (2, false)] rfl rfl trivial
 refine e_call E rfl rfl Try.func36 rfl rfl rfl (guard_Check_calls A1 c2 A5 c6 A9 c10 aProps aAccept aGuard aNodes hk3 hk7 hk11 Hc25 h23) ?_
 rintro v27 w28 a ⟨rfl, HR29⟩ E_
 replace E := E_ _ rfl; clear E_
 obtain ⟨H_, hc30⟩ := hb26 _ _ HR29 rfl
 replace H := H_; clear H_; try dsimp only [setn, addE, goneL] at H
 refine vr tbok 1 [] [(1, .slice A13 (List.length t) c14), (2, .pointer (some ⟨g17, 0, none⟩)), (6, .int .i64 r22)] [] E (by kernel_rfl) trivial ?_
 clear E; intro a E
 refine wpList_nil ?_
 refine th_n ?_
 refine wp_seq ?_
 refine wp_region_lit ?_
 refine vr tbok 2 [] [(1, .slice A13 (List.length t) c14), (2, .pointer (some ⟨g17, 0, none⟩)), (6, .int .i64 r22), (17, .bool ((r22 : Int) != 0))] [] E (by kernel_rfl) trivial ?_
 clear E; intro a E
 refine wpList_nil ?_
 refine th_n ?_
 refine E.cases (t := 17) rfl (fun hb_ E_ => ?_) (fun hb_ E_ => ?_)
 ·
  replace E := E_; clear E_
  have h31 : ¬ ((r22 : Int) = 0) := bne_iff_ne.1 hb_
  clear hb_; replace hP := ite_f h31 hP
  refine c_true E rfl ?_
  refine wp_seq ?_
  refine wp_region_lit ?_
  refine vr tbok 3 [] [(4, .slice none 0 0), (5, .int .i64 r22)] [] E (by kernel_rfl) trivial ?_
  clear E; intro a E
  refine wpList_nil ?_
  refine th_n ?_
  refine wp_ret ?_
  refine th_ret ?_
  replace H := H.nilrow (cInt .u8) 29; try dsimp only [setn, addE, goneL] at H
  obtain rfl := Option.some.inj hP
  refine ret2 E rfl rfl rfl ?_
  exact ⟨_, rfl, none, 0, rfl, H.sel [5] rfl⟩
 ·
  replace E := E_; clear E_
  have h33 : (r22 : Int) = 0 := bne_eq_false_iff_eq.1 hb_
  clear hb_; replace hP := ite_t h33 hP
  refine c_false E rfl ?_
  refine wp_skip ?_
  refine th_n ?_
  refine wp_seq ?_
  refine wp_seq ?_
  refine wp_region_lit ?_
  refine vr tbok 3 [.int .i64 aProps] [(1, .slice A13 (List.length t) c14), (2, .pointer (some ⟨g17, 0, none⟩)), (20, .int .i64 aProps), (21, .slice A13 (List.length t) c14)] [World.cell? w28 ⟨g17, 0, none⟩ = some (.int .i64 aProps)] E (by kernel_rfl) ((H.box 4 rfl).cell (j := 0) rfl) ?_
  clear E; intro a E
  obtain ⟨r34, h35, hP⟩ := bind_inv hP
  obtain ⟨Fa36, Hc37, hb38⟩ := H.call [] [(3, false)] rfl rfl trivial
  refine e_call E rfl rfl Try.func37 rfl rfl rfl (letter_Trace_calls A13 c14 aProps t hk15 Hc37 h35) ?_
  rintro v39 w40 a ⟨rfl, HR41⟩ E_
  replace E := E_ _ rfl; clear E_
  obtain ⟨H_, hc42⟩ := hb38 _ _ HR41 rfl
  replace H := H_; clear H_; try dsimp only [setn, addE, goneL] at H
  refine vr tbok 1 [] [(1, .slice A13 (List.length t) c14), (2, .pointer (some ⟨g17, 0, none⟩)), (7, .int .i64 r34)] [] E (by kernel_rfl) trivial ?_
  clear E; intro a E
  refine wpList_nil ?_
  refine th_n ?_
  refine wp_seq ?_
  refine wp_region_lit ?_
  refine vr tbok 2 [] [(1, .slice A13 (List.length t) c14), (2, .pointer (some ⟨g17, 0, none⟩)), (7, .int .i64 r34), (24, .bool ((r34 : Int) != 0))] [] E (by kernel_rfl) trivial ?_
  clear E; intro a E
  refine wpList_nil ?_
  refine th_n ?_
  refine E.cases (t := 24) rfl (fun hb_ E_ => ?_) (fun hb_ E_ => ?_)
  ·
   replace E := E_; clear E_
   have h43 : ¬ ((r34 : Int) = 0) := bne_iff_ne.1 hb_
   clear hb_; replace hP := ite_f h43 hP
   refine c_true E rfl ?_
   refine wp_seq ?_
   refine wp_region_lit ?_
   refine vr tbok 3 [] [(4, .slice none 0 0), (5, .int .i64 r34)] [] E (by kernel_rfl) trivial ?_
   clear E; intro a E
   refine wpList_nil ?_
   refine th_n ?_
   refine wp_ret ?_
   refine th_ret ?_
   replace H := H.nilrow (cInt .u8) 29; try dsimp only [setn, addE, goneL] at H
   obtain rfl := Option.some.inj hP
   refine ret2 E rfl rfl rfl ?_
   exact ⟨_, rfl, none, 0, rfl, H.sel [5] rfl⟩
  ·
   replace E := E_; clear E_
   have h45 : (r34 : Int) = 0 := bne_eq_false_iff_eq.1 hb_
   clear hb_; replace hP := ite_t h45 hP
   refine c_false E rfl ?_
   refine wp_skip ?_
   refine th_n ?_
   refine wp_seq ?_
   refine wp_region_lit ?_
   refine vr tbok 1 [.agg #[.int .i64 aProps, .slice A1 (List.length aAccept) c2, .slice A5 (List.length aGuard) c6, .slice A9 (List.length aNodes) c10]] [(1, .slice A13 (List.length t) c14), (26, .agg #[.int .i64 aProps, .slice A1 (List.length aAccept) c2, .slice A5 (List.length aGuard) c6, .slice A9 (List.length aNodes) c10])] [cellsAt w40 g17 (0) [.int .i64 aProps, .slice A1 (List.length aAccept) c2, .slice A5 (List.length aGuard) c6, .slice A9 (List.length aNodes) c10]] E (by kernel_rfl) ((H.box 4 rfl).sub 0 _ rfl) ?_
   clear E; intro a E
   obtain ⟨r46, h47, hP⟩ := bind_inv hP
   obtain ⟨Fa48, Hc49, hb50⟩ := H.call [] [(0, false), (1, false), (2, false)] rfl rfl trivial
   refine e_call E rfl rfl Try.func38 rfl rfl rfl (watch_made_calls A1 c2 A5 c6 A9 c10 aProps aAccept aGuard aNodes hk3 hk7 hk11 Hc49 h47) ?_
   intro v56 w55 a hR57 E_
   obtain ⟨x_, b60, hr_, rfl, HR59⟩ := hR57
   subst hr_
   replace E := E_ _ rfl; clear E_
   obtain ⟨H_, hc58⟩ := hb50 _ _ HR59 rfl
   replace H := H_; clear H_; try dsimp only [setn, addE, goneL] at H
   refine e_build (ps := [(0, .pointer (some ⟨b60, 0, none⟩))]) (v := .agg #[.pointer (some ⟨b60, 0, none⟩), .slice none 0 0]) E rfl rfl tbok rfl (by kernel_rfl) rfl ?_
   clear E; intro a E
   refine h_box H E rfl rfl rfl ?_
   intro w63 g62 a hc64 hg66 H_ E_
   replace E := E_ _ rfl; clear E_
   replace H := H_; clear H_; try dsimp only [setn, addE, goneL] at H
   refine vr tbok 1 [] [(1, .slice A13 (List.length t) c14), (8, .pointer (some ⟨g62, 0, none⟩))] [] E (by kernel_rfl) trivial ?_
   clear E; intro a E
   refine wpList_nil ?_
   refine th_n ?_
   refine wp_seq ?_
   refine wp_region_lit ?_
   refine vr tbok 1 [] [(1, .slice A13 (List.length t) c14), (8, .pointer (some ⟨g62, 0, none⟩)), (30, .pointer (some ⟨g62, 0, none⟩))] [] E (by kernel_rfl) trivial ?_
   clear E; intro a E
   replace H := H.nilrow (cInt .i64) 3; try dsimp only [setn, addE, goneL] at H
   obtain ⟨r68, h69, hP⟩ := bind_inv hP
   obtain ⟨Fa70, Hc71, hb72⟩ := H.call [6, 7] [(5, false)] rfl rfl ⟨flat_plain, trivial⟩
   refine e_call E rfl rfl Try.func12 rfl rfl rfl (watch_Watch_Verdict_calls g62 b60 0 none 0 r46 []  Hc71 h69) ?_
   intro v78 w77 a hR79 E_
   obtain ⟨x_, hr_, rfl, HR81⟩ := hR79
   subst hr_
   replace E := E_ _ rfl; clear E_
   obtain ⟨H_, hc80⟩ := hb72 _ _ HR81 rfl
   replace H := H_; clear H_; try dsimp only [setn, addE, goneL] at H
   refine h_buildSlice (ps := [(0, .int .u8 r68)]) (cs := [.int .u8 r68]) H E rfl rfl tbok rfl rfl (by kernel_rfl) ?_
   intro w85 g84 a hc86 hg88 H_ E_
   replace E := E_ _ rfl; clear E_
   replace H := H_; clear H_; try dsimp only [setn, addE, goneL] at H
   refine vr tbok 1 [] [(1, .slice A13 (List.length t) c14), (8, .pointer (some ⟨g62, 0, none⟩)), (9, .slice (some ⟨g84, 0, none⟩) 1 1)] [] E (by kernel_rfl) trivial ?_
   clear E; intro a E
   refine wpList_nil ?_
   refine th_n ?_
   refine wp_seq ?_
   refine wp_seq ?_
   refine wp_region_lit ?_
   refine vr tbok 3 [] [(8, .pointer (some ⟨g62, 0, none⟩)), (9, .slice (some ⟨g84, 0, none⟩) 1 1), (33, .slice A13 (List.length t) c14), (34, .int .i64 (((List.length t) : Nat) : Int)), (35, .int .i64 0)] [] E (by kernel_rfl) trivial ?_
   clear E; intro a E
   refine wpList_nil ?_
   refine th_n ?_
   refine wp_block ?_
   obtain ⟨x169, hL170, hK171⟩ := bind_inv hP
   clear hP
   replace H := H.boxRow (cInt .u8) true ([r68] : List Int) 10 rfl (fun _ _ => ⟨_, _, rfl, rfl, rfl⟩) (Nat.le_of_ble_eq_true rfl); try dsimp only [setn, addE, goneL] at H
   replace H := H.rowx 10 rfl; try dsimp only [setn, addE, goneL] at H
   refine loop_cut (fun i_ a w_ => (i_ = 0 ∧ ∃ (x174 : List Int), ∃ (A166 : Option Addr) (c167 : Nat), Fr a 51 [(9, .slice A166 (List.length x174) c167)] ∧ Hp S Fa w0 w_ [.row true (cInt .u8) 29 A166 c167 x174] ∧ x169 = x174)) ?_ ?_
   ·
    refine loopV (fun m173 a w172 => ∃ (w123 : List Int) (out126 : List Int) (x129 : Int), ∃ (A124 : Option Addr) (c125 : Nat) (A127 : Option Addr) (c128 : Nat), Fr a 51 [(8, .pointer (some ⟨g62, 0, none⟩)), (9, .slice A127 (List.length out126) c128), (33, .slice A13 (List.length t) c14), (34, .int .i64 (((List.length t) : Nat) : Int)), (35, .int .i64 x129)] ∧ Hp S Fa w0 w172 [.box g62 27 [.pointer (some ⟨b60, 0, none⟩), .slice A124 (List.length w123) c125], .ro true cS78 (some ⟨b60, 0, none⟩) ([r46]), .row true (cInt .i64) 3 A124 c125 w123, .row true (cInt .u8) 29 A127 c128 out126, .ro false (cInt .u8) A13 t] ∧ watch_All_l0 N t r46 m173 w123 out126 x129 = some x169) N ?_ ?_
    ·
     exact ⟨[], ([r68] : List Int), 0, none, 0, (some ⟨g84, 0, none⟩), (List.length ([r68] : List Int)), E.pick _ ⟨rfl, rfl, rfl, rfl, rfl, trivial⟩, H.sel [9, 5, 8, 10, 3] rfl, hL170⟩
    ·
     clear E H hL170; intro m173 a w172 hI_
     obtain ⟨w123, out126, x129, A124, c125, A127, c128, E, H, hP⟩ := hI_
     obtain ⟨m168, rfl⟩ : ∃ q_, m173 = q_ + 1 := by cases m173 with | zero => rw [watch_All_l0] at hP; cases hP | succ q_ => exact ⟨q_, rfl⟩
     rw [watch_All_l0] at hP
     refine wp_seq ?_
     refine wp_region_lit ?_
     refine vr tbok 1 [] [(8, .pointer (some ⟨g62, 0, none⟩)), (9, .slice A127 (List.length out126) c128), (33, .slice A13 (List.length t) c14), (34, .int .i64 (((List.length t) : Nat) : Int)), (35, .int .i64 x129), (36, .bool (decide (x129 < (((List.length t) : Nat) : Int))))] [] E (by kernel_rfl) trivial ?_
     clear E; intro a E
     refine wpList_nil ?_
     refine th_n ?_
     refine wp_seq ?_
     refine E.cases (t := 36) rfl (fun hb_ E_ => ?_) (fun hb_ E_ => ?_)
     ·
      replace E := E_; clear E_
      have h175 : x129 < (((List.length t) : Nat) : Int) := of_decide_eq_true hb_
      clear hb_; replace hP := ite_t h175 hP
      refine c_true E rfl ?_
      refine wp_skip ?_
      refine th_n ?_
      refine wp_seq ?_
      refine wp_block ?_
      refine wp_seq ?_
      refine wp_region_lit ?_
      obtain ⟨g176, hP⟩ := ask_inv hP
      obtain ⟨b177, o178, e_b177⟩ := (H.rd 4 rds_ro).addr (idx_pos g176)
      subst e_b177
      refine vr tbok 3 [.int .u8 (List.getD t (Int.toNat x129) 0)] [(8, .pointer (some ⟨g62, 0, none⟩)), (9, .slice A127 (List.length out126) c128), (11, .int .u8 (List.getD t (Int.toNat x129) 0)), (33, .slice (some ⟨b177, o178, none⟩) (List.length t) c14), (34, .int .i64 (((List.length t) : Nat) : Int)), (35, .int .i64 x129)] [0 ≤ x129 ∧ x129 < (((List.length t) : Nat) : Int), World.cell? w172 ⟨b177, o178 + (Int.toNat x129) * 1, none⟩ = some (.int .u8 (List.getD t (Int.toNat x129) 0))] E (by kernel_rfl) ⟨g176, Rds.at1 (H.rd 4 rds_ro) 0 g176⟩ ?_
      clear E; intro a E
      refine wpList_nil ?_
      refine th_n ?_
      refine wp_seq ?_
      refine wp_region_lit ?_
      refine vr tbok 2 [] [(8, .pointer (some ⟨g62, 0, none⟩)), (9, .slice A127 (List.length out126) c128), (33, .slice (some ⟨b177, o178, none⟩) (List.length t) c14), (34, .int .i64 (((List.length t) : Nat) : Int)), (35, .int .i64 x129), (40, .pointer (some ⟨g62, 0, none⟩)), (41, .int .u8 (List.getD t (Int.toNat x129) 0))] [] E (by kernel_rfl) trivial ?_
      clear E; intro a E
      obtain ⟨r179, h180, hP⟩ := bind_inv hP
      obtain ⟨Fa181, Hc182, hb183⟩ := H.call [0, 2] [(1, false)] rfl rfl ⟨flat_plain, trivial⟩
      refine e_call E rfl rfl Try.func9 rfl rfl rfl (watch_Watch_Feed_calls g62 b60 0 A124 c125 r46 w123 (List.getD t (Int.toNat x129) 0)  Hc182 h180) ?_
      intro v189 w188 a hR190 E_
      obtain ⟨x_, A193, c194, hr_, rfl, HR192⟩ := hR190
      subst hr_
      replace E := E_ _ rfl; clear E_
      obtain ⟨H_, hc191⟩ := hb183 _ _ HR192 rfl
      replace H := H_; clear H_; try dsimp only [setn, addE, goneL] at H
      refine vr tbok 5 [] [(8, .pointer (some ⟨g62, 0, none⟩)), (9, .slice A127 (List.length out126) c128), (12, .int .u8 r179.1), (33, .slice (some ⟨b177, o178, none⟩) (List.length t) c14), (34, .int .i64 (((List.length t) : Nat) : Int)), (35, .int .i64 x129)] [] E (by kernel_rfl) trivial ?_
      clear E; intro a E
      refine wpList_nil ?_
      refine th_n ?_
      refine wp_region_lit ?_
      refine vr tbok 2 [] [(8, .pointer (some ⟨g62, 0, none⟩)), (33, .slice (some ⟨b177, o178, none⟩) (List.length t) c14), (34, .int .i64 (((List.length t) : Nat) : Int)), (35, .int .i64 x129), (45, .slice A127 (List.length out126) c128), (46, .int .u8 r179.1)] [] E (by kernel_rfl) trivial ?_
      clear E; intro a E
      refine h_buildSlice (ps := [(0, .int .u8 r179.1)]) (cs := [.int .u8 r179.1]) H E rfl rfl tbok rfl rfl (by kernel_rfl) ?_
      intro w198 g197 a hc199 hg201 H_ E_
      replace E := E_ _ rfl; clear E_
      replace H := H_; clear H_; try dsimp only [setn, addE, goneL] at H
      obtain ⟨g202, hP⟩ := ask_inv hP
      refine h_append (cInt .u8) (xs := out126) (ys := ([r179.1] : List Int)) (0 : Int) H 3 rfl E rfl rfl tbok rfl rfl rfl rfl rfl (fun _ _ => rfl) rfl rfl (fun _ HF_ => HF_.srcB 7 rfl (⟨_, _, rfl, rfl, rfl⟩)) g202 ?_
      intro w203 A204 c205 a hc206 hA207 H_ E_
      replace E := E_ _ rfl; clear E_
      replace H := H_; clear H_; try dsimp only [setn, addE, goneL] at H
      refine vr tbok 1 [] [(8, .pointer (some ⟨g62, 0, none⟩)), (9, .slice A204 (List.length (out126 ++ ([r179.1] : List Int))) c205), (33, .slice (some ⟨b177, o178, none⟩) (List.length t) c14), (34, .int .i64 (((List.length t) : Nat) : Int)), (35, .int .i64 x129)] [] E (by kernel_rfl) trivial ?_
      clear E; intro a E
      refine wpList_nil ?_
      refine bl_n ?_
      refine th_n ?_
      refine wp_region_lit ?_
      obtain ⟨g208, hP⟩ := ask_inv hP
      refine vr tbok 2 [.int .i64 (x129 + 1)] [(8, .pointer (some ⟨g62, 0, none⟩)), (9, .slice A204 (List.length (out126 ++ ([r179.1] : List Int))) c205), (33, .slice (some ⟨b177, o178, none⟩) (List.length t) c14), (34, .int .i64 (((List.length t) : Nat) : Int)), (35, .int .i64 (x129 + 1))] [IntKind.i64.wrap (x129 + 1) = x129 + 1] E (by kernel_rfl) (wrap_in g208) ?_
      clear E; intro a E
      refine wpList_nil ?_
      exact th_n ⟨m168, Nat.lt_succ_self _, r179.2.2, out126 ++ ([r179.1] : List Int), x129 + 1, A193, c194, A204, c205, E.pick _ ⟨rfl, rfl, rfl, rfl, rfl, trivial⟩, H.sel [5, 1, 6, 3, 4] rfl, hP⟩
     ·
      replace E := E_; clear E_
      have h209 : ¬ (x129 < (((List.length t) : Nat) : Int)) := of_decide_eq_false hb_
      clear hb_; replace hP := ite_f h209 hP
      refine c_false E rfl ?_
      refine wp_exit ?_
      refine th_exit ?_
      have hx_ := Option.some.inj hP
      refine th_exit (.inl ⟨0, rfl, ?_⟩)
      exact ⟨rfl, out126, A127, c128, E.pick _ ⟨rfl, trivial⟩, H.sel [3] rfl, hx_.symm⟩
   ·
    clear E H hL170; intro i_ a w172 hM_
    obtain ⟨rfl, x174, A166, c167, E, H, hx_⟩ := hM_
    subst hx_; have hP := hK171; clear hK171
    refine bl_hit ?_
    refine th_n ?_
    refine wp_seq ?_
    refine wp_region_lit ?_
    refine vr tbok 3 [] [(4, .slice A166 (List.length x169) c167), (5, .int .i64 0)] [] E (by kernel_rfl) trivial ?_
    clear E; intro a E
    refine wpList_nil ?_
    refine th_n ?_
    refine wp_ret ?_
    obtain rfl := Option.some.inj hP
    refine ret2 E rfl rfl rfl ?_
    exact ⟨_, rfl, A166, c167, rfl, H.sel [0] rfl⟩

/-! rejoinder/rejoinderlaw21.same -/
def law21_same_l0 (N : Nat) (aa : List Int) (b : List Int) : Nat → Int → Option (Unit ⊕ Bool)
  | 0, _ => none
  | m41 + 1, i25 =>
    if i25 < (((List.length aa) : Nat) : Int) then
      ask (idx i25 (List.length aa)) <|
      ask (idx i25 (List.length b)) <|
      if ((List.getD aa (Int.toNat i25) 0) : Int) = (List.getD b (Int.toNat i25) 0) then
        ask (in64 (i25 + 1)) <|
        law21_same_l0 N aa b m41 (i25 + 1)
      else
        some (Sum.inr false)
    else
      some (Sum.inl ())
def law21_same (N : Nat) (aa : List Int) (b : List Int) : Option Bool :=
  if ((((List.length aa) : Nat) : Int) : Int) = (((List.length b) : Nat) : Int) then
    Option.bind (law21_same_l0 N aa b N 0) fun x42 =>
    Sum.elim (fun x47 =>
      some true)
     (fun x63 =>
      some x63) x42
  else
    some false
set_option maxRecDepth 100000 in
set_option maxHeartbeats 4000000 in
theorem law21_same_calls {N : Nat} {S Fa : Nat → Prop} {w0 : World} {r : Bool} (A1 : Option Addr) (c2 : Nat) (A5 : Option Addr) (c6 : Nat) (aa : List Int) (b : List Int) (hk3 : List.length aa ≤ c2) (hk7 : List.length b ≤ c6) (H : Hp S Fa w0 w0 [.ro false (cInt .u8) A1 aa, .ro false (cInt .u8) A5 b]) (hP : law21_same N aa b = some r) :
    Calls Try.prog 23 #[.slice A1 (List.length aa) c2, .slice A5 (List.length b) c6] w0 fun e w' => ∃ v, e = .returned v ∧ v = .bool r ∧ Hp S Fa w0 w' [] := by
 refine enterV (n := 26) Try.func23 rfl rfl rfl ?_
 intro a E
 replace E := E.pick [(0, .slice A1 (List.length aa) c2), (1, .slice A5 (List.length b) c6)] ⟨rfl, rfl, trivial⟩
 rw [law21_same] at hP
 refine wp_seq ?_
 refine wp_region_lit ?_
 refine vr tbok 1 [] [(0, .slice A1 (List.length aa) c2), (1, .slice A5 (List.length b) c6)] [] E (by kernel_rfl) trivial ?_
 clear E; intro a E
 refine wpList_nil ?_
 refine th_n ?_
 refine wp_seq ?_
 refine wp_seq ?_
 refine wp_region_lit ?_
 refine vr tbok 5 [] [(0, .slice A1 (List.length aa) c2), (1, .slice A5 (List.length b) c6), (10, .bool (((((List.length aa) : Nat) : Int) : Int) != (((List.length b) : Nat) : Int)))] [] E (by kernel_rfl) trivial ?_
 clear E; intro a E
 refine wpList_nil ?_
 refine th_n ?_
 refine E.cases (t := 10) rfl (fun hb_ E_ => ?_) (fun hb_ E_ => ?_)
 ·
  replace E := E_; clear E_
  have h9 : ¬ (((((List.length aa) : Nat) : Int) : Int) = (((List.length b) : Nat) : Int)) := bne_iff_ne.1 hb_
  clear hb_; replace hP := ite_f h9 hP
  refine c_true E rfl ?_
  refine wp_seq ?_
  refine wp_region_lit ?_
  refine vr tbok 1 [] [(4, .bool false)] [] E (by kernel_rfl) trivial ?_
  clear E; intro a E
  refine wpList_nil ?_
  refine th_n ?_
  refine wp_ret ?_
  refine th_ret ?_
  obtain rfl := Option.some.inj hP
  refine ret1 E rfl rfl ?_
  exact ⟨_, rfl, rfl, H.sel [] rfl⟩
 ·
  replace E := E_; clear E_
  have h10 : ((((List.length aa) : Nat) : Int) : Int) = (((List.length b) : Nat) : Int) := bne_eq_false_iff_eq.1 hb_
  clear hb_; replace hP := ite_t h10 hP
  refine c_false E rfl ?_
  refine wp_skip ?_
  refine th_n ?_
  refine wp_seq ?_
  refine wp_seq ?_
  refine wp_region_lit ?_
  refine vr tbok 1 [] [(0, .slice A1 (List.length aa) c2), (1, .slice A5 (List.length b) c6), (5, .int .i64 0)] [] E (by kernel_rfl) trivial ?_
  clear E; intro a E
  refine wpList_nil ?_
  refine th_n ?_
  refine wp_block ?_
  obtain ⟨x42, hL43, hK44⟩ := bind_inv hP
  clear hP
  refine loop_cut (fun i_ a w_ => (i_ = 0 ∧ ∃ (x47 : Unit), Fr a 26 [] ∧ Hp S Fa w0 w_ [] ∧ x42 = Sum.inl x47)) ?_ ?_
  ·
   refine loopV (fun m46 a w45 => ∃ (i25 : Int), Fr a 26 [(0, .slice A1 (List.length aa) c2), (1, .slice A5 (List.length b) c6), (5, .int .i64 i25)] ∧ Hp S Fa w0 w45 [.ro false (cInt .u8) A1 aa, .ro false (cInt .u8) A5 b] ∧ law21_same_l0 N aa b m46 i25 = some x42) N ?_ ?_
   ·
    exact ⟨0, E.pick _ ⟨rfl, rfl, rfl, trivial⟩, H.sel [0, 1] rfl, hL43⟩
   ·
    clear E H hL43; intro m46 a w45 hI_
    obtain ⟨i25, E, H, hP⟩ := hI_
    obtain ⟨m41, rfl⟩ : ∃ q_, m46 = q_ + 1 := by cases m46 with | zero => rw [law21_same_l0] at hP; cases hP | succ q_ => exact ⟨q_, rfl⟩
    rw [law21_same_l0] at hP
    refine wp_seq ?_
    refine wp_seq ?_
    refine wp_region_lit ?_
    refine vr tbok 4 [] [(0, .slice A1 (List.length aa) c2), (1, .slice A5 (List.length b) c6), (5, .int .i64 i25), (14, .bool (decide (i25 < (((List.length aa) : Nat) : Int))))] [] E (by kernel_rfl) trivial ?_
    clear E; intro a E
    refine wpList_nil ?_
    refine th_n ?_
    refine E.cases (t := 14) rfl (fun hb_ E_ => ?_) (fun hb_ E_ => ?_)
    ·
     replace E := E_; clear E_
     have h48 : i25 < (((List.length aa) : Nat) : Int) := of_decide_eq_true hb_
     clear hb_; replace hP := ite_t h48 hP
     refine c_true E rfl ?_
     refine wp_skip ?_
     refine th_n ?_
     refine wp_seq ?_
     refine wp_block ?_
     refine wp_seq ?_
     obtain ⟨g49, hP⟩ := ask_inv hP
     obtain ⟨b50, o51, e_b50⟩ := (H.rd 0 rds_ro).addr (idx_pos g49)
     subst e_b50
     obtain ⟨g52, hP⟩ := ask_inv hP
     obtain ⟨b53, o54, e_b53⟩ := (H.rd 1 rds_ro).addr (idx_pos g52)
     subst e_b53
     have HR58 := H
     refine dr_start (S := fun w_ => Chg (atL []) w45 w_) (by kernel_rfl) ?_
     intro w55 hc56
     have HS57 : Chg (atL []) w45 w55 := hc56.mono (fun _ _ h_ => h_.elim)
     replace H := H.ext hc56
     refine dr tbok (by kernel_rfl) [0, 1, 2, 3, 4, 5, 6, 7, 8] [.int .u8 (List.getD aa (Int.toNat i25) 0), .int .u8 (List.getD b (Int.toNat i25) 0)] [(0, .slice (some ⟨b50, o51, none⟩) (List.length aa) c2), (1, .slice (some ⟨b53, o54, none⟩) (List.length b) c6), (5, .int .i64 i25), (25, .bool (((List.getD aa (Int.toNat i25) 0) : Int) != (List.getD b (Int.toNat i25) 0)))] (fun w_ => [0 ≤ i25 ∧ i25 < (((List.length aa) : Nat) : Int), World.cell? w_ ⟨b50, o51 + (Int.toNat i25) * 1, none⟩ = some (.int .u8 (List.getD aa (Int.toNat i25) 0)), 0 ≤ i25 ∧ i25 < (((List.length b) : Nat) : Int), World.cell? w_ ⟨b53, o54 + (Int.toNat i25) * 1, none⟩ = some (.int .u8 (List.getD b (Int.toNat i25) 0))]) 0 E (fun _ _ => by kernel_rfl) (fun w_ hS_ => ⟨g49, Rds.at1 (HR58.rdk [] hS_ 0 rds_ro rfl) 0 g49, g52, Rds.at1 (HR58.rdk [] hS_ 1 rds_ro rfl) 0 g52⟩) (by kernel_rfl) HS57 ?_
     clear E; intro a E
     refine dr_done (by kernel_rfl) ?_
     clear HS57 HR58
     refine th_n ?_
     refine E.cases (t := 25) rfl (fun hb_ E_ => ?_) (fun hb_ E_ => ?_)
     ·
      replace E := E_; clear E_
      have h59 : ¬ (((List.getD aa (Int.toNat i25) 0) : Int) = (List.getD b (Int.toNat i25) 0)) := bne_iff_ne.1 hb_
      clear hb_; replace hP := ite_f h59 hP
      refine c_true E rfl ?_
      refine wp_seq ?_
      refine wp_region_lit ?_
      refine vr tbok 1 [] [(4, .bool false)] [] E (by kernel_rfl) trivial ?_
      clear E; intro a E
      refine wpList_nil ?_
      refine th_n ?_
      refine wp_ret ?_
      refine bl_ret ?_
      refine th_ret ?_
      refine th_ret ?_
      refine .inr ⟨rfl, ?_⟩
      refine bl_ret ?_
      refine th_ret ?_
      have hx_ := Option.some.inj hP; subst hx_
      have hP : some (false) = some r := hK44
      obtain rfl := Option.some.inj hP
      refine ret1 E rfl rfl ?_
      exact ⟨_, rfl, rfl, H.sel [] rfl⟩
     ·
      replace E := E_; clear E_
      have h60 : ((List.getD aa (Int.toNat i25) 0) : Int) = (List.getD b (Int.toNat i25) 0) := bne_eq_false_iff_eq.1 hb_
      clear hb_; replace hP := ite_t h60 hP
      refine c_false E rfl ?_
      refine wp_skip ?_
      refine bl_n ?_
      refine th_n ?_
      refine wp_region_lit ?_
      obtain ⟨g61, hP⟩ := ask_inv hP
      refine vr tbok 3 [.int .i64 (i25 + 1)] [(0, .slice (some ⟨b50, o51, none⟩) (List.length aa) c2), (1, .slice (some ⟨b53, o54, none⟩) (List.length b) c6), (5, .int .i64 (i25 + 1))] [IntKind.i64.wrap (i25 + 1) = i25 + 1] E (by kernel_rfl) (wrap_in g61) ?_
      clear E; intro a E
      refine wpList_nil ?_
      exact th_n ⟨m41, Nat.lt_succ_self _, i25 + 1, E.pick _ ⟨rfl, rfl, rfl, trivial⟩, H.sel [0, 1] rfl, hP⟩
    ·
     replace E := E_; clear E_
     have h62 : ¬ (i25 < (((List.length aa) : Nat) : Int)) := of_decide_eq_false hb_
     clear hb_; replace hP := ite_f h62 hP
     refine c_false E rfl ?_
     refine wp_exit ?_
     refine th_exit ?_
     have hx_ := Option.some.inj hP
     refine th_exit (.inl ⟨0, rfl, ?_⟩)
     exact ⟨rfl, (), E.pick _ trivial, H.sel [] rfl, hx_.symm⟩
  ·
   clear E H hL43; intro i_ a w45 hM_
   obtain ⟨rfl, x47, E, H, hx_⟩ := hM_
   subst hx_; have hP := elim_l hK44
   clear hK44
   refine bl_hit ?_
   refine th_n ?_
   refine wp_seq ?_
   refine wp_region_lit ?_
   refine vr tbok 1 [] [(4, .bool true)] [] E (by kernel_rfl) trivial ?_
   clear E; intro a E
   refine wpList_nil ?_
   refine th_n ?_
   refine wp_ret ?_
   obtain rfl := Option.some.inj hP
   refine ret1 E rfl rfl ?_
   exact ⟨_, rfl, rfl, H.sel [] rfl⟩

/-! rejoinder/rejoinderlaw21.WatchKnown -/
def law21_WatchKnown (N : Nat) : Option Bool :=
  Option.bind (watch_New N 2 ([false, false, true] : List Bool) ([2, -2, -3] : List Int) ([(⟨1, -2, -3⟩ : Nd), (⟨1, -1, -3⟩ : Nd), (⟨0, 0, 1⟩ : Nd)] : List Nd)) fun r16 =>
  Sum.elim (fun x33 =>
    some false)
   (fun x34 =>
    if (x34.2 : Int) = 0 then
      Option.bind (watch_Watch_Off N x34.1 []) fun r40 =>
      Option.bind (watch_Watch_Verdict N x34.1 []) fun r56 =>
      Option.bind (watch_Watch_Feed N x34.1 [] 1) fun r72 =>
      Option.bind (watch_Watch_Feed N x34.1 r72.2.2 2) fun r90 =>
      Option.bind (watch_Watch_Feed N x34.1 r90.2.2 0) fun r108 =>
      Option.bind (watch_Watch_Back N x34.1 r108.2.2) fun r126 =>
      Option.bind (watch_Watch_Back N x34.1 r126.2.2) fun r144 =>
      Option.bind (watch_Watch_Feed N x34.1 r144.2.2 0) fun r162 =>
      Option.bind (watch_Watch_Off N x34.1 r162.2.2) fun r180 =>
      Option.bind (watch_Watch_Feed N x34.1 r162.2.2 4) fun r196 =>
      Option.bind (watch_New N 2 ([false, false, true] : List Bool) ([2, -2, -3] : List Int) ([(⟨1, -2, -3⟩ : Nd), (⟨1, -1, -3⟩ : Nd), (⟨0, 0, 1⟩ : Nd)] : List Nd)) fun r229 =>
      Sum.elim (fun x246 =>
        none)
       (fun x247 =>
        Option.bind (watch_Watch_Back N x247.1 []) fun r251 =>
        Option.bind (watch_Told N 2 ([false, false, true] : List Bool) ([2, -2, -3] : List Int) ([(⟨1, -2, -3⟩ : Nd), (⟨1, -1, -3⟩ : Nd), (⟨0, 0, 1⟩ : Nd)] : List Nd)) fun r284 =>
        Option.bind (watch_All N 2 ([false, false, true] : List Bool) ([2, -2, -3] : List Int) ([(⟨1, -2, -3⟩ : Nd), (⟨1, -1, -3⟩ : Nd), (⟨0, 0, 1⟩ : Nd)] : List Nd) ([1, 2] : List Int)) fun r317 =>
        if (r40.1 : Int) = 1 then
          if (r40.2 : Int) = 0 then
            if (r56 : Int) = 0 then
              if (r72.1 : Int) = 0 then
                if (r72.2.1 : Int) = 0 then
                  if (r90.1 : Int) = 3 then
                    if (r90.2.1 : Int) = 0 then
                      if (r108.1 : Int) = 3 then
                        if (r108.2.1 : Int) = 0 then
                          if (r126.1 : Int) = 3 then
                            if (r126.2.1 : Int) = 0 then
                              if (r144.1 : Int) = 0 then
                                if (r144.2.1 : Int) = 0 then
                                  if (r162.1 : Int) = 2 then
                                    if (r162.2.1 : Int) = 0 then
                                      if (r180.2 : Int) = 6 then
                                        if (r196.2.1 : Int) = 2 then
                                          if (r251.2.1 : Int) = 6 then
                                            if (r284.2 : Int) = 0 then
                                              Option.bind (law21_same N r284.1 ([0, 2, 3] : List Int)) fun r370 =>
                                              if r370 = true then
                                                if (r317.2 : Int) = 0 then
                                                  Option.bind (law21_same N r317.1 ([0, 0, 3] : List Int)) fun r386 =>
                                                  some r386
                                                else
                                                  some false
                                              else
                                                some false
                                            else
                                              some false
                                          else
                                            some false
                                        else
                                          some false
                                      else
                                        some false
                                    else
                                      some false
                                  else
                                    some false
                                else
                                  some false
                              else
                                some false
                            else
                              some false
                          else
                            some false
                        else
                          some false
                      else
                        some false
                    else
                      some false
                  else
                    some false
                else
                  some false
              else
                some false
            else
              some false
          else
            some false
        else
          some false) r229
    else
      some false) r16
set_option maxRecDepth 100000 in
set_option maxHeartbeats 4000000 in
theorem law21_WatchKnown_calls {N : Nat} {S Fa : Nat → Prop} {w0 : World} {r : Bool} (H : Hp S Fa w0 w0 []) (hP : law21_WatchKnown N  = some r) :
    Calls Try.prog 7 #[] w0 fun e w' => ∃ v, e = .returned v ∧ v = .bool r ∧ Hp S Fa w0 w' [] := by
 refine enterV (n := 219) Try.func7 rfl rfl rfl ?_
 intro a E
 replace E := E.pick [] trivial
 rw [law21_WatchKnown] at hP
 refine wp_seq ?_
 refine wp_region_lit ?_
 refine vr tbok 1 [] [] [] E (by kernel_rfl) trivial ?_
 clear E; intro a E
 refine wpList_nil ?_
 refine th_n ?_
 refine wp_seq ?_
 refine wp_region_lit ?_
 refine h_buildSlice (ps := [(0, .bool false), (1, .bool false), (2, .bool true)]) (cs := [.bool false, .bool false, .bool true]) H E rfl rfl tbok rfl rfl (by kernel_rfl) ?_
 intro w2 g1 a hc3 hg5 H_ E_
 replace E := E_ _ rfl; clear E_
 replace H := H_; clear H_; try dsimp only [setn, addE, goneL] at H
 refine h_buildSlice (ps := [(0, .int .i64 2), (1, .int .i64 (-2)), (2, .int .i64 (-3))]) (cs := [.int .i64 2, .int .i64 (-2), .int .i64 (-3)]) H E rfl rfl tbok rfl rfl (by kernel_rfl) ?_
 intro w7 g6 a hc8 hg10 H_ E_
 replace E := E_ _ rfl; clear E_
 replace H := H_; clear H_; try dsimp only [setn, addE, goneL] at H
 refine e_build (ps := [(0, .int .i64 1), (1, .int .i64 (-2)), (2, .int .i64 (-3))]) (v := .agg #[.int .i64 1, .int .i64 (-2), .int .i64 (-3)]) E rfl rfl tbok rfl (by kernel_rfl) rfl ?_
 clear E; intro a E
 refine e_build (ps := [(0, .int .i64 1), (1, .int .i64 (-1)), (2, .int .i64 (-3))]) (v := .agg #[.int .i64 1, .int .i64 (-1), .int .i64 (-3)]) E rfl rfl tbok rfl (by kernel_rfl) rfl ?_
 clear E; intro a E
 refine e_build (ps := [(0, .int .i64 0), (1, .int .i64 0), (2, .int .i64 1)]) (v := .agg #[.int .i64 0, .int .i64 0, .int .i64 1]) E rfl rfl tbok rfl (by kernel_rfl) rfl ?_
 clear E; intro a E
 refine h_buildSlice (ps := [(0, .agg #[.int .i64 1, .int .i64 (-2), .int .i64 (-3)]), (1, .agg #[.int .i64 1, .int .i64 (-1), .int .i64 (-3)]), (2, .agg #[.int .i64 0, .int .i64 0, .int .i64 1])]) (cs := [.int .i64 1, .int .i64 (-2), .int .i64 (-3), .int .i64 1, .int .i64 (-1), .int .i64 (-3), .int .i64 0, .int .i64 0, .int .i64 1]) H E rfl rfl tbok rfl rfl (by kernel_rfl) ?_
 intro w12 g11 a hc13 hg15 H_ E_
 replace E := E_ _ rfl; clear E_
 replace H := H_; clear H_; try dsimp only [setn, addE, goneL] at H
 refine e_build (ps := [(0, .int .i64 2), (1, .slice (some ⟨g1, 0, none⟩) 3 3), (2, .slice (some ⟨g6, 0, none⟩) 3 3), (3, .slice (some ⟨g11, 0, none⟩) 3 3)]) (v := .agg #[.int .i64 2, .slice (some ⟨g1, 0, none⟩) 3 3, .slice (some ⟨g6, 0, none⟩) 3 3, .slice (some ⟨g11, 0, none⟩) 3 3]) E rfl rfl tbok rfl (by kernel_rfl) rfl ?_
 clear E; intro a E
 replace H := H.boxRow cBool true ([false, false, true] : List Bool) 0 rfl (fun _ _ => ⟨_, _, rfl, rfl, ⟨_, _, rfl, rfl, ⟨_, _, rfl, rfl, rfl⟩⟩⟩) (Nat.le_of_ble_eq_true rfl); try dsimp only [setn, addE, goneL] at H
 replace H := H.boxRow (cInt .i64) true ([2, -2, -3] : List Int) 1 rfl (fun _ _ => ⟨_, _, rfl, rfl, ⟨_, _, rfl, rfl, ⟨_, _, rfl, rfl, rfl⟩⟩⟩) (Nat.le_of_ble_eq_true rfl); try dsimp only [setn, addE, goneL] at H
 replace H := H.boxRow cNode true ([(⟨1, -2, -3⟩ : Nd), (⟨1, -1, -3⟩ : Nd), (⟨0, 0, 1⟩ : Nd)] : List Nd) 2 rfl (fun _ _ => ⟨_, _, rfl, rfl, ⟨_, _, rfl, rfl, ⟨_, _, rfl, rfl, rfl⟩⟩⟩) (Nat.le_of_ble_eq_true rfl); try dsimp only [setn, addE, goneL] at H
 obtain ⟨r16, h17, hP⟩ := bind_inv hP
 obtain ⟨Fa18, Hc19, hb20⟩ := H.call [] [(0, false), (1, false), (2, false)] rfl rfl trivial
 refine e_call E rfl rfl Try.func26 rfl rfl rfl (watch_New_calls (some ⟨g1, 0, none⟩) 3 (some ⟨g6, 0, none⟩) 3 (some ⟨g11, 0, none⟩) 3 2 ([false, false, true] : List Bool) ([2, -2, -3] : List Int) ([(⟨1, -2, -3⟩ : Nd), (⟨1, -1, -3⟩ : Nd), (⟨0, 0, 1⟩ : Nd)] : List Nd) (H.rcapx 0 rfl) (H.rcapx 1 rfl) (H.rcapx 2 rfl) Hc19 h17) ?_
 intro v26 w25 a hR27 E_
 rcases hR27 with ⟨x_, hr_, rfl, HR29⟩ | ⟨x_, g30, b31, hr_, rfl, HR32⟩
 ·
  subst hr_; have hP := elim_l hP
  obtain ⟨x33, hxx_⟩ : ∃ y_, y_ = x_ := ⟨_, rfl⟩; subst hxx_
  replace E := E_ _ rfl; clear E_
  obtain ⟨H_, hc28⟩ := hb20 _ _ HR29 rfl
  replace H := H_; clear H_; try dsimp only [setn, addE, goneL] at H
  refine vr tbok 5 [] [(1, .pointer none), (2, .int .i64 x33)] [] E (by kernel_rfl) trivial ?_
  clear E; intro a E
  refine wpList_nil ?_
  refine th_n ?_
  refine wp_seq ?_
  refine wp_seq ?_
  refine wp_region_lit ?_
  refine vr tbok 6 [] [(1, .pointer none), (46, .bool true)] [] E (by kernel_rfl) trivial ?_
  clear E; intro a E
  refine wpList_nil ?_
  refine th_n ?_
  refine c_true E rfl ?_
  refine wp_seq ?_
  refine wp_region_lit ?_
  refine vr tbok 1 [] [(0, .bool false)] [] E (by kernel_rfl) trivial ?_
  clear E; intro a E
  refine wpList_nil ?_
  refine th_n ?_
  refine wp_ret ?_
  refine th_ret ?_
  obtain rfl := Option.some.inj hP
  refine ret1 E rfl rfl ?_
  exact ⟨_, rfl, rfl, H.sel [] rfl⟩
 ·
  subst hr_; have hP := (elim_r hP)
  obtain ⟨x34, hxx_⟩ : ∃ y_, y_ = x_ := ⟨_, rfl⟩; subst hxx_
  replace E := E_ _ rfl; clear E_
  obtain ⟨H_, hc28⟩ := hb20 _ _ HR32 rfl
  replace H := H_; clear H_; try dsimp only [setn, addE, goneL] at H
  refine vr tbok 5 [] [(1, .pointer (some ⟨g30, 0, none⟩)), (2, .int .i64 x34.2)] [] E (by kernel_rfl) trivial ?_
  clear E; intro a E
  refine wpList_nil ?_
  refine th_n ?_
  refine wp_seq ?_
  refine wp_seq ?_
  refine wp_region_lit ?_
  refine vr tbok 6 [] [(1, .pointer (some ⟨g30, 0, none⟩)), (46, .bool ((x34.2 : Int) != 0))] [] E (by kernel_rfl) trivial ?_
  clear E; intro a E
  refine wpList_nil ?_
  refine th_n ?_
  refine E.cases (t := 46) rfl (fun hb_ E_ => ?_) (fun hb_ E_ => ?_)
  ·
   replace E := E_; clear E_
   have h37 : ¬ ((x34.2 : Int) = 0) := bne_iff_ne.1 hb_
   clear hb_; replace hP := ite_f h37 hP
   refine c_true E rfl ?_
   refine wp_seq ?_
   refine wp_region_lit ?_
   refine vr tbok 1 [] [(0, .bool false)] [] E (by kernel_rfl) trivial ?_
   clear E; intro a E
   refine wpList_nil ?_
   refine th_n ?_
   refine wp_ret ?_
   refine th_ret ?_
   obtain rfl := Option.some.inj hP
   refine ret1 E rfl rfl ?_
   exact ⟨_, rfl, rfl, H.sel [] rfl⟩
  ·
   replace E := E_; clear E_
   have h38 : (x34.2 : Int) = 0 := bne_eq_false_iff_eq.1 hb_
   clear hb_; replace hP := ite_t h38 hP
   refine c_false E rfl ?_
   refine wp_skip ?_
   refine th_n ?_
   refine wp_seq ?_
   refine wp_region_lit ?_
   refine vr tbok 1 [] [(1, .pointer (some ⟨g30, 0, none⟩)), (48, .pointer (some ⟨g30, 0, none⟩))] [] E (by kernel_rfl) trivial ?_
   clear E; intro a E
   replace H := H.nilrow (cInt .i64) 3; try dsimp only [setn, addE, goneL] at H
   obtain ⟨r40, h41, hP⟩ := bind_inv hP
   obtain ⟨Fa42, Hc43, hb44⟩ := H.call [3, 5] [(4, false)] rfl rfl ⟨flat_plain, trivial⟩
   refine e_call E rfl rfl Try.func11 rfl rfl rfl (watch_Watch_Off_calls g30 b31 0 none 0 x34.1 []  Hc43 h41) ?_
   intro v50 w49 a hR51 E_
   obtain ⟨x_, hr_, rfl, HR53⟩ := hR51
   subst hr_
   replace E := E_ _ rfl; clear E_
   obtain ⟨H_, hc52⟩ := hb44 _ _ HR53 rfl
   replace H := H_; clear H_; try dsimp only [setn, addE, goneL] at H
   refine vr tbok 5 [] [(1, .pointer (some ⟨g30, 0, none⟩)), (3, .int .i64 r40.1), (4, .int .i64 r40.2)] [] E (by kernel_rfl) trivial ?_
   clear E; intro a E
   refine wpList_nil ?_
   refine th_n ?_
   refine wp_seq ?_
   refine wp_region_lit ?_
   refine vr tbok 1 [] [(1, .pointer (some ⟨g30, 0, none⟩)), (3, .int .i64 r40.1), (4, .int .i64 r40.2), (52, .pointer (some ⟨g30, 0, none⟩))] [] E (by kernel_rfl) trivial ?_
   clear E; intro a E
   obtain ⟨r56, h57, hP⟩ := bind_inv hP
   obtain ⟨Fa58, Hc59, hb60⟩ := H.call [7, 6] [(4, false)] rfl rfl ⟨flat_plain, trivial⟩
   refine e_call E rfl rfl Try.func12 rfl rfl rfl (watch_Watch_Verdict_calls g30 b31 0 none 0 x34.1 []  Hc59 h57) ?_
   intro v66 w65 a hR67 E_
   obtain ⟨x_, hr_, rfl, HR69⟩ := hR67
   subst hr_
   replace E := E_ _ rfl; clear E_
   obtain ⟨H_, hc68⟩ := hb60 _ _ HR69 rfl
   replace H := H_; clear H_; try dsimp only [setn, addE, goneL] at H
   refine vr tbok 1 [] [(1, .pointer (some ⟨g30, 0, none⟩)), (3, .int .i64 r40.1), (4, .int .i64 r40.2), (5, .int .u8 r56)] [] E (by kernel_rfl) trivial ?_
   clear E; intro a E
   refine wpList_nil ?_
   refine th_n ?_
   refine wp_seq ?_
   refine wp_region_lit ?_
   refine vr tbok 1 [] [(1, .pointer (some ⟨g30, 0, none⟩)), (3, .int .i64 r40.1), (4, .int .i64 r40.2), (5, .int .u8 r56), (55, .pointer (some ⟨g30, 0, none⟩))] [] E (by kernel_rfl) trivial ?_
   clear E; intro a E
   obtain ⟨r72, h73, hP⟩ := bind_inv hP
   obtain ⟨Fa74, Hc75, hb76⟩ := H.call [9, 8] [(4, false)] rfl rfl ⟨flat_plain, trivial⟩
   refine e_call E rfl rfl Try.func9 rfl rfl rfl (watch_Watch_Feed_calls g30 b31 0 none 0 x34.1 [] 1  Hc75 h73) ?_
   intro v82 w81 a hR83 E_
   obtain ⟨x_, A86, c87, hr_, rfl, HR85⟩ := hR83
   subst hr_
   replace E := E_ _ rfl; clear E_
   obtain ⟨H_, hc84⟩ := hb76 _ _ HR85 rfl
   replace H := H_; clear H_; try dsimp only [setn, addE, goneL] at H
   refine vr tbok 5 [] [(1, .pointer (some ⟨g30, 0, none⟩)), (3, .int .i64 r40.1), (4, .int .i64 r40.2), (5, .int .u8 r56), (6, .int .u8 r72.1), (7, .int .i64 r72.2.1)] [] E (by kernel_rfl) trivial ?_
   clear E; intro a E
   refine wpList_nil ?_
   refine th_n ?_
   refine wp_seq ?_
   refine wp_region_lit ?_
   refine vr tbok 1 [] [(1, .pointer (some ⟨g30, 0, none⟩)), (3, .int .i64 r40.1), (4, .int .i64 r40.2), (5, .int .u8 r56), (6, .int .u8 r72.1), (7, .int .i64 r72.2.1), (60, .pointer (some ⟨g30, 0, none⟩))] [] E (by kernel_rfl) trivial ?_
   clear E; intro a E
   obtain ⟨r90, h91, hP⟩ := bind_inv hP
   obtain ⟨Fa92, Hc93, hb94⟩ := H.call [10, 11] [(4, false)] rfl rfl ⟨flat_plain, trivial⟩
   refine e_call E rfl rfl Try.func9 rfl rfl rfl (watch_Watch_Feed_calls g30 b31 0 A86 c87 x34.1 r72.2.2 2  Hc93 h91) ?_
   intro v100 w99 a hR101 E_
   obtain ⟨x_, A104, c105, hr_, rfl, HR103⟩ := hR101
   subst hr_
   replace E := E_ _ rfl; clear E_
   obtain ⟨H_, hc102⟩ := hb94 _ _ HR103 rfl
   replace H := H_; clear H_; try dsimp only [setn, addE, goneL] at H
   refine vr tbok 5 [] [(1, .pointer (some ⟨g30, 0, none⟩)), (3, .int .i64 r40.1), (4, .int .i64 r40.2), (5, .int .u8 r56), (6, .int .u8 r72.1), (7, .int .i64 r72.2.1), (8, .int .u8 r90.1), (9, .int .i64 r90.2.1)] [] E (by kernel_rfl) trivial ?_
   clear E; intro a E
   refine wpList_nil ?_
   refine th_n ?_
   refine wp_seq ?_
   refine wp_region_lit ?_
   refine vr tbok 1 [] [(1, .pointer (some ⟨g30, 0, none⟩)), (3, .int .i64 r40.1), (4, .int .i64 r40.2), (5, .int .u8 r56), (6, .int .u8 r72.1), (7, .int .i64 r72.2.1), (8, .int .u8 r90.1), (9, .int .i64 r90.2.1), (65, .pointer (some ⟨g30, 0, none⟩))] [] E (by kernel_rfl) trivial ?_
   clear E; intro a E
   obtain ⟨r108, h109, hP⟩ := bind_inv hP
   obtain ⟨Fa110, Hc111, hb112⟩ := H.call [12, 13] [(4, false)] rfl rfl ⟨flat_plain, trivial⟩
   refine e_call E rfl rfl Try.func9 rfl rfl rfl (watch_Watch_Feed_calls g30 b31 0 A104 c105 x34.1 r90.2.2 0  Hc111 h109) ?_
   intro v118 w117 a hR119 E_
   obtain ⟨x_, A122, c123, hr_, rfl, HR121⟩ := hR119
   subst hr_
   replace E := E_ _ rfl; clear E_
   obtain ⟨H_, hc120⟩ := hb112 _ _ HR121 rfl
   replace H := H_; clear H_; try dsimp only [setn, addE, goneL] at H
   refine vr tbok 5 [] [(1, .pointer (some ⟨g30, 0, none⟩)), (3, .int .i64 r40.1), (4, .int .i64 r40.2), (5, .int .u8 r56), (6, .int .u8 r72.1), (7, .int .i64 r72.2.1), (8, .int .u8 r90.1), (9, .int .i64 r90.2.1), (10, .int .u8 r108.1), (11, .int .i64 r108.2.1)] [] E (by kernel_rfl) trivial ?_
   clear E; intro a E
   refine wpList_nil ?_
   refine th_n ?_
   refine wp_seq ?_
   refine wp_region_lit ?_
   refine vr tbok 1 [] [(1, .pointer (some ⟨g30, 0, none⟩)), (3, .int .i64 r40.1), (4, .int .i64 r40.2), (5, .int .u8 r56), (6, .int .u8 r72.1), (7, .int .i64 r72.2.1), (8, .int .u8 r90.1), (9, .int .i64 r90.2.1), (10, .int .u8 r108.1), (11, .int .i64 r108.2.1), (70, .pointer (some ⟨g30, 0, none⟩))] [] E (by kernel_rfl) trivial ?_
   clear E; intro a E
   obtain ⟨r126, h127, hP⟩ := bind_inv hP
   obtain ⟨Fa128, Hc129, hb130⟩ := H.call [14, 15] [(4, false)] rfl rfl ⟨flat_plain, trivial⟩
   refine e_call E rfl rfl Try.func10 rfl rfl rfl (watch_Watch_Back_calls g30 b31 0 A122 c123 x34.1 r108.2.2  Hc129 h127) ?_
   intro v136 w135 a hR137 E_
   obtain ⟨x_, A140, c141, hr_, rfl, HR139⟩ := hR137
   subst hr_
   replace E := E_ _ rfl; clear E_
   obtain ⟨H_, hc138⟩ := hb130 _ _ HR139 rfl
   replace H := H_; clear H_; try dsimp only [setn, addE, goneL] at H
   refine vr tbok 5 [] [(1, .pointer (some ⟨g30, 0, none⟩)), (3, .int .i64 r40.1), (4, .int .i64 r40.2), (5, .int .u8 r56), (6, .int .u8 r72.1), (7, .int .i64 r72.2.1), (8, .int .u8 r90.1), (9, .int .i64 r90.2.1), (10, .int .u8 r108.1), (11, .int .i64 r108.2.1), (12, .int .u8 r126.1), (13, .int .i64 r126.2.1)] [] E (by kernel_rfl) trivial ?_
   clear E; intro a E
   refine wpList_nil ?_
   refine th_n ?_
   refine wp_seq ?_
   refine wp_region_lit ?_
   refine vr tbok 1 [] [(1, .pointer (some ⟨g30, 0, none⟩)), (3, .int .i64 r40.1), (4, .int .i64 r40.2), (5, .int .u8 r56), (6, .int .u8 r72.1), (7, .int .i64 r72.2.1), (8, .int .u8 r90.1), (9, .int .i64 r90.2.1), (10, .int .u8 r108.1), (11, .int .i64 r108.2.1), (12, .int .u8 r126.1), (13, .int .i64 r126.2.1), (75, .pointer (some ⟨g30, 0, none⟩))] [] E (by kernel_rfl) trivial ?_
   clear E; intro a E
   obtain ⟨r144, h145, hP⟩ := bind_inv hP
   obtain ⟨Fa146, Hc147, hb148⟩ := H.call [16, 17] [(4, false)] rfl rfl ⟨flat_plain, trivial⟩
   refine e_call E rfl rfl Try.func10 rfl rfl rfl (watch_Watch_Back_calls g30 b31 0 A140 c141 x34.1 r126.2.2  Hc147 h145) ?_
   intro v154 w153 a hR155 E_
   obtain ⟨x_, A158, c159, hr_, rfl, HR157⟩ := hR155
   subst hr_
   replace E := E_ _ rfl; clear E_
   obtain ⟨H_, hc156⟩ := hb148 _ _ HR157 rfl
   replace H := H_; clear H_; try dsimp only [setn, addE, goneL] at H
   refine vr tbok 5 [] [(1, .pointer (some ⟨g30, 0, none⟩)), (3, .int .i64 r40.1), (4, .int .i64 r40.2), (5, .int .u8 r56), (6, .int .u8 r72.1), (7, .int .i64 r72.2.1), (8, .int .u8 r90.1), (9, .int .i64 r90.2.1), (10, .int .u8 r108.1), (11, .int .i64 r108.2.1), (12, .int .u8 r126.1), (13, .int .i64 r126.2.1), (14, .int .u8 r144.1), (15, .int .i64 r144.2.1)] [] E (by kernel_rfl) trivial ?_
   clear E; intro a E
   refine wpList_nil ?_
   refine th_n ?_
   refine wp_seq ?_
   refine wp_region_lit ?_
   refine vr tbok 1 [] [(1, .pointer (some ⟨g30, 0, none⟩)), (3, .int .i64 r40.1), (4, .int .i64 r40.2), (5, .int .u8 r56), (6, .int .u8 r72.1), (7, .int .i64 r72.2.1), (8, .int .u8 r90.1), (9, .int .i64 r90.2.1), (10, .int .u8 r108.1), (11, .int .i64 r108.2.1), (12, .int .u8 r126.1), (13, .int .i64 r126.2.1), (14, .int .u8 r144.1), (15, .int .i64 r144.2.1), (80, .pointer (some ⟨g30, 0, none⟩))] [] E (by kernel_rfl) trivial ?_
   clear E; intro a E
   obtain ⟨r162, h163, hP⟩ := bind_inv hP
   obtain ⟨Fa164, Hc165, hb166⟩ := H.call [18, 19] [(4, false)] rfl rfl ⟨flat_plain, trivial⟩
   refine e_call E rfl rfl Try.func9 rfl rfl rfl (watch_Watch_Feed_calls g30 b31 0 A158 c159 x34.1 r144.2.2 0  Hc165 h163) ?_
   intro v172 w171 a hR173 E_
   obtain ⟨x_, A176, c177, hr_, rfl, HR175⟩ := hR173
   subst hr_
   replace E := E_ _ rfl; clear E_
   obtain ⟨H_, hc174⟩ := hb166 _ _ HR175 rfl
   replace H := H_; clear H_; try dsimp only [setn, addE, goneL] at H
   refine vr tbok 5 [] [(1, .pointer (some ⟨g30, 0, none⟩)), (3, .int .i64 r40.1), (4, .int .i64 r40.2), (5, .int .u8 r56), (6, .int .u8 r72.1), (7, .int .i64 r72.2.1), (8, .int .u8 r90.1), (9, .int .i64 r90.2.1), (10, .int .u8 r108.1), (11, .int .i64 r108.2.1), (12, .int .u8 r126.1), (13, .int .i64 r126.2.1), (14, .int .u8 r144.1), (15, .int .i64 r144.2.1), (16, .int .u8 r162.1), (17, .int .i64 r162.2.1)] [] E (by kernel_rfl) trivial ?_
   clear E; intro a E
   refine wpList_nil ?_
   refine th_n ?_
   refine wp_seq ?_
   refine wp_region_lit ?_
   refine vr tbok 1 [] [(1, .pointer (some ⟨g30, 0, none⟩)), (3, .int .i64 r40.1), (4, .int .i64 r40.2), (5, .int .u8 r56), (6, .int .u8 r72.1), (7, .int .i64 r72.2.1), (8, .int .u8 r90.1), (9, .int .i64 r90.2.1), (10, .int .u8 r108.1), (11, .int .i64 r108.2.1), (12, .int .u8 r126.1), (13, .int .i64 r126.2.1), (14, .int .u8 r144.1), (15, .int .i64 r144.2.1), (16, .int .u8 r162.1), (17, .int .i64 r162.2.1), (85, .pointer (some ⟨g30, 0, none⟩))] [] E (by kernel_rfl) trivial ?_
   clear E; intro a E
   obtain ⟨r180, h181, hP⟩ := bind_inv hP
   obtain ⟨Fa182, Hc183, hb184⟩ := H.call [20, 21] [(4, false)] rfl rfl ⟨flat_plain, trivial⟩
   refine e_call E rfl rfl Try.func11 rfl rfl rfl (watch_Watch_Off_calls g30 b31 0 A176 c177 x34.1 r162.2.2  Hc183 h181) ?_
   intro v190 w189 a hR191 E_
   obtain ⟨x_, hr_, rfl, HR193⟩ := hR191
   subst hr_
   replace E := E_ _ rfl; clear E_
   obtain ⟨H_, hc192⟩ := hb184 _ _ HR193 rfl
   replace H := H_; clear H_; try dsimp only [setn, addE, goneL] at H
   refine vr tbok 5 [] [(1, .pointer (some ⟨g30, 0, none⟩)), (3, .int .i64 r40.1), (4, .int .i64 r40.2), (5, .int .u8 r56), (6, .int .u8 r72.1), (7, .int .i64 r72.2.1), (8, .int .u8 r90.1), (9, .int .i64 r90.2.1), (10, .int .u8 r108.1), (11, .int .i64 r108.2.1), (12, .int .u8 r126.1), (13, .int .i64 r126.2.1), (14, .int .u8 r144.1), (15, .int .i64 r144.2.1), (16, .int .u8 r162.1), (17, .int .i64 r162.2.1), (19, .int .i64 r180.2)] [] E (by kernel_rfl) trivial ?_
   clear E; intro a E
   refine wpList_nil ?_
   refine th_n ?_
   refine wp_seq ?_
   refine wp_region_lit ?_
   refine vr tbok 1 [] [(3, .int .i64 r40.1), (4, .int .i64 r40.2), (5, .int .u8 r56), (6, .int .u8 r72.1), (7, .int .i64 r72.2.1), (8, .int .u8 r90.1), (9, .int .i64 r90.2.1), (10, .int .u8 r108.1), (11, .int .i64 r108.2.1), (12, .int .u8 r126.1), (13, .int .i64 r126.2.1), (14, .int .u8 r144.1), (15, .int .i64 r144.2.1), (16, .int .u8 r162.1), (17, .int .i64 r162.2.1), (19, .int .i64 r180.2), (90, .pointer (some ⟨g30, 0, none⟩))] [] E (by kernel_rfl) trivial ?_
   clear E; intro a E
   obtain ⟨r196, h197, hP⟩ := bind_inv hP
   obtain ⟨Fa198, Hc199, hb200⟩ := H.call [23, 22] [(4, false)] rfl rfl ⟨flat_plain, trivial⟩
   refine e_call E rfl rfl Try.func9 rfl rfl rfl (watch_Watch_Feed_calls g30 b31 0 A176 c177 x34.1 r162.2.2 4  Hc199 h197) ?_
   intro v206 w205 a hR207 E_
   obtain ⟨x_, A210, c211, hr_, rfl, HR209⟩ := hR207
   subst hr_
   replace E := E_ _ rfl; clear E_
   obtain ⟨H_, hc208⟩ := hb200 _ _ HR209 rfl
   replace H := H_; clear H_; try dsimp only [setn, addE, goneL] at H
   refine vr tbok 5 [] [(3, .int .i64 r40.1), (4, .int .i64 r40.2), (5, .int .u8 r56), (6, .int .u8 r72.1), (7, .int .i64 r72.2.1), (8, .int .u8 r90.1), (9, .int .i64 r90.2.1), (10, .int .u8 r108.1), (11, .int .i64 r108.2.1), (12, .int .u8 r126.1), (13, .int .i64 r126.2.1), (14, .int .u8 r144.1), (15, .int .i64 r144.2.1), (16, .int .u8 r162.1), (17, .int .i64 r162.2.1), (19, .int .i64 r180.2), (21, .int .i64 r196.2.1)] [] E (by kernel_rfl) trivial ?_
   clear E; intro a E
   refine wpList_nil ?_
   refine th_n ?_
   refine wp_seq ?_
   refine wp_region_lit ?_
   refine h_buildSlice (ps := [(0, .bool false), (1, .bool false), (2, .bool true)]) (cs := [.bool false, .bool false, .bool true]) H E rfl rfl tbok rfl rfl (by kernel_rfl) ?_
   intro w215 g214 a hc216 hg218 H_ E_
   replace E := E_ _ rfl; clear E_
   replace H := H_; clear H_; try dsimp only [setn, addE, goneL] at H
   refine h_buildSlice (ps := [(0, .int .i64 2), (1, .int .i64 (-2)), (2, .int .i64 (-3))]) (cs := [.int .i64 2, .int .i64 (-2), .int .i64 (-3)]) H E rfl rfl tbok rfl rfl (by kernel_rfl) ?_
   intro w220 g219 a hc221 hg223 H_ E_
   replace E := E_ _ rfl; clear E_
   replace H := H_; clear H_; try dsimp only [setn, addE, goneL] at H
   refine e_build (ps := [(0, .int .i64 1), (1, .int .i64 (-2)), (2, .int .i64 (-3))]) (v := .agg #[.int .i64 1, .int .i64 (-2), .int .i64 (-3)]) E rfl rfl tbok rfl (by kernel_rfl) rfl ?_
   clear E; intro a E
   refine e_build (ps := [(0, .int .i64 1), (1, .int .i64 (-1)), (2, .int .i64 (-3))]) (v := .agg #[.int .i64 1, .int .i64 (-1), .int .i64 (-3)]) E rfl rfl tbok rfl (by kernel_rfl) rfl ?_
   clear E; intro a E
   refine e_build (ps := [(0, .int .i64 0), (1, .int .i64 0), (2, .int .i64 1)]) (v := .agg #[.int .i64 0, .int .i64 0, .int .i64 1]) E rfl rfl tbok rfl (by kernel_rfl) rfl ?_
   clear E; intro a E
   refine h_buildSlice (ps := [(0, .agg #[.int .i64 1, .int .i64 (-2), .int .i64 (-3)]), (1, .agg #[.int .i64 1, .int .i64 (-1), .int .i64 (-3)]), (2, .agg #[.int .i64 0, .int .i64 0, .int .i64 1])]) (cs := [.int .i64 1, .int .i64 (-2), .int .i64 (-3), .int .i64 1, .int .i64 (-1), .int .i64 (-3), .int .i64 0, .int .i64 0, .int .i64 1]) H E rfl rfl tbok rfl rfl (by kernel_rfl) ?_
   intro w225 g224 a hc226 hg228 H_ E_
   replace E := E_ _ rfl; clear E_
   replace H := H_; clear H_; try dsimp only [setn, addE, goneL] at H
   refine e_build (ps := [(0, .int .i64 2), (1, .slice (some ⟨g214, 0, none⟩) 3 3), (2, .slice (some ⟨g219, 0, none⟩) 3 3), (3, .slice (some ⟨g224, 0, none⟩) 3 3)]) (v := .agg #[.int .i64 2, .slice (some ⟨g214, 0, none⟩) 3 3, .slice (some ⟨g219, 0, none⟩) 3 3, .slice (some ⟨g224, 0, none⟩) 3 3]) E rfl rfl tbok rfl (by kernel_rfl) rfl ?_
   clear E; intro a E
   replace H := H.boxRow cBool true ([false, false, true] : List Bool) 26 rfl (fun _ _ => ⟨_, _, rfl, rfl, ⟨_, _, rfl, rfl, ⟨_, _, rfl, rfl, rfl⟩⟩⟩) (Nat.le_of_ble_eq_true rfl); try dsimp only [setn, addE, goneL] at H
   replace H := H.boxRow (cInt .i64) true ([2, -2, -3] : List Int) 27 rfl (fun _ _ => ⟨_, _, rfl, rfl, ⟨_, _, rfl, rfl, ⟨_, _, rfl, rfl, rfl⟩⟩⟩) (Nat.le_of_ble_eq_true rfl); try dsimp only [setn, addE, goneL] at H
   replace H := H.boxRow cNode true ([(⟨1, -2, -3⟩ : Nd), (⟨1, -1, -3⟩ : Nd), (⟨0, 0, 1⟩ : Nd)] : List Nd) 28 rfl (fun _ _ => ⟨_, _, rfl, rfl, ⟨_, _, rfl, rfl, ⟨_, _, rfl, rfl, rfl⟩⟩⟩) (Nat.le_of_ble_eq_true rfl); try dsimp only [setn, addE, goneL] at H
   obtain ⟨r229, h230, hP⟩ := bind_inv hP
   obtain ⟨Fa231, Hc232, hb233⟩ := H.call [] [(26, false), (27, false), (28, false)] rfl rfl trivial
   refine e_call E rfl rfl Try.func26 rfl rfl rfl (watch_New_calls (some ⟨g214, 0, none⟩) 3 (some ⟨g219, 0, none⟩) 3 (some ⟨g224, 0, none⟩) 3 2 ([false, false, true] : List Bool) ([2, -2, -3] : List Int) ([(⟨1, -2, -3⟩ : Nd), (⟨1, -1, -3⟩ : Nd), (⟨0, 0, 1⟩ : Nd)] : List Nd) (H.rcapx 26 rfl) (H.rcapx 27 rfl) (H.rcapx 28 rfl) Hc232 h230) ?_
   intro v239 w238 a hR240 E_
   rcases hR240 with ⟨x_, hr_, rfl, HR242⟩ | ⟨x_, g243, b244, hr_, rfl, HR245⟩
   ·
    subst hr_; have hP := elim_l hP
    obtain ⟨x246, hxx_⟩ : ∃ y_, y_ = x_ := ⟨_, rfl⟩; subst hxx_
    replace E := E_ _ rfl; clear E_
    exact none_inv hP
    -- STOPPED: no object is handed on (nilptr)
   ·
    subst hr_; have hP := (elim_r hP)
    obtain ⟨x247, hxx_⟩ : ∃ y_, y_ = x_ := ⟨_, rfl⟩; subst hxx_
    replace E := E_ _ rfl; clear E_
    obtain ⟨H_, hc241⟩ := hb233 _ _ HR245 rfl
    replace H := H_; clear H_; try dsimp only [setn, addE, goneL] at H
    refine vr tbok 5 [] [(3, .int .i64 r40.1), (4, .int .i64 r40.2), (5, .int .u8 r56), (6, .int .u8 r72.1), (7, .int .i64 r72.2.1), (8, .int .u8 r90.1), (9, .int .i64 r90.2.1), (10, .int .u8 r108.1), (11, .int .i64 r108.2.1), (12, .int .u8 r126.1), (13, .int .i64 r126.2.1), (14, .int .u8 r144.1), (15, .int .i64 r144.2.1), (16, .int .u8 r162.1), (17, .int .i64 r162.2.1), (19, .int .i64 r180.2), (21, .int .i64 r196.2.1), (22, .pointer (some ⟨g243, 0, none⟩))] [] E (by kernel_rfl) trivial ?_
    clear E; intro a E
    refine wpList_nil ?_
    refine th_n ?_
    refine wp_seq ?_
    refine wp_region_lit ?_
    refine vr tbok 1 [] [(3, .int .i64 r40.1), (4, .int .i64 r40.2), (5, .int .u8 r56), (6, .int .u8 r72.1), (7, .int .i64 r72.2.1), (8, .int .u8 r90.1), (9, .int .i64 r90.2.1), (10, .int .u8 r108.1), (11, .int .i64 r108.2.1), (12, .int .u8 r126.1), (13, .int .i64 r126.2.1), (14, .int .u8 r144.1), (15, .int .i64 r144.2.1), (16, .int .u8 r162.1), (17, .int .i64 r162.2.1), (19, .int .i64 r180.2), (21, .int .i64 r196.2.1), (106, .pointer (some ⟨g243, 0, none⟩))] [] E (by kernel_rfl) trivial ?_
    clear E; intro a E
    replace H := H.nilrow (cInt .i64) 3; try dsimp only [setn, addE, goneL] at H
    obtain ⟨r251, h252, hP⟩ := bind_inv hP
    obtain ⟨Fa253, Hc254, hb255⟩ := H.call [29, 31] [(30, false)] rfl rfl ⟨flat_plain, trivial⟩
    refine e_call E rfl rfl Try.func10 rfl rfl rfl (watch_Watch_Back_calls g243 b244 0 none 0 x247.1 []  Hc254 h252) ?_
    intro v261 w260 a hR262 E_
    obtain ⟨x_, A265, c266, hr_, rfl, HR264⟩ := hR262
    subst hr_
    replace E := E_ _ rfl; clear E_
    obtain ⟨H_, hc263⟩ := hb255 _ _ HR264 rfl
    replace H := H_; clear H_; try dsimp only [setn, addE, goneL] at H
    refine vr tbok 5 [] [(3, .int .i64 r40.1), (4, .int .i64 r40.2), (5, .int .u8 r56), (6, .int .u8 r72.1), (7, .int .i64 r72.2.1), (8, .int .u8 r90.1), (9, .int .i64 r90.2.1), (10, .int .u8 r108.1), (11, .int .i64 r108.2.1), (12, .int .u8 r126.1), (13, .int .i64 r126.2.1), (14, .int .u8 r144.1), (15, .int .i64 r144.2.1), (16, .int .u8 r162.1), (17, .int .i64 r162.2.1), (19, .int .i64 r180.2), (21, .int .i64 r196.2.1), (25, .int .i64 r251.2.1)] [] E (by kernel_rfl) trivial ?_
    clear E; intro a E
    refine wpList_nil ?_
    refine th_n ?_
    refine wp_seq ?_
    refine wp_region_lit ?_
    refine h_buildSlice (ps := [(0, .bool false), (1, .bool false), (2, .bool true)]) (cs := [.bool false, .bool false, .bool true]) H E rfl rfl tbok rfl rfl (by kernel_rfl) ?_
    intro w270 g269 a hc271 hg273 H_ E_
    replace E := E_ _ rfl; clear E_
    replace H := H_; clear H_; try dsimp only [setn, addE, goneL] at H
    refine h_buildSlice (ps := [(0, .int .i64 2), (1, .int .i64 (-2)), (2, .int .i64 (-3))]) (cs := [.int .i64 2, .int .i64 (-2), .int .i64 (-3)]) H E rfl rfl tbok rfl rfl (by kernel_rfl) ?_
    intro w275 g274 a hc276 hg278 H_ E_
    replace E := E_ _ rfl; clear E_
    replace H := H_; clear H_; try dsimp only [setn, addE, goneL] at H
    refine e_build (ps := [(0, .int .i64 1), (1, .int .i64 (-2)), (2, .int .i64 (-3))]) (v := .agg #[.int .i64 1, .int .i64 (-2), .int .i64 (-3)]) E rfl rfl tbok rfl (by kernel_rfl) rfl ?_
    clear E; intro a E
    refine e_build (ps := [(0, .int .i64 1), (1, .int .i64 (-1)), (2, .int .i64 (-3))]) (v := .agg #[.int .i64 1, .int .i64 (-1), .int .i64 (-3)]) E rfl rfl tbok rfl (by kernel_rfl) rfl ?_
    clear E; intro a E
    refine e_build (ps := [(0, .int .i64 0), (1, .int .i64 0), (2, .int .i64 1)]) (v := .agg #[.int .i64 0, .int .i64 0, .int .i64 1]) E rfl rfl tbok rfl (by kernel_rfl) rfl ?_
    clear E; intro a E
    refine h_buildSlice (ps := [(0, .agg #[.int .i64 1, .int .i64 (-2), .int .i64 (-3)]), (1, .agg #[.int .i64 1, .int .i64 (-1), .int .i64 (-3)]), (2, .agg #[.int .i64 0, .int .i64 0, .int .i64 1])]) (cs := [.int .i64 1, .int .i64 (-2), .int .i64 (-3), .int .i64 1, .int .i64 (-1), .int .i64 (-3), .int .i64 0, .int .i64 0, .int .i64 1]) H E rfl rfl tbok rfl rfl (by kernel_rfl) ?_
    intro w280 g279 a hc281 hg283 H_ E_
    replace E := E_ _ rfl; clear E_
    replace H := H_; clear H_; try dsimp only [setn, addE, goneL] at H
    refine e_build (ps := [(0, .int .i64 2), (1, .slice (some ⟨g269, 0, none⟩) 3 3), (2, .slice (some ⟨g274, 0, none⟩) 3 3), (3, .slice (some ⟨g279, 0, none⟩) 3 3)]) (v := .agg #[.int .i64 2, .slice (some ⟨g269, 0, none⟩) 3 3, .slice (some ⟨g274, 0, none⟩) 3 3, .slice (some ⟨g279, 0, none⟩) 3 3]) E rfl rfl tbok rfl (by kernel_rfl) rfl ?_
    clear E; intro a E
    replace H := H.boxRow cBool true ([false, false, true] : List Bool) 34 rfl (fun _ _ => ⟨_, _, rfl, rfl, ⟨_, _, rfl, rfl, ⟨_, _, rfl, rfl, rfl⟩⟩⟩) (Nat.le_of_ble_eq_true rfl); try dsimp only [setn, addE, goneL] at H
    replace H := H.boxRow (cInt .i64) true ([2, -2, -3] : List Int) 35 rfl (fun _ _ => ⟨_, _, rfl, rfl, ⟨_, _, rfl, rfl, ⟨_, _, rfl, rfl, rfl⟩⟩⟩) (Nat.le_of_ble_eq_true rfl); try dsimp only [setn, addE, goneL] at H
    replace H := H.boxRow cNode true ([(⟨1, -2, -3⟩ : Nd), (⟨1, -1, -3⟩ : Nd), (⟨0, 0, 1⟩ : Nd)] : List Nd) 36 rfl (fun _ _ => ⟨_, _, rfl, rfl, ⟨_, _, rfl, rfl, ⟨_, _, rfl, rfl, rfl⟩⟩⟩) (Nat.le_of_ble_eq_true rfl); try dsimp only [setn, addE, goneL] at H
    obtain ⟨r284, h285, hP⟩ := bind_inv hP
    obtain ⟨Fa286, Hc287, hb288⟩ := H.call [] [(34, false), (35, false), (36, false)] rfl rfl trivial
    refine e_call E rfl rfl Try.func21 rfl rfl rfl (watch_Told_calls (some ⟨g269, 0, none⟩) 3 (some ⟨g274, 0, none⟩) 3 (some ⟨g279, 0, none⟩) 3 2 ([false, false, true] : List Bool) ([2, -2, -3] : List Int) ([(⟨1, -2, -3⟩ : Nd), (⟨1, -1, -3⟩ : Nd), (⟨0, 0, 1⟩ : Nd)] : List Nd) (H.rcapx 34 rfl) (H.rcapx 35 rfl) (H.rcapx 36 rfl) Hc287 h285) ?_
    rintro v289 w290 a ⟨A293, c294, rfl, hk296, HR291⟩ E_
    replace E := E_ _ rfl; clear E_
    obtain ⟨H_, hc292⟩ := hb288 _ _ HR291 rfl
    replace H := H_; clear H_; try dsimp only [setn, addE, goneL] at H
    refine vr tbok 5 [] [(3, .int .i64 r40.1), (4, .int .i64 r40.2), (5, .int .u8 r56), (6, .int .u8 r72.1), (7, .int .i64 r72.2.1), (8, .int .u8 r90.1), (9, .int .i64 r90.2.1), (10, .int .u8 r108.1), (11, .int .i64 r108.2.1), (12, .int .u8 r126.1), (13, .int .i64 r126.2.1), (14, .int .u8 r144.1), (15, .int .i64 r144.2.1), (16, .int .u8 r162.1), (17, .int .i64 r162.2.1), (19, .int .i64 r180.2), (21, .int .i64 r196.2.1), (25, .int .i64 r251.2.1), (26, .slice A293 (List.length r284.1) c294), (27, .int .i64 r284.2)] [] E (by kernel_rfl) trivial ?_
    clear E; intro a E
    refine wpList_nil ?_
    refine th_n ?_
    refine wp_seq ?_
    refine wp_region_lit ?_
    refine h_buildSlice (ps := [(0, .bool false), (1, .bool false), (2, .bool true)]) (cs := [.bool false, .bool false, .bool true]) H E rfl rfl tbok rfl rfl (by kernel_rfl) ?_
    intro w298 g297 a hc299 hg301 H_ E_
    replace E := E_ _ rfl; clear E_
    replace H := H_; clear H_; try dsimp only [setn, addE, goneL] at H
    refine h_buildSlice (ps := [(0, .int .i64 2), (1, .int .i64 (-2)), (2, .int .i64 (-3))]) (cs := [.int .i64 2, .int .i64 (-2), .int .i64 (-3)]) H E rfl rfl tbok rfl rfl (by kernel_rfl) ?_
    intro w303 g302 a hc304 hg306 H_ E_
    replace E := E_ _ rfl; clear E_
    replace H := H_; clear H_; try dsimp only [setn, addE, goneL] at H
    refine e_build (ps := [(0, .int .i64 1), (1, .int .i64 (-2)), (2, .int .i64 (-3))]) (v := .agg #[.int .i64 1, .int .i64 (-2), .int .i64 (-3)]) E rfl rfl tbok rfl (by kernel_rfl) rfl ?_
    clear E; intro a E
    refine e_build (ps := [(0, .int .i64 1), (1, .int .i64 (-1)), (2, .int .i64 (-3))]) (v := .agg #[.int .i64 1, .int .i64 (-1), .int .i64 (-3)]) E rfl rfl tbok rfl (by kernel_rfl) rfl ?_
    clear E; intro a E
    refine e_build (ps := [(0, .int .i64 0), (1, .int .i64 0), (2, .int .i64 1)]) (v := .agg #[.int .i64 0, .int .i64 0, .int .i64 1]) E rfl rfl tbok rfl (by kernel_rfl) rfl ?_
    clear E; intro a E
    refine h_buildSlice (ps := [(0, .agg #[.int .i64 1, .int .i64 (-2), .int .i64 (-3)]), (1, .agg #[.int .i64 1, .int .i64 (-1), .int .i64 (-3)]), (2, .agg #[.int .i64 0, .int .i64 0, .int .i64 1])]) (cs := [.int .i64 1, .int .i64 (-2), .int .i64 (-3), .int .i64 1, .int .i64 (-1), .int .i64 (-3), .int .i64 0, .int .i64 0, .int .i64 1]) H E rfl rfl tbok rfl rfl (by kernel_rfl) ?_
    intro w308 g307 a hc309 hg311 H_ E_
    replace E := E_ _ rfl; clear E_
    replace H := H_; clear H_; try dsimp only [setn, addE, goneL] at H
    refine e_build (ps := [(0, .int .i64 2), (1, .slice (some ⟨g297, 0, none⟩) 3 3), (2, .slice (some ⟨g302, 0, none⟩) 3 3), (3, .slice (some ⟨g307, 0, none⟩) 3 3)]) (v := .agg #[.int .i64 2, .slice (some ⟨g297, 0, none⟩) 3 3, .slice (some ⟨g302, 0, none⟩) 3 3, .slice (some ⟨g307, 0, none⟩) 3 3]) E rfl rfl tbok rfl (by kernel_rfl) rfl ?_
    clear E; intro a E
    refine h_buildSlice (ps := [(0, .int .u8 1), (1, .int .u8 2)]) (cs := [.int .u8 1, .int .u8 2]) H E rfl rfl tbok rfl rfl (by kernel_rfl) ?_
    intro w313 g312 a hc314 hg316 H_ E_
    replace E := E_ _ rfl; clear E_
    replace H := H_; clear H_; try dsimp only [setn, addE, goneL] at H
    replace H := H.boxRow cBool true ([false, false, true] : List Bool) 38 rfl (fun _ _ => ⟨_, _, rfl, rfl, ⟨_, _, rfl, rfl, ⟨_, _, rfl, rfl, rfl⟩⟩⟩) (Nat.le_of_ble_eq_true rfl); try dsimp only [setn, addE, goneL] at H
    replace H := H.boxRow (cInt .i64) true ([2, -2, -3] : List Int) 39 rfl (fun _ _ => ⟨_, _, rfl, rfl, ⟨_, _, rfl, rfl, ⟨_, _, rfl, rfl, rfl⟩⟩⟩) (Nat.le_of_ble_eq_true rfl); try dsimp only [setn, addE, goneL] at H
    replace H := H.boxRow cNode true ([(⟨1, -2, -3⟩ : Nd), (⟨1, -1, -3⟩ : Nd), (⟨0, 0, 1⟩ : Nd)] : List Nd) 40 rfl (fun _ _ => ⟨_, _, rfl, rfl, ⟨_, _, rfl, rfl, ⟨_, _, rfl, rfl, rfl⟩⟩⟩) (Nat.le_of_ble_eq_true rfl); try dsimp only [setn, addE, goneL] at H
    replace H := H.boxRow (cInt .u8) true ([1, 2] : List Int) 41 rfl (fun _ _ => ⟨_, _, rfl, rfl, ⟨_, _, rfl, rfl, rfl⟩⟩) (Nat.le_of_ble_eq_true rfl); try dsimp only [setn, addE, goneL] at H
    obtain ⟨r317, h318, hP⟩ := bind_inv hP
    obtain ⟨Fa319, Hc320, hb321⟩ := H.call [] [(38, false), (39, false), (40, false), (41, false)] rfl rfl trivial
    refine e_call E rfl rfl Try.func19 rfl rfl rfl (watch_All_calls (some ⟨g297, 0, none⟩) 3 (some ⟨g302, 0, none⟩) 3 (some ⟨g307, 0, none⟩) 3 (some ⟨g312, 0, none⟩) 2 2 ([false, false, true] : List Bool) ([2, -2, -3] : List Int) ([(⟨1, -2, -3⟩ : Nd), (⟨1, -1, -3⟩ : Nd), (⟨0, 0, 1⟩ : Nd)] : List Nd) ([1, 2] : List Int) (H.rcapx 38 rfl) (H.rcapx 39 rfl) (H.rcapx 40 rfl) (H.rcapx 41 rfl) Hc320 h318) ?_
    rintro v322 w323 a ⟨A326, c327, rfl, HR324⟩ E_
    replace E := E_ _ rfl; clear E_
    obtain ⟨H_, hc325⟩ := hb321 _ _ HR324 rfl
    replace H := H_; clear H_; try dsimp only [setn, addE, goneL] at H
    refine vr tbok 5 [] [(3, .int .i64 r40.1), (4, .int .i64 r40.2), (5, .int .u8 r56), (6, .int .u8 r72.1), (7, .int .i64 r72.2.1), (8, .int .u8 r90.1), (9, .int .i64 r90.2.1), (10, .int .u8 r108.1), (11, .int .i64 r108.2.1), (12, .int .u8 r126.1), (13, .int .i64 r126.2.1), (14, .int .u8 r144.1), (15, .int .i64 r144.2.1), (16, .int .u8 r162.1), (17, .int .i64 r162.2.1), (19, .int .i64 r180.2), (21, .int .i64 r196.2.1), (25, .int .i64 r251.2.1), (26, .slice A293 (List.length r284.1) c294), (27, .int .i64 r284.2), (28, .slice A326 (List.length r317.1) c327), (29, .int .i64 r317.2)] [] E (by kernel_rfl) trivial ?_
    clear E; intro a E
    refine wpList_nil ?_
    refine th_n ?_
    refine wp_seq ?_
    refine wp_seq ?_
    refine wp_region_lit ?_
    refine vr tbok 3 [] [(4, .int .i64 r40.2), (5, .int .u8 r56), (6, .int .u8 r72.1), (7, .int .i64 r72.2.1), (8, .int .u8 r90.1), (9, .int .i64 r90.2.1), (10, .int .u8 r108.1), (11, .int .i64 r108.2.1), (12, .int .u8 r126.1), (13, .int .i64 r126.2.1), (14, .int .u8 r144.1), (15, .int .i64 r144.2.1), (16, .int .u8 r162.1), (17, .int .i64 r162.2.1), (19, .int .i64 r180.2), (21, .int .i64 r196.2.1), (25, .int .i64 r251.2.1), (26, .slice A293 (List.length r284.1) c294), (27, .int .i64 r284.2), (28, .slice A326 (List.length r317.1) c327), (29, .int .i64 r317.2), (135, .bool ((r40.1 : Int) != 1))] [] E (by kernel_rfl) trivial ?_
    clear E; intro a E
    refine E.cases (t := 135) rfl (fun hb_ E_ => ?_) (fun hb_ E_ => ?_)
    ·
     replace E := E_; clear E_
     have h329 : ¬ ((r40.1 : Int) = 1) := bne_iff_ne.1 hb_
     clear hb_; replace hP := ite_f h329 hP
     refine vr tbok 63 [] [(25, .int .i64 r251.2.1), (26, .slice A293 (List.length r284.1) c294), (27, .int .i64 r284.2), (28, .slice A326 (List.length r317.1) c327), (29, .int .i64 r317.2), (198, .bool true)] [] E (by kernel_rfl) trivial ?_
     clear E; intro a E
     refine wpList_nil ?_
     refine th_n ?_
     refine c_true E rfl ?_
     refine wp_seq ?_
     refine wp_region_lit ?_
     refine vr tbok 1 [] [(0, .bool false)] [] E (by kernel_rfl) trivial ?_
     clear E; intro a E
     refine wpList_nil ?_
     refine th_n ?_
     refine wp_ret ?_
     refine th_ret ?_
     obtain rfl := Option.some.inj hP
     refine ret1 E rfl rfl ?_
     exact ⟨_, rfl, rfl, H.sel [] rfl⟩
    ·
     replace E := E_; clear E_
     have h330 : (r40.1 : Int) = 1 := bne_eq_false_iff_eq.1 hb_
     clear hb_; replace hP := ite_t h330 hP
     refine vr tbok 4 [] [(5, .int .u8 r56), (6, .int .u8 r72.1), (7, .int .i64 r72.2.1), (8, .int .u8 r90.1), (9, .int .i64 r90.2.1), (10, .int .u8 r108.1), (11, .int .i64 r108.2.1), (12, .int .u8 r126.1), (13, .int .i64 r126.2.1), (14, .int .u8 r144.1), (15, .int .i64 r144.2.1), (16, .int .u8 r162.1), (17, .int .i64 r162.2.1), (19, .int .i64 r180.2), (21, .int .i64 r196.2.1), (25, .int .i64 r251.2.1), (26, .slice A293 (List.length r284.1) c294), (27, .int .i64 r284.2), (28, .slice A326 (List.length r317.1) c327), (29, .int .i64 r317.2), (139, .bool ((r40.2 : Int) != 0))] [] E (by kernel_rfl) trivial ?_
     clear E; intro a E
     refine E.cases (t := 139) rfl (fun hb_ E_ => ?_) (fun hb_ E_ => ?_)
     ·
      replace E := E_; clear E_
      have h331 : ¬ ((r40.2 : Int) = 0) := bne_iff_ne.1 hb_
      clear hb_; replace hP := ite_f h331 hP
      refine vr tbok 59 [] [(25, .int .i64 r251.2.1), (26, .slice A293 (List.length r284.1) c294), (27, .int .i64 r284.2), (28, .slice A326 (List.length r317.1) c327), (29, .int .i64 r317.2), (198, .bool true)] [] E (by kernel_rfl) trivial ?_
      clear E; intro a E
      refine wpList_nil ?_
      refine th_n ?_
      refine c_true E rfl ?_
      refine wp_seq ?_
      refine wp_region_lit ?_
      refine vr tbok 1 [] [(0, .bool false)] [] E (by kernel_rfl) trivial ?_
      clear E; intro a E
      refine wpList_nil ?_
      refine th_n ?_
      refine wp_ret ?_
      refine th_ret ?_
      obtain rfl := Option.some.inj hP
      refine ret1 E rfl rfl ?_
      exact ⟨_, rfl, rfl, H.sel [] rfl⟩
     ·
      replace E := E_; clear E_
      have h332 : (r40.2 : Int) = 0 := bne_eq_false_iff_eq.1 hb_
      clear hb_; replace hP := ite_t h332 hP
      refine vr tbok 4 [] [(6, .int .u8 r72.1), (7, .int .i64 r72.2.1), (8, .int .u8 r90.1), (9, .int .i64 r90.2.1), (10, .int .u8 r108.1), (11, .int .i64 r108.2.1), (12, .int .u8 r126.1), (13, .int .i64 r126.2.1), (14, .int .u8 r144.1), (15, .int .i64 r144.2.1), (16, .int .u8 r162.1), (17, .int .i64 r162.2.1), (19, .int .i64 r180.2), (21, .int .i64 r196.2.1), (25, .int .i64 r251.2.1), (26, .slice A293 (List.length r284.1) c294), (27, .int .i64 r284.2), (28, .slice A326 (List.length r317.1) c327), (29, .int .i64 r317.2), (143, .bool ((r56 : Int) != 0))] [] E (by kernel_rfl) trivial ?_
      clear E; intro a E
      refine E.cases (t := 143) rfl (fun hb_ E_ => ?_) (fun hb_ E_ => ?_)
      ·
       replace E := E_; clear E_
       have h333 : ¬ ((r56 : Int) = 0) := bne_iff_ne.1 hb_
       clear hb_; replace hP := ite_f h333 hP
       refine vr tbok 55 [] [(25, .int .i64 r251.2.1), (26, .slice A293 (List.length r284.1) c294), (27, .int .i64 r284.2), (28, .slice A326 (List.length r317.1) c327), (29, .int .i64 r317.2), (198, .bool true)] [] E (by kernel_rfl) trivial ?_
       clear E; intro a E
       refine wpList_nil ?_
       refine th_n ?_
       refine c_true E rfl ?_
       refine wp_seq ?_
       refine wp_region_lit ?_
       refine vr tbok 1 [] [(0, .bool false)] [] E (by kernel_rfl) trivial ?_
       clear E; intro a E
       refine wpList_nil ?_
       refine th_n ?_
       refine wp_ret ?_
       refine th_ret ?_
       obtain rfl := Option.some.inj hP
       refine ret1 E rfl rfl ?_
       exact ⟨_, rfl, rfl, H.sel [] rfl⟩
      ·
       replace E := E_; clear E_
       have h334 : (r56 : Int) = 0 := bne_eq_false_iff_eq.1 hb_
       clear hb_; replace hP := ite_t h334 hP
       refine vr tbok 4 [] [(7, .int .i64 r72.2.1), (8, .int .u8 r90.1), (9, .int .i64 r90.2.1), (10, .int .u8 r108.1), (11, .int .i64 r108.2.1), (12, .int .u8 r126.1), (13, .int .i64 r126.2.1), (14, .int .u8 r144.1), (15, .int .i64 r144.2.1), (16, .int .u8 r162.1), (17, .int .i64 r162.2.1), (19, .int .i64 r180.2), (21, .int .i64 r196.2.1), (25, .int .i64 r251.2.1), (26, .slice A293 (List.length r284.1) c294), (27, .int .i64 r284.2), (28, .slice A326 (List.length r317.1) c327), (29, .int .i64 r317.2), (147, .bool ((r72.1 : Int) != 0))] [] E (by kernel_rfl) trivial ?_
       clear E; intro a E
       refine E.cases (t := 147) rfl (fun hb_ E_ => ?_) (fun hb_ E_ => ?_)
       ·
        replace E := E_; clear E_
        have h335 : ¬ ((r72.1 : Int) = 0) := bne_iff_ne.1 hb_
        clear hb_; replace hP := ite_f h335 hP
        refine vr tbok 51 [] [(25, .int .i64 r251.2.1), (26, .slice A293 (List.length r284.1) c294), (27, .int .i64 r284.2), (28, .slice A326 (List.length r317.1) c327), (29, .int .i64 r317.2), (198, .bool true)] [] E (by kernel_rfl) trivial ?_
        clear E; intro a E
        refine wpList_nil ?_
        refine th_n ?_
        refine c_true E rfl ?_
        refine wp_seq ?_
        refine wp_region_lit ?_
        refine vr tbok 1 [] [(0, .bool false)] [] E (by kernel_rfl) trivial ?_
        clear E; intro a E
        refine wpList_nil ?_
        refine th_n ?_
        refine wp_ret ?_
        refine th_ret ?_
        obtain rfl := Option.some.inj hP
        refine ret1 E rfl rfl ?_
        exact ⟨_, rfl, rfl, H.sel [] rfl⟩
       ·
        replace E := E_; clear E_
        have h336 : (r72.1 : Int) = 0 := bne_eq_false_iff_eq.1 hb_
        clear hb_; replace hP := ite_t h336 hP
        refine vr tbok 4 [] [(8, .int .u8 r90.1), (9, .int .i64 r90.2.1), (10, .int .u8 r108.1), (11, .int .i64 r108.2.1), (12, .int .u8 r126.1), (13, .int .i64 r126.2.1), (14, .int .u8 r144.1), (15, .int .i64 r144.2.1), (16, .int .u8 r162.1), (17, .int .i64 r162.2.1), (19, .int .i64 r180.2), (21, .int .i64 r196.2.1), (25, .int .i64 r251.2.1), (26, .slice A293 (List.length r284.1) c294), (27, .int .i64 r284.2), (28, .slice A326 (List.length r317.1) c327), (29, .int .i64 r317.2), (151, .bool ((r72.2.1 : Int) != 0))] [] E (by kernel_rfl) trivial ?_
        clear E; intro a E
        refine E.cases (t := 151) rfl (fun hb_ E_ => ?_) (fun hb_ E_ => ?_)
        ·
         replace E := E_; clear E_
         have h337 : ¬ ((r72.2.1 : Int) = 0) := bne_iff_ne.1 hb_
         clear hb_; replace hP := ite_f h337 hP
         refine vr tbok 47 [] [(25, .int .i64 r251.2.1), (26, .slice A293 (List.length r284.1) c294), (27, .int .i64 r284.2), (28, .slice A326 (List.length r317.1) c327), (29, .int .i64 r317.2), (198, .bool true)] [] E (by kernel_rfl) trivial ?_
         clear E; intro a E
         refine wpList_nil ?_
         refine th_n ?_
         refine c_true E rfl ?_
         refine wp_seq ?_
         refine wp_region_lit ?_
         refine vr tbok 1 [] [(0, .bool false)] [] E (by kernel_rfl) trivial ?_
         clear E; intro a E
         refine wpList_nil ?_
         refine th_n ?_
         refine wp_ret ?_
         refine th_ret ?_
         obtain rfl := Option.some.inj hP
         refine ret1 E rfl rfl ?_
         exact ⟨_, rfl, rfl, H.sel [] rfl⟩
        ·
         replace E := E_; clear E_
         have h338 : (r72.2.1 : Int) = 0 := bne_eq_false_iff_eq.1 hb_
         clear hb_; replace hP := ite_t h338 hP
         refine vr tbok 4 [] [(9, .int .i64 r90.2.1), (10, .int .u8 r108.1), (11, .int .i64 r108.2.1), (12, .int .u8 r126.1), (13, .int .i64 r126.2.1), (14, .int .u8 r144.1), (15, .int .i64 r144.2.1), (16, .int .u8 r162.1), (17, .int .i64 r162.2.1), (19, .int .i64 r180.2), (21, .int .i64 r196.2.1), (25, .int .i64 r251.2.1), (26, .slice A293 (List.length r284.1) c294), (27, .int .i64 r284.2), (28, .slice A326 (List.length r317.1) c327), (29, .int .i64 r317.2), (155, .bool ((r90.1 : Int) != 3))] [] E (by kernel_rfl) trivial ?_
         clear E; intro a E
         refine E.cases (t := 155) rfl (fun hb_ E_ => ?_) (fun hb_ E_ => ?_)
         ·
          replace E := E_; clear E_
          have h339 : ¬ ((r90.1 : Int) = 3) := bne_iff_ne.1 hb_
          clear hb_; replace hP := ite_f h339 hP
          refine vr tbok 43 [] [(25, .int .i64 r251.2.1), (26, .slice A293 (List.length r284.1) c294), (27, .int .i64 r284.2), (28, .slice A326 (List.length r317.1) c327), (29, .int .i64 r317.2), (198, .bool true)] [] E (by kernel_rfl) trivial ?_
          clear E; intro a E
          refine wpList_nil ?_
          refine th_n ?_
          refine c_true E rfl ?_
          refine wp_seq ?_
          refine wp_region_lit ?_
          refine vr tbok 1 [] [(0, .bool false)] [] E (by kernel_rfl) trivial ?_
          clear E; intro a E
          refine wpList_nil ?_
          refine th_n ?_
          refine wp_ret ?_
          refine th_ret ?_
          obtain rfl := Option.some.inj hP
          refine ret1 E rfl rfl ?_
          exact ⟨_, rfl, rfl, H.sel [] rfl⟩
         ·
          replace E := E_; clear E_
          have h340 : (r90.1 : Int) = 3 := bne_eq_false_iff_eq.1 hb_
          clear hb_; replace hP := ite_t h340 hP
          refine vr tbok 4 [] [(10, .int .u8 r108.1), (11, .int .i64 r108.2.1), (12, .int .u8 r126.1), (13, .int .i64 r126.2.1), (14, .int .u8 r144.1), (15, .int .i64 r144.2.1), (16, .int .u8 r162.1), (17, .int .i64 r162.2.1), (19, .int .i64 r180.2), (21, .int .i64 r196.2.1), (25, .int .i64 r251.2.1), (26, .slice A293 (List.length r284.1) c294), (27, .int .i64 r284.2), (28, .slice A326 (List.length r317.1) c327), (29, .int .i64 r317.2), (159, .bool ((r90.2.1 : Int) != 0))] [] E (by kernel_rfl) trivial ?_
          clear E; intro a E
          refine E.cases (t := 159) rfl (fun hb_ E_ => ?_) (fun hb_ E_ => ?_)
          ·
           replace E := E_; clear E_
           have h341 : ¬ ((r90.2.1 : Int) = 0) := bne_iff_ne.1 hb_
           clear hb_; replace hP := ite_f h341 hP
           refine vr tbok 39 [] [(25, .int .i64 r251.2.1), (26, .slice A293 (List.length r284.1) c294), (27, .int .i64 r284.2), (28, .slice A326 (List.length r317.1) c327), (29, .int .i64 r317.2), (198, .bool true)] [] E (by kernel_rfl) trivial ?_
           clear E; intro a E
           refine wpList_nil ?_
           refine th_n ?_
           refine c_true E rfl ?_
           refine wp_seq ?_
           refine wp_region_lit ?_
           refine vr tbok 1 [] [(0, .bool false)] [] E (by kernel_rfl) trivial ?_
           clear E; intro a E
           refine wpList_nil ?_
           refine th_n ?_
           refine wp_ret ?_
           refine th_ret ?_
           obtain rfl := Option.some.inj hP
           refine ret1 E rfl rfl ?_
           exact ⟨_, rfl, rfl, H.sel [] rfl⟩
          ·
           replace E := E_; clear E_
           have h342 : (r90.2.1 : Int) = 0 := bne_eq_false_iff_eq.1 hb_
           clear hb_; replace hP := ite_t h342 hP
           refine vr tbok 4 [] [(11, .int .i64 r108.2.1), (12, .int .u8 r126.1), (13, .int .i64 r126.2.1), (14, .int .u8 r144.1), (15, .int .i64 r144.2.1), (16, .int .u8 r162.1), (17, .int .i64 r162.2.1), (19, .int .i64 r180.2), (21, .int .i64 r196.2.1), (25, .int .i64 r251.2.1), (26, .slice A293 (List.length r284.1) c294), (27, .int .i64 r284.2), (28, .slice A326 (List.length r317.1) c327), (29, .int .i64 r317.2), (163, .bool ((r108.1 : Int) != 3))] [] E (by kernel_rfl) trivial ?_
           clear E; intro a E
           refine E.cases (t := 163) rfl (fun hb_ E_ => ?_) (fun hb_ E_ => ?_)
           ·
            replace E := E_; clear E_
            have h343 : ¬ ((r108.1 : Int) = 3) := bne_iff_ne.1 hb_
            clear hb_; replace hP := ite_f h343 hP
            refine vr tbok 35 [] [(25, .int .i64 r251.2.1), (26, .slice A293 (List.length r284.1) c294), (27, .int .i64 r284.2), (28, .slice A326 (List.length r317.1) c327), (29, .int .i64 r317.2), (198, .bool true)] [] E (by kernel_rfl) trivial ?_
            clear E; intro a E
            refine wpList_nil ?_
            refine th_n ?_
            refine c_true E rfl ?_
            refine wp_seq ?_
            refine wp_region_lit ?_
            refine vr tbok 1 [] [(0, .bool false)] [] E (by kernel_rfl) trivial ?_
            clear E; intro a E
            refine wpList_nil ?_
            refine th_n ?_
            refine wp_ret ?_
            refine th_ret ?_
            obtain rfl := Option.some.inj hP
            refine ret1 E rfl rfl ?_
            exact ⟨_, rfl, rfl, H.sel [] rfl⟩
           ·
            replace E := E_; clear E_
            have h344 : (r108.1 : Int) = 3 := bne_eq_false_iff_eq.1 hb_
            clear hb_; replace hP := ite_t h344 hP
            refine vr tbok 4 [] [(12, .int .u8 r126.1), (13, .int .i64 r126.2.1), (14, .int .u8 r144.1), (15, .int .i64 r144.2.1), (16, .int .u8 r162.1), (17, .int .i64 r162.2.1), (19, .int .i64 r180.2), (21, .int .i64 r196.2.1), (25, .int .i64 r251.2.1), (26, .slice A293 (List.length r284.1) c294), (27, .int .i64 r284.2), (28, .slice A326 (List.length r317.1) c327), (29, .int .i64 r317.2), (167, .bool ((r108.2.1 : Int) != 0))] [] E (by kernel_rfl) trivial ?_
            clear E; intro a E
            refine E.cases (t := 167) rfl (fun hb_ E_ => ?_) (fun hb_ E_ => ?_)
            ·
             replace E := E_; clear E_
             have h345 : ¬ ((r108.2.1 : Int) = 0) := bne_iff_ne.1 hb_
             clear hb_; replace hP := ite_f h345 hP
             refine vr tbok 31 [] [(25, .int .i64 r251.2.1), (26, .slice A293 (List.length r284.1) c294), (27, .int .i64 r284.2), (28, .slice A326 (List.length r317.1) c327), (29, .int .i64 r317.2), (198, .bool true)] [] E (by kernel_rfl) trivial ?_
             clear E; intro a E
             refine wpList_nil ?_
             refine th_n ?_
             refine c_true E rfl ?_
             refine wp_seq ?_
             refine wp_region_lit ?_
             refine vr tbok 1 [] [(0, .bool false)] [] E (by kernel_rfl) trivial ?_
             clear E; intro a E
             refine wpList_nil ?_
             refine th_n ?_
             refine wp_ret ?_
             refine th_ret ?_
             obtain rfl := Option.some.inj hP
             refine ret1 E rfl rfl ?_
             exact ⟨_, rfl, rfl, H.sel [] rfl⟩
            ·
             replace E := E_; clear E_
             have h346 : (r108.2.1 : Int) = 0 := bne_eq_false_iff_eq.1 hb_
             clear hb_; replace hP := ite_t h346 hP
             refine vr tbok 4 [] [(13, .int .i64 r126.2.1), (14, .int .u8 r144.1), (15, .int .i64 r144.2.1), (16, .int .u8 r162.1), (17, .int .i64 r162.2.1), (19, .int .i64 r180.2), (21, .int .i64 r196.2.1), (25, .int .i64 r251.2.1), (26, .slice A293 (List.length r284.1) c294), (27, .int .i64 r284.2), (28, .slice A326 (List.length r317.1) c327), (29, .int .i64 r317.2), (171, .bool ((r126.1 : Int) != 3))] [] E (by kernel_rfl) trivial ?_
             clear E; intro a E
             refine E.cases (t := 171) rfl (fun hb_ E_ => ?_) (fun hb_ E_ => ?_)
             ·
              replace E := E_; clear E_
              have h347 : ¬ ((r126.1 : Int) = 3) := bne_iff_ne.1 hb_
              clear hb_; replace hP := ite_f h347 hP
              refine vr tbok 27 [] [(25, .int .i64 r251.2.1), (26, .slice A293 (List.length r284.1) c294), (27, .int .i64 r284.2), (28, .slice A326 (List.length r317.1) c327), (29, .int .i64 r317.2), (198, .bool true)] [] E (by kernel_rfl) trivial ?_
              clear E; intro a E
              refine wpList_nil ?_
              refine th_n ?_
              refine c_true E rfl ?_
              refine wp_seq ?_
              refine wp_region_lit ?_
              refine vr tbok 1 [] [(0, .bool false)] [] E (by kernel_rfl) trivial ?_
              clear E; intro a E
              refine wpList_nil ?_
              refine th_n ?_
              refine wp_ret ?_
              refine th_ret ?_
              obtain rfl := Option.some.inj hP
              refine ret1 E rfl rfl ?_
              exact ⟨_, rfl, rfl, H.sel [] rfl⟩
             ·
              replace E := E_; clear E_
              have h348 : (r126.1 : Int) = 3 := bne_eq_false_iff_eq.1 hb_
              clear hb_; replace hP := ite_t h348 hP
              refine vr tbok 4 [] [(14, .int .u8 r144.1), (15, .int .i64 r144.2.1), (16, .int .u8 r162.1), (17, .int .i64 r162.2.1), (19, .int .i64 r180.2), (21, .int .i64 r196.2.1), (25, .int .i64 r251.2.1), (26, .slice A293 (List.length r284.1) c294), (27, .int .i64 r284.2), (28, .slice A326 (List.length r317.1) c327), (29, .int .i64 r317.2), (175, .bool ((r126.2.1 : Int) != 0))] [] E (by kernel_rfl) trivial ?_
              clear E; intro a E
              refine E.cases (t := 175) rfl (fun hb_ E_ => ?_) (fun hb_ E_ => ?_)
              ·
               replace E := E_; clear E_
               have h349 : ¬ ((r126.2.1 : Int) = 0) := bne_iff_ne.1 hb_
               clear hb_; replace hP := ite_f h349 hP
               refine vr tbok 23 [] [(25, .int .i64 r251.2.1), (26, .slice A293 (List.length r284.1) c294), (27, .int .i64 r284.2), (28, .slice A326 (List.length r317.1) c327), (29, .int .i64 r317.2), (198, .bool true)] [] E (by kernel_rfl) trivial ?_
               clear E; intro a E
               refine wpList_nil ?_
               refine th_n ?_
               refine c_true E rfl ?_
               refine wp_seq ?_
               refine wp_region_lit ?_
               refine vr tbok 1 [] [(0, .bool false)] [] E (by kernel_rfl) trivial ?_
               clear E; intro a E
               refine wpList_nil ?_
               refine th_n ?_
               refine wp_ret ?_
               refine th_ret ?_
               obtain rfl := Option.some.inj hP
               refine ret1 E rfl rfl ?_
               exact ⟨_, rfl, rfl, H.sel [] rfl⟩
              ·
               replace E := E_; clear E_
               have h350 : (r126.2.1 : Int) = 0 := bne_eq_false_iff_eq.1 hb_
               clear hb_; replace hP := ite_t h350 hP
               refine vr tbok 4 [] [(15, .int .i64 r144.2.1), (16, .int .u8 r162.1), (17, .int .i64 r162.2.1), (19, .int .i64 r180.2), (21, .int .i64 r196.2.1), (25, .int .i64 r251.2.1), (26, .slice A293 (List.length r284.1) c294), (27, .int .i64 r284.2), (28, .slice A326 (List.length r317.1) c327), (29, .int .i64 r317.2), (179, .bool ((r144.1 : Int) != 0))] [] E (by kernel_rfl) trivial ?_
               clear E; intro a E
               refine E.cases (t := 179) rfl (fun hb_ E_ => ?_) (fun hb_ E_ => ?_)
               ·
                replace E := E_; clear E_
                have h351 : ¬ ((r144.1 : Int) = 0) := bne_iff_ne.1 hb_
                clear hb_; replace hP := ite_f h351 hP
                refine vr tbok 19 [] [(25, .int .i64 r251.2.1), (26, .slice A293 (List.length r284.1) c294), (27, .int .i64 r284.2), (28, .slice A326 (List.length r317.1) c327), (29, .int .i64 r317.2), (198, .bool true)] [] E (by kernel_rfl) trivial ?_
                clear E; intro a E
                refine wpList_nil ?_
                refine th_n ?_
                refine c_true E rfl ?_
                refine wp_seq ?_
                refine wp_region_lit ?_
                refine vr tbok 1 [] [(0, .bool false)] [] E (by kernel_rfl) trivial ?_
                clear E; intro a E
                refine wpList_nil ?_
                refine th_n ?_
                refine wp_ret ?_
                refine th_ret ?_
                obtain rfl := Option.some.inj hP
                refine ret1 E rfl rfl ?_
                exact ⟨_, rfl, rfl, H.sel [] rfl⟩
               ·
                replace E := E_; clear E_
                have h352 : (r144.1 : Int) = 0 := bne_eq_false_iff_eq.1 hb_
                clear hb_; replace hP := ite_t h352 hP
                refine vr tbok 4 [] [(16, .int .u8 r162.1), (17, .int .i64 r162.2.1), (19, .int .i64 r180.2), (21, .int .i64 r196.2.1), (25, .int .i64 r251.2.1), (26, .slice A293 (List.length r284.1) c294), (27, .int .i64 r284.2), (28, .slice A326 (List.length r317.1) c327), (29, .int .i64 r317.2), (183, .bool ((r144.2.1 : Int) != 0))] [] E (by kernel_rfl) trivial ?_
                clear E; intro a E
                refine E.cases (t := 183) rfl (fun hb_ E_ => ?_) (fun hb_ E_ => ?_)
                ·
                 replace E := E_; clear E_
                 have h353 : ¬ ((r144.2.1 : Int) = 0) := bne_iff_ne.1 hb_
                 clear hb_; replace hP := ite_f h353 hP
                 refine vr tbok 15 [] [(25, .int .i64 r251.2.1), (26, .slice A293 (List.length r284.1) c294), (27, .int .i64 r284.2), (28, .slice A326 (List.length r317.1) c327), (29, .int .i64 r317.2), (198, .bool true)] [] E (by kernel_rfl) trivial ?_
                 clear E; intro a E
                 refine wpList_nil ?_
                 refine th_n ?_
                 refine c_true E rfl ?_
                 refine wp_seq ?_
                 refine wp_region_lit ?_
                 refine vr tbok 1 [] [(0, .bool false)] [] E (by kernel_rfl) trivial ?_
                 clear E; intro a E
                 refine wpList_nil ?_
                 refine th_n ?_
                 refine wp_ret ?_
                 refine th_ret ?_
                 obtain rfl := Option.some.inj hP
                 refine ret1 E rfl rfl ?_
                 exact ⟨_, rfl, rfl, H.sel [] rfl⟩
                ·
                 replace E := E_; clear E_
                 have h354 : (r144.2.1 : Int) = 0 := bne_eq_false_iff_eq.1 hb_
                 clear hb_; replace hP := ite_t h354 hP
                 refine vr tbok 4 [] [(17, .int .i64 r162.2.1), (19, .int .i64 r180.2), (21, .int .i64 r196.2.1), (25, .int .i64 r251.2.1), (26, .slice A293 (List.length r284.1) c294), (27, .int .i64 r284.2), (28, .slice A326 (List.length r317.1) c327), (29, .int .i64 r317.2), (187, .bool ((r162.1 : Int) != 2))] [] E (by kernel_rfl) trivial ?_
                 clear E; intro a E
                 refine E.cases (t := 187) rfl (fun hb_ E_ => ?_) (fun hb_ E_ => ?_)
                 ·
                  replace E := E_; clear E_
                  have h355 : ¬ ((r162.1 : Int) = 2) := bne_iff_ne.1 hb_
                  clear hb_; replace hP := ite_f h355 hP
                  refine vr tbok 11 [] [(25, .int .i64 r251.2.1), (26, .slice A293 (List.length r284.1) c294), (27, .int .i64 r284.2), (28, .slice A326 (List.length r317.1) c327), (29, .int .i64 r317.2), (198, .bool true)] [] E (by kernel_rfl) trivial ?_
                  clear E; intro a E
                  refine wpList_nil ?_
                  refine th_n ?_
                  refine c_true E rfl ?_
                  refine wp_seq ?_
                  refine wp_region_lit ?_
                  refine vr tbok 1 [] [(0, .bool false)] [] E (by kernel_rfl) trivial ?_
                  clear E; intro a E
                  refine wpList_nil ?_
                  refine th_n ?_
                  refine wp_ret ?_
                  refine th_ret ?_
                  obtain rfl := Option.some.inj hP
                  refine ret1 E rfl rfl ?_
                  exact ⟨_, rfl, rfl, H.sel [] rfl⟩
                 ·
                  replace E := E_; clear E_
                  have h356 : (r162.1 : Int) = 2 := bne_eq_false_iff_eq.1 hb_
                  clear hb_; replace hP := ite_t h356 hP
                  refine vr tbok 4 [] [(19, .int .i64 r180.2), (21, .int .i64 r196.2.1), (25, .int .i64 r251.2.1), (26, .slice A293 (List.length r284.1) c294), (27, .int .i64 r284.2), (28, .slice A326 (List.length r317.1) c327), (29, .int .i64 r317.2), (191, .bool ((r162.2.1 : Int) != 0))] [] E (by kernel_rfl) trivial ?_
                  clear E; intro a E
                  refine E.cases (t := 191) rfl (fun hb_ E_ => ?_) (fun hb_ E_ => ?_)
                  ·
                   replace E := E_; clear E_
                   have h357 : ¬ ((r162.2.1 : Int) = 0) := bne_iff_ne.1 hb_
                   clear hb_; replace hP := ite_f h357 hP
                   refine vr tbok 7 [] [(25, .int .i64 r251.2.1), (26, .slice A293 (List.length r284.1) c294), (27, .int .i64 r284.2), (28, .slice A326 (List.length r317.1) c327), (29, .int .i64 r317.2), (198, .bool true)] [] E (by kernel_rfl) trivial ?_
                   clear E; intro a E
                   refine wpList_nil ?_
                   refine th_n ?_
                   refine c_true E rfl ?_
                   refine wp_seq ?_
                   refine wp_region_lit ?_
                   refine vr tbok 1 [] [(0, .bool false)] [] E (by kernel_rfl) trivial ?_
                   clear E; intro a E
                   refine wpList_nil ?_
                   refine th_n ?_
                   refine wp_ret ?_
                   refine th_ret ?_
                   obtain rfl := Option.some.inj hP
                   refine ret1 E rfl rfl ?_
                   exact ⟨_, rfl, rfl, H.sel [] rfl⟩
                  ·
                   replace E := E_; clear E_
                   have h358 : (r162.2.1 : Int) = 0 := bne_eq_false_iff_eq.1 hb_
                   clear hb_; replace hP := ite_t h358 hP
                   refine vr tbok 4 [] [(21, .int .i64 r196.2.1), (25, .int .i64 r251.2.1), (26, .slice A293 (List.length r284.1) c294), (27, .int .i64 r284.2), (28, .slice A326 (List.length r317.1) c327), (29, .int .i64 r317.2), (195, .bool ((r180.2 : Int) != 6))] [] E (by kernel_rfl) trivial ?_
                   clear E; intro a E
                   refine E.cases (t := 195) rfl (fun hb_ E_ => ?_) (fun hb_ E_ => ?_)
                   ·
                    replace E := E_; clear E_
                    have h359 : ¬ ((r180.2 : Int) = 6) := bne_iff_ne.1 hb_
                    clear hb_; replace hP := ite_f h359 hP
                    refine vr tbok 3 [] [(25, .int .i64 r251.2.1), (26, .slice A293 (List.length r284.1) c294), (27, .int .i64 r284.2), (28, .slice A326 (List.length r317.1) c327), (29, .int .i64 r317.2), (198, .bool true)] [] E (by kernel_rfl) trivial ?_
                    clear E; intro a E
                    refine wpList_nil ?_
                    refine th_n ?_
                    refine c_true E rfl ?_
                    refine wp_seq ?_
                    refine wp_region_lit ?_
                    refine vr tbok 1 [] [(0, .bool false)] [] E (by kernel_rfl) trivial ?_
                    clear E; intro a E
                    refine wpList_nil ?_
                    refine th_n ?_
                    refine wp_ret ?_
                    refine th_ret ?_
                    obtain rfl := Option.some.inj hP
                    refine ret1 E rfl rfl ?_
                    exact ⟨_, rfl, rfl, H.sel [] rfl⟩
                   ·
                    replace E := E_; clear E_
                    have h360 : (r180.2 : Int) = 6 := bne_eq_false_iff_eq.1 hb_
                    clear hb_; replace hP := ite_t h360 hP
                    refine vr tbok 3 [] [(25, .int .i64 r251.2.1), (26, .slice A293 (List.length r284.1) c294), (27, .int .i64 r284.2), (28, .slice A326 (List.length r317.1) c327), (29, .int .i64 r317.2), (198, .bool ((r196.2.1 : Int) != 2))] [] E (by kernel_rfl) trivial ?_
                    clear E; intro a E
                    refine wpList_nil ?_
                    refine th_n ?_
                    refine E.cases (t := 198) rfl (fun hb_ E_ => ?_) (fun hb_ E_ => ?_)
                    ·
                     replace E := E_; clear E_
                     have h361 : ¬ ((r196.2.1 : Int) = 2) := bne_iff_ne.1 hb_
                     clear hb_; replace hP := ite_f h361 hP
                     refine c_true E rfl ?_
                     refine wp_seq ?_
                     refine wp_region_lit ?_
                     refine vr tbok 1 [] [(0, .bool false)] [] E (by kernel_rfl) trivial ?_
                     clear E; intro a E
                     refine wpList_nil ?_
                     refine th_n ?_
                     refine wp_ret ?_
                     refine th_ret ?_
                     obtain rfl := Option.some.inj hP
                     refine ret1 E rfl rfl ?_
                     exact ⟨_, rfl, rfl, H.sel [] rfl⟩
                    ·
                     replace E := E_; clear E_
                     have h362 : (r196.2.1 : Int) = 2 := bne_eq_false_iff_eq.1 hb_
                     clear hb_; replace hP := ite_t h362 hP
                     refine c_false E rfl ?_
                     refine wp_skip ?_
                     refine th_n ?_
                     refine wp_seq ?_
                     refine wp_region_lit ?_
                     refine vr tbok 3 [] [(26, .slice A293 (List.length r284.1) c294), (27, .int .i64 r284.2), (28, .slice A326 (List.length r317.1) c327), (29, .int .i64 r317.2), (201, .bool ((r251.2.1 : Int) == 6))] [] E (by kernel_rfl) trivial ?_
                     clear E; intro a E
                     refine E.cases (t := 201) rfl (fun hb_ E_ => ?_) (fun hb_ E_ => ?_)
                     ·
                      replace E := E_; clear E_
                      have h363 : (r251.2.1 : Int) = 6 := eq_of_beq hb_
                      clear hb_; replace hP := ite_t h363 hP
                      refine vr tbok 4 [] [(26, .slice A293 (List.length r284.1) c294), (28, .slice A326 (List.length r317.1) c327), (29, .int .i64 r317.2), (205, .bool ((r284.2 : Int) == 0))] [] E (by kernel_rfl) trivial ?_
                      clear E; intro a E
                      refine E.cases (t := 205) rfl (fun hb_ E_ => ?_) (fun hb_ E_ => ?_)
                      ·
                       replace E := E_; clear E_
                       have h364 : (r284.2 : Int) = 0 := eq_of_beq hb_
                       clear hb_; replace hP := ite_t h364 hP
                       refine vr tbok 1 [] [(28, .slice A326 (List.length r317.1) c327), (29, .int .i64 r317.2), (205, .bool true), (206, .slice A293 (List.length r284.1) c294)] [] E (by kernel_rfl) trivial ?_
                       clear E; intro a E
                       refine h_buildSlice (ps := [(0, .int .u8 0), (1, .int .u8 2), (2, .int .u8 3)]) (cs := [.int .u8 0, .int .u8 2, .int .u8 3]) H E rfl rfl tbok rfl rfl (by kernel_rfl) ?_
                       intro w366 g365 a hc367 hg369 H_ E_
                       replace E := E_ _ rfl; clear E_
                       replace H := H_; clear H_; try dsimp only [setn, addE, goneL] at H
                       replace H := H.boxRow (cInt .u8) true ([0, 2, 3] : List Int) 43 rfl (fun _ _ => ⟨_, _, rfl, rfl, ⟨_, _, rfl, rfl, ⟨_, _, rfl, rfl, rfl⟩⟩⟩) (Nat.le_of_ble_eq_true rfl); try dsimp only [setn, addE, goneL] at H
                       obtain ⟨r370, h371, hP⟩ := bind_inv hP
                       obtain ⟨Fa372, Hc373, hb374⟩ := H.call [] [(37, false), (43, false)] rfl rfl trivial
                       refine e_call E rfl rfl Try.func23 rfl rfl rfl (law21_same_calls A293 c294 (some ⟨g365, 0, none⟩) 3 r284.1 ([0, 2, 3] : List Int) hk296 (H.rcapx 43 rfl) Hc373 h371) ?_
                       rintro v375 w376 a ⟨rfl, HR377⟩ E_
                       replace E := E_ _ rfl; clear E_
                       obtain ⟨H_, hc378⟩ := hb374 _ _ HR377 rfl
                       replace H := H_; clear H_; try dsimp only [setn, addE, goneL] at H
                       refine vr tbok 2 [] [(28, .slice A326 (List.length r317.1) c327), (29, .int .i64 r317.2), (210, .bool r370)] [] E (by kernel_rfl) trivial ?_
                       clear E; intro a E
                       refine E.cases (t := 210) rfl (fun hb_ E_ => ?_) (fun hb_ E_ => ?_)
                       ·
                        replace E := E_; clear E_
                        have h379 : r370 = true := hb_
                        clear hb_; replace hP := ite_t h379 hP
                        refine vr tbok 4 [] [(28, .slice A326 (List.length r317.1) c327), (214, .bool ((r317.2 : Int) == 0))] [] E (by kernel_rfl) trivial ?_
                        clear E; intro a E
                        refine E.cases (t := 214) rfl (fun hb_ E_ => ?_) (fun hb_ E_ => ?_)
                        ·
                         replace E := E_; clear E_
                         have h380 : (r317.2 : Int) = 0 := eq_of_beq hb_
                         clear hb_; replace hP := ite_t h380 hP
                         refine vr tbok 1 [] [(214, .bool true), (215, .slice A326 (List.length r317.1) c327)] [] E (by kernel_rfl) trivial ?_
                         clear E; intro a E
                         refine h_buildSlice (ps := [(0, .int .u8 0), (1, .int .u8 0), (2, .int .u8 3)]) (cs := [.int .u8 0, .int .u8 0, .int .u8 3]) H E rfl rfl tbok rfl rfl (by kernel_rfl) ?_
                         intro w382 g381 a hc383 hg385 H_ E_
                         replace E := E_ _ rfl; clear E_
                         replace H := H_; clear H_; try dsimp only [setn, addE, goneL] at H
                         replace H := H.boxRow (cInt .u8) true ([0, 0, 3] : List Int) 44 rfl (fun _ _ => ⟨_, _, rfl, rfl, ⟨_, _, rfl, rfl, ⟨_, _, rfl, rfl, rfl⟩⟩⟩) (Nat.le_of_ble_eq_true rfl); try dsimp only [setn, addE, goneL] at H
                         obtain ⟨r386, h387, hP⟩ := bind_inv hP
                         obtain ⟨Fa388, Hc389, hb390⟩ := H.call [] [(42, false), (44, false)] rfl rfl trivial
                         refine e_call E rfl rfl Try.func23 rfl rfl rfl (law21_same_calls A326 c327 (some ⟨g381, 0, none⟩) 3 r317.1 ([0, 0, 3] : List Int) (H.rcap 42 rfl) (H.rcapx 44 rfl) Hc389 h387) ?_
                         rintro v391 w392 a ⟨rfl, HR393⟩ E_
                         replace E := E_ _ rfl; clear E_
                         obtain ⟨H_, hc394⟩ := hb390 _ _ HR393 rfl
                         replace H := H_; clear H_; try dsimp only [setn, addE, goneL] at H
                         refine vr tbok 2 [] [(0, .bool r386)] [] E (by kernel_rfl) trivial ?_
                         clear E; intro a E
                         refine wpList_nil ?_
                         refine th_n ?_
                         refine wp_ret ?_
                         obtain rfl := Option.some.inj hP
                         refine ret1 E rfl rfl ?_
                         exact ⟨_, rfl, rfl, H.sel [] rfl⟩
                        ·
                         replace E := E_; clear E_
                         have h395 : ¬ ((r317.2 : Int) = 0) := ne_of_beq_false hb_
                         clear hb_; replace hP := ite_f h395 hP
                         refine vr tbok 5 [] [(0, .bool false)] [] E (by kernel_rfl) trivial ?_
                         clear E; intro a E
                         refine wpList_nil ?_
                         refine th_n ?_
                         refine wp_ret ?_
                         obtain rfl := Option.some.inj hP
                         refine ret1 E rfl rfl ?_
                         exact ⟨_, rfl, rfl, H.sel [] rfl⟩
                       ·
                        replace E := E_; clear E_
                        have h396 : ¬ (r370 = true) := (ne_true_of_eq_false hb_)
                        clear hb_; replace hP := ite_f h396 hP
                        refine vr tbok 9 [] [(0, .bool false)] [] E (by kernel_rfl) trivial ?_
                        clear E; intro a E
                        refine wpList_nil ?_
                        refine th_n ?_
                        refine wp_ret ?_
                        obtain rfl := Option.some.inj hP
                        refine ret1 E rfl rfl ?_
                        exact ⟨_, rfl, rfl, H.sel [] rfl⟩
                      ·
                       replace E := E_; clear E_
                       have h397 : ¬ ((r284.2 : Int) = 0) := ne_of_beq_false hb_
                       clear hb_; replace hP := ite_f h397 hP
                       refine vr tbok 14 [] [(0, .bool false)] [] E (by kernel_rfl) trivial ?_
                       clear E; intro a E
                       refine wpList_nil ?_
                       refine th_n ?_
                       refine wp_ret ?_
                       obtain rfl := Option.some.inj hP
                       refine ret1 E rfl rfl ?_
                       exact ⟨_, rfl, rfl, H.sel [] rfl⟩
                     ·
                      replace E := E_; clear E_
                      have h398 : ¬ ((r251.2.1 : Int) = 6) := ne_of_beq_false hb_
                      clear hb_; replace hP := ite_f h398 hP
                      refine vr tbok 18 [] [(0, .bool false)] [] E (by kernel_rfl) trivial ?_
                      clear E; intro a E
                      refine wpList_nil ?_
                      refine th_n ?_
                      refine wp_ret ?_
                      obtain rfl := Option.some.inj hP
                      refine ret1 E rfl rfl ?_
                      exact ⟨_, rfl, rfl, H.sel [] rfl⟩

end Go.V
