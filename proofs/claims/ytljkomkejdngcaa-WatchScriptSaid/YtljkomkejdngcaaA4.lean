/- Plain functions, and the calls that give them. -/
import Derived.Test.YtljkomkejdngcaaA3
set_option linter.all false
set_option linter.unusedVariables false
set_option linter.unnecessarySimpa false
set_option linter.unusedSimpArgs false
namespace Go.V
open Go Go.Proofs
/-! (*rejoinder/watch.Watch).Verdict -/
def watch_Watch_Verdict (N : Nat) (wboard : (Int × (List Bool) × (List Int) × (List Nd)) × (List Int) × (List Int)) (wcame : List Int) : Option Int :=
  Option.bind (watch_Watch_none N wboard wcame) fun r110 =>
  if r110 = true then
    some 0
  else
    Option.bind (watch_Watch_State N wboard wcame) fun r169 =>
    ask (idx r169 (List.length wboard.2.2)) <|
    some (List.getD wboard.2.2 (Int.toNat r169) 0)
set_option maxRecDepth 100000 in
set_option maxHeartbeats 4000000 in
theorem watch_Watch_Verdict_calls {N : Nat} {S Fa : Nat → Prop} {w0 : World} {r : Int} (g1 : Nat) (b3 : Nat) (o4 : Nat) (A6 : Option Addr) (c7 : Nat) (wboard : (Int × (List Bool) × (List Int) × (List Nd)) × (List Int) × (List Int)) (wcame : List Int) (H : Hp S Fa w0 w0 [.box g1 27 [.pointer (some ⟨b3, o4, none⟩), .slice A6 (List.length wcame) c7], .row true (cInt .i64) 3 A6 c7 wcame, .ro false cS78 (some ⟨b3, o4, none⟩) ([wboard])]) (hP : watch_Watch_Verdict N wboard wcame = some r) :
    Calls Try.prog 12 #[.pointer (some ⟨g1, 0, none⟩)] w0 fun e w' => ∃ v, e = .returned v ∧ (∃ (x_ : Int), r = x_ ∧ v = .int .u8 x_ ∧ Hp S Fa w0 w' [.row true (cInt .i64) 3 A6 c7 wcame, .box g1 27 [.pointer (some ⟨b3, o4, none⟩), .slice A6 (List.length wcame) c7]]) := by
 refine enterV (n := 16) Try.func12 rfl rfl rfl ?_
 intro a E
 replace E := E.pick [(0, .pointer (some ⟨g1, 0, none⟩))] ⟨rfl, trivial⟩
 rw [watch_Watch_Verdict] at hP
 refine wp_seq ?_
 refine wp_region_lit ?_
 refine vn tbok 1 [] [] [] E (by kernel_rfl) (by kernel_rfl) trivial ?_
 clear E; intro a E
 refine wpList_nil ?_
 refine th_n ?_
 refine wp_seq ?_
 refine wp_seq ?_
 refine wp_region_lit ?_
 refine vn tbok 1 [] [(3, .pointer (some ⟨g1, 0, none⟩))] [] E (by kernel_rfl) (by kernel_rfl) trivial ?_
 clear E; intro a E
 obtain ⟨r110, h111, hP⟩ := bind_inv hP
 obtain ⟨Fa112, Hc113, hb114⟩ := H.call [0, 1] [(2, false)] rfl rfl ⟨flat_plain, trivial⟩
 refine e_call E rfl rfl Try.func32 rfl rfl rfl (watch_Watch_none_calls g1 b3 o4 A6 c7 wboard wcame  Hc113 h111) ?_
 intro v120 w119 a hR121 E_
 obtain ⟨x_, hr_, rfl, HR123⟩ := hR121
 subst hr_
 replace E := E_ _ rfl; clear E_
 obtain ⟨H_, hc122⟩ := hb114 _ _ HR123 rfl
 replace H := H_; clear H_; try dsimp only [setn, addE, goneL] at H
 refine wpList_nil ?_
 refine th_n ?_
 refine E.cases (t := 4) rfl (fun hb_ E_ => ?_) (fun hb_ E_ => ?_)
 ·
  replace E := E_; clear E_
  have h126 : r110 = true := hb_
  clear hb_; replace hP := ite_t h126 hP
  refine c_true E rfl ?_
  refine wp_seq ?_
  refine wp_region_lit ?_
  refine vn tbok 1 [] [(2, .int .u8 0)] [] E (by kernel_rfl) (by kernel_rfl) trivial ?_
  clear E; intro a E
  refine wpList_nil ?_
  refine th_n ?_
  refine wp_ret ?_
  refine th_ret ?_
  obtain rfl := Option.some.inj hP
  refine ret1 E rfl rfl ?_
  exact ⟨_, rfl, ⟨0, rfl, rfl, H.sel [3, 4] rfl⟩⟩
 replace E := E_; clear E_
 have h127 : ¬ (r110 = true) := (ne_true_of_eq_false hb_)
 clear hb_; replace hP := ite_f h127 hP
 refine c_false E rfl ?_
 refine wp_skip ?_
 refine th_n ?_
 refine wp_seq ?_
 obtain ⟨Fz128, cs130, HF129, hK131, hc132⟩ := H.elem 2 false (el_ro rfl) wboard (idx_one _)
 obtain ⟨_, _, rfl, hK133, hK134⟩ := hK131
 obtain ⟨_, _, rfl, hK135, hK136⟩ := hK133
 obtain rfl := hK135
 obtain ⟨_, _, rfl, hK137, hK138⟩ := hK136
 obtain ⟨A139, c140, rfl, hk141, hC142⟩ := hK137
 obtain ⟨_, _, rfl, hK144, hK145⟩ := hK138
 obtain ⟨A146, c147, rfl, hk148, hC149⟩ := hK144
 obtain ⟨A151, c152, rfl, hk153, hC154⟩ := hK145
 obtain ⟨_, _, rfl, hK156, hK157⟩ := hK134
 obtain ⟨A158, c159, rfl, hk160, hC161⟩ := hK156
 obtain ⟨A163, c164, rfl, hk165, hC166⟩ := hK157
 replace HF129 := HF129.ins hC142
 replace HF129 := HF129.ins hC149
 replace HF129 := HF129.ins hC154
 replace HF129 := HF129.ins hC161
 replace HF129 := HF129.ins hC166
 replace H := HF129.hp; try dsimp only [addE] at H
 have hc168 : cellsAt w119 b3 (o4) [.int .i64 wboard.1.1, .slice A139 (List.length wboard.1.2.1) c140, .slice A146 (List.length wboard.1.2.2.1) c147, .slice A151 (List.length wboard.1.2.2.2) c152, .slice A158 (List.length wboard.2.1) c159, .slice A163 (List.length wboard.2.2) c164] := hc132
 obtain ⟨r169, h170, hP⟩ := bind_inv hP
 obtain ⟨g185, hP⟩ := ask_inv hP
 obtain ⟨b186, o187, e_b186⟩ := (H.rd 9 rds_ro).addr (idx_pos g185)
 subst e_b186
 refine meet_cut (fun a w188 => Fr a 16 [(2, .int .u8 (List.getD wboard.2.2 (Int.toNat r169) 0))] ∧ Hp S Fa w0 w188 [.ro false cS78 (some ⟨b3, o4, none⟩) ([wboard]), .row true (cInt .i64) 3 A6 c7 wcame, .box g1 27 [.pointer (some ⟨b3, o4, none⟩), .slice A6 (List.length wcame) c7]]) ?_ ?_
 ·
  have HR192 := H
  refine dr_start (S := fun w_ => Chg (atL [.row true (cInt .i64) 3 A6 c7 wcame, .box g1 27 [.pointer (some ⟨b3, o4, none⟩), .slice A6 (List.length wcame) c7]]) w119 w_) (by kernel_rfl) ?_
  intro w189 hc190
  have HS191 : Chg (atL [.row true (cInt .i64) 3 A6 c7 wcame, .box g1 27 [.pointer (some ⟨b3, o4, none⟩), .slice A6 (List.length wcame) c7]]) w119 w189 := hc190.mono (fun _ _ h_ => h_.elim)
  replace H := H.ext hc190
  refine dn tbok (by kernel_rfl) [0, 1, 2, 7] [] [(7, .pointer (some ⟨g1, 0, none⟩)), (12, .pointer (some ⟨g1, 0, none⟩))] (fun w_ => []) 8 E (fun _ _ => by kernel_rfl) (by kernel_rfl) (fun w_ hS_ => trivial) (by kernel_rfl) HS191 ?_
  clear E; intro a E
  refine wpAnyH_all (rs := [3, 8]) (by kernel_rfl) (by simp) ?_
  refine all2 ?_ ?_
  ·
   refine wpOp_of_list rfl ?_
   refine vn tbok 1 [.pointer (some ⟨b3, o4, none⟩)] [(8, .pointer (some ⟨b3, o4, none⟩))] [World.cell? w189 ⟨g1, 0, none⟩ = some (.pointer (some ⟨b3, o4, none⟩))] E (by kernel_rfl) (by kernel_rfl) ((H.box 4 rfl).cell (j := 0) rfl) ?_
   clear E; intro a E
   refine wpList_nil ?_
   refine th_n ⟨HS191, ?_⟩
   refine dn tbok (by kernel_rfl) [4, 5, 6] [.slice (some ⟨b186, o187, none⟩) (List.length wboard.2.2) c164] [(11, .slice (some ⟨b186, o187, none⟩) (List.length wboard.2.2) c164)] (fun w_ => [World.cell? w_ ⟨b3, o4 + 5, none⟩ = some (.slice (some ⟨b186, o187, none⟩) (List.length wboard.2.2) c164)]) 4 E (fun _ _ => by kernel_rfl) (by kernel_rfl) (fun w_ hS_ => (hS_.cell (hc168.get 5 _ rfl) (HR192.blk [3, 4] 2 rds_ro (idx_pos (idx_one _)) rfl))) (by kernel_rfl) HS191 ?_
   clear E; intro a E
   refine wpAnyH_all (rs := [8]) (by kernel_rfl) (by simp) ?_
   refine all1 ?_
   refine wpOp_of_list rfl ?_
   obtain ⟨Fa193, Hc194, hb195⟩ := H.call [4, 3] [(2, false)] rfl rfl ⟨flat_plain, trivial⟩
   refine e_call E rfl rfl Try.func13 rfl rfl rfl (watch_Watch_State_calls g1 b3 o4 A6 c7 wboard wcame  Hc194 h170) ?_
   intro v201 w200 a hR202 E_
   obtain ⟨x_, hr_, rfl, HR204⟩ := hR202
   subst hr_
   replace E := E_ _ rfl; clear E_
   obtain ⟨H_, hc203⟩ := hb195 _ _ HR204 rfl
   replace HS191 := HS191.trans hc203 (fun k_ hk_ h_ => h_.elim (fun h_ => by have hs_ := HS191.size; exfalso; omega) (fun h_ => h_.elim (fun h_ => (fun _ _ h_ => Or.inr (Or.inl h_)) k_ hk_ h_) (fun h_ => h_.elim (fun h_ => (fun _ _ h_ => Or.inl h_) k_ hk_ h_) (fun h_ => h_.elim))))
   replace H := H_; clear H_; try dsimp only [setn, addE, goneL] at H
   refine wpList_nil ?_
   refine th_n ⟨HS191, ?_⟩
   refine dn tbok (by kernel_rfl) [9, 10, 11] [.int .u8 (List.getD wboard.2.2 (Int.toNat r169) 0)] [(2, .int .u8 (List.getD wboard.2.2 (Int.toNat r169) 0))] (fun w_ => [0 ≤ r169 ∧ r169 < (((List.length wboard.2.2) : Nat) : Int), World.cell? w_ ⟨b186, o187 + (Int.toNat r169) * 1, none⟩ = some (.int .u8 (List.getD wboard.2.2 (Int.toNat r169) 0))]) 0 E (fun _ _ => by kernel_rfl) (by kernel_rfl) (fun w_ hS_ => ⟨g185, Rds.at1 (HR192.rdk [3, 4] hS_ 9 rds_ro rfl) 0 g185⟩) (by kernel_rfl) HS191 ?_
   clear E; intro a E
   refine dr_done (by kernel_rfl) ?_
   exact .inl ⟨rfl, E.pick _ ⟨rfl, trivial⟩, H.sel [2, 10, 11] rfl⟩
  refine wpOp_of_list rfl ?_
  obtain ⟨Fa207, Hc208, hb209⟩ := H.call [4, 3] [(2, false)] rfl rfl ⟨flat_plain, trivial⟩
  refine e_call E rfl rfl Try.func13 rfl rfl rfl (watch_Watch_State_calls g1 b3 o4 A6 c7 wboard wcame  Hc208 h170) ?_
  intro v215 w214 a hR216 E_
  obtain ⟨x_, hr_, rfl, HR218⟩ := hR216
  subst hr_
  replace E := E_ _ rfl; clear E_
  obtain ⟨H_, hc217⟩ := hb209 _ _ HR218 rfl
  replace HS191 := HS191.trans hc217 (fun k_ hk_ h_ => h_.elim (fun h_ => by have hs_ := HS191.size; exfalso; omega) (fun h_ => h_.elim (fun h_ => (fun _ _ h_ => Or.inr (Or.inl h_)) k_ hk_ h_) (fun h_ => h_.elim (fun h_ => (fun _ _ h_ => Or.inl h_) k_ hk_ h_) (fun h_ => h_.elim))))
  replace H := H_; clear H_; try dsimp only [setn, addE, goneL] at H
  refine wpList_nil ?_
  refine th_n ⟨HS191, ?_⟩
  refine wpAnyH_all (rs := [3]) (by kernel_rfl) (by simp) ?_
  refine all1 ?_
  refine wpOp_of_list rfl ?_
  refine vn tbok 1 [.pointer (some ⟨b3, o4, none⟩)] [(8, .pointer (some ⟨b3, o4, none⟩))] [World.cell? w214 ⟨g1, 0, none⟩ = some (.pointer (some ⟨b3, o4, none⟩))] E (by kernel_rfl) (by kernel_rfl) ((H.box 11 rfl).cell (j := 0) rfl) ?_
  clear E; intro a E
  refine wpList_nil ?_
  refine th_n ⟨HS191, ?_⟩
  refine dn tbok (by kernel_rfl) [4, 5, 6, 9, 10, 11] [.slice (some ⟨b186, o187, none⟩) (List.length wboard.2.2) c164, .int .u8 (List.getD wboard.2.2 (Int.toNat r169) 0)] [(2, .int .u8 (List.getD wboard.2.2 (Int.toNat r169) 0))] (fun w_ => [World.cell? w_ ⟨b3, o4 + 5, none⟩ = some (.slice (some ⟨b186, o187, none⟩) (List.length wboard.2.2) c164), 0 ≤ r169 ∧ r169 < (((List.length wboard.2.2) : Nat) : Int), World.cell? w_ ⟨b186, o187 + (Int.toNat r169) * 1, none⟩ = some (.int .u8 (List.getD wboard.2.2 (Int.toNat r169) 0))]) 0 E (fun _ _ => by kernel_rfl) (by kernel_rfl) (fun w_ hS_ => ⟨hS_.cell (hc168.get 5 _ rfl) (HR192.blk [3, 4] 2 rds_ro (idx_pos (idx_one _)) rfl), g185, Rds.at1 (HR192.rdk [3, 4] hS_ 9 rds_ro rfl) 0 g185⟩) (by kernel_rfl) HS191 ?_
  clear E; intro a E
  refine dr_done (by kernel_rfl) ?_
  exact .inl ⟨rfl, E.pick _ ⟨rfl, trivial⟩, H.sel [2, 10, 11] rfl⟩
 clear E H; rintro a w188 ⟨E, H⟩
 refine th_n ?_
 refine wp_ret ?_
 obtain rfl := Option.some.inj hP
 refine ret1 E rfl rfl ?_
 exact ⟨_, rfl, ⟨(List.getD wboard.2.2 (Int.toNat r169) 0), rfl, rfl, H.sel [1, 2] rfl⟩⟩

/-! (*rejoinder/watch.Watch).Feed -/
def watch_Watch_Feed (N : Nat) (wboard : (Int × (List Bool) × (List Int) × (List Nd)) × (List Int) × (List Int)) (wcame : List Int) (ll : Int) : Option (Int × Int × (List Int)) :=
  Option.bind (watch_Watch_none N wboard wcame) fun r114 =>
  if r114 = true then
    some (0, 1, wcame)
  else
    Option.bind (letter_Fits N wboard.1.1 ll) fun r173 =>
    if r173 = true then
      if 1024 ≤ (((List.length wcame) : Nat) : Int) then
        some (0, 15, wcame)
      else
        Option.bind (watch_Watch_State N wboard wcame) fun r268 =>
        ask (idx r268 (List.length wboard.1.2.2.1)) <|
        Option.bind (guard_Go N wboard.1.2.2.2 (List.getD wboard.1.2.2.1 (Int.toNat r268) 0) ll) fun r287 =>
        ask (List.length wcame + List.length ([r287.1] : List Int) ≤ 1000000000) <|
        Option.bind (watch_Watch_Verdict N wboard (wcame ++ ([r287.1] : List Int))) fun r426 =>
        some (r426, 0, (wcame ++ ([r287.1] : List Int)))
    else
      some (0, 2, wcame)
set_option maxRecDepth 100000 in
set_option maxHeartbeats 4000000 in
theorem watch_Watch_Feed_calls {N : Nat} {S Fa : Nat → Prop} {w0 : World} {r : Int × Int × (List Int)} (g1 : Nat) (b3 : Nat) (o4 : Nat) (A6 : Option Addr) (c7 : Nat) (wboard : (Int × (List Bool) × (List Int) × (List Nd)) × (List Int) × (List Int)) (wcame : List Int) (ll : Int) (H : Hp S Fa w0 w0 [.box g1 27 [.pointer (some ⟨b3, o4, none⟩), .slice A6 (List.length wcame) c7], .row true (cInt .i64) 3 A6 c7 wcame, .ro false cS78 (some ⟨b3, o4, none⟩) ([wboard])]) (hP : watch_Watch_Feed N wboard wcame ll = some r) :
    Calls Try.prog 9 #[.pointer (some ⟨g1, 0, none⟩), .int .u8 ll] w0 fun e w' => ∃ v, e = .returned v ∧ (∃ (x_ : Int × Int × (List Int)) (A12 : Option Addr) (c13 : Nat), r = x_ ∧ v = .tuple #[.int .u8 x_.1, .int .i64 x_.2.1] ∧ Hp S Fa w0 w' [.box g1 27 [.pointer (some ⟨b3, o4, none⟩), .slice A12 (List.length x_.2.2) c13], .row true (cInt .i64) 3 A12 c13 x_.2.2]) := by
 refine enterV (n := 67) Try.func9 rfl rfl rfl ?_
 intro a E
 replace E := E.pick [(0, .pointer (some ⟨g1, 0, none⟩)), (1, .int .u8 ll)] ⟨rfl, rfl, trivial⟩
 rw [watch_Watch_Feed] at hP
 refine wp_seq ?_
 refine wp_region_lit ?_
 refine vn tbok 2 [] [] [] E (by kernel_rfl) (by kernel_rfl) trivial ?_
 clear E; intro a E
 refine wpList_nil ?_
 refine th_n ?_
 refine wp_seq ?_
 refine wp_block ?_
 refine wp_seq ?_
 refine wp_region_lit ?_
 refine vn tbok 1 [] [(9, .pointer (some ⟨g1, 0, none⟩))] [] E (by kernel_rfl) (by kernel_rfl) trivial ?_
 clear E; intro a E
 obtain ⟨r114, h115, hP⟩ := bind_inv hP
 obtain ⟨Fa116, Hc117, hb118⟩ := H.call [0, 1] [(2, false)] rfl rfl ⟨flat_plain, trivial⟩
 refine e_call E rfl rfl Try.func32 rfl rfl rfl (watch_Watch_none_calls g1 b3 o4 A6 c7 wboard wcame  Hc117 h115) ?_
 intro v124 w123 a hR125 E_
 obtain ⟨x_, hr_, rfl, HR127⟩ := hR125
 subst hr_
 replace E := E_ _ rfl; clear E_
 obtain ⟨H_, hc126⟩ := hb118 _ _ HR127 rfl
 replace H := H_; clear H_; try dsimp only [setn, addE, goneL] at H
 refine vn tbok 1 [] [(8, .bool r114)] [] E (by kernel_rfl) (by kernel_rfl) trivial ?_
 clear E; intro a E
 refine wpList_nil ?_
 refine th_n ?_
 refine E.cases (t := 8) rfl (fun hb_ E_ => ?_) (fun hb_ E_ => ?_)
 ·
  replace E := E_; clear E_
  have h130 : r114 = true := hb_
  clear hb_; replace hP := ite_t h130 hP
  refine c_true E rfl ?_
  refine wp_seq ?_
  refine wp_region_lit ?_
  refine vn tbok 2 [] [(4, .int .u8 0), (5, .int .i64 1)] [] E (by kernel_rfl) (by kernel_rfl) trivial ?_
  clear E; intro a E
  refine wpList_nil ?_
  refine th_n ?_
  refine wp_ret ?_
  refine bl_ret ?_
  refine th_ret ?_
  obtain rfl := Option.some.inj hP
  refine ret2 E rfl rfl rfl ?_
  exact ⟨_, rfl, ⟨(0, 1, wcame), A6, c7, rfl, rfl, H.sel [4, 3] rfl⟩⟩
 replace E := E_; clear E_
 have h131 : ¬ (r114 = true) := (ne_true_of_eq_false hb_)
 clear hb_; replace hP := ite_f h131 hP
 refine c_false E rfl ?_
 refine wp_seq ?_
 refine wp_region_lit ?_
 obtain ⟨Fz132, cs134, HF133, hK135, hc136⟩ := H.elem 2 false (el_ro rfl) wboard (idx_one _)
 obtain ⟨_, _, rfl, hK137, hK138⟩ := hK135
 obtain ⟨_, _, rfl, hK139, hK140⟩ := hK137
 obtain rfl := hK139
 obtain ⟨_, _, rfl, hK141, hK142⟩ := hK140
 obtain ⟨A143, c144, rfl, hk145, hC146⟩ := hK141
 obtain ⟨_, _, rfl, hK148, hK149⟩ := hK142
 obtain ⟨A150, c151, rfl, hk152, hC153⟩ := hK148
 obtain ⟨A155, c156, rfl, hk157, hC158⟩ := hK149
 obtain ⟨_, _, rfl, hK160, hK161⟩ := hK138
 obtain ⟨A162, c163, rfl, hk164, hC165⟩ := hK160
 obtain ⟨A167, c168, rfl, hk169, hC170⟩ := hK161
 replace HF133 := HF133.ins hC146
 replace HF133 := HF133.ins hC153
 replace HF133 := HF133.ins hC158
 replace HF133 := HF133.ins hC165
 replace HF133 := HF133.ins hC170
 replace H := HF133.hp; try dsimp only [addE] at H
 have hc172 : cellsAt w123 b3 (o4) [.int .i64 wboard.1.1, .slice A143 (List.length wboard.1.2.1) c144, .slice A150 (List.length wboard.1.2.2.1) c151, .slice A155 (List.length wboard.1.2.2.2) c156, .slice A162 (List.length wboard.2.1) c163, .slice A167 (List.length wboard.2.2) c168] := hc136
 refine vn tbok 9 [.pointer (some ⟨b3, o4, none⟩), .int .i64 wboard.1.1] [(19, .int .i64 wboard.1.1), (20, .int .u8 ll)] [World.cell? w123 ⟨g1, 0, none⟩ = some (.pointer (some ⟨b3, o4, none⟩)), World.cell? w123 ⟨b3, o4, none⟩ = some (.int .i64 wboard.1.1)] E (by kernel_rfl) (by kernel_rfl) ⟨(H.box 4 rfl).cell (j := 0) rfl, hc172.1⟩ ?_
 clear E; intro a E
 obtain ⟨r173, h174, hP⟩ := bind_inv hP
 obtain ⟨Fa175, Hc176, hb177⟩ := H.call [] [] rfl rfl trivial
 refine e_call E rfl rfl Try.func33 rfl rfl rfl (letter_Fits_calls  wboard.1.1 ll  Hc176 h174) ?_
 rintro v178 w179 a ⟨rfl, HR180⟩ E_
 replace E := E_ _ rfl; clear E_
 obtain ⟨H_, hc181⟩ := hb177 _ _ HR180 rfl
 replace H := H_; clear H_; try dsimp only [setn, addE, goneL] at H
 refine vn tbok 2 [] [(11, .bool (!r173))] [] E (by kernel_rfl) (by kernel_rfl) trivial ?_
 clear E; intro a E
 refine wpList_nil ?_
 refine th_n ?_
 refine E.cases (t := 11) rfl (fun hb_ E_ => ?_) (fun hb_ E_ => ?_)
 ·
  replace E := E_; clear E_
  have h182 : ¬ (r173 = true) := (ne_true_of_eq_false (not_t hb_))
  clear hb_; replace hP := ite_f h182 hP
  refine c_true E rfl ?_
  refine wp_seq ?_
  refine wp_region_lit ?_
  refine vn tbok 2 [] [(4, .int .u8 0), (5, .int .i64 2)] [] E (by kernel_rfl) (by kernel_rfl) trivial ?_
  clear E; intro a E
  refine wpList_nil ?_
  refine th_n ?_
  refine wp_ret ?_
  refine bl_ret ?_
  refine th_ret ?_
  obtain rfl := Option.some.inj hP
  refine ret2 E rfl rfl rfl ?_
  exact ⟨_, rfl, ⟨(0, 2, wcame), A6, c7, rfl, rfl, H.sel [4, 3] rfl⟩⟩
 replace E := E_; clear E_
 have h183 : r173 = true := (not_f hb_)
 clear hb_; replace hP := ite_t h183 hP
 refine c_false E rfl ?_
 refine wp_seq ?_
 refine wp_region_lit ?_
 refine vn tbok 7 [.slice A6 (List.length wcame) c7] [(23, .bool (decide (1024 ≤ (((List.length wcame) : Nat) : Int))))] [World.cell? w179 ⟨g1, 1, none⟩ = some (.slice A6 (List.length wcame) c7)] E (by kernel_rfl) (by kernel_rfl) ((H.box 4 rfl).cell (j := 1) rfl) ?_
 clear E; intro a E
 refine wpList_nil ?_
 refine th_n ?_
 refine E.cases (t := 23) rfl (fun hb_ E_ => ?_) (fun hb_ E_ => ?_)
 ·
  replace E := E_; clear E_
  have h184 : 1024 ≤ (((List.length wcame) : Nat) : Int) := of_decide_eq_true hb_
  clear hb_; replace hP := ite_t h184 hP
  refine c_true E rfl ?_
  refine wp_seq ?_
  refine wp_region_lit ?_
  refine vn tbok 2 [] [(4, .int .u8 0), (5, .int .i64 15)] [] E (by kernel_rfl) (by kernel_rfl) trivial ?_
  clear E; intro a E
  refine wpList_nil ?_
  refine th_n ?_
  refine wp_ret ?_
  refine bl_ret ?_
  refine th_ret ?_
  obtain rfl := Option.some.inj hP
  refine ret2 E rfl rfl rfl ?_
  exact ⟨_, rfl, ⟨(0, 15, wcame), A6, c7, rfl, rfl, H.sel [4, 3] rfl⟩⟩
 replace E := E_; clear E_
 have h185 : ¬ (1024 ≤ (((List.length wcame) : Nat) : Int)) := of_decide_eq_false hb_
 clear hb_; replace hP := ite_f h185 hP
 refine c_false E rfl ?_
 refine wp_skip ?_
 refine bl_n ?_
 refine th_n ?_
 refine wp_seq ?_
 obtain ⟨Fz186, cs188, HF187, hK189, hc190⟩ := H.elem 2 false (el_ro rfl) wboard (idx_one _)
 obtain ⟨_, _, rfl, hK191, hK192⟩ := hK189
 obtain ⟨_, _, rfl, hK193, hK194⟩ := hK191
 obtain rfl := hK193
 obtain ⟨_, _, rfl, hK195, hK196⟩ := hK194
 obtain ⟨A197, c198, rfl, hk199, hC200⟩ := hK195
 obtain ⟨_, _, rfl, hK202, hK203⟩ := hK196
 obtain ⟨A204, c205, rfl, hk206, hC207⟩ := hK202
 obtain ⟨A209, c210, rfl, hk211, hC212⟩ := hK203
 obtain ⟨_, _, rfl, hK214, hK215⟩ := hK192
 obtain ⟨A216, c217, rfl, hk218, hC219⟩ := hK214
 obtain ⟨A221, c222, rfl, hk223, hC224⟩ := hK215
 replace HF187 := HF187.ins hC200
 replace HF187 := HF187.ins hC207
 replace HF187 := HF187.ins hC212
 replace HF187 := HF187.ins hC219
 replace HF187 := HF187.ins hC224
 replace H := HF187.hp; try dsimp only [addE] at H
 have hc226 : cellsAt w179 b3 (o4) [.int .i64 wboard.1.1, .slice A197 (List.length wboard.1.2.1) c198, .slice A204 (List.length wboard.1.2.2.1) c205, .slice A209 (List.length wboard.1.2.2.2) c210, .slice A216 (List.length wboard.2.1) c217, .slice A221 (List.length wboard.2.2) c222] := hc190
 obtain ⟨Fz227, cs229, HF228, hK230, hc231⟩ := H.elem 2 false (el_ro rfl) wboard (idx_one _)
 obtain ⟨_, _, rfl, hK232, hK233⟩ := hK230
 obtain ⟨_, _, rfl, hK234, hK235⟩ := hK232
 obtain rfl := hK234
 obtain ⟨_, _, rfl, hK236, hK237⟩ := hK235
 obtain ⟨A238, c239, rfl, hk240, hC241⟩ := hK236
 obtain ⟨_, _, rfl, hK243, hK244⟩ := hK237
 obtain ⟨A245, c246, rfl, hk247, hC248⟩ := hK243
 obtain ⟨A250, c251, rfl, hk252, hC253⟩ := hK244
 obtain ⟨_, _, rfl, hK255, hK256⟩ := hK233
 obtain ⟨A257, c258, rfl, hk259, hC260⟩ := hK255
 obtain ⟨A262, c263, rfl, hk264, hC265⟩ := hK256
 replace HF228 := HF228.ins hC241
 replace HF228 := HF228.ins hC248
 replace HF228 := HF228.ins hC253
 replace HF228 := HF228.ins hC260
 replace HF228 := HF228.ins hC265
 replace H := HF228.hp; try dsimp only [addE] at H
 have hc267 : cellsAt w179 b3 (o4) [.int .i64 wboard.1.1, .slice A238 (List.length wboard.1.2.1) c239, .slice A245 (List.length wboard.1.2.2.1) c246, .slice A250 (List.length wboard.1.2.2.2) c251, .slice A257 (List.length wboard.2.1) c258, .slice A262 (List.length wboard.2.2) c263] := hc231
 obtain ⟨r268, h269, hP⟩ := bind_inv hP
 obtain ⟨g284, hP⟩ := ask_inv hP
 obtain ⟨b285, o286, e_b285⟩ := (H.rd 16 rds_ro).addr (idx_pos g284)
 subst e_b285
 obtain ⟨r287, h288, hP⟩ := bind_inv hP
 refine meet_cut (fun a w296 => Fr a 67 [(0, .pointer (some ⟨g1, 0, none⟩)), (6, .int .i64 r287.1)] ∧ Hp S Fa w0 w296 [.ro false cS78 (some ⟨b3, o4, none⟩) ([wboard]), .row true (cInt .i64) 3 A6 c7 wcame, .box g1 27 [.pointer (some ⟨b3, o4, none⟩), .slice A6 (List.length wcame) c7]]) ?_ ?_
 ·
  have HR300 := H
  refine dr_start (S := fun w_ => Chg (atL [.row true (cInt .i64) 3 A6 c7 wcame, .box g1 27 [.pointer (some ⟨b3, o4, none⟩), .slice A6 (List.length wcame) c7]]) w179 w_) (by kernel_rfl) ?_
  intro w297 hc298
  have HS299 : Chg (atL [.row true (cInt .i64) 3 A6 c7 wcame, .box g1 27 [.pointer (some ⟨b3, o4, none⟩), .slice A6 (List.length wcame) c7]]) w179 w297 := hc298.mono (fun _ _ h_ => h_.elim)
  replace H := H.ext hc298
  refine dn tbok (by kernel_rfl) [0, 1, 2, 8, 9, 10, 16, 20] [] [(33, .pointer (some ⟨g1, 0, none⟩)), (41, .pointer (some ⟨g1, 0, none⟩)), (47, .pointer (some ⟨g1, 0, none⟩)), (51, .int .u8 ll)] (fun w_ => []) 19 E (fun _ _ => by kernel_rfl) (by kernel_rfl) (fun w_ hS_ => trivial) (by kernel_rfl) HS299 ?_
  clear E; intro a E
  refine wpAnyH_all (rs := [3, 11, 17]) (by kernel_rfl) (by simp) ?_
  refine all3 ?_ ?_ ?_
  ·
   refine wpOp_of_list rfl ?_
   refine vn tbok 1 [.pointer (some ⟨b3, o4, none⟩)] [(34, .pointer (some ⟨b3, o4, none⟩))] [World.cell? w297 ⟨g1, 0, none⟩ = some (.pointer (some ⟨b3, o4, none⟩))] E (by kernel_rfl) (by kernel_rfl) ((H.box 4 rfl).cell (j := 0) rfl) ?_
   clear E; intro a E
   refine wpList_nil ?_
   refine th_n ⟨HS299, ?_⟩
   refine dn tbok (by kernel_rfl) [4, 5, 6, 7] [.slice A209 (List.length wboard.1.2.2.2) c210] [(38, .slice A209 (List.length wboard.1.2.2.2) c210)] (fun w_ => [World.cell? w_ ⟨b3, o4 + 3, none⟩ = some (.slice A209 (List.length wboard.1.2.2.2) c210)]) 14 E (fun _ _ => by kernel_rfl) (by kernel_rfl) (fun w_ hS_ => (hS_.cell (hc226.get 3 _ rfl) (HR300.blk [3, 4] 2 rds_ro (idx_pos (idx_one _)) rfl))) (by kernel_rfl) HS299 ?_
   clear E; intro a E
   refine wpAnyH_all (rs := [11, 17]) (by kernel_rfl) (by simp) ?_
   refine all2 ?_ ?_
   ·
    refine wpOp_of_list rfl ?_
    refine vn tbok 1 [.pointer (some ⟨b3, o4, none⟩)] [(42, .pointer (some ⟨b3, o4, none⟩))] [World.cell? w297 ⟨g1, 0, none⟩ = some (.pointer (some ⟨b3, o4, none⟩))] E (by kernel_rfl) (by kernel_rfl) ((H.box 4 rfl).cell (j := 0) rfl) ?_
    clear E; intro a E
    refine wpList_nil ?_
    refine th_n ⟨HS299, ?_⟩
    refine dn tbok (by kernel_rfl) [12, 13, 14, 15] [.slice (some ⟨b285, o286, none⟩) (List.length wboard.1.2.2.1) c246] [(46, .slice (some ⟨b285, o286, none⟩) (List.length wboard.1.2.2.1) c246)] (fun w_ => [World.cell? w_ ⟨b3, o4 + 2, none⟩ = some (.slice (some ⟨b285, o286, none⟩) (List.length wboard.1.2.2.1) c246)]) 9 E (fun _ _ => by kernel_rfl) (by kernel_rfl) (fun w_ hS_ => (hS_.cell (hc267.get 2 _ rfl) (HR300.blk [3, 4] 2 rds_ro (idx_pos (idx_one _)) rfl))) (by kernel_rfl) HS299 ?_
    clear E; intro a E
    refine wpAnyH_all (rs := [17]) (by kernel_rfl) (by simp) ?_
    refine all1 ?_
    refine wpOp_of_list rfl ?_
    obtain ⟨Fa301, Hc302, hb303⟩ := H.call [4, 3] [(2, false)] rfl rfl ⟨flat_plain, trivial⟩
    refine e_call E rfl rfl Try.func13 rfl rfl rfl (watch_Watch_State_calls g1 b3 o4 A6 c7 wboard wcame  Hc302 h269) ?_
    intro v309 w308 a hR310 E_
    obtain ⟨x_, hr_, rfl, HR312⟩ := hR310
    subst hr_
    replace E := E_ _ rfl; clear E_
    obtain ⟨H_, hc311⟩ := hb303 _ _ HR312 rfl
    replace HS299 := HS299.trans hc311 (fun k_ hk_ h_ => h_.elim (fun h_ => by have hs_ := HS299.size; exfalso; omega) (fun h_ => h_.elim (fun h_ => (fun _ _ h_ => Or.inr (Or.inl h_)) k_ hk_ h_) (fun h_ => h_.elim (fun h_ => (fun _ _ h_ => Or.inl h_) k_ hk_ h_) (fun h_ => h_.elim))))
    replace H := H_; clear H_; try dsimp only [setn, addE, goneL] at H
    refine wpList_nil ?_
    refine th_n ⟨HS299, ?_⟩
    refine dn tbok (by kernel_rfl) [18, 19] [.int .i64 (List.getD wboard.1.2.2.1 (Int.toNat r268) 0)] [(50, .int .i64 (List.getD wboard.1.2.2.1 (Int.toNat r268) 0))] (fun w_ => [0 ≤ r268 ∧ r268 < (((List.length wboard.1.2.2.1) : Nat) : Int), World.cell? w_ ⟨b285, o286 + (Int.toNat r268) * 1, none⟩ = some (.int .i64 (List.getD wboard.1.2.2.1 (Int.toNat r268) 0))]) 6 E (fun _ _ => by kernel_rfl) (by kernel_rfl) (fun w_ hS_ => ⟨g284, Rds.at1 (HR300.rdk [3, 4] hS_ 16 rds_ro rfl) 0 g284⟩) (by kernel_rfl) HS299 ?_
    clear E; intro a E
    refine wpAnyH_all (rs := [21]) (by kernel_rfl) (by simp) ?_
    refine all1 ?_
    refine wpOp_of_list rfl ?_
    obtain ⟨Fa315, Hc316, hb317⟩ := H.call [] [(12, false)] rfl rfl trivial
    refine e_call E rfl rfl Try.func34 rfl rfl rfl (guard_Go_calls A209 c210 wboard.1.2.2.2 (List.getD wboard.1.2.2.1 (Int.toNat r268) 0) ll hk211 Hc316 h288) ?_
    rintro v318 w319 a ⟨rfl, HR320⟩ E_
    replace E := E_ _ rfl; clear E_
    obtain ⟨H_, hc321⟩ := hb317 _ _ HR320 rfl
    replace HS299 := HS299.ext (callS_ext hc321)
    replace H := H_; clear H_; try dsimp only [setn, addE, goneL] at H
    refine wpList_nil ?_
    refine th_n ⟨HS299, ?_⟩
    refine dn tbok (by kernel_rfl) [22, 23, 24, 25, 26] [] [(6, .int .i64 r287.1)] (fun w_ => []) 0 E (fun _ _ => by kernel_rfl) (by kernel_rfl) (fun w_ hS_ => trivial) (by kernel_rfl) HS299 ?_
    clear E; intro a E
    refine dr_done (by kernel_rfl) ?_
    exact .inl ⟨rfl, E.pick _ ⟨rfl, rfl, trivial⟩, H.sel [2, 20, 21] rfl⟩
   refine wpOp_of_list rfl ?_
   obtain ⟨Fa322, Hc323, hb324⟩ := H.call [4, 3] [(2, false)] rfl rfl ⟨flat_plain, trivial⟩
   refine e_call E rfl rfl Try.func13 rfl rfl rfl (watch_Watch_State_calls g1 b3 o4 A6 c7 wboard wcame  Hc323 h269) ?_
   intro v330 w329 a hR331 E_
   obtain ⟨x_, hr_, rfl, HR333⟩ := hR331
   subst hr_
   replace E := E_ _ rfl; clear E_
   obtain ⟨H_, hc332⟩ := hb324 _ _ HR333 rfl
   replace HS299 := HS299.trans hc332 (fun k_ hk_ h_ => h_.elim (fun h_ => by have hs_ := HS299.size; exfalso; omega) (fun h_ => h_.elim (fun h_ => (fun _ _ h_ => Or.inr (Or.inl h_)) k_ hk_ h_) (fun h_ => h_.elim (fun h_ => (fun _ _ h_ => Or.inl h_) k_ hk_ h_) (fun h_ => h_.elim))))
   replace H := H_; clear H_; try dsimp only [setn, addE, goneL] at H
   refine wpList_nil ?_
   refine th_n ⟨HS299, ?_⟩
   refine wpAnyH_all (rs := [11]) (by kernel_rfl) (by simp) ?_
   refine all1 ?_
   refine wpOp_of_list rfl ?_
   refine vn tbok 1 [.pointer (some ⟨b3, o4, none⟩)] [(42, .pointer (some ⟨b3, o4, none⟩))] [World.cell? w329 ⟨g1, 0, none⟩ = some (.pointer (some ⟨b3, o4, none⟩))] E (by kernel_rfl) (by kernel_rfl) ((H.box 21 rfl).cell (j := 0) rfl) ?_
   clear E; intro a E
   refine wpList_nil ?_
   refine th_n ⟨HS299, ?_⟩
   refine dn tbok (by kernel_rfl) [12, 13, 14, 15, 18, 19] [.slice (some ⟨b285, o286, none⟩) (List.length wboard.1.2.2.1) c246, .int .i64 (List.getD wboard.1.2.2.1 (Int.toNat r268) 0)] [(50, .int .i64 (List.getD wboard.1.2.2.1 (Int.toNat r268) 0))] (fun w_ => [World.cell? w_ ⟨b3, o4 + 2, none⟩ = some (.slice (some ⟨b285, o286, none⟩) (List.length wboard.1.2.2.1) c246), 0 ≤ r268 ∧ r268 < (((List.length wboard.1.2.2.1) : Nat) : Int), World.cell? w_ ⟨b285, o286 + (Int.toNat r268) * 1, none⟩ = some (.int .i64 (List.getD wboard.1.2.2.1 (Int.toNat r268) 0))]) 6 E (fun _ _ => by kernel_rfl) (by kernel_rfl) (fun w_ hS_ => ⟨hS_.cell (hc267.get 2 _ rfl) (HR300.blk [3, 4] 2 rds_ro (idx_pos (idx_one _)) rfl), g284, Rds.at1 (HR300.rdk [3, 4] hS_ 16 rds_ro rfl) 0 g284⟩) (by kernel_rfl) HS299 ?_
   clear E; intro a E
   refine wpAnyH_all (rs := [21]) (by kernel_rfl) (by simp) ?_
   refine all1 ?_
   refine wpOp_of_list rfl ?_
   obtain ⟨Fa336, Hc337, hb338⟩ := H.call [] [(12, false)] rfl rfl trivial
   refine e_call E rfl rfl Try.func34 rfl rfl rfl (guard_Go_calls A209 c210 wboard.1.2.2.2 (List.getD wboard.1.2.2.1 (Int.toNat r268) 0) ll hk211 Hc337 h288) ?_
   rintro v339 w340 a ⟨rfl, HR341⟩ E_
   replace E := E_ _ rfl; clear E_
   obtain ⟨H_, hc342⟩ := hb338 _ _ HR341 rfl
   replace HS299 := HS299.ext (callS_ext hc342)
   replace H := H_; clear H_; try dsimp only [setn, addE, goneL] at H
   refine wpList_nil ?_
   refine th_n ⟨HS299, ?_⟩
   refine dn tbok (by kernel_rfl) [22, 23, 24, 25, 26] [] [(6, .int .i64 r287.1)] (fun w_ => []) 0 E (fun _ _ => by kernel_rfl) (by kernel_rfl) (fun w_ hS_ => trivial) (by kernel_rfl) HS299 ?_
   clear E; intro a E
   refine dr_done (by kernel_rfl) ?_
   exact .inl ⟨rfl, E.pick _ ⟨rfl, rfl, trivial⟩, H.sel [2, 20, 21] rfl⟩
  ·
   refine wpOp_of_list rfl ?_
   refine vn tbok 1 [.pointer (some ⟨b3, o4, none⟩)] [(42, .pointer (some ⟨b3, o4, none⟩))] [World.cell? w297 ⟨g1, 0, none⟩ = some (.pointer (some ⟨b3, o4, none⟩))] E (by kernel_rfl) (by kernel_rfl) ((H.box 4 rfl).cell (j := 0) rfl) ?_
   clear E; intro a E
   refine wpList_nil ?_
   refine th_n ⟨HS299, ?_⟩
   refine dn tbok (by kernel_rfl) [12, 13, 14, 15] [.slice (some ⟨b285, o286, none⟩) (List.length wboard.1.2.2.1) c246] [(46, .slice (some ⟨b285, o286, none⟩) (List.length wboard.1.2.2.1) c246)] (fun w_ => [World.cell? w_ ⟨b3, o4 + 2, none⟩ = some (.slice (some ⟨b285, o286, none⟩) (List.length wboard.1.2.2.1) c246)]) 14 E (fun _ _ => by kernel_rfl) (by kernel_rfl) (fun w_ hS_ => (hS_.cell (hc267.get 2 _ rfl) (HR300.blk [3, 4] 2 rds_ro (idx_pos (idx_one _)) rfl))) (by kernel_rfl) HS299 ?_
   clear E; intro a E
   refine wpAnyH_all (rs := [3, 17]) (by kernel_rfl) (by simp) ?_
   refine all2 ?_ ?_
   ·
    refine wpOp_of_list rfl ?_
    refine vn tbok 1 [.pointer (some ⟨b3, o4, none⟩)] [(34, .pointer (some ⟨b3, o4, none⟩))] [World.cell? w297 ⟨g1, 0, none⟩ = some (.pointer (some ⟨b3, o4, none⟩))] E (by kernel_rfl) (by kernel_rfl) ((H.box 4 rfl).cell (j := 0) rfl) ?_
    clear E; intro a E
    refine wpList_nil ?_
    refine th_n ⟨HS299, ?_⟩
    refine dn tbok (by kernel_rfl) [4, 5, 6, 7] [.slice A209 (List.length wboard.1.2.2.2) c210] [(38, .slice A209 (List.length wboard.1.2.2.2) c210)] (fun w_ => [World.cell? w_ ⟨b3, o4 + 3, none⟩ = some (.slice A209 (List.length wboard.1.2.2.2) c210)]) 9 E (fun _ _ => by kernel_rfl) (by kernel_rfl) (fun w_ hS_ => (hS_.cell (hc226.get 3 _ rfl) (HR300.blk [3, 4] 2 rds_ro (idx_pos (idx_one _)) rfl))) (by kernel_rfl) HS299 ?_
    clear E; intro a E
    refine wpAnyH_all (rs := [17]) (by kernel_rfl) (by simp) ?_
    refine all1 ?_
    refine wpOp_of_list rfl ?_
    obtain ⟨Fa343, Hc344, hb345⟩ := H.call [4, 3] [(2, false)] rfl rfl ⟨flat_plain, trivial⟩
    refine e_call E rfl rfl Try.func13 rfl rfl rfl (watch_Watch_State_calls g1 b3 o4 A6 c7 wboard wcame  Hc344 h269) ?_
    intro v351 w350 a hR352 E_
    obtain ⟨x_, hr_, rfl, HR354⟩ := hR352
    subst hr_
    replace E := E_ _ rfl; clear E_
    obtain ⟨H_, hc353⟩ := hb345 _ _ HR354 rfl
    replace HS299 := HS299.trans hc353 (fun k_ hk_ h_ => h_.elim (fun h_ => by have hs_ := HS299.size; exfalso; omega) (fun h_ => h_.elim (fun h_ => (fun _ _ h_ => Or.inr (Or.inl h_)) k_ hk_ h_) (fun h_ => h_.elim (fun h_ => (fun _ _ h_ => Or.inl h_) k_ hk_ h_) (fun h_ => h_.elim))))
    replace H := H_; clear H_; try dsimp only [setn, addE, goneL] at H
    refine wpList_nil ?_
    refine th_n ⟨HS299, ?_⟩
    refine dn tbok (by kernel_rfl) [18, 19] [.int .i64 (List.getD wboard.1.2.2.1 (Int.toNat r268) 0)] [(50, .int .i64 (List.getD wboard.1.2.2.1 (Int.toNat r268) 0))] (fun w_ => [0 ≤ r268 ∧ r268 < (((List.length wboard.1.2.2.1) : Nat) : Int), World.cell? w_ ⟨b285, o286 + (Int.toNat r268) * 1, none⟩ = some (.int .i64 (List.getD wboard.1.2.2.1 (Int.toNat r268) 0))]) 6 E (fun _ _ => by kernel_rfl) (by kernel_rfl) (fun w_ hS_ => ⟨g284, Rds.at1 (HR300.rdk [3, 4] hS_ 16 rds_ro rfl) 0 g284⟩) (by kernel_rfl) HS299 ?_
    clear E; intro a E
    refine wpAnyH_all (rs := [21]) (by kernel_rfl) (by simp) ?_
    refine all1 ?_
    refine wpOp_of_list rfl ?_
    obtain ⟨Fa357, Hc358, hb359⟩ := H.call [] [(12, false)] rfl rfl trivial
    refine e_call E rfl rfl Try.func34 rfl rfl rfl (guard_Go_calls A209 c210 wboard.1.2.2.2 (List.getD wboard.1.2.2.1 (Int.toNat r268) 0) ll hk211 Hc358 h288) ?_
    rintro v360 w361 a ⟨rfl, HR362⟩ E_
    replace E := E_ _ rfl; clear E_
    obtain ⟨H_, hc363⟩ := hb359 _ _ HR362 rfl
    replace HS299 := HS299.ext (callS_ext hc363)
    replace H := H_; clear H_; try dsimp only [setn, addE, goneL] at H
    refine wpList_nil ?_
    refine th_n ⟨HS299, ?_⟩
    refine dn tbok (by kernel_rfl) [22, 23, 24, 25, 26] [] [(6, .int .i64 r287.1)] (fun w_ => []) 0 E (fun _ _ => by kernel_rfl) (by kernel_rfl) (fun w_ hS_ => trivial) (by kernel_rfl) HS299 ?_
    clear E; intro a E
    refine dr_done (by kernel_rfl) ?_
    exact .inl ⟨rfl, E.pick _ ⟨rfl, rfl, trivial⟩, H.sel [2, 20, 21] rfl⟩
   refine wpOp_of_list rfl ?_
   obtain ⟨Fa364, Hc365, hb366⟩ := H.call [4, 3] [(2, false)] rfl rfl ⟨flat_plain, trivial⟩
   refine e_call E rfl rfl Try.func13 rfl rfl rfl (watch_Watch_State_calls g1 b3 o4 A6 c7 wboard wcame  Hc365 h269) ?_
   intro v372 w371 a hR373 E_
   obtain ⟨x_, hr_, rfl, HR375⟩ := hR373
   subst hr_
   replace E := E_ _ rfl; clear E_
   obtain ⟨H_, hc374⟩ := hb366 _ _ HR375 rfl
   replace HS299 := HS299.trans hc374 (fun k_ hk_ h_ => h_.elim (fun h_ => by have hs_ := HS299.size; exfalso; omega) (fun h_ => h_.elim (fun h_ => (fun _ _ h_ => Or.inr (Or.inl h_)) k_ hk_ h_) (fun h_ => h_.elim (fun h_ => (fun _ _ h_ => Or.inl h_) k_ hk_ h_) (fun h_ => h_.elim))))
   replace H := H_; clear H_; try dsimp only [setn, addE, goneL] at H
   refine wpList_nil ?_
   refine th_n ⟨HS299, ?_⟩
   refine dn tbok (by kernel_rfl) [18, 19] [.int .i64 (List.getD wboard.1.2.2.1 (Int.toNat r268) 0)] [(50, .int .i64 (List.getD wboard.1.2.2.1 (Int.toNat r268) 0))] (fun w_ => [0 ≤ r268 ∧ r268 < (((List.length wboard.1.2.2.1) : Nat) : Int), World.cell? w_ ⟨b285, o286 + (Int.toNat r268) * 1, none⟩ = some (.int .i64 (List.getD wboard.1.2.2.1 (Int.toNat r268) 0))]) 11 E (fun _ _ => by kernel_rfl) (by kernel_rfl) (fun w_ hS_ => ⟨g284, Rds.at1 (HR300.rdk [3, 4] hS_ 16 rds_ro rfl) 0 g284⟩) (by kernel_rfl) HS299 ?_
   clear E; intro a E
   refine wpAnyH_all (rs := [3]) (by kernel_rfl) (by simp) ?_
   refine all1 ?_
   refine wpOp_of_list rfl ?_
   refine vn tbok 1 [.pointer (some ⟨b3, o4, none⟩)] [(34, .pointer (some ⟨b3, o4, none⟩))] [World.cell? w371 ⟨g1, 0, none⟩ = some (.pointer (some ⟨b3, o4, none⟩))] E (by kernel_rfl) (by kernel_rfl) ((H.box 21 rfl).cell (j := 0) rfl) ?_
   clear E; intro a E
   refine wpList_nil ?_
   refine th_n ⟨HS299, ?_⟩
   refine dn tbok (by kernel_rfl) [4, 5, 6, 7] [.slice A209 (List.length wboard.1.2.2.2) c210] [(38, .slice A209 (List.length wboard.1.2.2.2) c210)] (fun w_ => [World.cell? w_ ⟨b3, o4 + 3, none⟩ = some (.slice A209 (List.length wboard.1.2.2.2) c210)]) 6 E (fun _ _ => by kernel_rfl) (by kernel_rfl) (fun w_ hS_ => (hS_.cell (hc226.get 3 _ rfl) (HR300.blk [3, 4] 2 rds_ro (idx_pos (idx_one _)) rfl))) (by kernel_rfl) HS299 ?_
   clear E; intro a E
   refine wpAnyH_all (rs := [21]) (by kernel_rfl) (by simp) ?_
   refine all1 ?_
   refine wpOp_of_list rfl ?_
   obtain ⟨Fa378, Hc379, hb380⟩ := H.call [] [(12, false)] rfl rfl trivial
   refine e_call E rfl rfl Try.func34 rfl rfl rfl (guard_Go_calls A209 c210 wboard.1.2.2.2 (List.getD wboard.1.2.2.1 (Int.toNat r268) 0) ll hk211 Hc379 h288) ?_
   rintro v381 w382 a ⟨rfl, HR383⟩ E_
   replace E := E_ _ rfl; clear E_
   obtain ⟨H_, hc384⟩ := hb380 _ _ HR383 rfl
   replace HS299 := HS299.ext (callS_ext hc384)
   replace H := H_; clear H_; try dsimp only [setn, addE, goneL] at H
   refine wpList_nil ?_
   refine th_n ⟨HS299, ?_⟩
   refine dn tbok (by kernel_rfl) [22, 23, 24, 25, 26] [] [(6, .int .i64 r287.1)] (fun w_ => []) 0 E (fun _ _ => by kernel_rfl) (by kernel_rfl) (fun w_ hS_ => trivial) (by kernel_rfl) HS299 ?_
   clear E; intro a E
   refine dr_done (by kernel_rfl) ?_
   exact .inl ⟨rfl, E.pick _ ⟨rfl, rfl, trivial⟩, H.sel [2, 20, 21] rfl⟩
  refine wpOp_of_list rfl ?_
  obtain ⟨Fa385, Hc386, hb387⟩ := H.call [4, 3] [(2, false)] rfl rfl ⟨flat_plain, trivial⟩
  refine e_call E rfl rfl Try.func13 rfl rfl rfl (watch_Watch_State_calls g1 b3 o4 A6 c7 wboard wcame  Hc386 h269) ?_
  intro v393 w392 a hR394 E_
  obtain ⟨x_, hr_, rfl, HR396⟩ := hR394
  subst hr_
  replace E := E_ _ rfl; clear E_
  obtain ⟨H_, hc395⟩ := hb387 _ _ HR396 rfl
  replace HS299 := HS299.trans hc395 (fun k_ hk_ h_ => h_.elim (fun h_ => by have hs_ := HS299.size; exfalso; omega) (fun h_ => h_.elim (fun h_ => (fun _ _ h_ => Or.inr (Or.inl h_)) k_ hk_ h_) (fun h_ => h_.elim (fun h_ => (fun _ _ h_ => Or.inl h_) k_ hk_ h_) (fun h_ => h_.elim))))
  replace H := H_; clear H_; try dsimp only [setn, addE, goneL] at H
  refine wpList_nil ?_
  refine th_n ⟨HS299, ?_⟩
  refine wpAnyH_all (rs := [3, 11]) (by kernel_rfl) (by simp) ?_
  refine all2 ?_ ?_
  ·
   refine wpOp_of_list rfl ?_
   refine vn tbok 1 [.pointer (some ⟨b3, o4, none⟩)] [(34, .pointer (some ⟨b3, o4, none⟩))] [World.cell? w392 ⟨g1, 0, none⟩ = some (.pointer (some ⟨b3, o4, none⟩))] E (by kernel_rfl) (by kernel_rfl) ((H.box 21 rfl).cell (j := 0) rfl) ?_
   clear E; intro a E
   refine wpList_nil ?_
   refine th_n ⟨HS299, ?_⟩
   refine dn tbok (by kernel_rfl) [4, 5, 6, 7] [.slice A209 (List.length wboard.1.2.2.2) c210] [(38, .slice A209 (List.length wboard.1.2.2.2) c210)] (fun w_ => [World.cell? w_ ⟨b3, o4 + 3, none⟩ = some (.slice A209 (List.length wboard.1.2.2.2) c210)]) 13 E (fun _ _ => by kernel_rfl) (by kernel_rfl) (fun w_ hS_ => (hS_.cell (hc226.get 3 _ rfl) (HR300.blk [3, 4] 2 rds_ro (idx_pos (idx_one _)) rfl))) (by kernel_rfl) HS299 ?_
   clear E; intro a E
   refine wpAnyH_all (rs := [11]) (by kernel_rfl) (by simp) ?_
   refine all1 ?_
   refine wpOp_of_list rfl ?_
   refine vn tbok 1 [.pointer (some ⟨b3, o4, none⟩)] [(42, .pointer (some ⟨b3, o4, none⟩))] [World.cell? w392 ⟨g1, 0, none⟩ = some (.pointer (some ⟨b3, o4, none⟩))] E (by kernel_rfl) (by kernel_rfl) ((H.box 21 rfl).cell (j := 0) rfl) ?_
   clear E; intro a E
   refine wpList_nil ?_
   refine th_n ⟨HS299, ?_⟩
   refine dn tbok (by kernel_rfl) [12, 13, 14, 15, 18, 19] [.slice (some ⟨b285, o286, none⟩) (List.length wboard.1.2.2.1) c246, .int .i64 (List.getD wboard.1.2.2.1 (Int.toNat r268) 0)] [(50, .int .i64 (List.getD wboard.1.2.2.1 (Int.toNat r268) 0))] (fun w_ => [World.cell? w_ ⟨b3, o4 + 2, none⟩ = some (.slice (some ⟨b285, o286, none⟩) (List.length wboard.1.2.2.1) c246), 0 ≤ r268 ∧ r268 < (((List.length wboard.1.2.2.1) : Nat) : Int), World.cell? w_ ⟨b285, o286 + (Int.toNat r268) * 1, none⟩ = some (.int .i64 (List.getD wboard.1.2.2.1 (Int.toNat r268) 0))]) 6 E (fun _ _ => by kernel_rfl) (by kernel_rfl) (fun w_ hS_ => ⟨hS_.cell (hc267.get 2 _ rfl) (HR300.blk [3, 4] 2 rds_ro (idx_pos (idx_one _)) rfl), g284, Rds.at1 (HR300.rdk [3, 4] hS_ 16 rds_ro rfl) 0 g284⟩) (by kernel_rfl) HS299 ?_
   clear E; intro a E
   refine wpAnyH_all (rs := [21]) (by kernel_rfl) (by simp) ?_
   refine all1 ?_
   refine wpOp_of_list rfl ?_
   obtain ⟨Fa399, Hc400, hb401⟩ := H.call [] [(12, false)] rfl rfl trivial
   refine e_call E rfl rfl Try.func34 rfl rfl rfl (guard_Go_calls A209 c210 wboard.1.2.2.2 (List.getD wboard.1.2.2.1 (Int.toNat r268) 0) ll hk211 Hc400 h288) ?_
   rintro v402 w403 a ⟨rfl, HR404⟩ E_
   replace E := E_ _ rfl; clear E_
   obtain ⟨H_, hc405⟩ := hb401 _ _ HR404 rfl
   replace HS299 := HS299.ext (callS_ext hc405)
   replace H := H_; clear H_; try dsimp only [setn, addE, goneL] at H
   refine wpList_nil ?_
   refine th_n ⟨HS299, ?_⟩
   refine dn tbok (by kernel_rfl) [22, 23, 24, 25, 26] [] [(6, .int .i64 r287.1)] (fun w_ => []) 0 E (fun _ _ => by kernel_rfl) (by kernel_rfl) (fun w_ hS_ => trivial) (by kernel_rfl) HS299 ?_
   clear E; intro a E
   refine dr_done (by kernel_rfl) ?_
   exact .inl ⟨rfl, E.pick _ ⟨rfl, rfl, trivial⟩, H.sel [2, 20, 21] rfl⟩
  refine wpOp_of_list rfl ?_
  refine vn tbok 1 [.pointer (some ⟨b3, o4, none⟩)] [(42, .pointer (some ⟨b3, o4, none⟩))] [World.cell? w392 ⟨g1, 0, none⟩ = some (.pointer (some ⟨b3, o4, none⟩))] E (by kernel_rfl) (by kernel_rfl) ((H.box 21 rfl).cell (j := 0) rfl) ?_
  clear E; intro a E
  refine wpList_nil ?_
  refine th_n ⟨HS299, ?_⟩
  refine dn tbok (by kernel_rfl) [12, 13, 14, 15, 18, 19] [.slice (some ⟨b285, o286, none⟩) (List.length wboard.1.2.2.1) c246, .int .i64 (List.getD wboard.1.2.2.1 (Int.toNat r268) 0)] [(50, .int .i64 (List.getD wboard.1.2.2.1 (Int.toNat r268) 0))] (fun w_ => [World.cell? w_ ⟨b3, o4 + 2, none⟩ = some (.slice (some ⟨b285, o286, none⟩) (List.length wboard.1.2.2.1) c246), 0 ≤ r268 ∧ r268 < (((List.length wboard.1.2.2.1) : Nat) : Int), World.cell? w_ ⟨b285, o286 + (Int.toNat r268) * 1, none⟩ = some (.int .i64 (List.getD wboard.1.2.2.1 (Int.toNat r268) 0))]) 11 E (fun _ _ => by kernel_rfl) (by kernel_rfl) (fun w_ hS_ => ⟨hS_.cell (hc267.get 2 _ rfl) (HR300.blk [3, 4] 2 rds_ro (idx_pos (idx_one _)) rfl), g284, Rds.at1 (HR300.rdk [3, 4] hS_ 16 rds_ro rfl) 0 g284⟩) (by kernel_rfl) HS299 ?_
  clear E; intro a E
  refine wpAnyH_all (rs := [3]) (by kernel_rfl) (by simp) ?_
  refine all1 ?_
  refine wpOp_of_list rfl ?_
  refine vn tbok 1 [.pointer (some ⟨b3, o4, none⟩)] [(34, .pointer (some ⟨b3, o4, none⟩))] [World.cell? w392 ⟨g1, 0, none⟩ = some (.pointer (some ⟨b3, o4, none⟩))] E (by kernel_rfl) (by kernel_rfl) ((H.box 21 rfl).cell (j := 0) rfl) ?_
  clear E; intro a E
  refine wpList_nil ?_
  refine th_n ⟨HS299, ?_⟩
  refine dn tbok (by kernel_rfl) [4, 5, 6, 7] [.slice A209 (List.length wboard.1.2.2.2) c210] [(38, .slice A209 (List.length wboard.1.2.2.2) c210)] (fun w_ => [World.cell? w_ ⟨b3, o4 + 3, none⟩ = some (.slice A209 (List.length wboard.1.2.2.2) c210)]) 6 E (fun _ _ => by kernel_rfl) (by kernel_rfl) (fun w_ hS_ => (hS_.cell (hc226.get 3 _ rfl) (HR300.blk [3, 4] 2 rds_ro (idx_pos (idx_one _)) rfl))) (by kernel_rfl) HS299 ?_
  clear E; intro a E
  refine wpAnyH_all (rs := [21]) (by kernel_rfl) (by simp) ?_
  refine all1 ?_
  refine wpOp_of_list rfl ?_
  obtain ⟨Fa406, Hc407, hb408⟩ := H.call [] [(12, false)] rfl rfl trivial
  refine e_call E rfl rfl Try.func34 rfl rfl rfl (guard_Go_calls A209 c210 wboard.1.2.2.2 (List.getD wboard.1.2.2.1 (Int.toNat r268) 0) ll hk211 Hc407 h288) ?_
  rintro v409 w410 a ⟨rfl, HR411⟩ E_
  replace E := E_ _ rfl; clear E_
  obtain ⟨H_, hc412⟩ := hb408 _ _ HR411 rfl
  replace HS299 := HS299.ext (callS_ext hc412)
  replace H := H_; clear H_; try dsimp only [setn, addE, goneL] at H
  refine wpList_nil ?_
  refine th_n ⟨HS299, ?_⟩
  refine dn tbok (by kernel_rfl) [22, 23, 24, 25, 26] [] [(6, .int .i64 r287.1)] (fun w_ => []) 0 E (fun _ _ => by kernel_rfl) (by kernel_rfl) (fun w_ hS_ => trivial) (by kernel_rfl) HS299 ?_
  clear E; intro a E
  refine dr_done (by kernel_rfl) ?_
  exact .inl ⟨rfl, E.pick _ ⟨rfl, rfl, trivial⟩, H.sel [2, 20, 21] rfl⟩
 clear E H; rintro a w296 ⟨E, H⟩
 refine th_n ?_
 refine wp_seq ?_
 refine wp_region_lit ?_
 refine vn tbok 6 [.slice A6 (List.length wcame) c7] [(55, .pointer (some ⟨g1, 0, none⟩)), (59, .slice A6 (List.length wcame) c7), (60, .int .i64 r287.1)] [World.cell? w296 ⟨g1, 1, none⟩ = some (.slice A6 (List.length wcame) c7)] E (by kernel_rfl) (by kernel_rfl) ((H.box 2 rfl).cell (j := 1) rfl) ?_
 clear E; intro a E
 refine h_buildSlice (ps := [(0, .int .i64 r287.1)]) (cs := [.int .i64 r287.1]) H E rfl rfl tbok rfl rfl (by kernel_rfl) ?_
 intro w414 g413 a hc415 hg417 H_ E_
 replace E := E_ _ rfl; clear E_
 replace H := H_; clear H_; try dsimp only [setn, addE, goneL] at H
 obtain ⟨g418, hP⟩ := ask_inv hP
 refine h_append (cInt .i64) (xs := wcame) (ys := ([r287.1] : List Int)) (0 : Int) H 1 rfl E rfl rfl tbok rfl rfl rfl rfl rfl (fun _ _ => rfl) rfl rfl (fun _ HF_ => HF_.srcB 3 rfl (⟨_, _, rfl, rfl, rfl⟩)) g418 ?_
 intro w419 A420 c421 a hc422 hA423 H_ E_
 replace E := E_ _ rfl; clear E_
 replace H := H_; clear H_; try dsimp only [setn, addE, goneL] at H
 refine vn tbok 2 [] [(64, .pointer (some ⟨g1, 1, none⟩))] [] E (by kernel_rfl) (by kernel_rfl) trivial ?_
 clear E; intro a E
 refine h_store (g := g1) (off := 1) H 2 rfl E rfl rfl rfl rfl tbok rfl rfl rfl rfl rfl ?_
 clear E; intro w424 a hc425 H_ E
 replace H := H_; clear H_; try dsimp only [setn, addE, goneL] at H
 refine wpList_nil ?_
 refine th_n ?_
 refine wp_seq ?_
 refine wp_region_lit ?_
 refine vn tbok 1 [] [(65, .pointer (some ⟨g1, 0, none⟩))] [] E (by kernel_rfl) (by kernel_rfl) trivial ?_
 clear E; intro a E
 obtain ⟨r426, h427, hP⟩ := bind_inv hP
 obtain ⟨Fa428, Hc429, hb430⟩ := H.call [2, 1] [(0, false)] rfl rfl ⟨flat_plain, trivial⟩
 refine e_call E rfl rfl Try.func12 rfl rfl rfl (watch_Watch_Verdict_calls g1 b3 o4 A420 c421 wboard (wcame ++ ([r287.1] : List Int))  Hc429 h427) ?_
 intro v436 w435 a hR437 E_
 obtain ⟨x_, hr_, rfl, HR439⟩ := hR437
 subst hr_
 replace E := E_ _ rfl; clear E_
 obtain ⟨H_, hc438⟩ := hb430 _ _ HR439 rfl
 replace H := H_; clear H_; try dsimp only [setn, addE, goneL] at H
 refine vn tbok 2 [] [(4, .int .u8 r426), (5, .int .i64 0)] [] E (by kernel_rfl) (by kernel_rfl) trivial ?_
 clear E; intro a E
 refine wpList_nil ?_
 refine th_n ?_
 refine wp_ret ?_
 obtain rfl := Option.some.inj hP
 refine ret2 E rfl rfl rfl ?_
 exact ⟨_, rfl, ⟨(r426, 0, (wcame ++ ([r287.1] : List Int))), A420, c421, rfl, rfl, H.sel [5, 4] rfl⟩⟩

/-! rejoinder/watch.All -/
end Go.V
