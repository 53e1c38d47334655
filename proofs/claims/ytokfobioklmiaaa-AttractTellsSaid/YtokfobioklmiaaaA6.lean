/- Plain functions, and the calls that give them. -/
import Derived.Test.YtokfobioklmiaaaA5
set_option linter.all false
set_option linter.unusedVariables false
set_option linter.unnecessarySimpa false
set_option linter.unusedSimpArgs false
namespace Go.V
open Go Go.Proofs
/-! rejoinder/rejoinderref01.Bit -/
def ref01_Bit (N : Nat) (ll : Int) (p : Int) : Option Bool :=
  if 0 ≤ p then
    if p < 8 then
      ask (0 ≤ p) <|
      some ((andV .u8 (shrV .u8 ll p) 1 : Int) == 1)
    else
      some false
  else
    some false
set_option maxRecDepth 100000 in
set_option maxHeartbeats 4000000 in
theorem ref01_Bit_calls {N : Nat} {S Fa : Nat → Prop} {w0 : World} {r : Bool} (ll : Int) (p : Int) (H : Hp S Fa w0 w0 []) (hP : ref01_Bit N ll p = some r) :
    Calls Try.prog 45 #[.int .u8 ll, .int .i64 p] w0 fun e w' => ∃ v, e = .returned v ∧ v = .bool r ∧ Hp S Fa w0 w' [] := by
 refine enterV (n := 18) Try.func45 rfl rfl rfl ?_
 intro a E
 replace E := E.pick [(0, .int .u8 ll), (1, .int .i64 p)] ⟨rfl, rfl, trivial⟩
 rw [ref01_Bit] at hP
 refine wp_seq ?_
 refine wp_region_lit ?_
 refine vn tbok 1 [] [] [] E (by kernel_rfl) (by kernel_rfl) trivial ?_
 clear E; intro a E
 refine wpList_nil ?_
 refine th_n ?_
 refine wp_seq ?_
 refine wp_region_lit ?_
 refine vn tbok 3 [] [(7, .bool (decide (0 ≤ p)))] [] E (by kernel_rfl) (by kernel_rfl) trivial ?_
 clear E; intro a E
 refine E.cases (t := 7) rfl (fun hb_ E_ => ?_) (fun hb_ E_ => ?_)
 ·
  replace E := E_; clear E_
  have h1 : 0 ≤ p := of_decide_eq_true hb_
  clear hb_; replace hP := ite_t h1 hP
  refine vn tbok 4 [] [(11, .bool (decide (p < 8)))] [] E (by kernel_rfl) (by kernel_rfl) trivial ?_
  clear E; intro a E
  refine E.cases (t := 11) rfl (fun hb_ E_ => ?_) (fun hb_ E_ => ?_)
  ·
   replace E := E_; clear E_
   have h2 : p < 8 := of_decide_eq_true hb_
   clear hb_; replace hP := ite_t h2 hP
   obtain ⟨g3, hP⟩ := ask_inv hP
   refine vn tbok 7 [.int .u8 (shrV .u8 ll p), .int .u8 (andV .u8 (shrV .u8 ll p) 1)] [(4, .bool ((andV .u8 (shrV .u8 ll p) 1 : Int) == 1))] [0 ≤ p ∧ Int.fdiv ll (2 ^ (min (Int.toNat p) (IntKind.bits .u8))) = shrV .u8 ll p, IntKind.u8.wrap (BitVec.ofInt (IntKind.bits .u8) (shrV .u8 ll p) &&& BitVec.ofInt (IntKind.bits .u8) 1).toNat = andV .u8 (shrV .u8 ll p) 1] E (by kernel_rfl) (by kernel_rfl) ⟨⟨g3, rfl⟩, rfl⟩ ?_
   clear E; intro a E
   refine wpList_nil ?_
   refine th_n ?_
   refine wp_ret ?_
   obtain rfl := Option.some.inj hP
   refine ret1 E rfl rfl ?_
   exact ⟨_, rfl, rfl, H.sel [] rfl⟩
  replace E := E_; clear E_
  have h4 : ¬ (p < 8) := of_decide_eq_false hb_
  clear hb_; replace hP := ite_f h4 hP
  refine vn tbok 7 [] [(4, .bool false)] [] E (by kernel_rfl) (by kernel_rfl) trivial ?_
  clear E; intro a E
  refine wpList_nil ?_
  refine th_n ?_
  refine wp_ret ?_
  obtain rfl := Option.some.inj hP
  refine ret1 E rfl rfl ?_
  exact ⟨_, rfl, rfl, H.sel [] rfl⟩
 replace E := E_; clear E_
 have h5 : ¬ (0 ≤ p) := of_decide_eq_false hb_
 clear hb_; replace hP := ite_f h5 hP
 refine vn tbok 11 [] [(4, .bool false)] [] E (by kernel_rfl) (by kernel_rfl) trivial ?_
 clear E; intro a E
 refine wpList_nil ?_
 refine th_n ?_
 refine wp_ret ?_
 obtain rfl := Option.some.inj hP
 refine ret1 E rfl rfl ?_
 exact ⟨_, rfl, rfl, H.sel [] rfl⟩

/-! rejoinder/rejoinderref22.Check -/
def ref22_Check_l0 (N : Nat) (aProps : Int) (s : Int × Int) : Nat → Int → Option (Unit ⊕ Int)
  | 0, _ => none
  | m150 + 1, p91 =>
    if p91 < 8 then
      Option.bind (ref01_Bit N s.1 p91) fun r158 =>
      Option.bind (ref01_Bit N s.2 p91) fun r167 =>
      if p91 < aProps then
        if r158 = r167 then
          some (Sum.inr 13)
        else
          if aProps ≤ p91 then
            if r158 = true then
              some (Sum.inr 13)
            else
              if r167 = true then
                some (Sum.inr 13)
              else
                ask (in64 (p91 + 1)) <|
                ref22_Check_l0 N aProps s m150 (p91 + 1)
          else
            ask (in64 (p91 + 1)) <|
            ref22_Check_l0 N aProps s m150 (p91 + 1)
      else
        if aProps ≤ p91 then
          if r158 = true then
            some (Sum.inr 13)
          else
            if r167 = true then
              some (Sum.inr 13)
            else
              ask (in64 (p91 + 1)) <|
              ref22_Check_l0 N aProps s m150 (p91 + 1)
        else
          ask (in64 (p91 + 1)) <|
          ref22_Check_l0 N aProps s m150 (p91 + 1)
    else
      some (Sum.inl ())
def ref22_Check (N : Nat) (aProps : Int) (aAccept : List Bool) (aGuard : List Int) (aNodes : List Nd) (s : Int × Int) : Option Int :=
  Option.bind (ref14_Check N aProps aAccept aGuard aNodes) fun r23 =>
  if (r23 : Int) = 0 then
    ask (idx (0 : Int) (List.length aAccept)) <|
    if (List.getD aAccept (Int.toNat (0 : Int)) false) = true then
      some 12
    else
      Option.bind (ref22_Check_l0 N aProps s N 0) fun x151 =>
      Sum.elim (fun x156 =>
        some 0)
       (fun x215 =>
        some x215) x151
  else
    some r23
set_option maxRecDepth 100000 in
set_option maxHeartbeats 4000000 in
theorem ref22_Check_calls {N : Nat} {S Fa : Nat → Prop} {w0 : World} {r : Int} (A1 : Option Addr) (c2 : Nat) (A5 : Option Addr) (c6 : Nat) (A9 : Option Addr) (c10 : Nat) (aProps : Int) (aAccept : List Bool) (aGuard : List Int) (aNodes : List Nd) (s : Int × Int) (hk3 : List.length aAccept ≤ c2) (hk7 : List.length aGuard ≤ c6) (hk11 : List.length aNodes ≤ c10) (H : Hp S Fa w0 w0 [.ro false cBool A1 aAccept, .ro false (cInt .i64) A5 aGuard, .ro false cNode A9 aNodes]) (hP : ref22_Check N aProps aAccept aGuard aNodes s = some r) :
    Calls Try.prog 34 #[.agg #[.int .i64 aProps, .slice A1 (List.length aAccept) c2, .slice A5 (List.length aGuard) c6, .slice A9 (List.length aNodes) c10], .agg #[.int .u8 s.1, .int .u8 s.2]] w0 fun e w' => ∃ v, e = .returned v ∧ v = .int .i64 r ∧ Hp S Fa w0 w' [] := by
 refine enterV (n := 51) Try.func34 rfl rfl rfl ?_
 intro a E
 replace E := E.pick [(0, .agg #[.int .i64 aProps, .slice A1 (List.length aAccept) c2, .slice A5 (List.length aGuard) c6, .slice A9 (List.length aNodes) c10]), (1, .agg #[.int .u8 s.1, .int .u8 s.2])] ⟨rfl, rfl, trivial⟩
 rw [ref22_Check] at hP
 refine wp_seq ?_
 refine wp_region_lit ?_
 refine h_box H E rfl rfl rfl ?_
 intro w14 g13 a hc15 hg17 H_ E_
 replace E := E_ _ rfl; clear E_
 replace H := H_; clear H_; try dsimp only [setn, addE, goneL] at H
 refine h_box H E rfl rfl rfl ?_
 intro w19 g18 a hc20 hg22 H_ E_
 replace E := E_ _ rfl; clear E_
 replace H := H_; clear H_; try dsimp only [setn, addE, goneL] at H
 refine vn tbok 1 [] [] [] E (by kernel_rfl) (by kernel_rfl) trivial ?_
 clear E; intro a E
 refine wpList_nil ?_
 refine th_n ?_
 refine wp_seq ?_
 refine wp_region_lit ?_
 refine vn tbok 1 [.agg #[.int .i64 aProps, .slice A1 (List.length aAccept) c2, .slice A5 (List.length aGuard) c6, .slice A9 (List.length aNodes) c10]] [(9, .agg #[.int .i64 aProps, .slice A1 (List.length aAccept) c2, .slice A5 (List.length aGuard) c6, .slice A9 (List.length aNodes) c10])] [cellsAt w19 g13 (0) [.int .i64 aProps, .slice A1 (List.length aAccept) c2, .slice A5 (List.length aGuard) c6, .slice A9 (List.length aNodes) c10]] E (by kernel_rfl) (by kernel_rfl) ((H.box 3 rfl).sub 0 _ rfl) ?_
 clear E; intro a E
 obtain ⟨r23, h24, hP⟩ := bind_inv hP
 obtain ⟨Fa25, Hc26, hb27⟩ := H.call [] [(0, false), (1, false), (2, false)] rfl rfl trivial
 refine e_call E rfl rfl Try.func44 rfl rfl rfl (ref14_Check_calls A1 c2 A5 c6 A9 c10 aProps aAccept aGuard aNodes hk3 hk7 hk11 Hc26 h24) ?_
 rintro v28 w29 a ⟨rfl, HR30⟩ E_
 replace E := E_ _ rfl; clear E_
 obtain ⟨H_, hc31⟩ := hb27 _ _ HR30 rfl
 replace H := H_; clear H_; try dsimp only [setn, addE, goneL] at H
 refine vn tbok 1 [] [(5, .int .i64 r23)] [] E (by kernel_rfl) (by kernel_rfl) trivial ?_
 clear E; intro a E
 refine wpList_nil ?_
 refine th_n ?_
 refine wp_seq ?_
 refine wp_seq ?_
 refine wp_region_lit ?_
 refine vn tbok 2 [] [(12, .bool ((r23 : Int) != 0))] [] E (by kernel_rfl) (by kernel_rfl) trivial ?_
 clear E; intro a E
 refine wpList_nil ?_
 refine th_n ?_
 refine E.cases (t := 12) rfl (fun hb_ E_ => ?_) (fun hb_ E_ => ?_)
 ·
  replace E := E_; clear E_
  have h32 : ¬ ((r23 : Int) = 0) := bne_iff_ne.1 hb_
  clear hb_; replace hP := ite_f h32 hP
  refine c_true E rfl ?_
  refine wp_seq ?_
  refine wp_region_lit ?_
  refine vn tbok 2 [] [(4, .int .i64 r23)] [] E (by kernel_rfl) (by kernel_rfl) trivial ?_
  clear E; intro a E
  refine wpList_nil ?_
  refine th_n ?_
  refine wp_ret ?_
  refine th_ret ?_
  obtain rfl := Option.some.inj hP
  refine ret1 E rfl rfl ?_
  exact ⟨_, rfl, rfl, H.sel [] rfl⟩
 replace E := E_; clear E_
 have h33 : (r23 : Int) = 0 := bne_eq_false_iff_eq.1 hb_
 clear hb_; replace hP := ite_t h33 hP
 refine c_false E rfl ?_
 refine wp_skip ?_
 refine th_n ?_
 refine wp_seq ?_
 refine wp_seq ?_
 refine wp_region_lit ?_
 obtain ⟨g34, hP⟩ := ask_inv hP
 obtain ⟨b35, o36, e_b35⟩ := (H.rd 0 rds_ro).addr (idx_pos g34)
 subst e_b35
 refine vn tbok 4 [.slice (some ⟨b35, o36, none⟩) (List.length aAccept) c2, .bool (List.getD aAccept (Int.toNat (0 : Int)) false)] [(17, .bool (List.getD aAccept (Int.toNat (0 : Int)) false))] [World.cell? w29 ⟨g13, 1, none⟩ = some (.slice (some ⟨b35, o36, none⟩) (List.length aAccept) c2), 0 ≤ (0 : Int) ∧ (0 : Int) < (((List.length aAccept) : Nat) : Int), World.cell? w29 ⟨b35, o36 + (Int.toNat (0 : Int)) * 1, none⟩ = some (.bool (List.getD aAccept (Int.toNat (0 : Int)) false))] E (by kernel_rfl) (by kernel_rfl) ⟨(H.box 3 rfl).cell (j := 1) rfl, g34, Rds.at1 (H.rd 0 rds_ro) false g34⟩ ?_
 clear E; intro a E
 refine wpList_nil ?_
 refine th_n ?_
 refine E.cases (t := 17) rfl (fun hb_ E_ => ?_) (fun hb_ E_ => ?_)
 ·
  replace E := E_; clear E_
  have h37 : (List.getD aAccept (Int.toNat (0 : Int)) false) = true := hb_
  clear hb_; replace hP := ite_t h37 hP
  refine c_true E rfl ?_
  refine wp_seq ?_
  refine wp_region_lit ?_
  refine vn tbok 1 [] [(4, .int .i64 12)] [] E (by kernel_rfl) (by kernel_rfl) trivial ?_
  clear E; intro a E
  refine wpList_nil ?_
  refine th_n ?_
  refine wp_ret ?_
  refine th_ret ?_
  obtain rfl := Option.some.inj hP
  refine ret1 E rfl rfl ?_
  exact ⟨_, rfl, rfl, H.sel [] rfl⟩
 replace E := E_; clear E_
 have h38 : ¬ ((List.getD aAccept (Int.toNat (0 : Int)) false) = true) := (ne_true_of_eq_false hb_)
 clear hb_; replace hP := ite_f h38 hP
 refine c_false E rfl ?_
 refine wp_skip ?_
 refine th_n ?_
 refine wp_seq ?_
 refine wp_seq ?_
 refine wp_region_lit ?_
 refine vn tbok 1 [] [(6, .int .i64 0)] [] E (by kernel_rfl) (by kernel_rfl) trivial ?_
 clear E; intro a E
 refine wpList_nil ?_
 refine th_n ?_
 refine wp_block ?_
 obtain ⟨x151, hL152, hK153⟩ := bind_inv hP
 clear hP
 refine loop_cut (fun i_ a w_ => (i_ = 0 ∧ ∃ (x156 : Unit), Fr a 51 [] ∧ Hp S Fa w0 w_ [] ∧ x151 = Sum.inl x156)) ?_ ?_
 ·
  refine loopV (fun m155 a w154 => ∃ (p91 : Int), Fr a 51 [(2, .pointer (some ⟨g13, 0, none⟩)), (3, .pointer (some ⟨g18, 0, none⟩)), (6, .int .i64 p91)] ∧ Hp S Fa w0 w154 [.ro false cBool (some ⟨b35, o36, none⟩) aAccept, .ro false (cInt .i64) A5 aGuard, .ro false cNode A9 aNodes, .box g13 26 [.int .i64 aProps, .slice (some ⟨b35, o36, none⟩) (List.length aAccept) c2, .slice A5 (List.length aGuard) c6, .slice A9 (List.length aNodes) c10], .box g18 29 [.int .u8 s.1, .int .u8 s.2]] ∧ ref22_Check_l0 N aProps s m155 p91 = some x151) N ?_ ?_
  ·
   exact ⟨0, E.pick _ ⟨rfl, rfl, rfl, trivial⟩, H.sel [0, 1, 2, 3, 4] rfl, hL152⟩
  clear E H hL152; intro m155 a w154 hI_
  obtain ⟨p91, E, H, hP⟩ := hI_
  obtain ⟨m150, rfl⟩ : ∃ q_, m155 = q_ + 1 := by cases m155 with | zero => rw [ref22_Check_l0] at hP; cases hP | succ q_ => exact ⟨q_, rfl⟩
  rw [ref22_Check_l0] at hP
  refine wp_seq ?_
  refine wp_seq ?_
  refine wp_region_lit ?_
  refine vn tbok 2 [] [(19, .bool (decide (p91 < 8)))] [] E (by kernel_rfl) (by kernel_rfl) trivial ?_
  clear E; intro a E
  refine wpList_nil ?_
  refine th_n ?_
  refine E.cases (t := 19) rfl (fun hb_ E_ => ?_) (fun hb_ E_ => ?_)
  ·
   replace E := E_; clear E_
   have h157 : p91 < 8 := of_decide_eq_true hb_
   clear hb_; replace hP := ite_t h157 hP
   refine c_true E rfl ?_
   refine wp_skip ?_
   refine th_n ?_
   refine wp_seq ?_
   refine wp_block ?_
   refine wp_seq ?_
   obtain ⟨r158, h159, hP⟩ := bind_inv hP
   obtain ⟨r167, h168, hP⟩ := bind_inv hP
   have HR179 := H
   refine dr_start (S := fun w_ => Chg (atL []) w154 w_) (by kernel_rfl) ?_
   intro w176 hc177
   have HS178 : Chg (atL []) w154 w176 := hc177.mono (fun _ _ h_ => h_.elim)
   replace H := H.ext hc177
   refine dn tbok (by kernel_rfl) [0, 1, 2, 4, 5, 6] [.int .u8 s.1, .int .u8 s.2] [(23, .int .u8 s.1), (24, .int .i64 p91), (27, .int .u8 s.2), (28, .int .i64 p91)] (fun w_ => [World.cell? w_ ⟨g18, 0, none⟩ = some (.int .u8 s.1), World.cell? w_ ⟨g18, 1, none⟩ = some (.int .u8 s.2)]) 4 E (fun _ _ => by kernel_rfl) (by kernel_rfl) (fun w_ hS_ => ⟨(HR179.boxk [] hS_ 4 rfl rfl).cell (j := 0) rfl, (HR179.boxk [] hS_ 4 rfl rfl).cell (j := 1) rfl⟩) (by kernel_rfl) HS178 ?_
   clear E; intro a E
   refine wpAnyH_all (rs := [3]) (by kernel_rfl) (by simp) ?_
   refine all1 ?_
   refine wpOp_of_list rfl ?_
   obtain ⟨Fa180, Hc181, hb182⟩ := H.call [] [] rfl rfl trivial
   refine e_call E rfl rfl Try.func45 rfl rfl rfl (ref01_Bit_calls  s.1 p91  Hc181 h159) ?_
   rintro v183 w184 a ⟨rfl, HR185⟩ E_
   replace E := E_ _ rfl; clear E_
   obtain ⟨H_, hc186⟩ := hb182 _ _ HR185 rfl
   replace HS178 := HS178.ext (callS_ext hc186)
   replace H := H_; clear H_; try dsimp only [setn, addE, goneL] at H
   refine wpList_nil ?_
   refine th_n ⟨HS178, ?_⟩
   refine wpAnyH_all (rs := [7]) (by kernel_rfl) (by simp) ?_
   refine all1 ?_
   refine wpOp_of_list rfl ?_
   obtain ⟨Fa187, Hc188, hb189⟩ := H.call [] [] rfl rfl trivial
   refine e_call E rfl rfl Try.func45 rfl rfl rfl (ref01_Bit_calls  s.2 p91  Hc188 h168) ?_
   rintro v190 w191 a ⟨rfl, HR192⟩ E_
   replace E := E_ _ rfl; clear E_
   obtain ⟨H_, hc193⟩ := hb189 _ _ HR192 rfl
   replace HS178 := HS178.ext (callS_ext hc193)
   replace H := H_; clear H_; try dsimp only [setn, addE, goneL] at H
   refine wpList_nil ?_
   refine th_n ⟨HS178, ?_⟩
   refine dn tbok (by kernel_rfl) [8, 9] [] [(7, .bool r158), (8, .bool r167)] (fun w_ => []) 0 E (fun _ _ => by kernel_rfl) (by kernel_rfl) (fun w_ hS_ => trivial) (by kernel_rfl) HS178 ?_
   clear E; intro a E
   refine dr_done (by kernel_rfl) ?_
   clear HS178 HR179
   refine th_n ?_
   refine wp_seq ?_
   refine wp_region_lit ?_
   refine vn tbok 5 [.int .i64 aProps] [(34, .bool (decide (p91 < aProps)))] [World.cell? w191 ⟨g13, 0, none⟩ = some (.int .i64 aProps)] E (by kernel_rfl) (by kernel_rfl) ((H.box 3 rfl).cell (j := 0) rfl) ?_
   clear E; intro a E
   refine E.cases (t := 34) rfl (fun hb_ E_ => ?_) (fun hb_ E_ => ?_)
   ·
    replace E := E_; clear E_
    have h194 : p91 < aProps := of_decide_eq_true hb_
    clear hb_; replace hP := ite_t h194 hP
    refine vn tbok 5 [] [(39, .bool (r158 == r167))] [] E (by kernel_rfl) (by kernel_rfl) trivial ?_
    clear E; intro a E
    refine E.cases (t := 39) rfl (fun hb_ E_ => ?_) (fun hb_ E_ => ?_)
    ·
     replace E := E_; clear E_
     have h195 : r158 = r167 := eq_of_beq hb_
     clear hb_; replace hP := ite_t h195 hP
     refine vn tbok 11 [] [(50, .bool true)] [] E (by kernel_rfl) (by kernel_rfl) trivial ?_
     clear E; intro a E
     refine wpList_nil ?_
     refine th_n ?_
     refine c_true E rfl ?_
     refine wp_seq ?_
     refine wp_region_lit ?_
     refine vn tbok 1 [] [(4, .int .i64 13)] [] E (by kernel_rfl) (by kernel_rfl) trivial ?_
     clear E; intro a E
     refine wpList_nil ?_
     refine th_n ?_
     refine wp_ret ?_
     refine bl_ret ?_
     refine th_ret ?_
     refine th_ret ?_
     refine .inr ⟨rfl, ?_⟩
     refine bl_ret ?_
     refine th_ret ?_
     have hx_ := Option.some.inj hP; subst hx_
     have hP : some (13) = some r := hK153
     obtain rfl := Option.some.inj hP
     refine ret1 E rfl rfl ?_
     exact ⟨_, rfl, rfl, H.sel [] rfl⟩
    replace E := E_; clear E_
    have h196 : ¬ (r158 = r167) := ne_of_beq_false hb_
    clear hb_; replace hP := ite_f h196 hP
    refine vn tbok 5 [.int .i64 aProps] [(44, .bool (decide (aProps ≤ p91)))] [World.cell? w191 ⟨g13, 0, none⟩ = some (.int .i64 aProps)] E (by kernel_rfl) (by kernel_rfl) ((H.box 3 rfl).cell (j := 0) rfl) ?_
    clear E; intro a E
    refine E.cases (t := 44) rfl (fun hb_ E_ => ?_) (fun hb_ E_ => ?_)
    ·
     replace E := E_; clear E_
     have h197 : aProps ≤ p91 := of_decide_eq_true hb_
     clear hb_; replace hP := ite_t h197 hP
     refine vn tbok 2 [] [(46, .bool r158)] [] E (by kernel_rfl) (by kernel_rfl) trivial ?_
     clear E; intro a E
     refine E.cases (t := 46) rfl (fun hb_ E_ => ?_) (fun hb_ E_ => ?_)
     ·
      replace E := E_; clear E_
      have h198 : r158 = true := hb_
      clear hb_; replace hP := ite_t h198 hP
      refine vn tbok 4 [] [(50, .bool true)] [] E (by kernel_rfl) (by kernel_rfl) trivial ?_
      clear E; intro a E
      refine wpList_nil ?_
      refine th_n ?_
      refine c_true E rfl ?_
      refine wp_seq ?_
      refine wp_region_lit ?_
      refine vn tbok 1 [] [(4, .int .i64 13)] [] E (by kernel_rfl) (by kernel_rfl) trivial ?_
      clear E; intro a E
      refine wpList_nil ?_
      refine th_n ?_
      refine wp_ret ?_
      refine bl_ret ?_
      refine th_ret ?_
      refine th_ret ?_
      refine .inr ⟨rfl, ?_⟩
      refine bl_ret ?_
      refine th_ret ?_
      have hx_ := Option.some.inj hP; subst hx_
      have hP : some (13) = some r := hK153
      obtain rfl := Option.some.inj hP
      refine ret1 E rfl rfl ?_
      exact ⟨_, rfl, rfl, H.sel [] rfl⟩
     replace E := E_; clear E_
     have h199 : ¬ (r158 = true) := (ne_true_of_eq_false hb_)
     clear hb_; replace hP := ite_f h199 hP
     refine vn tbok 4 [] [(50, .bool r167)] [] E (by kernel_rfl) (by kernel_rfl) trivial ?_
     clear E; intro a E
     refine wpList_nil ?_
     refine th_n ?_
     refine E.cases (t := 50) rfl (fun hb_ E_ => ?_) (fun hb_ E_ => ?_)
     ·
      replace E := E_; clear E_
      have h200 : r167 = true := hb_
      clear hb_; replace hP := ite_t h200 hP
      refine c_true E rfl ?_
      refine wp_seq ?_
      refine wp_region_lit ?_
      refine vn tbok 1 [] [(4, .int .i64 13)] [] E (by kernel_rfl) (by kernel_rfl) trivial ?_
      clear E; intro a E
      refine wpList_nil ?_
      refine th_n ?_
      refine wp_ret ?_
      refine bl_ret ?_
      refine th_ret ?_
      refine th_ret ?_
      refine .inr ⟨rfl, ?_⟩
      refine bl_ret ?_
      refine th_ret ?_
      have hx_ := Option.some.inj hP; subst hx_
      have hP : some (13) = some r := hK153
      obtain rfl := Option.some.inj hP
      refine ret1 E rfl rfl ?_
      exact ⟨_, rfl, rfl, H.sel [] rfl⟩
     replace E := E_; clear E_
     have h201 : ¬ (r167 = true) := (ne_true_of_eq_false hb_)
     clear hb_; replace hP := ite_f h201 hP
     refine c_false E rfl ?_
     refine wp_skip ?_
     refine bl_n ?_
     refine th_n ?_
     refine wp_region_lit ?_
     obtain ⟨g202, hP⟩ := ask_inv hP
     refine vn tbok 3 [.int .i64 (p91 + 1)] [(6, .int .i64 (p91 + 1))] [IntKind.i64.wrap (p91 + 1) = p91 + 1] E (by kernel_rfl) (by kernel_rfl) (wrap_in g202) ?_
     clear E; intro a E
     refine wpList_nil ?_
     exact th_n ⟨m150, Nat.lt_succ_self _, p91 + 1, E.pick _ ⟨rfl, rfl, rfl, trivial⟩, H.sel [0, 1, 2, 3, 4] rfl, hP⟩
    replace E := E_; clear E_
    have h203 : ¬ (aProps ≤ p91) := of_decide_eq_false hb_
    clear hb_; replace hP := ite_f h203 hP
    refine vn tbok 6 [] [(50, .bool false)] [] E (by kernel_rfl) (by kernel_rfl) trivial ?_
    clear E; intro a E
    refine wpList_nil ?_
    refine th_n ?_
    refine c_false E rfl ?_
    refine wp_skip ?_
    refine bl_n ?_
    refine th_n ?_
    refine wp_region_lit ?_
    obtain ⟨g204, hP⟩ := ask_inv hP
    refine vn tbok 3 [.int .i64 (p91 + 1)] [(6, .int .i64 (p91 + 1))] [IntKind.i64.wrap (p91 + 1) = p91 + 1] E (by kernel_rfl) (by kernel_rfl) (wrap_in g204) ?_
    clear E; intro a E
    refine wpList_nil ?_
    exact th_n ⟨m150, Nat.lt_succ_self _, p91 + 1, E.pick _ ⟨rfl, rfl, rfl, trivial⟩, H.sel [0, 1, 2, 3, 4] rfl, hP⟩
   replace E := E_; clear E_
   have h205 : ¬ (p91 < aProps) := of_decide_eq_false hb_
   clear hb_; replace hP := ite_f h205 hP
   refine vn tbok 10 [.int .i64 aProps] [(39, .bool false), (44, .bool (decide (aProps ≤ p91)))] [World.cell? w191 ⟨g13, 0, none⟩ = some (.int .i64 aProps)] E (by kernel_rfl) (by kernel_rfl) ((H.box 3 rfl).cell (j := 0) rfl) ?_
   clear E; intro a E
   refine E.cases (t := 44) rfl (fun hb_ E_ => ?_) (fun hb_ E_ => ?_)
   ·
    replace E := E_; clear E_
    have h206 : aProps ≤ p91 := of_decide_eq_true hb_
    clear hb_; replace hP := ite_t h206 hP
    refine vn tbok 2 [] [(46, .bool r158)] [] E (by kernel_rfl) (by kernel_rfl) trivial ?_
    clear E; intro a E
    refine E.cases (t := 46) rfl (fun hb_ E_ => ?_) (fun hb_ E_ => ?_)
    ·
     replace E := E_; clear E_
     have h207 : r158 = true := hb_
     clear hb_; replace hP := ite_t h207 hP
     refine vn tbok 4 [] [(50, .bool true)] [] E (by kernel_rfl) (by kernel_rfl) trivial ?_
     clear E; intro a E
     refine wpList_nil ?_
     refine th_n ?_
     refine c_true E rfl ?_
     refine wp_seq ?_
     refine wp_region_lit ?_
     refine vn tbok 1 [] [(4, .int .i64 13)] [] E (by kernel_rfl) (by kernel_rfl) trivial ?_
     clear E; intro a E
     refine wpList_nil ?_
     refine th_n ?_
     refine wp_ret ?_
     refine bl_ret ?_
     refine th_ret ?_
     refine th_ret ?_
     refine .inr ⟨rfl, ?_⟩
     refine bl_ret ?_
     refine th_ret ?_
     have hx_ := Option.some.inj hP; subst hx_
     have hP : some (13) = some r := hK153
     obtain rfl := Option.some.inj hP
     refine ret1 E rfl rfl ?_
     exact ⟨_, rfl, rfl, H.sel [] rfl⟩
    replace E := E_; clear E_
    have h208 : ¬ (r158 = true) := (ne_true_of_eq_false hb_)
    clear hb_; replace hP := ite_f h208 hP
    refine vn tbok 4 [] [(50, .bool r167)] [] E (by kernel_rfl) (by kernel_rfl) trivial ?_
    clear E; intro a E
    refine wpList_nil ?_
    refine th_n ?_
    refine E.cases (t := 50) rfl (fun hb_ E_ => ?_) (fun hb_ E_ => ?_)
    ·
     replace E := E_; clear E_
     have h209 : r167 = true := hb_
     clear hb_; replace hP := ite_t h209 hP
     refine c_true E rfl ?_
     refine wp_seq ?_
     refine wp_region_lit ?_
     refine vn tbok 1 [] [(4, .int .i64 13)] [] E (by kernel_rfl) (by kernel_rfl) trivial ?_
     clear E; intro a E
     refine wpList_nil ?_
     refine th_n ?_
     refine wp_ret ?_
     refine bl_ret ?_
     refine th_ret ?_
     refine th_ret ?_
     refine .inr ⟨rfl, ?_⟩
     refine bl_ret ?_
     refine th_ret ?_
     have hx_ := Option.some.inj hP; subst hx_
     have hP : some (13) = some r := hK153
     obtain rfl := Option.some.inj hP
     refine ret1 E rfl rfl ?_
     exact ⟨_, rfl, rfl, H.sel [] rfl⟩
    replace E := E_; clear E_
    have h210 : ¬ (r167 = true) := (ne_true_of_eq_false hb_)
    clear hb_; replace hP := ite_f h210 hP
    refine c_false E rfl ?_
    refine wp_skip ?_
    refine bl_n ?_
    refine th_n ?_
    refine wp_region_lit ?_
    obtain ⟨g211, hP⟩ := ask_inv hP
    refine vn tbok 3 [.int .i64 (p91 + 1)] [(6, .int .i64 (p91 + 1))] [IntKind.i64.wrap (p91 + 1) = p91 + 1] E (by kernel_rfl) (by kernel_rfl) (wrap_in g211) ?_
    clear E; intro a E
    refine wpList_nil ?_
    exact th_n ⟨m150, Nat.lt_succ_self _, p91 + 1, E.pick _ ⟨rfl, rfl, rfl, trivial⟩, H.sel [0, 1, 2, 3, 4] rfl, hP⟩
   replace E := E_; clear E_
   have h212 : ¬ (aProps ≤ p91) := of_decide_eq_false hb_
   clear hb_; replace hP := ite_f h212 hP
   refine vn tbok 6 [] [(50, .bool false)] [] E (by kernel_rfl) (by kernel_rfl) trivial ?_
   clear E; intro a E
   refine wpList_nil ?_
   refine th_n ?_
   refine c_false E rfl ?_
   refine wp_skip ?_
   refine bl_n ?_
   refine th_n ?_
   refine wp_region_lit ?_
   obtain ⟨g213, hP⟩ := ask_inv hP
   refine vn tbok 3 [.int .i64 (p91 + 1)] [(6, .int .i64 (p91 + 1))] [IntKind.i64.wrap (p91 + 1) = p91 + 1] E (by kernel_rfl) (by kernel_rfl) (wrap_in g213) ?_
   clear E; intro a E
   refine wpList_nil ?_
   exact th_n ⟨m150, Nat.lt_succ_self _, p91 + 1, E.pick _ ⟨rfl, rfl, rfl, trivial⟩, H.sel [0, 1, 2, 3, 4] rfl, hP⟩
  replace E := E_; clear E_
  have h214 : ¬ (p91 < 8) := of_decide_eq_false hb_
  clear hb_; replace hP := ite_f h214 hP
  refine c_false E rfl ?_
  refine wp_exit ?_
  refine th_exit ?_
  have hx_ := Option.some.inj hP
  refine th_exit (.inl ⟨0, rfl, ?_⟩)
  exact ⟨rfl, (), E.pick _ trivial, H.sel [] rfl, hx_.symm⟩
 clear E H hL152; intro i_ a w154 hM_
 obtain ⟨rfl, x156, E, H, hx_⟩ := hM_
 subst hx_; have hP := elim_l hK153
 clear hK153
 refine bl_hit ?_
 refine th_n ?_
 refine wp_seq ?_
 refine wp_region_lit ?_
 refine vn tbok 1 [] [(4, .int .i64 0)] [] E (by kernel_rfl) (by kernel_rfl) trivial ?_
 clear E; intro a E
 refine wpList_nil ?_
 refine th_n ?_
 refine wp_ret ?_
 obtain rfl := Option.some.inj hP
 refine ret1 E rfl rfl ?_
 exact ⟨_, rfl, rfl, H.sel [] rfl⟩

/-! rejoinder/rejoinderref01.All -/
def ref01_All_l0 (N : Nat) (n : Int) : Nat → (List Int) → Int → Option (List Int)
  | 0, _, _ => none
  | m49 + 1, out21, l24 =>
    if 0 ≤ n then
      if n ≤ 8 then
        ask (0 ≤ n) <|
        if l24 < (shlV .i64 1 n) then
          ask (List.length out21 + List.length ([IntKind.u8.wrap l24] : List Int) ≤ 1000000000) <|
          ask (in64 (l24 + 1)) <|
          ref01_All_l0 N n m49 (out21 ++ ([IntKind.u8.wrap l24] : List Int)) (l24 + 1)
        else
          some out21
      else
        some out21
    else
      some out21
def ref01_All (N : Nat) (n : Int) : Option (List Int) :=
  Option.bind (ref01_All_l0 N n N [] 0) fun x50 =>
  some x50
set_option maxRecDepth 100000 in
set_option maxHeartbeats 4000000 in
theorem ref01_All_calls {N : Nat} {S Fa : Nat → Prop} {w0 : World} {r : List Int} (n : Int) (H : Hp S Fa w0 w0 []) (hP : ref01_All N n = some r) :
    Calls Try.prog 52 #[.int .i64 n] w0 fun e w' => ∃ v, e = .returned v ∧ ∃ (A76 : Option Addr) (c77 : Nat), v = .slice A76 (List.length r) c77 ∧ Hp S Fa w0 w' [.row true (cInt .u8) 27 A76 c77 r] := by
 refine enterV (n := 25) Try.func52 rfl rfl rfl ?_
 intro a E
 replace E := E.pick [(0, .int .i64 n)] ⟨rfl, trivial⟩
 rw [ref01_All] at hP
 refine wp_seq ?_
 refine wp_region_lit ?_
 refine vn tbok 1 [] [] [] E (by kernel_rfl) (by kernel_rfl) trivial ?_
 clear E; intro a E
 refine wpList_nil ?_
 refine th_n ?_
 refine wp_seq ?_
 refine wp_region_lit ?_
 refine vn tbok 1 [] [(3, .slice none 0 0)] [] E (by kernel_rfl) (by kernel_rfl) trivial ?_
 clear E; intro a E
 refine wpList_nil ?_
 refine th_n ?_
 refine wp_seq ?_
 refine wp_seq ?_
 refine wp_region_lit ?_
 refine vn tbok 1 [] [(4, .int .i64 0)] [] E (by kernel_rfl) (by kernel_rfl) trivial ?_
 clear E; intro a E
 refine wpList_nil ?_
 refine th_n ?_
 refine wp_block ?_
 obtain ⟨x50, hL51, hK52⟩ := bind_inv hP
 clear hP
 replace H := H.nilrow (cInt .u8) 27; try dsimp only [setn, addE, goneL] at H
 refine loop_cut (fun i_ a w_ => (i_ = 0 ∧ ∃ (x56 : List Int), ∃ (A47 : Option Addr) (c48 : Nat), Fr a 25 [(3, .slice A47 (List.length x56) c48)] ∧ Hp S Fa w0 w_ [.row true (cInt .u8) 27 A47 c48 x56] ∧ x50 = x56)) ?_ ?_
 ·
  refine loopV (fun m55 a w54 => ∃ (out21 : List Int) (l24 : Int), ∃ (A22 : Option Addr) (c23 : Nat), Fr a 25 [(0, .int .i64 n), (3, .slice A22 (List.length out21) c23), (4, .int .i64 l24)] ∧ Hp S Fa w0 w54 [.row true (cInt .u8) 27 A22 c23 out21] ∧ ref01_All_l0 N n m55 out21 l24 = some x50) N ?_ ?_
  ·
   exact ⟨[], 0, none, 0, E.pick _ ⟨rfl, rfl, rfl, trivial⟩, H.sel [0] rfl, hL51⟩
  clear E H hL51; intro m55 a w54 hI_
  obtain ⟨out21, l24, A22, c23, E, H, hP⟩ := hI_
  obtain ⟨m49, rfl⟩ : ∃ q_, m55 = q_ + 1 := by cases m55 with | zero => rw [ref01_All_l0] at hP; cases hP | succ q_ => exact ⟨q_, rfl⟩
  rw [ref01_All_l0] at hP
  refine wp_seq ?_
  refine wp_seq ?_
  refine wp_region_lit ?_
  refine vn tbok 3 [] [(7, .bool (decide (0 ≤ n)))] [] E (by kernel_rfl) (by kernel_rfl) trivial ?_
  clear E; intro a E
  refine E.cases (t := 7) rfl (fun hb_ E_ => ?_) (fun hb_ E_ => ?_)
  ·
   replace E := E_; clear E_
   have h57 : 0 ≤ n := of_decide_eq_true hb_
   clear hb_; replace hP := ite_t h57 hP
   refine vn tbok 4 [] [(11, .bool (decide (n ≤ 8)))] [] E (by kernel_rfl) (by kernel_rfl) trivial ?_
   clear E; intro a E
   refine E.cases (t := 11) rfl (fun hb_ E_ => ?_) (fun hb_ E_ => ?_)
   ·
    replace E := E_; clear E_
    have h58 : n ≤ 8 := of_decide_eq_true hb_
    clear hb_; replace hP := ite_t h58 hP
    obtain ⟨g59, hP⟩ := ask_inv hP
    refine vn tbok 5 [.int .i64 (shlV .i64 1 n)] [(16, .bool (decide (l24 < (shlV .i64 1 n))))] [0 ≤ n ∧ IntKind.i64.wrap (1 * 2 ^ (min (Int.toNat n) (IntKind.bits .i64))) = shlV .i64 1 n] E (by kernel_rfl) (by kernel_rfl) (⟨g59, rfl⟩) ?_
    clear E; intro a E
    refine wpList_nil ?_
    refine th_n ?_
    refine E.cases (t := 16) rfl (fun hb_ E_ => ?_) (fun hb_ E_ => ?_)
    ·
     replace E := E_; clear E_
     have h60 : l24 < (shlV .i64 1 n) := of_decide_eq_true hb_
     clear hb_; replace hP := ite_t h60 hP
     refine c_true E rfl ?_
     refine wp_skip ?_
     refine th_n ?_
     refine wp_seq ?_
     refine wp_block ?_
     refine wp_region_lit ?_
     refine vn tbok 3 [.int .u8 (IntKind.u8.wrap l24)] [(19, .slice A22 (List.length out21) c23), (21, .int .u8 (IntKind.u8.wrap l24))] [IntKind.u8.wrap l24 = (IntKind.u8.wrap l24)] E (by kernel_rfl) (by kernel_rfl) (rfl) ?_
     clear E; intro a E
     refine h_buildSlice (ps := [(0, .int .u8 (IntKind.u8.wrap l24))]) (cs := [.int .u8 (IntKind.u8.wrap l24)]) H E rfl rfl tbok rfl rfl (by kernel_rfl) ?_
     intro w62 g61 a hc63 hg65 H_ E_
     replace E := E_ _ rfl; clear E_
     replace H := H_; clear H_; try dsimp only [setn, addE, goneL] at H
     obtain ⟨g66, hP⟩ := ask_inv hP
     refine h_append (cInt .u8) (xs := out21) (ys := ([IntKind.u8.wrap l24] : List Int)) (0 : Int) H 0 rfl E rfl rfl tbok rfl rfl rfl rfl rfl (fun _ _ => rfl) rfl rfl (fun _ HF_ => HF_.srcB 1 rfl (⟨_, _, rfl, rfl, rfl⟩)) g66 ?_
     intro w67 A68 c69 a hc70 hA71 H_ E_
     replace E := E_ _ rfl; clear E_
     replace H := H_; clear H_; try dsimp only [setn, addE, goneL] at H
     refine vn tbok 1 [] [(3, .slice A68 (List.length (out21 ++ ([IntKind.u8.wrap l24] : List Int))) c69)] [] E (by kernel_rfl) (by kernel_rfl) trivial ?_
     clear E; intro a E
     refine wpList_nil ?_
     refine bl_n ?_
     refine th_n ?_
     refine wp_region_lit ?_
     obtain ⟨g72, hP⟩ := ask_inv hP
     refine vn tbok 3 [.int .i64 (l24 + 1)] [(4, .int .i64 (l24 + 1))] [IntKind.i64.wrap (l24 + 1) = l24 + 1] E (by kernel_rfl) (by kernel_rfl) (wrap_in g72) ?_
     clear E; intro a E
     refine wpList_nil ?_
     exact th_n ⟨m49, Nat.lt_succ_self _, out21 ++ ([IntKind.u8.wrap l24] : List Int), l24 + 1, A68, c69, E.pick _ ⟨rfl, rfl, rfl, trivial⟩, H.sel [0] rfl, hP⟩
    replace E := E_; clear E_
    have h73 : ¬ (l24 < (shlV .i64 1 n)) := of_decide_eq_false hb_
    clear hb_; replace hP := ite_f h73 hP
    refine c_false E rfl ?_
    refine wp_exit ?_
    refine th_exit ?_
    have hx_ := Option.some.inj hP
    refine th_exit (.inl ⟨0, rfl, ?_⟩)
    exact ⟨rfl, out21, A22, c23, E.pick _ ⟨rfl, trivial⟩, H.sel [0] rfl, hx_.symm⟩
   replace E := E_; clear E_
   have h74 : ¬ (n ≤ 8) := of_decide_eq_false hb_
   clear hb_; replace hP := ite_f h74 hP
   refine vn tbok 5 [] [(16, .bool false)] [] E (by kernel_rfl) (by kernel_rfl) trivial ?_
   clear E; intro a E
   refine wpList_nil ?_
   refine th_n ?_
   refine c_false E rfl ?_
   refine wp_exit ?_
   refine th_exit ?_
   have hx_ := Option.some.inj hP
   refine th_exit (.inl ⟨0, rfl, ?_⟩)
   exact ⟨rfl, out21, A22, c23, E.pick _ ⟨rfl, trivial⟩, H.sel [0] rfl, hx_.symm⟩
  replace E := E_; clear E_
  have h75 : ¬ (0 ≤ n) := of_decide_eq_false hb_
  clear hb_; replace hP := ite_f h75 hP
  refine vn tbok 9 [] [(16, .bool false)] [] E (by kernel_rfl) (by kernel_rfl) trivial ?_
  clear E; intro a E
  refine wpList_nil ?_
  refine th_n ?_
  refine c_false E rfl ?_
  refine wp_exit ?_
  refine th_exit ?_
  have hx_ := Option.some.inj hP
  refine th_exit (.inl ⟨0, rfl, ?_⟩)
  exact ⟨rfl, out21, A22, c23, E.pick _ ⟨rfl, trivial⟩, H.sel [0] rfl, hx_.symm⟩
 clear E H hL51; intro i_ a w54 hM_
 obtain ⟨rfl, x56, A47, c48, E, H, hx_⟩ := hM_
 subst hx_; have hP := hK52; clear hK52
 refine bl_hit ?_
 refine th_n ?_
 refine wp_seq ?_
 refine wp_region_lit ?_
 refine vn tbok 2 [] [(2, .slice A47 (List.length x50) c48)] [] E (by kernel_rfl) (by kernel_rfl) trivial ?_
 clear E; intro a E
 refine wpList_nil ?_
 refine th_n ?_
 refine wp_ret ?_
 obtain rfl := Option.some.inj hP
 refine ret1 E rfl rfl ?_
 exact ⟨_, rfl, A47, c48, rfl, H.sel [0] rfl⟩

/-! rejoinder/rejoinderref22.within -/
def ref22_within (N : Nat) (mask : Int) (ll : Int) : Option Bool :=
  some ((andV .u8 ll mask : Int) == ll)
set_option maxRecDepth 100000 in
set_option maxHeartbeats 4000000 in
theorem ref22_within_calls {N : Nat} {S Fa : Nat → Prop} {w0 : World} {r : Bool} (mask : Int) (ll : Int) (H : Hp S Fa w0 w0 []) (hP : ref22_within N mask ll = some r) :
    Calls Try.prog 53 #[.int .u8 mask, .int .u8 ll] w0 fun e w' => ∃ v, e = .returned v ∧ v = .bool r ∧ Hp S Fa w0 w' [] := by
 refine enterV (n := 10) Try.func53 rfl rfl rfl ?_
 intro a E
 replace E := E.pick [(0, .int .u8 mask), (1, .int .u8 ll)] ⟨rfl, rfl, trivial⟩
 rw [ref22_within] at hP
 refine wp_seq ?_
 refine wp_region_lit ?_
 refine vn tbok 1 [] [] [] E (by kernel_rfl) (by kernel_rfl) trivial ?_
 clear E; intro a E
 refine wpList_nil ?_
 refine th_n ?_
 refine wp_seq ?_
 refine wp_region_lit ?_
 refine vn tbok 6 [.int .u8 (andV .u8 ll mask)] [(4, .bool ((andV .u8 ll mask : Int) == ll))] [IntKind.u8.wrap (BitVec.ofInt (IntKind.bits .u8) ll &&& BitVec.ofInt (IntKind.bits .u8) mask).toNat = andV .u8 ll mask] E (by kernel_rfl) (by kernel_rfl) (rfl) ?_
 clear E; intro a E
 refine wpList_nil ?_
 refine th_n ?_
 refine wp_ret ?_
 obtain rfl := Option.some.inj hP
 refine ret1 E rfl rfl ?_
 exact ⟨_, rfl, rfl, H.sel [] rfl⟩

/-! rejoinder/rejoinderref22.Moves -/
def ref22_Moves_l0 (N : Nat) (mask : Int) (r1 : List Int) : Nat → (List Int) → Int → Option (List Int)
  | 0, _, _ => none
  | m80 + 1, out42, i45 =>
    if i45 < (((List.length r1) : Nat) : Int) then
      ask (idx i45 (List.length r1)) <|
      Option.bind (ref22_within N mask (List.getD r1 (Int.toNat i45) 0)) fun r92 =>
      if r92 = true then
        ask (List.length out42 + List.length ([(List.getD r1 (Int.toNat i45) 0)] : List Int) ≤ 1000000000) <|
        ask (in64 (i45 + 1)) <|
        ref22_Moves_l0 N mask r1 m80 (out42 ++ ([(List.getD r1 (Int.toNat i45) 0)] : List Int)) (i45 + 1)
      else
        ask (in64 (i45 + 1)) <|
        ref22_Moves_l0 N mask r1 m80 out42 (i45 + 1)
    else
      some out42
def ref22_Moves (N : Nat) (mask : Int) : Option (List Int) :=
  Option.bind (ref01_All N 8) fun r1 =>
  Option.bind (ref22_Moves_l0 N mask r1 N [] 0) fun x81 =>
  some x81
set_option maxRecDepth 100000 in
set_option maxHeartbeats 4000000 in
theorem ref22_Moves_calls {N : Nat} {S Fa : Nat → Prop} {w0 : World} {r : List Int} (mask : Int) (H : Hp S Fa w0 w0 []) (hP : ref22_Moves N mask = some r) :
    Calls Try.prog 50 #[.int .u8 mask] w0 fun e w' => ∃ v, e = .returned v ∧ ∃ (A117 : Option Addr) (c118 : Nat), v = .slice A117 (List.length r) c118 ∧ Hp S Fa w0 w' [.row true (cInt .u8) 27 A117 c118 r] := by
 refine enterV (n := 27) Try.func50 rfl rfl rfl ?_
 intro a E
 replace E := E.pick [(0, .int .u8 mask)] ⟨rfl, trivial⟩
 rw [ref22_Moves] at hP
 refine wp_seq ?_
 refine wp_region_lit ?_
 refine vn tbok 1 [] [] [] E (by kernel_rfl) (by kernel_rfl) trivial ?_
 clear E; intro a E
 refine wpList_nil ?_
 refine th_n ?_
 refine wp_seq ?_
 refine wp_region_lit ?_
 refine vn tbok 1 [] [(3, .slice none 0 0)] [] E (by kernel_rfl) (by kernel_rfl) trivial ?_
 clear E; intro a E
 refine wpList_nil ?_
 refine th_n ?_
 refine wp_seq ?_
 refine wp_region_lit ?_
 obtain ⟨r1, h2, hP⟩ := bind_inv hP
 obtain ⟨Fa3, Hc4, hb5⟩ := H.call [] [] rfl rfl trivial
 refine e_call E rfl rfl Try.func52 rfl rfl rfl (ref01_All_calls  8  Hc4 h2) ?_
 rintro v6 w7 a ⟨A10, c11, rfl, HR8⟩ E_
 replace E := E_ _ rfl; clear E_
 obtain ⟨H_, hc9⟩ := hb5 _ _ HR8 rfl
 replace H := H_; clear H_; try dsimp only [setn, addE, goneL] at H
 refine vn tbok 1 [] [(4, .slice A10 (List.length r1) c11)] [] E (by kernel_rfl) (by kernel_rfl) trivial ?_
 clear E; intro a E
 refine wpList_nil ?_
 refine th_n ?_
 refine wp_seq ?_
 refine wp_seq ?_
 refine wp_region_lit ?_
 refine vn tbok 1 [] [(5, .int .i64 0)] [] E (by kernel_rfl) (by kernel_rfl) trivial ?_
 clear E; intro a E
 refine wpList_nil ?_
 refine th_n ?_
 refine wp_block ?_
 obtain ⟨x81, hL82, hK83⟩ := bind_inv hP
 clear hP
 replace H := H.nilrow (cInt .u8) 27; try dsimp only [setn, addE, goneL] at H
 refine loop_cut (fun i_ a w_ => (i_ = 0 ∧ ∃ (x87 : List Int), ∃ (A78 : Option Addr) (c79 : Nat), Fr a 27 [(3, .slice A78 (List.length x87) c79)] ∧ Hp S Fa w0 w_ [.row true (cInt .u8) 27 A78 c79 x87] ∧ x81 = x87)) ?_ ?_
 ·
  refine loopV (fun m86 a w85 => ∃ (out42 : List Int) (i45 : Int), ∃ (A43 : Option Addr) (c44 : Nat), Fr a 27 [(0, .int .u8 mask), (3, .slice A43 (List.length out42) c44), (4, .slice A10 (List.length r1) c11), (5, .int .i64 i45)] ∧ Hp S Fa w0 w85 [.row true (cInt .u8) 27 A43 c44 out42, .row true (cInt .u8) 27 A10 c11 r1] ∧ ref22_Moves_l0 N mask r1 m86 out42 i45 = some x81) N ?_ ?_
  ·
   exact ⟨[], 0, none, 0, E.pick _ ⟨rfl, rfl, rfl, rfl, trivial⟩, H.sel [1, 0] rfl, hL82⟩
  clear E H hL82; intro m86 a w85 hI_
  obtain ⟨out42, i45, A43, c44, E, H, hP⟩ := hI_
  obtain ⟨m80, rfl⟩ : ∃ q_, m86 = q_ + 1 := by cases m86 with | zero => rw [ref22_Moves_l0] at hP; cases hP | succ q_ => exact ⟨q_, rfl⟩
  rw [ref22_Moves_l0] at hP
  refine wp_seq ?_
  refine wp_seq ?_
  refine wp_region_lit ?_
  refine vn tbok 4 [] [(10, .bool (decide (i45 < (((List.length r1) : Nat) : Int))))] [] E (by kernel_rfl) (by kernel_rfl) trivial ?_
  clear E; intro a E
  refine wpList_nil ?_
  refine th_n ?_
  refine E.cases (t := 10) rfl (fun hb_ E_ => ?_) (fun hb_ E_ => ?_)
  ·
   replace E := E_; clear E_
   have h88 : i45 < (((List.length r1) : Nat) : Int) := of_decide_eq_true hb_
   clear hb_; replace hP := ite_t h88 hP
   refine c_true E rfl ?_
   refine wp_skip ?_
   refine th_n ?_
   refine wp_seq ?_
   refine wp_block ?_
   refine wp_seq ?_
   refine wp_region_lit ?_
   obtain ⟨g89, hP⟩ := ask_inv hP
   obtain ⟨b90, e_b90⟩ := H.raddr 1 rfl (idx_pos g89)
   subst e_b90
   refine vn tbok 5 [.int .u8 (List.getD r1 (Int.toNat i45) 0)] [(13, .int .u8 mask), (17, .int .u8 (List.getD r1 (Int.toNat i45) 0))] [0 ≤ i45 ∧ i45 < (((List.length r1) : Nat) : Int), World.cell? w85 ⟨b90, 0 + (Int.toNat i45) * 1, none⟩ = some (.int .u8 (List.getD r1 (Int.toNat i45) 0))] E (by kernel_rfl) (by kernel_rfl) ⟨g89, Rds.at1 (H.rd 1 rds_row) 0 g89⟩ ?_
   clear E; intro a E
   obtain ⟨r92, h93, hP⟩ := bind_inv hP
   obtain ⟨Fa94, Hc95, hb96⟩ := H.call [] [] rfl rfl trivial
   refine e_call E rfl rfl Try.func53 rfl rfl rfl (ref22_within_calls  mask (List.getD r1 (Int.toNat i45) 0)  Hc95 h93) ?_
   rintro v97 w98 a ⟨rfl, HR99⟩ E_
   replace E := E_ _ rfl; clear E_
   obtain ⟨H_, hc100⟩ := hb96 _ _ HR99 rfl
   replace H := H_; clear H_; try dsimp only [setn, addE, goneL] at H
   refine wpList_nil ?_
   refine th_n ?_
   refine E.cases (t := 18) rfl (fun hb_ E_ => ?_) (fun hb_ E_ => ?_)
   ·
    replace E := E_; clear E_
    have h101 : r92 = true := hb_
    clear hb_; replace hP := ite_t h101 hP
    refine c_true E rfl ?_
    refine wp_region_lit ?_
    refine vn tbok 5 [.int .u8 (List.getD r1 (Int.toNat i45) 0)] [(19, .slice A43 (List.length out42) c44), (23, .int .u8 (List.getD r1 (Int.toNat i45) 0))] [0 ≤ i45 ∧ i45 < (((List.length r1) : Nat) : Int), World.cell? w98 ⟨b90, 0 + (Int.toNat i45) * 1, none⟩ = some (.int .u8 (List.getD r1 (Int.toNat i45) 0))] E (by kernel_rfl) (by kernel_rfl) ⟨g89, Rds.at1 (H.rd 1 rds_row) 0 g89⟩ ?_
    clear E; intro a E
    refine h_buildSlice (ps := [(0, .int .u8 (List.getD r1 (Int.toNat i45) 0))]) (cs := [.int .u8 (List.getD r1 (Int.toNat i45) 0)]) H E rfl rfl tbok rfl rfl (by kernel_rfl) ?_
    intro w103 g102 a hc104 hg106 H_ E_
    replace E := E_ _ rfl; clear E_
    replace H := H_; clear H_; try dsimp only [setn, addE, goneL] at H
    obtain ⟨g107, hP⟩ := ask_inv hP
    refine h_append (cInt .u8) (xs := out42) (ys := ([(List.getD r1 (Int.toNat i45) 0)] : List Int)) (0 : Int) H 0 rfl E rfl rfl tbok rfl rfl rfl rfl rfl (fun _ _ => rfl) rfl rfl (fun _ HF_ => HF_.srcB 2 rfl (⟨_, _, rfl, rfl, rfl⟩)) g107 ?_
    intro w108 A109 c110 a hc111 hA112 H_ E_
    replace E := E_ _ rfl; clear E_
    replace H := H_; clear H_; try dsimp only [setn, addE, goneL] at H
    refine vn tbok 1 [] [(3, .slice A109 (List.length (out42 ++ ([(List.getD r1 (Int.toNat i45) 0)] : List Int))) c110)] [] E (by kernel_rfl) (by kernel_rfl) trivial ?_
    clear E; intro a E
    refine wpList_nil ?_
    refine bl_n ?_
    refine th_n ?_
    refine wp_region_lit ?_
    obtain ⟨g113, hP⟩ := ask_inv hP
    refine vn tbok 3 [.int .i64 (i45 + 1)] [(5, .int .i64 (i45 + 1))] [IntKind.i64.wrap (i45 + 1) = i45 + 1] E (by kernel_rfl) (by kernel_rfl) (wrap_in g113) ?_
    clear E; intro a E
    refine wpList_nil ?_
    exact th_n ⟨m80, Nat.lt_succ_self _, out42 ++ ([(List.getD r1 (Int.toNat i45) 0)] : List Int), i45 + 1, A109, c110, E.pick _ ⟨rfl, rfl, rfl, rfl, trivial⟩, H.sel [0, 1] rfl, hP⟩
   replace E := E_; clear E_
   have h114 : ¬ (r92 = true) := (ne_true_of_eq_false hb_)
   clear hb_; replace hP := ite_f h114 hP
   refine c_false E rfl ?_
   refine wp_skip ?_
   refine bl_n ?_
   refine th_n ?_
   refine wp_region_lit ?_
   obtain ⟨g115, hP⟩ := ask_inv hP
   refine vn tbok 3 [.int .i64 (i45 + 1)] [(5, .int .i64 (i45 + 1))] [IntKind.i64.wrap (i45 + 1) = i45 + 1] E (by kernel_rfl) (by kernel_rfl) (wrap_in g115) ?_
   clear E; intro a E
   refine wpList_nil ?_
   exact th_n ⟨m80, Nat.lt_succ_self _, out42, i45 + 1, A43, c44, E.pick _ ⟨rfl, rfl, rfl, rfl, trivial⟩, H.sel [0, 1] rfl, hP⟩
  replace E := E_; clear E_
  have h116 : ¬ (i45 < (((List.length r1) : Nat) : Int)) := of_decide_eq_false hb_
  clear hb_; replace hP := ite_f h116 hP
  refine c_false E rfl ?_
  refine wp_exit ?_
  refine th_exit ?_
  have hx_ := Option.some.inj hP
  refine th_exit (.inl ⟨0, rfl, ?_⟩)
  exact ⟨rfl, out42, A43, c44, E.pick _ ⟨rfl, trivial⟩, H.sel [0] rfl, hx_.symm⟩
 clear E H hL82; intro i_ a w85 hM_
 obtain ⟨rfl, x87, A78, c79, E, H, hx_⟩ := hM_
 subst hx_; have hP := hK83; clear hK83
 refine bl_hit ?_
 refine th_n ?_
 refine wp_seq ?_
 refine wp_region_lit ?_
 refine vn tbok 2 [] [(2, .slice A78 (List.length x81) c79)] [] E (by kernel_rfl) (by kernel_rfl) trivial ?_
 clear E; intro a E
 refine wpList_nil ?_
 refine th_n ?_
 refine wp_ret ?_
 obtain rfl := Option.some.inj hP
 refine ret1 E rfl rfl ?_
 exact ⟨_, rfl, A78, c79, rfl, H.sel [0] rfl⟩

/-! rejoinder/rejoinderref14.bit -/
def ref14_bit_l0 (N : Nat) (p : Int) : Nat → Int → Int → Option Int
  | 0, _, _ => none
  | m10 + 1, v4, i5 =>
    if i5 < p then
      ask (in64 (i5 + 1)) <|
      ref14_bit_l0 N p m10 (IntKind.i64.wrap (Int.tdiv v4 2)) (i5 + 1)
    else
      some v4
def ref14_bit (N : Nat) (ll : Int) (p : Int) : Option Bool :=
  ask (in64 ll) <|
  Option.bind (ref14_bit_l0 N p N ll 0) fun x11 =>
  some ((Int.tmod x11 2 : Int) == 1)
set_option maxRecDepth 100000 in
set_option maxHeartbeats 4000000 in
theorem ref14_bit_calls {N : Nat} {S Fa : Nat → Prop} {w0 : World} {r : Bool} (ll : Int) (p : Int) (H : Hp S Fa w0 w0 []) (hP : ref14_bit N ll p = some r) :
    Calls Try.prog 55 #[.int .u8 ll, .int .i64 p] w0 fun e w' => ∃ v, e = .returned v ∧ v = .bool r ∧ Hp S Fa w0 w' [] := by
 refine enterV (n := 19) Try.func55 rfl rfl rfl ?_
 intro a E
 replace E := E.pick [(0, .int .u8 ll), (1, .int .i64 p)] ⟨rfl, rfl, trivial⟩
 rw [ref14_bit] at hP
 refine wp_seq ?_
 refine wp_region_lit ?_
 refine vn tbok 1 [] [] [] E (by kernel_rfl) (by kernel_rfl) trivial ?_
 clear E; intro a E
 refine wpList_nil ?_
 refine th_n ?_
 refine wp_seq ?_
 refine wp_region_lit ?_
 obtain ⟨g1, hP⟩ := ask_inv hP
 refine vn tbok 3 [.int .i64 ll] [(5, .int .i64 ll)] [IntKind.i64.wrap ll = ll] E (by kernel_rfl) (by kernel_rfl) (wrap_in g1) ?_
 clear E; intro a E
 refine wpList_nil ?_
 refine th_n ?_
 refine wp_seq ?_
 refine wp_seq ?_
 refine wp_region_lit ?_
 refine vn tbok 1 [] [(6, .int .i64 0)] [] E (by kernel_rfl) (by kernel_rfl) trivial ?_
 clear E; intro a E
 refine wpList_nil ?_
 refine th_n ?_
 refine wp_block ?_
 obtain ⟨x11, hL12, hK13⟩ := bind_inv hP
 clear hP
 refine loop_cut (fun i_ a w_ => (i_ = 0 ∧ ∃ (x16 : Int), Fr a 19 [(5, .int .i64 x16)] ∧ Hp S Fa w0 w_ [] ∧ x11 = x16)) ?_ ?_
 ·
  refine loopV (fun m15 a w14 => ∃ (v4 : Int) (i5 : Int), Fr a 19 [(1, .int .i64 p), (5, .int .i64 v4), (6, .int .i64 i5)] ∧ Hp S Fa w0 w14 [] ∧ ref14_bit_l0 N p m15 v4 i5 = some x11) N ?_ ?_
  ·
   exact ⟨ll, 0, E.pick _ ⟨rfl, rfl, rfl, trivial⟩, H.sel [] rfl, hL12⟩
  clear E H hL12; intro m15 a w14 hI_
  obtain ⟨v4, i5, E, H, hP⟩ := hI_
  obtain ⟨m10, rfl⟩ : ∃ q_, m15 = q_ + 1 := by cases m15 with | zero => rw [ref14_bit_l0] at hP; cases hP | succ q_ => exact ⟨q_, rfl⟩
  rw [ref14_bit_l0] at hP
  refine wp_seq ?_
  refine wp_seq ?_
  refine wp_region_lit ?_
  refine vn tbok 3 [] [(11, .bool (decide (i5 < p)))] [] E (by kernel_rfl) (by kernel_rfl) trivial ?_
  clear E; intro a E
  refine wpList_nil ?_
  refine th_n ?_
  refine E.cases (t := 11) rfl (fun hb_ E_ => ?_) (fun hb_ E_ => ?_)
  ·
   replace E := E_; clear E_
   have h17 : i5 < p := of_decide_eq_true hb_
   clear hb_; replace hP := ite_t h17 hP
   refine c_true E rfl ?_
   refine wp_skip ?_
   refine th_n ?_
   refine wp_seq ?_
   refine wp_block ?_
   refine wp_region_lit ?_
   refine vn tbok 3 [.int .i64 (IntKind.i64.wrap (Int.tdiv v4 2))] [(5, .int .i64 (IntKind.i64.wrap (Int.tdiv v4 2)))] [(2 : Int) ≠ 0 ∧ IntKind.i64.wrap (Int.tdiv v4 2) = IntKind.i64.wrap (Int.tdiv v4 2)] E (by kernel_rfl) (by kernel_rfl) (⟨by decide, rfl⟩) ?_
   clear E; intro a E
   refine wpList_nil ?_
   refine bl_n ?_
   refine th_n ?_
   refine wp_region_lit ?_
   obtain ⟨g18, hP⟩ := ask_inv hP
   refine vn tbok 3 [.int .i64 (i5 + 1)] [(6, .int .i64 (i5 + 1))] [IntKind.i64.wrap (i5 + 1) = i5 + 1] E (by kernel_rfl) (by kernel_rfl) (wrap_in g18) ?_
   clear E; intro a E
   refine wpList_nil ?_
   exact th_n ⟨m10, Nat.lt_succ_self _, IntKind.i64.wrap (Int.tdiv v4 2), i5 + 1, E.pick _ ⟨rfl, rfl, rfl, trivial⟩, H.sel [] rfl, hP⟩
  replace E := E_; clear E_
  have h19 : ¬ (i5 < p) := of_decide_eq_false hb_
  clear hb_; replace hP := ite_f h19 hP
  refine c_false E rfl ?_
  refine wp_exit ?_
  refine th_exit ?_
  have hx_ := Option.some.inj hP
  refine th_exit (.inl ⟨0, rfl, ?_⟩)
  exact ⟨rfl, v4, E.pick _ ⟨rfl, trivial⟩, H.sel [] rfl, hx_.symm⟩
 clear E H hL12; intro i_ a w14 hM_
 obtain ⟨rfl, x16, E, H, hx_⟩ := hM_
 subst hx_; have hP := hK13; clear hK13
 refine bl_hit ?_
 refine th_n ?_
 refine wp_seq ?_
 refine wp_region_lit ?_
 refine vn tbok 4 [.int .i64 (Int.tmod x11 2)] [(4, .bool ((Int.tmod x11 2 : Int) == 1))] [(2 : Int) ≠ 0 ∧ Int.tmod x11 2 = Int.tmod x11 2] E (by kernel_rfl) (by kernel_rfl) (⟨by decide, rfl⟩) ?_
 clear E; intro a E
 refine wpList_nil ?_
 refine th_n ?_
 refine wp_ret ?_
 obtain rfl := Option.some.inj hP
 refine ret1 E rfl rfl ?_
 exact ⟨_, rfl, rfl, H.sel [] rfl⟩

/-! rejoinder/rejoinderref14.Go -/
def ref14_Go_l0 (N : Nat) (nodes : List Nd) (ll : Int) : Nat → Int → Int → Option (Unit ⊕ (Int × Bool))
  | 0, _, _ => none
  | m59 + 1, ref28, k29 =>
    if k29 < 9 then
      if ref28 < 0 then
        ask (in64 ((-1) - ref28)) <|
        some (Sum.inr ((-1) - ref28, true))
      else
        if (((List.length nodes) : Nat) : Int) ≤ ref28 then
          some (Sum.inr (0, false))
        else
          ask (idx ref28 (List.length nodes)) <|
          if ((List.getD nodes (Int.toNat ref28) (default : Nd)).P) < 0 then
            some (Sum.inr (0, false))
          else
            if 7 < ((List.getD nodes (Int.toNat ref28) (default : Nd)).P) then
              some (Sum.inr (0, false))
            else
              if (k29 : Int) = 8 then
                some (Sum.inr (0, false))
              else
                Option.bind (ref14_bit N ll ((List.getD nodes (Int.toNat ref28) (default : Nd)).P)) fun r81 =>
                if r81 = true then
                  ask (in64 (k29 + 1)) <|
                  ref14_Go_l0 N nodes ll m59 ((List.getD nodes (Int.toNat ref28) (default : Nd)).Hi) (k29 + 1)
                else
                  ask (in64 (k29 + 1)) <|
                  ref14_Go_l0 N nodes ll m59 ((List.getD nodes (Int.toNat ref28) (default : Nd)).Lo) (k29 + 1)
    else
      some (Sum.inl ())
def ref14_Go (N : Nat) (nodes : List Nd) (ref : Int) (ll : Int) : Option (Int × Bool) :=
  Option.bind (ref14_Go_l0 N nodes ll N ref 0) fun x60 =>
  Sum.elim (fun x65 =>
    some (0, false))
   (fun x95 =>
    some x95) x60
set_option maxRecDepth 100000 in
set_option maxHeartbeats 4000000 in
theorem ref14_Go_calls {N : Nat} {S Fa : Nat → Prop} {w0 : World} {r : Int × Bool} (A1 : Option Addr) (c2 : Nat) (nodes : List Nd) (ref : Int) (ll : Int) (hk3 : List.length nodes ≤ c2) (H : Hp S Fa w0 w0 [.ro false cNode A1 nodes]) (hP : ref14_Go N nodes ref ll = some r) :
    Calls Try.prog 54 #[.slice A1 (List.length nodes) c2, .int .i64 ref, .int .u8 ll] w0 fun e w' => ∃ v, e = .returned v ∧ v = .tuple #[.int .i64 r.1, .bool r.2] ∧ Hp S Fa w0 w' [] := by
 refine enterV (n := 58) Try.func54 rfl rfl rfl ?_
 intro a E
 replace E := E.pick [(0, .slice A1 (List.length nodes) c2), (1, .int .i64 ref), (2, .int .u8 ll)] ⟨rfl, rfl, rfl, trivial⟩
 rw [ref14_Go] at hP
 refine wp_seq ?_
 refine wp_region_lit ?_
 refine vn tbok 2 [] [] [] E (by kernel_rfl) (by kernel_rfl) trivial ?_
 clear E; intro a E
 refine wpList_nil ?_
 refine th_n ?_
 refine wp_seq ?_
 refine wp_seq ?_
 refine wp_region_lit ?_
 refine vn tbok 1 [] [(8, .int .i64 0)] [] E (by kernel_rfl) (by kernel_rfl) trivial ?_
 clear E; intro a E
 refine wpList_nil ?_
 refine th_n ?_
 refine wp_block ?_
 obtain ⟨x60, hL61, hK62⟩ := bind_inv hP
 clear hP
 refine loop_cut (fun i_ a w_ => (i_ = 0 ∧ ∃ (x65 : Unit), Fr a 58 [] ∧ Hp S Fa w0 w_ [] ∧ x60 = Sum.inl x65)) ?_ ?_
 ·
  refine loopV (fun m64 a w63 => ∃ (ref28 : Int) (k29 : Int), Fr a 58 [(0, .slice A1 (List.length nodes) c2), (1, .int .i64 ref28), (2, .int .u8 ll), (8, .int .i64 k29)] ∧ Hp S Fa w0 w63 [.ro false cNode A1 nodes] ∧ ref14_Go_l0 N nodes ll m64 ref28 k29 = some x60) N ?_ ?_
  ·
   exact ⟨ref, 0, E.pick _ ⟨rfl, rfl, rfl, rfl, trivial⟩, H.sel [0] rfl, hL61⟩
  clear E H hL61; intro m64 a w63 hI_
  obtain ⟨ref28, k29, E, H, hP⟩ := hI_
  obtain ⟨m59, rfl⟩ : ∃ q_, m64 = q_ + 1 := by cases m64 with | zero => rw [ref14_Go_l0] at hP; cases hP | succ q_ => exact ⟨q_, rfl⟩
  rw [ref14_Go_l0] at hP
  refine wp_seq ?_
  refine wp_seq ?_
  refine wp_region_lit ?_
  refine vn tbok 2 [] [(10, .bool (decide (k29 < 9)))] [] E (by kernel_rfl) (by kernel_rfl) trivial ?_
  clear E; intro a E
  refine wpList_nil ?_
  refine th_n ?_
  refine E.cases (t := 10) rfl (fun hb_ E_ => ?_) (fun hb_ E_ => ?_)
  ·
   replace E := E_; clear E_
   have h66 : k29 < 9 := of_decide_eq_true hb_
   clear hb_; replace hP := ite_t h66 hP
   refine c_true E rfl ?_
   refine wp_skip ?_
   refine th_n ?_
   refine wp_seq ?_
   refine wp_block ?_
   refine wp_seq ?_
   refine wp_seq ?_
   refine wp_region_lit ?_
   refine vn tbok 2 [] [(14, .bool (decide (ref28 < 0)))] [] E (by kernel_rfl) (by kernel_rfl) trivial ?_
   clear E; intro a E
   refine wpList_nil ?_
   refine th_n ?_
   refine E.cases (t := 14) rfl (fun hb_ E_ => ?_) (fun hb_ E_ => ?_)
   ·
    replace E := E_; clear E_
    have h67 : ref28 < 0 := of_decide_eq_true hb_
    clear hb_; replace hP := ite_t h67 hP
    refine c_true E rfl ?_
    refine wp_seq ?_
    refine wp_region_lit ?_
    obtain ⟨g68, hP⟩ := ask_inv hP
    refine vn tbok 4 [.int .i64 ((-1) - ref28)] [(6, .int .i64 ((-1) - ref28)), (7, .bool true)] [IntKind.i64.wrap ((-1) - ref28) = (-1) - ref28] E (by kernel_rfl) (by kernel_rfl) (wrap_in g68) ?_
    clear E; intro a E
    refine wpList_nil ?_
    refine th_n ?_
    refine wp_ret ?_
    refine th_ret ?_
    refine bl_ret ?_
    refine th_ret ?_
    refine th_ret ?_
    refine .inr ⟨rfl, ?_⟩
    refine bl_ret ?_
    refine th_ret ?_
    have hx_ := Option.some.inj hP; subst hx_
    have hP : some (((-1) - ref28, true)) = some r := hK62
    obtain rfl := Option.some.inj hP
    refine ret2 E rfl rfl rfl ?_
    exact ⟨_, rfl, rfl, H.sel [] rfl⟩
   replace E := E_; clear E_
   have h69 : ¬ (ref28 < 0) := of_decide_eq_false hb_
   clear hb_; replace hP := ite_f h69 hP
   refine c_false E rfl ?_
   refine wp_skip ?_
   refine th_n ?_
   refine wp_seq ?_
   refine wp_seq ?_
   refine wp_region_lit ?_
   refine vn tbok 5 [] [(21, .bool (decide ((((List.length nodes) : Nat) : Int) ≤ ref28)))] [] E (by kernel_rfl) (by kernel_rfl) trivial ?_
   clear E; intro a E
   refine E.cases (t := 21) rfl (fun hb_ E_ => ?_) (fun hb_ E_ => ?_)
   ·
    replace E := E_; clear E_
    have h70 : (((List.length nodes) : Nat) : Int) ≤ ref28 := of_decide_eq_true hb_
    clear hb_; replace hP := ite_t h70 hP
    refine vn tbok 19 [] [(40, .bool true)] [] E (by kernel_rfl) (by kernel_rfl) trivial ?_
    clear E; intro a E
    refine wpList_nil ?_
    refine th_n ?_
    refine c_true E rfl ?_
    refine wp_seq ?_
    refine wp_region_lit ?_
    refine vn tbok 2 [] [(6, .int .i64 0), (7, .bool false)] [] E (by kernel_rfl) (by kernel_rfl) trivial ?_
    clear E; intro a E
    refine wpList_nil ?_
    refine th_n ?_
    refine wp_ret ?_
    refine th_ret ?_
    refine bl_ret ?_
    refine th_ret ?_
    refine th_ret ?_
    refine .inr ⟨rfl, ?_⟩
    refine bl_ret ?_
    refine th_ret ?_
    have hx_ := Option.some.inj hP; subst hx_
    have hP : some ((0, false)) = some r := hK62
    obtain rfl := Option.some.inj hP
    refine ret2 E rfl rfl rfl ?_
    exact ⟨_, rfl, rfl, H.sel [] rfl⟩
   replace E := E_; clear E_
   have h71 : ¬ ((((List.length nodes) : Nat) : Int) ≤ ref28) := of_decide_eq_false hb_
   clear hb_; replace hP := ite_f h71 hP
   obtain ⟨g72, hP⟩ := ask_inv hP
   obtain ⟨b73, o74, e_b73⟩ := (H.rd 0 rds_ro).addr (idx_pos g72)
   subst e_b73
   refine vn tbok 8 [.int .i64 ((List.getD nodes (Int.toNat ref28) (default : Nd)).P)] [(29, .bool (decide (((List.getD nodes (Int.toNat ref28) (default : Nd)).P) < 0)))] [0 ≤ ref28 ∧ ref28 < (((List.length nodes) : Nat) : Int), World.cell? w63 ⟨b73, o74 + (Int.toNat ref28) * 3, none⟩ = some (.int .i64 ((List.getD nodes (Int.toNat ref28) (default : Nd)).P))] E (by kernel_rfl) (by kernel_rfl) ⟨g72, (Rds.atP (H.rd 0 rds_ro) (default : Nd) g72).1⟩ ?_
   clear E; intro a E
   refine E.cases (t := 29) rfl (fun hb_ E_ => ?_) (fun hb_ E_ => ?_)
   ·
    replace E := E_; clear E_
    have h75 : ((List.getD nodes (Int.toNat ref28) (default : Nd)).P) < 0 := of_decide_eq_true hb_
    clear hb_; replace hP := ite_t h75 hP
    refine vn tbok 11 [] [(40, .bool true)] [] E (by kernel_rfl) (by kernel_rfl) trivial ?_
    clear E; intro a E
    refine wpList_nil ?_
    refine th_n ?_
    refine c_true E rfl ?_
    refine wp_seq ?_
    refine wp_region_lit ?_
    refine vn tbok 2 [] [(6, .int .i64 0), (7, .bool false)] [] E (by kernel_rfl) (by kernel_rfl) trivial ?_
    clear E; intro a E
    refine wpList_nil ?_
    refine th_n ?_
    refine wp_ret ?_
    refine th_ret ?_
    refine bl_ret ?_
    refine th_ret ?_
    refine th_ret ?_
    refine .inr ⟨rfl, ?_⟩
    refine bl_ret ?_
    refine th_ret ?_
    have hx_ := Option.some.inj hP; subst hx_
    have hP : some ((0, false)) = some r := hK62
    obtain rfl := Option.some.inj hP
    refine ret2 E rfl rfl rfl ?_
    exact ⟨_, rfl, rfl, H.sel [] rfl⟩
   replace E := E_; clear E_
   have h76 : ¬ (((List.getD nodes (Int.toNat ref28) (default : Nd)).P) < 0) := of_decide_eq_false hb_
   clear hb_; replace hP := ite_f h76 hP
   refine vn tbok 8 [.int .i64 ((List.getD nodes (Int.toNat ref28) (default : Nd)).P)] [(37, .bool (decide (7 < ((List.getD nodes (Int.toNat ref28) (default : Nd)).P))))] [0 ≤ ref28 ∧ ref28 < (((List.length nodes) : Nat) : Int), World.cell? w63 ⟨b73, o74 + (Int.toNat ref28) * 3, none⟩ = some (.int .i64 ((List.getD nodes (Int.toNat ref28) (default : Nd)).P))] E (by kernel_rfl) (by kernel_rfl) ⟨g72, (Rds.atP (H.rd 0 rds_ro) (default : Nd) g72).1⟩ ?_
   clear E; intro a E
   refine E.cases (t := 37) rfl (fun hb_ E_ => ?_) (fun hb_ E_ => ?_)
   ·
    replace E := E_; clear E_
    have h77 : 7 < ((List.getD nodes (Int.toNat ref28) (default : Nd)).P) := of_decide_eq_true hb_
    clear hb_; replace hP := ite_t h77 hP
    refine vn tbok 3 [] [(40, .bool true)] [] E (by kernel_rfl) (by kernel_rfl) trivial ?_
    clear E; intro a E
    refine wpList_nil ?_
    refine th_n ?_
    refine c_true E rfl ?_
    refine wp_seq ?_
    refine wp_region_lit ?_
    refine vn tbok 2 [] [(6, .int .i64 0), (7, .bool false)] [] E (by kernel_rfl) (by kernel_rfl) trivial ?_
    clear E; intro a E
    refine wpList_nil ?_
    refine th_n ?_
    refine wp_ret ?_
    refine th_ret ?_
    refine bl_ret ?_
    refine th_ret ?_
    refine th_ret ?_
    refine .inr ⟨rfl, ?_⟩
    refine bl_ret ?_
    refine th_ret ?_
    have hx_ := Option.some.inj hP; subst hx_
    have hP : some ((0, false)) = some r := hK62
    obtain rfl := Option.some.inj hP
    refine ret2 E rfl rfl rfl ?_
    exact ⟨_, rfl, rfl, H.sel [] rfl⟩
   replace E := E_; clear E_
   have h78 : ¬ (7 < ((List.getD nodes (Int.toNat ref28) (default : Nd)).P)) := of_decide_eq_false hb_
   clear hb_; replace hP := ite_f h78 hP
   refine vn tbok 3 [] [(40, .bool ((k29 : Int) == 8))] [] E (by kernel_rfl) (by kernel_rfl) trivial ?_
   clear E; intro a E
   refine wpList_nil ?_
   refine th_n ?_
   refine E.cases (t := 40) rfl (fun hb_ E_ => ?_) (fun hb_ E_ => ?_)
   ·
    replace E := E_; clear E_
    have h79 : (k29 : Int) = 8 := eq_of_beq hb_
    clear hb_; replace hP := ite_t h79 hP
    refine c_true E rfl ?_
    refine wp_seq ?_
    refine wp_region_lit ?_
    refine vn tbok 2 [] [(6, .int .i64 0), (7, .bool false)] [] E (by kernel_rfl) (by kernel_rfl) trivial ?_
    clear E; intro a E
    refine wpList_nil ?_
    refine th_n ?_
    refine wp_ret ?_
    refine th_ret ?_
    refine bl_ret ?_
    refine th_ret ?_
    refine th_ret ?_
    refine .inr ⟨rfl, ?_⟩
    refine bl_ret ?_
    refine th_ret ?_
    have hx_ := Option.some.inj hP; subst hx_
    have hP : some ((0, false)) = some r := hK62
    obtain rfl := Option.some.inj hP
    refine ret2 E rfl rfl rfl ?_
    exact ⟨_, rfl, rfl, H.sel [] rfl⟩
   replace E := E_; clear E_
   have h80 : ¬ ((k29 : Int) = 8) := ne_of_beq_false hb_
   clear hb_; replace hP := ite_f h80 hP
   refine c_false E rfl ?_
   refine wp_skip ?_
   refine th_n ?_
   refine wp_seq ?_
   refine wp_region_lit ?_
   refine vn tbok 6 [.int .i64 ((List.getD nodes (Int.toNat ref28) (default : Nd)).P)] [(41, .int .u8 ll), (46, .int .i64 ((List.getD nodes (Int.toNat ref28) (default : Nd)).P))] [0 ≤ ref28 ∧ ref28 < (((List.length nodes) : Nat) : Int), World.cell? w63 ⟨b73, o74 + (Int.toNat ref28) * 3, none⟩ = some (.int .i64 ((List.getD nodes (Int.toNat ref28) (default : Nd)).P))] E (by kernel_rfl) (by kernel_rfl) ⟨g72, (Rds.atP (H.rd 0 rds_ro) (default : Nd) g72).1⟩ ?_
   clear E; intro a E
   obtain ⟨r81, h82, hP⟩ := bind_inv hP
   obtain ⟨Fa83, Hc84, hb85⟩ := H.call [] [] rfl rfl trivial
   refine e_call E rfl rfl Try.func55 rfl rfl rfl (ref14_bit_calls  ll ((List.getD nodes (Int.toNat ref28) (default : Nd)).P)  Hc84 h82) ?_
   rintro v86 w87 a ⟨rfl, HR88⟩ E_
   replace E := E_ _ rfl; clear E_
   obtain ⟨H_, hc89⟩ := hb85 _ _ HR88 rfl
   replace H := H_; clear H_; try dsimp only [setn, addE, goneL] at H
   refine wpList_nil ?_
   refine th_n ?_
   refine E.cases (t := 47) rfl (fun hb_ E_ => ?_) (fun hb_ E_ => ?_)
   ·
    replace E := E_; clear E_
    have h90 : r81 = true := hb_
    clear hb_; replace hP := ite_t h90 hP
    refine c_true E rfl ?_
    refine wp_region_lit ?_
    refine vn tbok 6 [.int .i64 ((List.getD nodes (Int.toNat ref28) (default : Nd)).Hi)] [(1, .int .i64 ((List.getD nodes (Int.toNat ref28) (default : Nd)).Hi))] [0 ≤ ref28 ∧ ref28 < (((List.length nodes) : Nat) : Int), World.cell? w87 ⟨b73, o74 + (Int.toNat ref28) * 3 + 2, none⟩ = some (.int .i64 ((List.getD nodes (Int.toNat ref28) (default : Nd)).Hi))] E (by kernel_rfl) (by kernel_rfl) ⟨g72, Rds.atF (H.rd 0 rds_ro) (default : Nd) g72 2 rfl⟩ ?_
    clear E; intro a E
    refine wpList_nil ?_
    refine bl_n ?_
    refine th_n ?_
    refine wp_region_lit ?_
    obtain ⟨g91, hP⟩ := ask_inv hP
    refine vn tbok 3 [.int .i64 (k29 + 1)] [(8, .int .i64 (k29 + 1))] [IntKind.i64.wrap (k29 + 1) = k29 + 1] E (by kernel_rfl) (by kernel_rfl) (wrap_in g91) ?_
    clear E; intro a E
    refine wpList_nil ?_
    exact th_n ⟨m59, Nat.lt_succ_self _, (List.getD nodes (Int.toNat ref28) (default : Nd)).Hi, k29 + 1, E.pick _ ⟨rfl, rfl, rfl, rfl, trivial⟩, H.sel [0] rfl, hP⟩
   replace E := E_; clear E_
   have h92 : ¬ (r81 = true) := (ne_true_of_eq_false hb_)
   clear hb_; replace hP := ite_f h92 hP
   refine c_false E rfl ?_
   refine wp_region_lit ?_
   refine vn tbok 6 [.int .i64 ((List.getD nodes (Int.toNat ref28) (default : Nd)).Lo)] [(1, .int .i64 ((List.getD nodes (Int.toNat ref28) (default : Nd)).Lo))] [0 ≤ ref28 ∧ ref28 < (((List.length nodes) : Nat) : Int), World.cell? w87 ⟨b73, o74 + (Int.toNat ref28) * 3 + 1, none⟩ = some (.int .i64 ((List.getD nodes (Int.toNat ref28) (default : Nd)).Lo))] E (by kernel_rfl) (by kernel_rfl) ⟨g72, Rds.atF (H.rd 0 rds_ro) (default : Nd) g72 1 rfl⟩ ?_
   clear E; intro a E
   refine wpList_nil ?_
   refine bl_n ?_
   refine th_n ?_
   refine wp_region_lit ?_
   obtain ⟨g93, hP⟩ := ask_inv hP
   refine vn tbok 3 [.int .i64 (k29 + 1)] [(8, .int .i64 (k29 + 1))] [IntKind.i64.wrap (k29 + 1) = k29 + 1] E (by kernel_rfl) (by kernel_rfl) (wrap_in g93) ?_
   clear E; intro a E
   refine wpList_nil ?_
   exact th_n ⟨m59, Nat.lt_succ_self _, (List.getD nodes (Int.toNat ref28) (default : Nd)).Lo, k29 + 1, E.pick _ ⟨rfl, rfl, rfl, rfl, trivial⟩, H.sel [0] rfl, hP⟩
  replace E := E_; clear E_
  have h94 : ¬ (k29 < 9) := of_decide_eq_false hb_
  clear hb_; replace hP := ite_f h94 hP
  refine c_false E rfl ?_
  refine wp_exit ?_
  refine th_exit ?_
  have hx_ := Option.some.inj hP
  refine th_exit (.inl ⟨0, rfl, ?_⟩)
  exact ⟨rfl, (), E.pick _ trivial, H.sel [] rfl, hx_.symm⟩
 clear E H hL61; intro i_ a w63 hM_
 obtain ⟨rfl, x65, E, H, hx_⟩ := hM_
 subst hx_; have hP := elim_l hK62
 clear hK62
 refine bl_hit ?_
 refine th_n ?_
 refine wp_seq ?_
 refine wp_region_lit ?_
 refine vn tbok 2 [] [(6, .int .i64 0), (7, .bool false)] [] E (by kernel_rfl) (by kernel_rfl) trivial ?_
 clear E; intro a E
 refine wpList_nil ?_
 refine th_n ?_
 refine wp_ret ?_
 obtain rfl := Option.some.inj hP
 refine ret2 E rfl rfl rfl ?_
 exact ⟨_, rfl, rfl, H.sel [] rfl⟩

end Go.V
