/- Plain functions, and the calls that give them. -/
import Derived.Test.YteemfefeaphfdaaA4
set_option linter.all false
set_option linter.unusedVariables false
set_option linter.unnecessarySimpa false
set_option linter.unusedSimpArgs false
namespace Go.V
open Go Go.Proofs
/-! rejoinder/rejoinderlaw19.ahead -/
def law19_ahead_l0 (N : Nat) (aa : List Int) (b : List Int) : Nat → Int → Option (Unit ⊕ Bool)
  | 0, _ => none
  | m49 + 1, i29 =>
    if i29 < (((List.length aa) : Nat) : Int) then
      ask (idx i29 (List.length aa)) <|
      ask (idx i29 (List.length b)) <|
      if ((List.getD aa (Int.toNat i29) 0) : Int) = (List.getD b (Int.toNat i29) 0) then
        ask (in64 (i29 + 1)) <|
        law19_ahead_l0 N aa b m49 (i29 + 1)
      else
        some (Sum.inr (decide ((List.getD aa (Int.toNat i29) 0) < (List.getD b (Int.toNat i29) 0))))
    else
      some (Sum.inl ())
def law19_ahead (N : Nat) (aa : List Int) (b : List Int) : Option Bool :=
  if ((((List.length aa) : Nat) : Int) : Int) = (((List.length b) : Nat) : Int) then
    Option.bind (law19_ahead_l0 N aa b N 0) fun x50 =>
    Sum.elim (fun x55 =>
      some false)
     (fun x75 =>
      some x75) x50
  else
    some (decide ((((List.length aa) : Nat) : Int) < (((List.length b) : Nat) : Int)))
set_option maxRecDepth 100000 in
set_option maxHeartbeats 4000000 in
theorem law19_ahead_calls {N : Nat} {S Fa : Nat → Prop} {w0 : World} {r : Bool} (A1 : Option Addr) (c2 : Nat) (A5 : Option Addr) (c6 : Nat) (aa : List Int) (b : List Int) (hk3 : List.length aa ≤ c2) (hk7 : List.length b ≤ c6) (H : Hp S Fa w0 w0 [.ro false (cInt .u8) A1 aa, .ro false (cInt .u8) A5 b]) (hP : law19_ahead N aa b = some r) :
    Calls Try.prog 15 #[.slice A1 (List.length aa) c2, .slice A5 (List.length b) c6] w0 fun e w' => ∃ v, e = .returned v ∧ v = .bool r ∧ Hp S Fa w0 w' [] := by
 refine enterV (n := 40) Try.func15 rfl rfl rfl ?_
 intro a E
 replace E := E.pick [(0, .slice A1 (List.length aa) c2), (1, .slice A5 (List.length b) c6)] ⟨rfl, rfl, trivial⟩
 rw [law19_ahead] at hP
 refine wp_seq ?_
 refine wp_region_lit ?_
 refine vn tbok 1 [] [] [] E (by kernel_rfl) (by kernel_rfl) trivial ?_
 clear E; intro a E
 refine wpList_nil ?_
 refine th_n ?_
 refine wp_seq ?_
 refine wp_seq ?_
 refine wp_region_lit ?_
 refine vn tbok 5 [] [(10, .bool (((((List.length aa) : Nat) : Int) : Int) != (((List.length b) : Nat) : Int)))] [] E (by kernel_rfl) (by kernel_rfl) trivial ?_
 clear E; intro a E
 refine wpList_nil ?_
 refine th_n ?_
 refine E.cases (t := 10) rfl (fun hb_ E_ => ?_) (fun hb_ E_ => ?_)
 ·
  replace E := E_; clear E_
  have h9 : ¬ (((((List.length aa) : Nat) : Int) : Int) = (((List.length b) : Nat) : Int)) := bne_iff_ne.1 hb_
  clear hb_; replace hP := ite_f h9 hP
  refine c_true E rfl ?_
  refine wp_seq ?_
  refine wp_region_lit ?_
  refine vn tbok 6 [] [(4, .bool (decide ((((List.length aa) : Nat) : Int) < (((List.length b) : Nat) : Int))))] [] E (by kernel_rfl) (by kernel_rfl) trivial ?_
  clear E; intro a E
  refine wpList_nil ?_
  refine th_n ?_
  refine wp_ret ?_
  refine th_ret ?_
  obtain rfl := Option.some.inj hP
  refine ret1 E rfl rfl ?_
  exact ⟨_, rfl, rfl, H.sel [] rfl⟩
 replace E := E_; clear E_
 have h10 : ((((List.length aa) : Nat) : Int) : Int) = (((List.length b) : Nat) : Int) := bne_eq_false_iff_eq.1 hb_
 clear hb_; replace hP := ite_t h10 hP
 refine c_false E rfl ?_
 refine wp_skip ?_
 refine th_n ?_
 refine wp_seq ?_
 refine wp_seq ?_
 refine wp_region_lit ?_
 refine vn tbok 1 [] [(5, .int .i64 0)] [] E (by kernel_rfl) (by kernel_rfl) trivial ?_
 clear E; intro a E
 refine wpList_nil ?_
 refine th_n ?_
 refine wp_block ?_
 obtain ⟨x50, hL51, hK52⟩ := bind_inv hP
 clear hP
 refine loop_cut (fun i_ a w_ => (i_ = 0 ∧ ∃ (x55 : Unit), Fr a 40 [] ∧ Hp S Fa w0 w_ [] ∧ x50 = Sum.inl x55)) ?_ ?_
 ·
  refine loopV (fun m54 a w53 => ∃ (i29 : Int), Fr a 40 [(0, .slice A1 (List.length aa) c2), (1, .slice A5 (List.length b) c6), (5, .int .i64 i29)] ∧ Hp S Fa w0 w53 [.ro false (cInt .u8) A1 aa, .ro false (cInt .u8) A5 b] ∧ law19_ahead_l0 N aa b m54 i29 = some x50) N ?_ ?_
  ·
   exact ⟨0, E.pick _ ⟨rfl, rfl, rfl, trivial⟩, H.sel [0, 1] rfl, hL51⟩
  clear E H hL51; intro m54 a w53 hI_
  obtain ⟨i29, E, H, hP⟩ := hI_
  obtain ⟨m49, rfl⟩ : ∃ q_, m54 = q_ + 1 := by cases m54 with | zero => rw [law19_ahead_l0] at hP; cases hP | succ q_ => exact ⟨q_, rfl⟩
  rw [law19_ahead_l0] at hP
  refine wp_seq ?_
  refine wp_seq ?_
  refine wp_region_lit ?_
  refine vn tbok 4 [] [(19, .bool (decide (i29 < (((List.length aa) : Nat) : Int))))] [] E (by kernel_rfl) (by kernel_rfl) trivial ?_
  clear E; intro a E
  refine wpList_nil ?_
  refine th_n ?_
  refine E.cases (t := 19) rfl (fun hb_ E_ => ?_) (fun hb_ E_ => ?_)
  ·
   replace E := E_; clear E_
   have h56 : i29 < (((List.length aa) : Nat) : Int) := of_decide_eq_true hb_
   clear hb_; replace hP := ite_t h56 hP
   refine c_true E rfl ?_
   refine wp_skip ?_
   refine th_n ?_
   refine wp_seq ?_
   refine wp_block ?_
   refine wp_seq ?_
   obtain ⟨g57, hP⟩ := ask_inv hP
   obtain ⟨b58, o59, e_b58⟩ := (H.rd 0 rds_ro).addr (idx_pos g57)
   subst e_b58
   obtain ⟨g60, hP⟩ := ask_inv hP
   obtain ⟨b61, o62, e_b61⟩ := (H.rd 1 rds_ro).addr (idx_pos g60)
   subst e_b61
   have HR66 := H
   refine dr_start (S := fun w_ => Chg (atL []) w53 w_) (by kernel_rfl) ?_
   intro w63 hc64
   have HS65 : Chg (atL []) w53 w63 := hc64.mono (fun _ _ h_ => h_.elim)
   replace H := H.ext hc64
   refine dn tbok (by kernel_rfl) [0, 1, 2, 3, 4, 5, 6, 7, 8] [.int .u8 (List.getD aa (Int.toNat i29) 0), .int .u8 (List.getD b (Int.toNat i29) 0)] [(30, .bool (((List.getD aa (Int.toNat i29) 0) : Int) != (List.getD b (Int.toNat i29) 0)))] (fun w_ => [0 ≤ i29 ∧ i29 < (((List.length aa) : Nat) : Int), World.cell? w_ ⟨b58, o59 + (Int.toNat i29) * 1, none⟩ = some (.int .u8 (List.getD aa (Int.toNat i29) 0)), 0 ≤ i29 ∧ i29 < (((List.length b) : Nat) : Int), World.cell? w_ ⟨b61, o62 + (Int.toNat i29) * 1, none⟩ = some (.int .u8 (List.getD b (Int.toNat i29) 0))]) 0 E (fun _ _ => by kernel_rfl) (by kernel_rfl) (fun w_ hS_ => ⟨g57, Rds.at1 (HR66.rdk [] hS_ 0 rds_ro rfl) 0 g57, g60, Rds.at1 (HR66.rdk [] hS_ 1 rds_ro rfl) 0 g60⟩) (by kernel_rfl) HS65 ?_
   clear E; intro a E
   refine dr_done (by kernel_rfl) ?_
   clear HS65 HR66
   refine th_n ?_
   refine E.cases (t := 30) rfl (fun hb_ E_ => ?_) (fun hb_ E_ => ?_)
   ·
    replace E := E_; clear E_
    have h67 : ¬ (((List.getD aa (Int.toNat i29) 0) : Int) = (List.getD b (Int.toNat i29) 0)) := bne_iff_ne.1 hb_
    clear hb_; replace hP := ite_f h67 hP
    refine c_true E rfl ?_
    refine wp_seq ?_
    have HR71 := H
    refine dr_start (S := fun w_ => Chg (atL []) w63 w_) (by kernel_rfl) ?_
    intro w68 hc69
    have HS70 : Chg (atL []) w63 w68 := hc69.mono (fun _ _ h_ => h_.elim)
    replace H := H.ext hc69
    refine dn tbok (by kernel_rfl) [0, 1, 2, 3, 4, 5, 6, 7, 8, 9] [.int .u8 (List.getD aa (Int.toNat i29) 0), .int .u8 (List.getD b (Int.toNat i29) 0)] [(4, .bool (decide ((List.getD aa (Int.toNat i29) 0) < (List.getD b (Int.toNat i29) 0))))] (fun w_ => [0 ≤ i29 ∧ i29 < (((List.length aa) : Nat) : Int), World.cell? w_ ⟨b58, o59 + (Int.toNat i29) * 1, none⟩ = some (.int .u8 (List.getD aa (Int.toNat i29) 0)), 0 ≤ i29 ∧ i29 < (((List.length b) : Nat) : Int), World.cell? w_ ⟨b61, o62 + (Int.toNat i29) * 1, none⟩ = some (.int .u8 (List.getD b (Int.toNat i29) 0))]) 0 E (fun _ _ => by kernel_rfl) (by kernel_rfl) (fun w_ hS_ => ⟨g57, Rds.at1 (HR71.rdk [] hS_ 0 rds_ro rfl) 0 g57, g60, Rds.at1 (HR71.rdk [] hS_ 1 rds_ro rfl) 0 g60⟩) (by kernel_rfl) HS70 ?_
    clear E; intro a E
    refine dr_done (by kernel_rfl) ?_
    clear HS70 HR71
    refine th_n ?_
    refine wp_ret ?_
    refine bl_ret ?_
    refine th_ret ?_
    refine th_ret ?_
    refine .inr ⟨rfl, ?_⟩
    refine bl_ret ?_
    refine th_ret ?_
    have hx_ := Option.some.inj hP; subst hx_
    have hP : some (decide ((List.getD aa (Int.toNat i29) 0) < (List.getD b (Int.toNat i29) 0))) = some r := hK52
    obtain rfl := Option.some.inj hP
    refine ret1 E rfl rfl ?_
    exact ⟨_, rfl, rfl, H.sel [] rfl⟩
   replace E := E_; clear E_
   have h72 : ((List.getD aa (Int.toNat i29) 0) : Int) = (List.getD b (Int.toNat i29) 0) := bne_eq_false_iff_eq.1 hb_
   clear hb_; replace hP := ite_t h72 hP
   refine c_false E rfl ?_
   refine wp_skip ?_
   refine bl_n ?_
   refine th_n ?_
   refine wp_region_lit ?_
   obtain ⟨g73, hP⟩ := ask_inv hP
   refine vn tbok 3 [.int .i64 (i29 + 1)] [(5, .int .i64 (i29 + 1))] [IntKind.i64.wrap (i29 + 1) = i29 + 1] E (by kernel_rfl) (by kernel_rfl) (wrap_in g73) ?_
   clear E; intro a E
   refine wpList_nil ?_
   exact th_n ⟨m49, Nat.lt_succ_self _, i29 + 1, E.pick _ ⟨rfl, rfl, rfl, trivial⟩, H.sel [0, 1] rfl, hP⟩
  replace E := E_; clear E_
  have h74 : ¬ (i29 < (((List.length aa) : Nat) : Int)) := of_decide_eq_false hb_
  clear hb_; replace hP := ite_f h74 hP
  refine c_false E rfl ?_
  refine wp_exit ?_
  refine th_exit ?_
  have hx_ := Option.some.inj hP
  refine th_exit (.inl ⟨0, rfl, ?_⟩)
  exact ⟨rfl, (), E.pick _ trivial, H.sel [] rfl, hx_.symm⟩
 clear E H hL51; intro i_ a w53 hM_
 obtain ⟨rfl, x55, E, H, hx_⟩ := hM_
 subst hx_; have hP := elim_l hK52
 clear hK52
 refine bl_hit ?_
 refine th_n ?_
 refine wp_seq ?_
 refine wp_region_lit ?_
 refine vn tbok 1 [] [(4, .bool false)] [] E (by kernel_rfl) (by kernel_rfl) trivial ?_
 clear E; intro a E
 refine wpList_nil ?_
 refine th_n ?_
 refine wp_ret ?_
 obtain rfl := Option.some.inj hP
 refine ret1 E rfl rfl ?_
 exact ⟨_, rfl, rfl, H.sel [] rfl⟩

/-! rejoinder/lang.Live -/
def lang_Live_l2 (N : Nat) (r18 : (List (List Int)) × Int) (x351 : Int) : Nat → (List Bool) → Bool → Int → Option ((List Bool) × Bool)
  | 0, _, _, _ => none
  | m471 + 1, out443, changed446, x447 =>
    if x447 < (((List.length (List.getD r18.1 (Int.toNat x351) [])) : Nat) : Int) then
      ask (idx x447 (List.length (List.getD r18.1 (Int.toNat x351) []))) <|
      ask (idx (List.getD (List.getD r18.1 (Int.toNat x351) []) (Int.toNat x447) 0) (List.length out443)) <|
      if (List.getD out443 (Int.toNat (List.getD (List.getD r18.1 (Int.toNat x351) []) (Int.toNat x447) 0)) false) = true then
        ask (idx x351 (List.length out443)) <|
        if (List.getD out443 (Int.toNat x351) false) = true then
          ask (in64 (x447 + 1)) <|
          lang_Live_l2 N r18 x351 m471 out443 changed446 (x447 + 1)
        else
          ask (in64 (x447 + 1)) <|
          lang_Live_l2 N r18 x351 m471 (List.set out443 (Int.toNat x351) true) true (x447 + 1)
      else
        ask (in64 (x447 + 1)) <|
        lang_Live_l2 N r18 x351 m471 out443 changed446 (x447 + 1)
    else
      some (out443, changed446)
def lang_Live_l1 (N : Nat) (r18 : (List (List Int)) × Int) : Nat → (List Bool) → Bool → Int → Option ((List Bool) × Bool)
  | 0, _, _, _ => none
  | m411 + 1, out347, changed350, x351 =>
    if x351 < (((List.length r18.1) : Nat) : Int) then
      ask (idx x351 (List.length r18.1)) <|
      Option.bind (lang_Live_l2 N r18 x351 N out347 changed350 0) fun x472 =>
      ask (in64 (x351 + 1)) <|
      lang_Live_l1 N r18 m411 x472.1 x472.2 (x351 + 1)
    else
      some (out347, changed350)
def lang_Live_l0 (N : Nat) (r18 : (List (List Int)) × Int) : Nat → (List Bool) → Bool → Option (List Bool)
  | 0, _, _ => none
  | m285 + 1, out158, changed161 =>
    if changed161 = true then
      Option.bind (lang_Live_l1 N r18 N out158 false 0) fun x412 =>
      lang_Live_l0 N r18 m285 x412.1 x412.2
    else
      some out158
def lang_Live (N : Nat) (aProps : Int) (aAccept : List Bool) (aGuard : List Int) (aNodes : List Nd) : Option ((List Bool) × Int) :=
  Option.bind (lang_table N aProps aAccept aGuard aNodes) fun r18 =>
  if (r18.2 : Int) = 0 then
    ask (List.length ([] : List Bool) + List.length aAccept ≤ 1000000000) <|
    Option.bind (lang_Live_l0 N r18 N (([] : List Bool) ++ aAccept) true) fun x286 =>
    some (x286, 0)
  else
    some ([], r18.2)
set_option maxRecDepth 100000 in
set_option maxHeartbeats 4000000 in
theorem lang_Live_calls {N : Nat} {S Fa : Nat → Prop} {w0 : World} {r : (List Bool) × Int} (A1 : Option Addr) (c2 : Nat) (A5 : Option Addr) (c6 : Nat) (A9 : Option Addr) (c10 : Nat) (aProps : Int) (aAccept : List Bool) (aGuard : List Int) (aNodes : List Nd) (hk3 : List.length aAccept ≤ c2) (hk7 : List.length aGuard ≤ c6) (hk11 : List.length aNodes ≤ c10) (H : Hp S Fa w0 w0 [.ro false cBool A1 aAccept, .ro false (cInt .i64) A5 aGuard, .ro false cNode A9 aNodes]) (hP : lang_Live N aProps aAccept aGuard aNodes = some r) :
    Calls Try.prog 18 #[.agg #[.int .i64 aProps, .slice A1 (List.length aAccept) c2, .slice A5 (List.length aGuard) c6, .slice A9 (List.length aNodes) c10]] w0 fun e w' => ∃ v, e = .returned v ∧ ∃ (A500 : Option Addr) (c501 : Nat), v = .tuple #[.slice A500 (List.length r.1) c501, .int .i64 r.2] ∧ Hp S Fa w0 w' [.row true cBool 4 A500 c501 r.1] := by
 refine enterV (n := 54) Try.func18 rfl rfl rfl ?_
 intro a E
 replace E := E.pick [(0, .agg #[.int .i64 aProps, .slice A1 (List.length aAccept) c2, .slice A5 (List.length aGuard) c6, .slice A9 (List.length aNodes) c10])] ⟨rfl, trivial⟩
 rw [lang_Live] at hP
 refine wp_seq ?_
 refine wp_region_lit ?_
 refine h_box H E rfl rfl rfl ?_
 intro w14 g13 a hc15 hg17 H_ E_
 replace E := E_ _ rfl; clear E_
 replace H := H_; clear H_; try dsimp only [setn, addE, goneL] at H
 refine vn tbok 2 [] [] [] E (by kernel_rfl) (by kernel_rfl) trivial ?_
 clear E; intro a E
 refine wpList_nil ?_
 refine th_n ?_
 refine wp_seq ?_
 refine wp_region_lit ?_
 refine vn tbok 1 [.agg #[.int .i64 aProps, .slice A1 (List.length aAccept) c2, .slice A5 (List.length aGuard) c6, .slice A9 (List.length aNodes) c10]] [(13, .agg #[.int .i64 aProps, .slice A1 (List.length aAccept) c2, .slice A5 (List.length aGuard) c6, .slice A9 (List.length aNodes) c10])] [cellsAt w14 g13 (0) [.int .i64 aProps, .slice A1 (List.length aAccept) c2, .slice A5 (List.length aGuard) c6, .slice A9 (List.length aNodes) c10]] E (by kernel_rfl) (by kernel_rfl) ((H.box 3 rfl).sub 0 _ rfl) ?_
 clear E; intro a E
 obtain ⟨r18, h19, hP⟩ := bind_inv hP
 obtain ⟨Fa20, Hc21, hb22⟩ := H.call [] [(0, false), (1, false), (2, false)] rfl rfl trivial
 refine e_call E rfl rfl Try.func41 rfl rfl rfl (lang_table_calls A1 c2 A5 c6 A9 c10 aProps aAccept aGuard aNodes hk3 hk7 hk11 Hc21 h19) ?_
 rintro v23 w24 a ⟨A27, c28, rfl, HR25⟩ E_
 replace E := E_ _ rfl; clear E_
 obtain ⟨H_, hc26⟩ := hb22 _ _ HR25 rfl
 replace H := H_; clear H_; try dsimp only [setn, addE, goneL] at H
 refine vn tbok 5 [] [(4, .slice A27 (List.length r18.1) c28), (5, .int .i64 r18.2)] [] E (by kernel_rfl) (by kernel_rfl) trivial ?_
 clear E; intro a E
 refine wpList_nil ?_
 refine th_n ?_
 refine wp_seq ?_
 refine wp_seq ?_
 refine wp_region_lit ?_
 refine vn tbok 2 [] [(18, .bool ((r18.2 : Int) != 0))] [] E (by kernel_rfl) (by kernel_rfl) trivial ?_
 clear E; intro a E
 refine wpList_nil ?_
 refine th_n ?_
 refine E.cases (t := 18) rfl (fun hb_ E_ => ?_) (fun hb_ E_ => ?_)
 ·
  replace E := E_; clear E_
  have h30 : ¬ ((r18.2 : Int) = 0) := bne_iff_ne.1 hb_
  clear hb_; replace hP := ite_f h30 hP
  refine c_true E rfl ?_
  refine wp_seq ?_
  refine wp_region_lit ?_
  refine vn tbok 3 [] [(2, .slice none 0 0), (3, .int .i64 r18.2)] [] E (by kernel_rfl) (by kernel_rfl) trivial ?_
  clear E; intro a E
  refine wpList_nil ?_
  refine th_n ?_
  refine wp_ret ?_
  refine th_ret ?_
  replace H := H.nilrow cBool 4; try dsimp only [setn, addE, goneL] at H
  obtain rfl := Option.some.inj hP
  refine ret2 E rfl rfl rfl ?_
  exact ⟨_, rfl, none, 0, rfl, H.sel [5] rfl⟩
 replace E := E_; clear E_
 have h32 : (r18.2 : Int) = 0 := bne_eq_false_iff_eq.1 hb_
 clear hb_; replace hP := ite_t h32 hP
 refine c_false E rfl ?_
 refine wp_skip ?_
 refine th_n ?_
 refine wp_seq ?_
 refine wp_region_lit ?_
 refine vn tbok 2 [.slice A1 (List.length aAccept) c2] [(21, .slice A1 (List.length aAccept) c2)] [World.cell? w24 ⟨g13, 1, none⟩ = some (.slice A1 (List.length aAccept) c2)] E (by kernel_rfl) (by kernel_rfl) ((H.box 3 rfl).cell (j := 1) rfl) ?_
 clear E; intro a E
 replace H := H.nilrow cBool 4; try dsimp only [setn, addE, goneL] at H
 obtain ⟨g34, hP⟩ := ask_inv hP
 refine h_append cBool (xs := ([] : List Bool)) (ys := aAccept) (false : Bool) H 5 rfl E rfl rfl tbok rfl rfl rfl rfl rfl (fun _ _ => rfl) rfl rfl (fun _ HF_ => HF_.srcF flat_plain 0 rds_ro) g34 ?_
 intro w35 A36 c37 a hc38 hA39 H_ E_
 replace E := E_ _ rfl; clear E_
 replace H := H_; clear H_; try dsimp only [setn, addE, goneL] at H
 refine vn tbok 1 [] [(6, .slice A36 (List.length (([] : List Bool) ++ aAccept)) c37)] [] E (by kernel_rfl) (by kernel_rfl) trivial ?_
 clear E; intro a E
 refine wpList_nil ?_
 refine th_n ?_
 refine wp_seq ?_
 refine wp_seq ?_
 refine wp_region_lit ?_
 refine vn tbok 1 [] [(7, .bool true)] [] E (by kernel_rfl) (by kernel_rfl) trivial ?_
 clear E; intro a E
 refine wpList_nil ?_
 refine th_n ?_
 refine wp_block ?_
 obtain ⟨x286, hL287, hK288⟩ := bind_inv hP
 clear hP
 refine loop_cut (fun i_ a w_ => (i_ = 0 ∧ ∃ (x291 : List Bool), ∃ (A283 : Option Addr) (c284 : Nat), Fr a 54 [(6, .slice A283 (List.length x291) c284)] ∧ Hp S Fa w0 w_ [.row true cBool 4 A283 c284 x291] ∧ x286 = x291)) ?_ ?_
 ·
  refine loopV (fun m290 a w289 => ∃ (out158 : List Bool) (changed161 : Bool), ∃ (A159 : Option Addr) (c160 : Nat), Fr a 54 [(4, .slice A27 (List.length r18.1) c28), (6, .slice A159 (List.length out158) c160), (7, .bool changed161)] ∧ Hp S Fa w0 w289 [.row true (cSl (cInt .i64)) 23 A27 c28 r18.1, .row true cBool 4 A159 c160 out158] ∧ lang_Live_l0 N r18 m290 out158 changed161 = some x286) N ?_ ?_
  ·
   exact ⟨([] : List Bool) ++ aAccept, true, A36, c37, E.pick _ ⟨rfl, rfl, rfl, trivial⟩, H.sel [4, 5] rfl, hL287⟩
  clear E H hL287; intro m290 a w289 hI_
  obtain ⟨out158, changed161, A159, c160, E, H, hP⟩ := hI_
  obtain ⟨m285, rfl⟩ : ∃ q_, m290 = q_ + 1 := by cases m290 with | zero => rw [lang_Live_l0] at hP; cases hP | succ q_ => exact ⟨q_, rfl⟩
  rw [lang_Live_l0] at hP
  refine wp_seq ?_
  refine wp_seq ?_
  refine wp_region_lit ?_
  refine vn tbok 1 [] [(23, .bool changed161)] [] E (by kernel_rfl) (by kernel_rfl) trivial ?_
  clear E; intro a E
  refine wpList_nil ?_
  refine th_n ?_
  refine E.cases (t := 23) rfl (fun hb_ E_ => ?_) (fun hb_ E_ => ?_)
  ·
   replace E := E_; clear E_
   have h292 : changed161 = true := hb_
   clear hb_; replace hP := ite_t h292 hP
   refine c_true E rfl ?_
   refine wp_skip ?_
   refine th_n ?_
   refine wp_block ?_
   refine wp_seq ?_
   refine wp_region_lit ?_
   refine vn tbok 1 [] [(7, .bool false)] [] E (by kernel_rfl) (by kernel_rfl) trivial ?_
   clear E; intro a E
   refine wpList_nil ?_
   refine th_n ?_
   refine wp_seq ?_
   refine wp_region_lit ?_
   refine vn tbok 3 [] [(24, .slice A27 (List.length r18.1) c28), (25, .int .i64 (((List.length r18.1) : Nat) : Int)), (26, .int .i64 0)] [] E (by kernel_rfl) (by kernel_rfl) trivial ?_
   clear E; intro a E
   refine wpList_nil ?_
   refine th_n ?_
   refine wp_block ?_
   obtain ⟨x412, hL413, hK414⟩ := bind_inv hP
   clear hP
   refine loop_cut (fun i_ a w_ => (i_ = 2 ∧ ∃ (x417 : (List Bool) × Bool), ∃ (A408 : Option Addr) (c409 : Nat), Fr a 54 [(4, .slice A27 (List.length r18.1) c28), (6, .slice A408 (List.length x417.1) c409), (7, .bool x417.2)] ∧ Hp S Fa w0 w_ [.row true (cSl (cInt .i64)) 23 A27 c28 r18.1, .row true cBool 4 A408 c409 x417.1] ∧ x412 = x417)) ?_ ?_
   ·
    refine loopV (fun m416 a w415 => ∃ (out347 : List Bool) (changed350 : Bool) (x351 : Int), ∃ (A348 : Option Addr) (c349 : Nat), Fr a 54 [(4, .slice A27 (List.length r18.1) c28), (6, .slice A348 (List.length out347) c349), (7, .bool changed350), (24, .slice A27 (List.length r18.1) c28), (25, .int .i64 (((List.length r18.1) : Nat) : Int)), (26, .int .i64 x351)] ∧ Hp S Fa w0 w415 [.row true (cSl (cInt .i64)) 23 A27 c28 r18.1, .row true cBool 4 A348 c349 out347] ∧ lang_Live_l1 N r18 m416 out347 changed350 x351 = some x412) N ?_ ?_
    ·
     exact ⟨out158, false, 0, A159, c160, E.pick _ ⟨rfl, rfl, rfl, rfl, rfl, rfl, trivial⟩, H.sel [0, 1] rfl, hL413⟩
    clear E H hL413; intro m416 a w415 hI_
    obtain ⟨out347, changed350, x351, A348, c349, E, H, hP⟩ := hI_
    obtain ⟨m411, rfl⟩ : ∃ q_, m416 = q_ + 1 := by cases m416 with | zero => rw [lang_Live_l1] at hP; cases hP | succ q_ => exact ⟨q_, rfl⟩
    rw [lang_Live_l1] at hP
    refine wp_seq ?_
    refine wp_region_lit ?_
    refine vn tbok 1 [] [(27, .bool (decide (x351 < (((List.length r18.1) : Nat) : Int))))] [] E (by kernel_rfl) (by kernel_rfl) trivial ?_
    clear E; intro a E
    refine wpList_nil ?_
    refine th_n ?_
    refine wp_seq ?_
    refine E.cases (t := 27) rfl (fun hb_ E_ => ?_) (fun hb_ E_ => ?_)
    ·
     replace E := E_; clear E_
     have h418 : x351 < (((List.length r18.1) : Nat) : Int) := of_decide_eq_true hb_
     clear hb_; replace hP := ite_t h418 hP
     refine c_true E rfl ?_
     refine wp_skip ?_
     refine th_n ?_
     refine wp_seq ?_
     refine wp_block ?_
     refine wp_seq ?_
     refine wp_region_lit ?_
     obtain ⟨g419, hP⟩ := ask_inv hP
     obtain ⟨b420, e_b420⟩ := H.raddr 0 rfl (idx_pos g419)
     subst e_b420
     obtain ⟨A422, c423, hl424, hk425, H⟩ := H.subSl 0 true (el_row rfl) g419
     try dsimp only [addE] at H
     refine vn tbok 5 [.slice A422 (List.length (List.getD r18.1 (Int.toNat x351) [])) c423] [(8, .int .i64 x351), (9, .slice A422 (List.length (List.getD r18.1 (Int.toNat x351) [])) c423)] [0 ≤ x351 ∧ x351 < (((List.length r18.1) : Nat) : Int), World.cell? w415 ⟨b420, 0 + (Int.toNat x351) * 1, none⟩ = some (.slice A422 (List.length (List.getD r18.1 (Int.toNat x351) [])) c423)] E (by kernel_rfl) (by kernel_rfl) ⟨g419, hl424⟩ ?_
     clear E; intro a E
     refine wpList_nil ?_
     refine th_n ?_
     refine wp_seq ?_
     refine wp_region_lit ?_
     refine vn tbok 3 [] [(31, .slice A422 (List.length (List.getD r18.1 (Int.toNat x351) [])) c423), (32, .int .i64 (((List.length (List.getD r18.1 (Int.toNat x351) [])) : Nat) : Int)), (33, .int .i64 0)] [] E (by kernel_rfl) (by kernel_rfl) trivial ?_
     clear E; intro a E
     refine wpList_nil ?_
     refine th_n ?_
     refine wp_block ?_
     obtain ⟨x472, hL473, hK474⟩ := bind_inv hP
     clear hP
     refine loop_cut (fun i_ a w_ => (i_ = 4 ∧ ∃ (x477 : (List Bool) × Bool), ∃ (A468 : Option Addr) (c469 : Nat), Fr a 54 [(4, .slice (some ⟨b420, 0, none⟩) (List.length r18.1) c28), (6, .slice A468 (List.length x477.1) c469), (7, .bool x477.2), (24, .slice (some ⟨b420, 0, none⟩) (List.length r18.1) c28), (25, .int .i64 (((List.length r18.1) : Nat) : Int)), (26, .int .i64 x351)] ∧ Hp S Fa w0 w_ [.row true (cSl (cInt .i64)) 23 (some ⟨b420, 0, none⟩) c28 r18.1, .row true cBool 4 A468 c469 x477.1] ∧ x472 = x477)) ?_ ?_
     ·
      refine loopV (fun m476 a w475 => ∃ (out443 : List Bool) (changed446 : Bool) (x447 : Int), ∃ (A444 : Option Addr) (c445 : Nat), Fr a 54 [(4, .slice (some ⟨b420, 0, none⟩) (List.length r18.1) c28), (6, .slice A444 (List.length out443) c445), (7, .bool changed446), (8, .int .i64 x351), (24, .slice (some ⟨b420, 0, none⟩) (List.length r18.1) c28), (25, .int .i64 (((List.length r18.1) : Nat) : Int)), (26, .int .i64 x351), (31, .slice A422 (List.length (List.getD r18.1 (Int.toNat x351) [])) c423), (32, .int .i64 (((List.length (List.getD r18.1 (Int.toNat x351) [])) : Nat) : Int)), (33, .int .i64 x447)] ∧ Hp S Fa w0 w475 [.row true (cSl (cInt .i64)) 23 (some ⟨b420, 0, none⟩) c28 r18.1, .row true cBool 4 A444 c445 out443, .ro true (cInt .i64) A422 (List.getD r18.1 (Int.toNat x351) [])] ∧ lang_Live_l2 N r18 x351 m476 out443 changed446 x447 = some x472) N ?_ ?_
      ·
       exact ⟨out347, changed350, 0, A348, c349, E.pick _ ⟨rfl, rfl, rfl, rfl, rfl, rfl, rfl, rfl, rfl, rfl, trivial⟩, H.sel [0, 1, 2] rfl, hL473⟩
      clear E H hL473; intro m476 a w475 hI_
      obtain ⟨out443, changed446, x447, A444, c445, E, H, hP⟩ := hI_
      obtain ⟨m471, rfl⟩ : ∃ q_, m476 = q_ + 1 := by cases m476 with | zero => rw [lang_Live_l2] at hP; cases hP | succ q_ => exact ⟨q_, rfl⟩
      rw [lang_Live_l2] at hP
      refine wp_seq ?_
      refine wp_region_lit ?_
      refine vn tbok 1 [] [(34, .bool (decide (x447 < (((List.length (List.getD r18.1 (Int.toNat x351) [])) : Nat) : Int))))] [] E (by kernel_rfl) (by kernel_rfl) trivial ?_
      clear E; intro a E
      refine wpList_nil ?_
      refine th_n ?_
      refine wp_seq ?_
      refine E.cases (t := 34) rfl (fun hb_ E_ => ?_) (fun hb_ E_ => ?_)
      ·
       replace E := E_; clear E_
       have h478 : x447 < (((List.length (List.getD r18.1 (Int.toNat x351) [])) : Nat) : Int) := of_decide_eq_true hb_
       clear hb_; replace hP := ite_t h478 hP
       refine c_true E rfl ?_
       refine wp_skip ?_
       refine th_n ?_
       refine wp_seq ?_
       refine wp_block ?_
       refine wp_seq ?_
       refine wp_region_lit ?_
       obtain ⟨g479, hP⟩ := ask_inv hP
       obtain ⟨b480, o481, e_b480⟩ := (H.rd 2 rds_ro).addr (idx_pos g479)
       subst e_b480
       refine vn tbok 3 [.int .i64 (List.getD (List.getD r18.1 (Int.toNat x351) []) (Int.toNat x447) 0)] [(11, .int .i64 (List.getD (List.getD r18.1 (Int.toNat x351) []) (Int.toNat x447) 0))] [0 ≤ x447 ∧ x447 < (((List.length (List.getD r18.1 (Int.toNat x351) [])) : Nat) : Int), World.cell? w475 ⟨b480, o481 + (Int.toNat x447) * 1, none⟩ = some (.int .i64 (List.getD (List.getD r18.1 (Int.toNat x351) []) (Int.toNat x447) 0))] E (by kernel_rfl) (by kernel_rfl) ⟨g479, Rds.at1 (H.rd 2 rds_ro) 0 g479⟩ ?_
       clear E; intro a E
       refine wpList_nil ?_
       refine th_n ?_
       refine wp_seq ?_
       refine wp_region_lit ?_
       obtain ⟨g482, hP⟩ := ask_inv hP
       obtain ⟨b483, e_b483⟩ := H.raddr 1 rfl (idx_pos g482)
       subst e_b483
       refine vn tbok 5 [.bool (List.getD out443 (Int.toNat (List.getD (List.getD r18.1 (Int.toNat x351) []) (Int.toNat x447) 0)) false)] [(41, .bool (List.getD out443 (Int.toNat (List.getD (List.getD r18.1 (Int.toNat x351) []) (Int.toNat x447) 0)) false))] [0 ≤ (List.getD (List.getD r18.1 (Int.toNat x351) []) (Int.toNat x447) 0) ∧ (List.getD (List.getD r18.1 (Int.toNat x351) []) (Int.toNat x447) 0) < (((List.length out443) : Nat) : Int), World.cell? w475 ⟨b483, 0 + (Int.toNat (List.getD (List.getD r18.1 (Int.toNat x351) []) (Int.toNat x447) 0)) * 1, none⟩ = some (.bool (List.getD out443 (Int.toNat (List.getD (List.getD r18.1 (Int.toNat x351) []) (Int.toNat x447) 0)) false))] E (by kernel_rfl) (by kernel_rfl) ⟨g482, Rds.at1 (H.rd 1 rds_row) false g482⟩ ?_
       clear E; intro a E
       refine E.cases (t := 41) rfl (fun hb_ E_ => ?_) (fun hb_ E_ => ?_)
       ·
        replace E := E_; clear E_
        have h485 : (List.getD out443 (Int.toNat (List.getD (List.getD r18.1 (Int.toNat x351) []) (Int.toNat x447) 0)) false) = true := hb_
        clear hb_; replace hP := ite_t h485 hP
        obtain ⟨g486, hP⟩ := ask_inv hP
        refine vn tbok 6 [.bool (List.getD out443 (Int.toNat x351) false)] [(47, .bool (!(List.getD out443 (Int.toNat x351) false)))] [0 ≤ x351 ∧ x351 < (((List.length out443) : Nat) : Int), World.cell? w475 ⟨b483, 0 + (Int.toNat x351) * 1, none⟩ = some (.bool (List.getD out443 (Int.toNat x351) false))] E (by kernel_rfl) (by kernel_rfl) ⟨g486, Rds.at1 (H.rd 1 rds_row) false g486⟩ ?_
        clear E; intro a E
        refine wpList_nil ?_
        refine th_n ?_
        refine E.cases (t := 47) rfl (fun hb_ E_ => ?_) (fun hb_ E_ => ?_)
        ·
         replace E := E_; clear E_
         have h487 : ¬ ((List.getD out443 (Int.toNat x351) false) = true) := (ne_true_of_eq_false (not_t hb_))
         clear hb_; replace hP := ite_f h487 hP
         refine c_true E rfl ?_
         refine wp_region_lit ?_
         refine vn tbok 3 [] [(50, .pointer (some ⟨b483, 0 + (Int.toNat x351) * 1, none⟩))] [0 ≤ x351 ∧ x351 < (((List.length out443) : Nat) : Int)] E (by kernel_rfl) (by kernel_rfl) (g486) ?_
         clear E; intro a E
         refine h_set (g := b483) (i := x351) true H 1 rfl E rfl rfl rfl rfl tbok rfl (fun _ HF_ => rfl) rfl g486 rfl ?_
         clear E; intro w488 a hc489 H_ E
         replace H := H_; clear H_; try dsimp only [setn, addE, goneL] at H
         have hn490 : (List.length out443) = (List.length (List.set out443 (Int.toNat x351) true)) := by simp only [List.length_set]
         replace E := E.same (t := 6) (u := .slice (some ⟨b483, 0, none⟩) (List.length (List.set out443 (Int.toNat x351) true)) c445) rfl (congrArg (fun n_ => Value.slice (some ⟨b483, 0, none⟩) n_ c445) hn490)
         refine vn tbok 1 [] [(7, .bool true)] [] E (by kernel_rfl) (by kernel_rfl) trivial ?_
         clear E; intro a E
         refine wpList_nil ?_
         refine bl_n ?_
         refine th_n ?_
         refine wp_region_lit ?_
         obtain ⟨g491, hP⟩ := ask_inv hP
         refine vn tbok 2 [.int .i64 (x447 + 1)] [(33, .int .i64 (x447 + 1))] [IntKind.i64.wrap (x447 + 1) = x447 + 1] E (by kernel_rfl) (by kernel_rfl) (wrap_in g491) ?_
         clear E; intro a E
         refine wpList_nil ?_
         exact th_n ⟨m471, Nat.lt_succ_self _, List.set out443 (Int.toNat x351) true, true, x447 + 1, (some ⟨b483, 0, none⟩), c445, E.pick _ ⟨rfl, rfl, rfl, rfl, rfl, rfl, rfl, rfl, rfl, rfl, trivial⟩, H.sel [0, 1, 2] rfl, hP⟩
        replace E := E_; clear E_
        have h492 : (List.getD out443 (Int.toNat x351) false) = true := (not_f hb_)
        clear hb_; replace hP := ite_t h492 hP
        refine c_false E rfl ?_
        refine wp_skip ?_
        refine bl_n ?_
        refine th_n ?_
        refine wp_region_lit ?_
        obtain ⟨g493, hP⟩ := ask_inv hP
        refine vn tbok 2 [.int .i64 (x447 + 1)] [(33, .int .i64 (x447 + 1))] [IntKind.i64.wrap (x447 + 1) = x447 + 1] E (by kernel_rfl) (by kernel_rfl) (wrap_in g493) ?_
        clear E; intro a E
        refine wpList_nil ?_
        exact th_n ⟨m471, Nat.lt_succ_self _, out443, changed446, x447 + 1, (some ⟨b483, 0, none⟩), c445, E.pick _ ⟨rfl, rfl, rfl, rfl, rfl, rfl, rfl, rfl, rfl, rfl, trivial⟩, H.sel [0, 1, 2] rfl, hP⟩
       replace E := E_; clear E_
       have h494 : ¬ ((List.getD out443 (Int.toNat (List.getD (List.getD r18.1 (Int.toNat x351) []) (Int.toNat x447) 0)) false) = true) := (ne_true_of_eq_false hb_)
       clear hb_; replace hP := ite_f h494 hP
       refine vn tbok 6 [] [(47, .bool false)] [] E (by kernel_rfl) (by kernel_rfl) trivial ?_
       clear E; intro a E
       refine wpList_nil ?_
       refine th_n ?_
       refine c_false E rfl ?_
       refine wp_skip ?_
       refine bl_n ?_
       refine th_n ?_
       refine wp_region_lit ?_
       obtain ⟨g495, hP⟩ := ask_inv hP
       refine vn tbok 2 [.int .i64 (x447 + 1)] [(33, .int .i64 (x447 + 1))] [IntKind.i64.wrap (x447 + 1) = x447 + 1] E (by kernel_rfl) (by kernel_rfl) (wrap_in g495) ?_
       clear E; intro a E
       refine wpList_nil ?_
       exact th_n ⟨m471, Nat.lt_succ_self _, out443, changed446, x447 + 1, (some ⟨b483, 0, none⟩), c445, E.pick _ ⟨rfl, rfl, rfl, rfl, rfl, rfl, rfl, rfl, rfl, rfl, trivial⟩, H.sel [0, 1, 2] rfl, hP⟩
      replace E := E_; clear E_
      have h496 : ¬ (x447 < (((List.length (List.getD r18.1 (Int.toNat x351) [])) : Nat) : Int)) := of_decide_eq_false hb_
      clear hb_; replace hP := ite_f h496 hP
      refine c_false E rfl ?_
      refine wp_exit ?_
      refine th_exit ?_
      have hx_ := Option.some.inj hP
      refine th_exit (.inl ⟨4, rfl, ?_⟩)
      exact ⟨rfl, (out443, changed446), A444, c445, E.pick _ ⟨rfl, rfl, rfl, rfl, rfl, rfl, trivial⟩, H.sel [0, 1] rfl, hx_.symm⟩
     clear E H hL473; intro i_ a w475 hM_
     obtain ⟨rfl, x477, A468, c469, E, H, hx_⟩ := hM_
     subst hx_; have hP := hK474; clear hK474
     refine bl_hit ?_
     refine bl_n ?_
     refine th_n ?_
     refine wp_region_lit ?_
     obtain ⟨g497, hP⟩ := ask_inv hP
     refine vn tbok 2 [.int .i64 (x351 + 1)] [(26, .int .i64 (x351 + 1))] [IntKind.i64.wrap (x351 + 1) = x351 + 1] E (by kernel_rfl) (by kernel_rfl) (wrap_in g497) ?_
     clear E; intro a E
     refine wpList_nil ?_
     exact th_n ⟨m411, Nat.lt_succ_self _, x472.1, x472.2, x351 + 1, A468, c469, E.pick _ ⟨rfl, rfl, rfl, rfl, rfl, rfl, trivial⟩, H.sel [0, 1] rfl, hP⟩
    replace E := E_; clear E_
    have h498 : ¬ (x351 < (((List.length r18.1) : Nat) : Int)) := of_decide_eq_false hb_
    clear hb_; replace hP := ite_f h498 hP
    refine c_false E rfl ?_
    refine wp_exit ?_
    refine th_exit ?_
    have hx_ := Option.some.inj hP
    refine th_exit (.inl ⟨2, rfl, ?_⟩)
    exact ⟨rfl, (out347, changed350), A348, c349, E.pick _ ⟨rfl, rfl, rfl, trivial⟩, H.sel [0, 1] rfl, hx_.symm⟩
   clear E H hL413; intro i_ a w415 hM_
   obtain ⟨rfl, x417, A408, c409, E, H, hx_⟩ := hM_
   subst hx_; have hP := hK414; clear hK414
   refine bl_hit ?_
   refine bl_n ?_
   exact th_n ⟨m285, Nat.lt_succ_self _, x412.1, x412.2, A408, c409, E.pick _ ⟨rfl, rfl, rfl, trivial⟩, H.sel [0, 1] rfl, hP⟩
  replace E := E_; clear E_
  have h499 : ¬ (changed161 = true) := (ne_true_of_eq_false hb_)
  clear hb_; replace hP := ite_f h499 hP
  refine c_false E rfl ?_
  refine wp_exit ?_
  refine th_exit ?_
  have hx_ := Option.some.inj hP
  refine th_exit (.inl ⟨0, rfl, ?_⟩)
  exact ⟨rfl, out158, A159, c160, E.pick _ ⟨rfl, trivial⟩, H.sel [1] rfl, hx_.symm⟩
 clear E H hL287; intro i_ a w289 hM_
 obtain ⟨rfl, x291, A283, c284, E, H, hx_⟩ := hM_
 subst hx_; have hP := hK288; clear hK288
 refine bl_hit ?_
 refine th_n ?_
 refine wp_seq ?_
 refine wp_region_lit ?_
 refine vn tbok 3 [] [(2, .slice A283 (List.length x286) c284), (3, .int .i64 0)] [] E (by kernel_rfl) (by kernel_rfl) trivial ?_
 clear E; intro a E
 refine wpList_nil ?_
 refine th_n ?_
 refine wp_ret ?_
 obtain rfl := Option.some.inj hP
 refine ret2 E rfl rfl rfl ?_
 exact ⟨_, rfl, A283, c284, rfl, H.sel [0] rfl⟩

/-! rejoinder/lang.Reach -/
def lang_Reach_l0 (N : Nat) (r18 : (List (List Int)) × Int) : Nat → (List Int) → Int → Option (List Int)
  | 0, _, _ => none
  | m55 + 1, out45, x46 =>
    if x46 < (((List.length (List.replicate (Int.toNat (((List.length r18.1) : Nat) : Int)) (0 : Int))) : Nat) : Int) then
      ask (idx x46 (List.length out45)) <|
      ask (in64 (x46 + 1)) <|
      lang_Reach_l0 N r18 m55 (List.set out45 (Int.toNat x46) (-1)) (x46 + 1)
    else
      some out45
def lang_Reach_l2 (N : Nat) (r18 : (List (List Int)) × Int) (queue149 : List Int) (i152 : Int) : Nat → (List Int) → (List Int) → Int → Option ((List Int) × (List Int))
  | 0, _, _, _ => none
  | m311 + 1, out273, queue274, x277 =>
    if x277 < (((List.length (List.getD r18.1 (Int.toNat (List.getD queue149 (Int.toNat i152) 0)) [])) : Nat) : Int) then
      ask (idx x277 (List.length (List.getD r18.1 (Int.toNat (List.getD queue149 (Int.toNat i152) 0)) []))) <|
      ask (idx (List.getD (List.getD r18.1 (Int.toNat (List.getD queue149 (Int.toNat i152) 0)) []) (Int.toNat x277) 0) (List.length out273)) <|
      if (List.getD out273 (Int.toNat (List.getD (List.getD r18.1 (Int.toNat (List.getD queue149 (Int.toNat i152) 0)) []) (Int.toNat x277) 0)) 0) < 0 then
        ask (idx i152 (List.length queue274)) <|
        ask (idx (List.getD queue274 (Int.toNat i152) 0) (List.length out273)) <|
        ask (in64 ((List.getD out273 (Int.toNat (List.getD queue274 (Int.toNat i152) 0)) 0) + 1)) <|
        ask (List.length queue274 + List.length ([(List.getD (List.getD r18.1 (Int.toNat (List.getD queue149 (Int.toNat i152) 0)) []) (Int.toNat x277) 0)] : List Int) ≤ 1000000000) <|
        ask (in64 (x277 + 1)) <|
        lang_Reach_l2 N r18 queue149 i152 m311 (List.set out273 (Int.toNat (List.getD (List.getD r18.1 (Int.toNat (List.getD queue149 (Int.toNat i152) 0)) []) (Int.toNat x277) 0)) ((List.getD out273 (Int.toNat (List.getD queue274 (Int.toNat i152) 0)) 0) + 1)) (queue274 ++ ([(List.getD (List.getD r18.1 (Int.toNat (List.getD queue149 (Int.toNat i152) 0)) []) (Int.toNat x277) 0)] : List Int)) (x277 + 1)
      else
        ask (in64 (x277 + 1)) <|
        lang_Reach_l2 N r18 queue149 i152 m311 out273 queue274 (x277 + 1)
    else
      some (out273, queue274)
def lang_Reach_l1 (N : Nat) (r18 : (List (List Int)) × Int) : Nat → (List Int) → (List Int) → Int → Option (List Int)
  | 0, _, _, _ => none
  | m230 + 1, out148, queue149, i152 =>
    if i152 < (((List.length queue149) : Nat) : Int) then
      ask (idx i152 (List.length queue149)) <|
      ask (idx (List.getD queue149 (Int.toNat i152) 0) (List.length r18.1)) <|
      Option.bind (lang_Reach_l2 N r18 queue149 i152 N out148 queue149 0) fun x312 =>
      ask (in64 (i152 + 1)) <|
      lang_Reach_l1 N r18 m230 x312.1 x312.2 (i152 + 1)
    else
      some out148
def lang_Reach (N : Nat) (aProps : Int) (aAccept : List Bool) (aGuard : List Int) (aNodes : List Nd) : Option ((List Int) × Int) :=
  Option.bind (lang_table N aProps aAccept aGuard aNodes) fun r18 =>
  if (r18.2 : Int) = 0 then
    ask (0 ≤ (((List.length r18.1) : Nat) : Int) ∧ (((List.length r18.1) : Nat) : Int) ≤ 1000000000) <|
    Option.bind (lang_Reach_l0 N r18 N (List.replicate (Int.toNat (((List.length r18.1) : Nat) : Int)) (0 : Int)) 0) fun x56 =>
    ask (idx (0 : Int) (List.length x56)) <|
    Option.bind (lang_Reach_l1 N r18 N (List.set x56 (Int.toNat (0 : Int)) 0) ([0] : List Int) 0) fun x231 =>
    some (x231, 0)
  else
    some ([], r18.2)
set_option maxRecDepth 100000 in
set_option maxHeartbeats 4000000 in
theorem lang_Reach_calls {N : Nat} {S Fa : Nat → Prop} {w0 : World} {r : (List Int) × Int} (A1 : Option Addr) (c2 : Nat) (A5 : Option Addr) (c6 : Nat) (A9 : Option Addr) (c10 : Nat) (aProps : Int) (aAccept : List Bool) (aGuard : List Int) (aNodes : List Nd) (hk3 : List.length aAccept ≤ c2) (hk7 : List.length aGuard ≤ c6) (hk11 : List.length aNodes ≤ c10) (H : Hp S Fa w0 w0 [.ro false cBool A1 aAccept, .ro false (cInt .i64) A5 aGuard, .ro false cNode A9 aNodes]) (hP : lang_Reach N aProps aAccept aGuard aNodes = some r) :
    Calls Try.prog 19 #[.agg #[.int .i64 aProps, .slice A1 (List.length aAccept) c2, .slice A5 (List.length aGuard) c6, .slice A9 (List.length aNodes) c10]] w0 fun e w' => ∃ v, e = .returned v ∧ ∃ (A349 : Option Addr) (c350 : Nat), v = .tuple #[.slice A349 (List.length r.1) c350, .int .i64 r.2] ∧ Hp S Fa w0 w' [.row true (cInt .i64) 3 A349 c350 r.1] := by
 refine enterV (n := 75) Try.func19 rfl rfl rfl ?_
 intro a E
 replace E := E.pick [(0, .agg #[.int .i64 aProps, .slice A1 (List.length aAccept) c2, .slice A5 (List.length aGuard) c6, .slice A9 (List.length aNodes) c10])] ⟨rfl, trivial⟩
 rw [lang_Reach] at hP
 refine wp_seq ?_
 refine wp_region_lit ?_
 refine h_box H E rfl rfl rfl ?_
 intro w14 g13 a hc15 hg17 H_ E_
 replace E := E_ _ rfl; clear E_
 replace H := H_; clear H_; try dsimp only [setn, addE, goneL] at H
 refine vn tbok 2 [] [] [] E (by kernel_rfl) (by kernel_rfl) trivial ?_
 clear E; intro a E
 refine wpList_nil ?_
 refine th_n ?_
 refine wp_seq ?_
 refine wp_region_lit ?_
 refine vn tbok 1 [.agg #[.int .i64 aProps, .slice A1 (List.length aAccept) c2, .slice A5 (List.length aGuard) c6, .slice A9 (List.length aNodes) c10]] [(13, .agg #[.int .i64 aProps, .slice A1 (List.length aAccept) c2, .slice A5 (List.length aGuard) c6, .slice A9 (List.length aNodes) c10])] [cellsAt w14 g13 (0) [.int .i64 aProps, .slice A1 (List.length aAccept) c2, .slice A5 (List.length aGuard) c6, .slice A9 (List.length aNodes) c10]] E (by kernel_rfl) (by kernel_rfl) ((H.box 3 rfl).sub 0 _ rfl) ?_
 clear E; intro a E
 obtain ⟨r18, h19, hP⟩ := bind_inv hP
 obtain ⟨Fa20, Hc21, hb22⟩ := H.call [] [(0, false), (1, false), (2, false)] rfl rfl trivial
 refine e_call E rfl rfl Try.func41 rfl rfl rfl (lang_table_calls A1 c2 A5 c6 A9 c10 aProps aAccept aGuard aNodes hk3 hk7 hk11 Hc21 h19) ?_
 rintro v23 w24 a ⟨A27, c28, rfl, HR25⟩ E_
 replace E := E_ _ rfl; clear E_
 obtain ⟨H_, hc26⟩ := hb22 _ _ HR25 rfl
 replace H := H_; clear H_; try dsimp only [setn, addE, goneL] at H
 refine vn tbok 5 [] [(4, .slice A27 (List.length r18.1) c28), (5, .int .i64 r18.2)] [] E (by kernel_rfl) (by kernel_rfl) trivial ?_
 clear E; intro a E
 refine wpList_nil ?_
 refine th_n ?_
 refine wp_seq ?_
 refine wp_seq ?_
 refine wp_region_lit ?_
 refine vn tbok 2 [] [(18, .bool ((r18.2 : Int) != 0))] [] E (by kernel_rfl) (by kernel_rfl) trivial ?_
 clear E; intro a E
 refine wpList_nil ?_
 refine th_n ?_
 refine E.cases (t := 18) rfl (fun hb_ E_ => ?_) (fun hb_ E_ => ?_)
 ·
  replace E := E_; clear E_
  have h30 : ¬ ((r18.2 : Int) = 0) := bne_iff_ne.1 hb_
  clear hb_; replace hP := ite_f h30 hP
  refine c_true E rfl ?_
  refine wp_seq ?_
  refine wp_region_lit ?_
  refine vn tbok 3 [] [(2, .slice none 0 0), (3, .int .i64 r18.2)] [] E (by kernel_rfl) (by kernel_rfl) trivial ?_
  clear E; intro a E
  refine wpList_nil ?_
  refine th_n ?_
  refine wp_ret ?_
  refine th_ret ?_
  replace H := H.nilrow (cInt .i64) 3; try dsimp only [setn, addE, goneL] at H
  obtain rfl := Option.some.inj hP
  refine ret2 E rfl rfl rfl ?_
  exact ⟨_, rfl, none, 0, rfl, H.sel [5] rfl⟩
 replace E := E_; clear E_
 have h32 : (r18.2 : Int) = 0 := bne_eq_false_iff_eq.1 hb_
 clear hb_; replace hP := ite_t h32 hP
 refine c_false E rfl ?_
 refine wp_skip ?_
 refine th_n ?_
 refine wp_seq ?_
 refine wp_region_lit ?_
 refine vn tbok 2 [] [(21, .int .i64 (((List.length r18.1) : Nat) : Int))] [] E (by kernel_rfl) (by kernel_rfl) trivial ?_
 clear E; intro a E
 obtain ⟨g33, hP⟩ := ask_inv hP
 refine h_make (cInt .i64) (0 : Int) H E rfl rfl tbok rfl rfl rfl rfl ⟨g33.1, Int.le_refl _, g33.2⟩ rfl rfl rfl (fun _ _ => rfl) ?_
 intro w35 g34 a hc36 hg38 H_ E_
 replace E := E_ _ rfl; clear E_
 replace H := H_; clear H_; try dsimp only [setn, addE, goneL] at H
 refine vn tbok 1 [] [(6, .slice (some ⟨g34, 0, none⟩) (List.length (List.replicate (Int.toNat (((List.length r18.1) : Nat) : Int)) (0 : Int))) (Int.toNat (((List.length r18.1) : Nat) : Int)))] [] E (by kernel_rfl) (by kernel_rfl) trivial ?_
 clear E; intro a E
 refine wpList_nil ?_
 refine th_n ?_
 refine wp_seq ?_
 refine wp_seq ?_
 refine wp_region_lit ?_
 refine vn tbok 3 [] [(24, .int .i64 (((List.length (List.replicate (Int.toNat (((List.length r18.1) : Nat) : Int)) (0 : Int))) : Nat) : Int)), (25, .int .i64 0)] [] E (by kernel_rfl) (by kernel_rfl) trivial ?_
 clear E; intro a E
 refine wpList_nil ?_
 refine th_n ?_
 refine wp_block ?_
 obtain ⟨x56, hL57, hK58⟩ := bind_inv hP
 clear hP
 refine loop_cut (fun i_ a w_ => (i_ = 0 ∧ ∃ (x61 : List Int), Fr a 75 [(4, .slice A27 (List.length r18.1) c28), (6, .slice (some ⟨g34, 0, none⟩) (List.length x61) (Int.toNat (((List.length r18.1) : Nat) : Int)))] ∧ Hp S Fa w0 w_ [.row true (cSl (cInt .i64)) 23 A27 c28 r18.1, .rowx true (cInt .i64) 3 (some ⟨g34, 0, none⟩) (Int.toNat (((List.length r18.1) : Nat) : Int)) x61 (List.replicate (Int.toNat (((List.length r18.1) : Nat) : Int) - Int.toNat (((List.length r18.1) : Nat) : Int)) (0 : Int))] ∧ x56 = x61)) ?_ ?_
 ·
  refine loopV (fun m60 a w59 => ∃ (out45 : List Int) (x46 : Int), Fr a 75 [(4, .slice A27 (List.length r18.1) c28), (6, .slice (some ⟨g34, 0, none⟩) (List.length out45) (Int.toNat (((List.length r18.1) : Nat) : Int))), (24, .int .i64 (((List.length (List.replicate (Int.toNat (((List.length r18.1) : Nat) : Int)) (0 : Int))) : Nat) : Int)), (25, .int .i64 x46)] ∧ Hp S Fa w0 w59 [.row true (cSl (cInt .i64)) 23 A27 c28 r18.1, .rowx true (cInt .i64) 3 (some ⟨g34, 0, none⟩) (Int.toNat (((List.length r18.1) : Nat) : Int)) out45 (List.replicate (Int.toNat (((List.length r18.1) : Nat) : Int) - Int.toNat (((List.length r18.1) : Nat) : Int)) (0 : Int))] ∧ lang_Reach_l0 N r18 m60 out45 x46 = some x56) N ?_ ?_
  ·
   exact ⟨List.replicate (Int.toNat (((List.length r18.1) : Nat) : Int)) (0 : Int), 0, E.pick _ ⟨rfl, rfl, rfl, rfl, trivial⟩, H.sel [4, 5] rfl, hL57⟩
  clear E H hL57; intro m60 a w59 hI_
  obtain ⟨out45, x46, E, H, hP⟩ := hI_
  obtain ⟨m55, rfl⟩ : ∃ q_, m60 = q_ + 1 := by cases m60 with | zero => rw [lang_Reach_l0] at hP; cases hP | succ q_ => exact ⟨q_, rfl⟩
  rw [lang_Reach_l0] at hP
  refine wp_seq ?_
  refine wp_region_lit ?_
  refine vn tbok 1 [] [(26, .bool (decide (x46 < (((List.length (List.replicate (Int.toNat (((List.length r18.1) : Nat) : Int)) (0 : Int))) : Nat) : Int))))] [] E (by kernel_rfl) (by kernel_rfl) trivial ?_
  clear E; intro a E
  refine wpList_nil ?_
  refine th_n ?_
  refine wp_seq ?_
  refine E.cases (t := 26) rfl (fun hb_ E_ => ?_) (fun hb_ E_ => ?_)
  ·
   replace E := E_; clear E_
   have h62 : x46 < (((List.length (List.replicate (Int.toNat (((List.length r18.1) : Nat) : Int)) (0 : Int))) : Nat) : Int) := of_decide_eq_true hb_
   clear hb_; replace hP := ite_t h62 hP
   refine c_true E rfl ?_
   refine wp_skip ?_
   refine th_n ?_
   refine wp_seq ?_
   refine wp_block ?_
   refine wp_seq ?_
   refine wp_region_lit ?_
   refine vn tbok 2 [] [(7, .int .i64 x46)] [] E (by kernel_rfl) (by kernel_rfl) trivial ?_
   clear E; intro a E
   refine wpList_nil ?_
   refine th_n ?_
   refine wp_region_lit ?_
   obtain ⟨g63, hP⟩ := ask_inv hP
   refine vn tbok 3 [] [(30, .pointer (some ⟨g34, 0 + (Int.toNat x46) * 1, none⟩))] [0 ≤ x46 ∧ x46 < (((List.length out45) : Nat) : Int)] E (by kernel_rfl) (by kernel_rfl) (g63) ?_
   clear E; intro a E
   refine h_setx (g := g34) (i := x46) (-1) H 1 rfl E rfl rfl rfl rfl tbok rfl (fun _ HF_ => rfl) rfl g63 rfl ?_
   clear E; intro w64 a hc65 H_ E
   replace H := H_; clear H_; try dsimp only [setn, addE, goneL] at H
   have hn66 : (List.length out45) = (List.length (List.set out45 (Int.toNat x46) (-1))) := by simp only [List.length_set]
   replace E := E.same (t := 6) (u := .slice (some ⟨g34, 0, none⟩) (List.length (List.set out45 (Int.toNat x46) (-1))) (Int.toNat (((List.length r18.1) : Nat) : Int))) rfl (congrArg (fun n_ => Value.slice (some ⟨g34, 0, none⟩) n_ (Int.toNat (((List.length r18.1) : Nat) : Int))) hn66)
   refine wpList_nil ?_
   refine bl_n ?_
   refine th_n ?_
   refine wp_region_lit ?_
   obtain ⟨g67, hP⟩ := ask_inv hP
   refine vn tbok 2 [.int .i64 (x46 + 1)] [(25, .int .i64 (x46 + 1))] [IntKind.i64.wrap (x46 + 1) = x46 + 1] E (by kernel_rfl) (by kernel_rfl) (wrap_in g67) ?_
   clear E; intro a E
   refine wpList_nil ?_
   exact th_n ⟨m55, Nat.lt_succ_self _, List.set out45 (Int.toNat x46) (-1), x46 + 1, E.pick _ ⟨rfl, rfl, rfl, rfl, trivial⟩, H.sel [0, 1] rfl, hP⟩
  replace E := E_; clear E_
  have h68 : ¬ (x46 < (((List.length (List.replicate (Int.toNat (((List.length r18.1) : Nat) : Int)) (0 : Int))) : Nat) : Int)) := of_decide_eq_false hb_
  clear hb_; replace hP := ite_f h68 hP
  refine c_false E rfl ?_
  refine wp_exit ?_
  refine th_exit ?_
  have hx_ := Option.some.inj hP
  refine th_exit (.inl ⟨0, rfl, ?_⟩)
  exact ⟨rfl, out45, E.pick _ ⟨rfl, rfl, trivial⟩, H.sel [0, 1] rfl, hx_.symm⟩
 clear E H hL57; intro i_ a w59 hM_
 obtain ⟨rfl, x61, E, H, hx_⟩ := hM_
 subst hx_; have hP := hK58; clear hK58
 refine bl_hit ?_
 refine th_n ?_
 refine wp_seq ?_
 refine wp_region_lit ?_
 obtain ⟨g69, hP⟩ := ask_inv hP
 refine vn tbok 2 [] [(33, .pointer (some ⟨g34, 0 + (Int.toNat (0 : Int)) * 1, none⟩))] [0 ≤ (0 : Int) ∧ (0 : Int) < (((List.length x56) : Nat) : Int)] E (by kernel_rfl) (by kernel_rfl) (g69) ?_
 clear E; intro a E
 refine h_setx (g := g34) (i := (0 : Int)) 0 H 1 rfl E rfl rfl rfl rfl tbok rfl (fun _ HF_ => rfl) rfl g69 rfl ?_
 clear E; intro w70 a hc71 H_ E
 replace H := H_; clear H_; try dsimp only [setn, addE, goneL] at H
 have hn72 : (List.length x56) = (List.length (List.set x56 (Int.toNat (0 : Int)) 0)) := by simp only [List.length_set]
 replace E := E.same (t := 6) (u := .slice (some ⟨g34, 0, none⟩) (List.length (List.set x56 (Int.toNat (0 : Int)) 0)) (Int.toNat (((List.length r18.1) : Nat) : Int))) rfl (congrArg (fun n_ => Value.slice (some ⟨g34, 0, none⟩) n_ (Int.toNat (((List.length r18.1) : Nat) : Int))) hn72)
 refine wpList_nil ?_
 refine th_n ?_
 refine wp_seq ?_
 refine wp_region_lit ?_
 refine h_buildSlice (ps := [(0, .int .i64 0)]) (cs := [.int .i64 0]) H E rfl rfl tbok rfl rfl (by kernel_rfl) ?_
 intro w74 g73 a hc75 hg77 H_ E_
 replace E := E_ _ rfl; clear E_
 replace H := H_; clear H_; try dsimp only [setn, addE, goneL] at H
 refine vn tbok 1 [] [(8, .slice (some ⟨g73, 0, none⟩) 1 1)] [] E (by kernel_rfl) (by kernel_rfl) trivial ?_
 clear E; intro a E
 refine wpList_nil ?_
 refine th_n ?_
 refine wp_seq ?_
 refine wp_seq ?_
 refine wp_region_lit ?_
 refine vn tbok 1 [] [(9, .int .i64 0)] [] E (by kernel_rfl) (by kernel_rfl) trivial ?_
 clear E; intro a E
 refine wpList_nil ?_
 refine th_n ?_
 refine wp_block ?_
 obtain ⟨x231, hL232, hK233⟩ := bind_inv hP
 clear hP
 replace H := H.boxRow (cInt .i64) true ([0] : List Int) 2 rfl (fun _ _ => ⟨_, _, rfl, rfl, rfl⟩) (Nat.le_of_ble_eq_true rfl); try dsimp only [setn, addE, goneL] at H
 replace H := H.rowx 2 rfl; try dsimp only [setn, addE, goneL] at H
 refine loop_cut (fun i_ a w_ => (i_ = 2 ∧ ∃ (x236 : List Int), Fr a 75 [(6, .slice (some ⟨g34, 0, none⟩) (List.length x236) (Int.toNat (((List.length r18.1) : Nat) : Int)))] ∧ Hp S Fa w0 w_ [.rowx true (cInt .i64) 3 (some ⟨g34, 0, none⟩) (Int.toNat (((List.length r18.1) : Nat) : Int)) x236 (List.replicate (Int.toNat (((List.length r18.1) : Nat) : Int) - Int.toNat (((List.length r18.1) : Nat) : Int)) (0 : Int))] ∧ x231 = x236)) ?_ ?_
 ·
  refine loopV (fun m235 a w234 => ∃ (out148 : List Int) (queue149 : List Int) (i152 : Int), ∃ (A150 : Option Addr) (c151 : Nat), Fr a 75 [(4, .slice A27 (List.length r18.1) c28), (6, .slice (some ⟨g34, 0, none⟩) (List.length out148) (Int.toNat (((List.length r18.1) : Nat) : Int))), (8, .slice A150 (List.length queue149) c151), (9, .int .i64 i152)] ∧ Hp S Fa w0 w234 [.row true (cSl (cInt .i64)) 23 A27 c28 r18.1, .rowx true (cInt .i64) 3 (some ⟨g34, 0, none⟩) (Int.toNat (((List.length r18.1) : Nat) : Int)) out148 (List.replicate (Int.toNat (((List.length r18.1) : Nat) : Int) - Int.toNat (((List.length r18.1) : Nat) : Int)) (0 : Int)), .row true (cInt .i64) 3 A150 c151 queue149] ∧ lang_Reach_l1 N r18 m235 out148 queue149 i152 = some x231) N ?_ ?_
  ·
   exact ⟨List.set x56 (Int.toNat (0 : Int)) 0, ([0] : List Int), 0, (some ⟨g73, 0, none⟩), (List.length ([0] : List Int)), E.pick _ ⟨rfl, rfl, rfl, rfl, trivial⟩, H.sel [0, 1, 2] rfl, hL232⟩
  clear E H hL232; intro m235 a w234 hI_
  obtain ⟨out148, queue149, i152, A150, c151, E, H, hP⟩ := hI_
  obtain ⟨m230, rfl⟩ : ∃ q_, m235 = q_ + 1 := by cases m235 with | zero => rw [lang_Reach_l1] at hP; cases hP | succ q_ => exact ⟨q_, rfl⟩
  rw [lang_Reach_l1] at hP
  refine wp_seq ?_
  refine wp_seq ?_
  refine wp_region_lit ?_
  refine vn tbok 4 [] [(38, .bool (decide (i152 < (((List.length queue149) : Nat) : Int))))] [] E (by kernel_rfl) (by kernel_rfl) trivial ?_
  clear E; intro a E
  refine wpList_nil ?_
  refine th_n ?_
  refine E.cases (t := 38) rfl (fun hb_ E_ => ?_) (fun hb_ E_ => ?_)
  ·
   replace E := E_; clear E_
   have h237 : i152 < (((List.length queue149) : Nat) : Int) := of_decide_eq_true hb_
   clear hb_; replace hP := ite_t h237 hP
   refine c_true E rfl ?_
   refine wp_skip ?_
   refine th_n ?_
   refine wp_seq ?_
   refine wp_block ?_
   refine wp_seq ?_
   refine wp_region_lit ?_
   obtain ⟨g238, hP⟩ := ask_inv hP
   obtain ⟨b239, e_b239⟩ := H.raddr 2 rfl (idx_pos g238)
   subst e_b239
   obtain ⟨g241, hP⟩ := ask_inv hP
   obtain ⟨b242, e_b242⟩ := H.raddr 0 rfl (idx_pos g241)
   subst e_b242
   obtain ⟨A244, c245, hl246, hk247, H⟩ := H.subSl 0 true (el_row rfl) g241
   try dsimp only [addE] at H
   refine vn tbok 9 [.int .i64 (List.getD queue149 (Int.toNat i152) 0), .slice A244 (List.length (List.getD r18.1 (Int.toNat (List.getD queue149 (Int.toNat i152) 0)) [])) c245] [(47, .slice A244 (List.length (List.getD r18.1 (Int.toNat (List.getD queue149 (Int.toNat i152) 0)) [])) c245), (48, .int .i64 (((List.length (List.getD r18.1 (Int.toNat (List.getD queue149 (Int.toNat i152) 0)) [])) : Nat) : Int)), (49, .int .i64 0)] [0 ≤ i152 ∧ i152 < (((List.length queue149) : Nat) : Int), World.cell? w234 ⟨b239, 0 + (Int.toNat i152) * 1, none⟩ = some (.int .i64 (List.getD queue149 (Int.toNat i152) 0)), 0 ≤ (List.getD queue149 (Int.toNat i152) 0) ∧ (List.getD queue149 (Int.toNat i152) 0) < (((List.length r18.1) : Nat) : Int), World.cell? w234 ⟨b242, 0 + (Int.toNat (List.getD queue149 (Int.toNat i152) 0)) * 1, none⟩ = some (.slice A244 (List.length (List.getD r18.1 (Int.toNat (List.getD queue149 (Int.toNat i152) 0)) [])) c245)] E (by kernel_rfl) (by kernel_rfl) ⟨g238, Rds.at1 (H.rd 2 rds_row) 0 g238, g241, hl246⟩ ?_
   clear E; intro a E
   refine wpList_nil ?_
   refine th_n ?_
   refine wp_block ?_
   obtain ⟨x312, hL313, hK314⟩ := bind_inv hP
   clear hP
   refine loop_cut (fun i_ a w_ => (i_ = 4 ∧ ∃ (x317 : (List Int) × (List Int)), ∃ (A309 : Option Addr) (c310 : Nat), Fr a 75 [(4, .slice (some ⟨b242, 0, none⟩) (List.length r18.1) c28), (6, .slice (some ⟨g34, 0, none⟩) (List.length x317.1) (Int.toNat (((List.length r18.1) : Nat) : Int))), (8, .slice A309 (List.length x317.2) c310), (9, .int .i64 i152)] ∧ Hp S Fa w0 w_ [.row true (cSl (cInt .i64)) 23 (some ⟨b242, 0, none⟩) c28 r18.1, .rowx true (cInt .i64) 3 (some ⟨g34, 0, none⟩) (Int.toNat (((List.length r18.1) : Nat) : Int)) x317.1 (List.replicate (Int.toNat (((List.length r18.1) : Nat) : Int) - Int.toNat (((List.length r18.1) : Nat) : Int)) (0 : Int)), .row true (cInt .i64) 3 A309 c310 x317.2] ∧ x312 = x317)) ?_ ?_
   ·
    refine loopV (fun m316 a w315 => ∃ (out273 : List Int) (queue274 : List Int) (x277 : Int), ∃ (A275 : Option Addr) (c276 : Nat), Fr a 75 [(4, .slice (some ⟨b242, 0, none⟩) (List.length r18.1) c28), (6, .slice (some ⟨g34, 0, none⟩) (List.length out273) (Int.toNat (((List.length r18.1) : Nat) : Int))), (8, .slice A275 (List.length queue274) c276), (9, .int .i64 i152), (47, .slice A244 (List.length (List.getD r18.1 (Int.toNat (List.getD queue149 (Int.toNat i152) 0)) [])) c245), (48, .int .i64 (((List.length (List.getD r18.1 (Int.toNat (List.getD queue149 (Int.toNat i152) 0)) [])) : Nat) : Int)), (49, .int .i64 x277)] ∧ Hp S Fa w0 w315 [.row true (cSl (cInt .i64)) 23 (some ⟨b242, 0, none⟩) c28 r18.1, .rowx true (cInt .i64) 3 (some ⟨g34, 0, none⟩) (Int.toNat (((List.length r18.1) : Nat) : Int)) out273 (List.replicate (Int.toNat (((List.length r18.1) : Nat) : Int) - Int.toNat (((List.length r18.1) : Nat) : Int)) (0 : Int)), .row true (cInt .i64) 3 A275 c276 queue274, .ro true (cInt .i64) A244 (List.getD r18.1 (Int.toNat (List.getD queue149 (Int.toNat i152) 0)) [])] ∧ lang_Reach_l2 N r18 queue149 i152 m316 out273 queue274 x277 = some x312) N ?_ ?_
    ·
     exact ⟨out148, queue149, 0, (some ⟨b239, 0, none⟩), c151, E.pick _ ⟨rfl, rfl, rfl, rfl, rfl, rfl, rfl, trivial⟩, H.sel [0, 1, 2, 3] rfl, hL313⟩
    clear E H hL313; intro m316 a w315 hI_
    obtain ⟨out273, queue274, x277, A275, c276, E, H, hP⟩ := hI_
    obtain ⟨m311, rfl⟩ : ∃ q_, m316 = q_ + 1 := by cases m316 with | zero => rw [lang_Reach_l2] at hP; cases hP | succ q_ => exact ⟨q_, rfl⟩
    rw [lang_Reach_l2] at hP
    refine wp_seq ?_
    refine wp_region_lit ?_
    refine vn tbok 1 [] [(50, .bool (decide (x277 < (((List.length (List.getD r18.1 (Int.toNat (List.getD queue149 (Int.toNat i152) 0)) [])) : Nat) : Int))))] [] E (by kernel_rfl) (by kernel_rfl) trivial ?_
    clear E; intro a E
    refine wpList_nil ?_
    refine th_n ?_
    refine wp_seq ?_
    refine E.cases (t := 50) rfl (fun hb_ E_ => ?_) (fun hb_ E_ => ?_)
    ·
     replace E := E_; clear E_
     have h318 : x277 < (((List.length (List.getD r18.1 (Int.toNat (List.getD queue149 (Int.toNat i152) 0)) [])) : Nat) : Int) := of_decide_eq_true hb_
     clear hb_; replace hP := ite_t h318 hP
     refine c_true E rfl ?_
     refine wp_skip ?_
     refine th_n ?_
     refine wp_seq ?_
     refine wp_block ?_
     refine wp_seq ?_
     refine wp_region_lit ?_
     obtain ⟨g319, hP⟩ := ask_inv hP
     obtain ⟨b320, o321, e_b320⟩ := (H.rd 3 rds_ro).addr (idx_pos g319)
     subst e_b320
     refine vn tbok 3 [.int .i64 (List.getD (List.getD r18.1 (Int.toNat (List.getD queue149 (Int.toNat i152) 0)) []) (Int.toNat x277) 0)] [(11, .int .i64 (List.getD (List.getD r18.1 (Int.toNat (List.getD queue149 (Int.toNat i152) 0)) []) (Int.toNat x277) 0))] [0 ≤ x277 ∧ x277 < (((List.length (List.getD r18.1 (Int.toNat (List.getD queue149 (Int.toNat i152) 0)) [])) : Nat) : Int), World.cell? w315 ⟨b320, o321 + (Int.toNat x277) * 1, none⟩ = some (.int .i64 (List.getD (List.getD r18.1 (Int.toNat (List.getD queue149 (Int.toNat i152) 0)) []) (Int.toNat x277) 0))] E (by kernel_rfl) (by kernel_rfl) ⟨g319, Rds.at1 (H.rd 3 rds_ro) 0 g319⟩ ?_
     clear E; intro a E
     refine wpList_nil ?_
     refine th_n ?_
     refine wp_seq ?_
     refine wp_region_lit ?_
     obtain ⟨g322, hP⟩ := ask_inv hP
     refine vn tbok 5 [.int .i64 (List.getD out273 (Int.toNat (List.getD (List.getD r18.1 (Int.toNat (List.getD queue149 (Int.toNat i152) 0)) []) (Int.toNat x277) 0)) 0)] [(57, .bool (decide ((List.getD out273 (Int.toNat (List.getD (List.getD r18.1 (Int.toNat (List.getD queue149 (Int.toNat i152) 0)) []) (Int.toNat x277) 0)) 0) < 0)))] [0 ≤ (List.getD (List.getD r18.1 (Int.toNat (List.getD queue149 (Int.toNat i152) 0)) []) (Int.toNat x277) 0) ∧ (List.getD (List.getD r18.1 (Int.toNat (List.getD queue149 (Int.toNat i152) 0)) []) (Int.toNat x277) 0) < (((List.length out273) : Nat) : Int), World.cell? w315 ⟨g34, 0 + (Int.toNat (List.getD (List.getD r18.1 (Int.toNat (List.getD queue149 (Int.toNat i152) 0)) []) (Int.toNat x277) 0)) * 1, none⟩ = some (.int .i64 (List.getD out273 (Int.toNat (List.getD (List.getD r18.1 (Int.toNat (List.getD queue149 (Int.toNat i152) 0)) []) (Int.toNat x277) 0)) 0))] E (by kernel_rfl) (by kernel_rfl) ⟨g322, Rds.at1 (H.rd 1 rds_rowx) 0 g322⟩ ?_
     clear E; intro a E
     refine wpList_nil ?_
     refine th_n ?_
     refine E.cases (t := 57) rfl (fun hb_ E_ => ?_) (fun hb_ E_ => ?_)
     ·
      replace E := E_; clear E_
      have h323 : (List.getD out273 (Int.toNat (List.getD (List.getD r18.1 (Int.toNat (List.getD queue149 (Int.toNat i152) 0)) []) (Int.toNat x277) 0)) 0) < 0 := of_decide_eq_true hb_
      clear hb_; replace hP := ite_t h323 hP
      refine c_true E rfl ?_
      refine wp_seq ?_
      refine wp_region_lit ?_
      obtain ⟨g324, hP⟩ := ask_inv hP
      obtain ⟨b325, e_b325⟩ := H.raddr 2 rfl (idx_pos g324)
      subst e_b325
      obtain ⟨g327, hP⟩ := ask_inv hP
      obtain ⟨g328, hP⟩ := ask_inv hP
      refine vn tbok 11 [.int .i64 (List.getD queue274 (Int.toNat i152) 0), .int .i64 (List.getD out273 (Int.toNat (List.getD queue274 (Int.toNat i152) 0)) 0), .int .i64 ((List.getD out273 (Int.toNat (List.getD queue274 (Int.toNat i152) 0)) 0) + 1)] [(67, .int .i64 ((List.getD out273 (Int.toNat (List.getD queue274 (Int.toNat i152) 0)) 0) + 1)), (68, .pointer (some ⟨g34, 0 + (Int.toNat (List.getD (List.getD r18.1 (Int.toNat (List.getD queue149 (Int.toNat i152) 0)) []) (Int.toNat x277) 0)) * 1, none⟩))] [0 ≤ i152 ∧ i152 < (((List.length queue274) : Nat) : Int), World.cell? w315 ⟨b325, 0 + (Int.toNat i152) * 1, none⟩ = some (.int .i64 (List.getD queue274 (Int.toNat i152) 0)), 0 ≤ (List.getD queue274 (Int.toNat i152) 0) ∧ (List.getD queue274 (Int.toNat i152) 0) < (((List.length out273) : Nat) : Int), World.cell? w315 ⟨g34, 0 + (Int.toNat (List.getD queue274 (Int.toNat i152) 0)) * 1, none⟩ = some (.int .i64 (List.getD out273 (Int.toNat (List.getD queue274 (Int.toNat i152) 0)) 0)), IntKind.i64.wrap ((List.getD out273 (Int.toNat (List.getD queue274 (Int.toNat i152) 0)) 0) + 1) = (List.getD out273 (Int.toNat (List.getD queue274 (Int.toNat i152) 0)) 0) + 1, 0 ≤ (List.getD (List.getD r18.1 (Int.toNat (List.getD queue149 (Int.toNat i152) 0)) []) (Int.toNat x277) 0) ∧ (List.getD (List.getD r18.1 (Int.toNat (List.getD queue149 (Int.toNat i152) 0)) []) (Int.toNat x277) 0) < (((List.length out273) : Nat) : Int)] E (by kernel_rfl) (by kernel_rfl) ⟨g324, Rds.at1 (H.rd 2 rds_row) 0 g324, g327, Rds.at1 (H.rd 1 rds_rowx) 0 g327, wrap_in g328, g322⟩ ?_
      clear E; intro a E
      refine h_setx (g := g34) (i := (List.getD (List.getD r18.1 (Int.toNat (List.getD queue149 (Int.toNat i152) 0)) []) (Int.toNat x277) 0)) ((List.getD out273 (Int.toNat (List.getD queue274 (Int.toNat i152) 0)) 0) + 1) H 1 rfl E rfl rfl rfl rfl tbok rfl (fun _ HF_ => rfl) rfl g322 rfl ?_
      clear E; intro w329 a hc330 H_ E
      replace H := H_; clear H_; try dsimp only [setn, addE, goneL] at H
      have hn331 : (List.length out273) = (List.length (List.set out273 (Int.toNat (List.getD (List.getD r18.1 (Int.toNat (List.getD queue149 (Int.toNat i152) 0)) []) (Int.toNat x277) 0)) ((List.getD out273 (Int.toNat (List.getD queue274 (Int.toNat i152) 0)) 0) + 1))) := by simp only [List.length_set]
      replace E := E.same (t := 6) (u := .slice (some ⟨g34, 0, none⟩) (List.length (List.set out273 (Int.toNat (List.getD (List.getD r18.1 (Int.toNat (List.getD queue149 (Int.toNat i152) 0)) []) (Int.toNat x277) 0)) ((List.getD out273 (Int.toNat (List.getD queue274 (Int.toNat i152) 0)) 0) + 1))) (Int.toNat (((List.length r18.1) : Nat) : Int))) rfl (congrArg (fun n_ => Value.slice (some ⟨g34, 0, none⟩) n_ (Int.toNat (((List.length r18.1) : Nat) : Int))) hn331)
      refine wpList_nil ?_
      refine th_n ?_
      refine wp_region_lit ?_
      refine vn tbok 2 [] [(69, .slice (some ⟨b325, 0, none⟩) (List.length queue274) c276), (70, .int .i64 (List.getD (List.getD r18.1 (Int.toNat (List.getD queue149 (Int.toNat i152) 0)) []) (Int.toNat x277) 0))] [] E (by kernel_rfl) (by kernel_rfl) trivial ?_
      clear E; intro a E
      refine h_buildSlice (ps := [(0, .int .i64 (List.getD (List.getD r18.1 (Int.toNat (List.getD queue149 (Int.toNat i152) 0)) []) (Int.toNat x277) 0))]) (cs := [.int .i64 (List.getD (List.getD r18.1 (Int.toNat (List.getD queue149 (Int.toNat i152) 0)) []) (Int.toNat x277) 0)]) H E rfl rfl tbok rfl rfl (by kernel_rfl) ?_
      intro w333 g332 a hc334 hg336 H_ E_
      replace E := E_ _ rfl; clear E_
      replace H := H_; clear H_; try dsimp only [setn, addE, goneL] at H
      obtain ⟨g337, hP⟩ := ask_inv hP
      refine h_append (cInt .i64) (xs := queue274) (ys := ([(List.getD (List.getD r18.1 (Int.toNat (List.getD queue149 (Int.toNat i152) 0)) []) (Int.toNat x277) 0)] : List Int)) (0 : Int) H 2 rfl E rfl rfl tbok rfl rfl rfl rfl rfl (fun _ _ => rfl) rfl rfl (fun _ HF_ => HF_.srcB 4 rfl (⟨_, _, rfl, rfl, rfl⟩)) g337 ?_
      intro w338 A339 c340 a hc341 hA342 H_ E_
      replace E := E_ _ rfl; clear E_
      replace H := H_; clear H_; try dsimp only [setn, addE, goneL] at H
      refine vn tbok 1 [] [(8, .slice A339 (List.length (queue274 ++ ([(List.getD (List.getD r18.1 (Int.toNat (List.getD queue149 (Int.toNat i152) 0)) []) (Int.toNat x277) 0)] : List Int))) c340)] [] E (by kernel_rfl) (by kernel_rfl) trivial ?_
      clear E; intro a E
      refine wpList_nil ?_
      refine bl_n ?_
      refine th_n ?_
      refine wp_region_lit ?_
      obtain ⟨g343, hP⟩ := ask_inv hP
      refine vn tbok 2 [.int .i64 (x277 + 1)] [(49, .int .i64 (x277 + 1))] [IntKind.i64.wrap (x277 + 1) = x277 + 1] E (by kernel_rfl) (by kernel_rfl) (wrap_in g343) ?_
      clear E; intro a E
      refine wpList_nil ?_
      exact th_n ⟨m311, Nat.lt_succ_self _, List.set out273 (Int.toNat (List.getD (List.getD r18.1 (Int.toNat (List.getD queue149 (Int.toNat i152) 0)) []) (Int.toNat x277) 0)) ((List.getD out273 (Int.toNat (List.getD queue274 (Int.toNat i152) 0)) 0) + 1), queue274 ++ ([(List.getD (List.getD r18.1 (Int.toNat (List.getD queue149 (Int.toNat i152) 0)) []) (Int.toNat x277) 0)] : List Int), x277 + 1, A339, c340, E.pick _ ⟨rfl, rfl, rfl, rfl, rfl, rfl, rfl, trivial⟩, H.sel [0, 1, 2, 3] rfl, hP⟩
     replace E := E_; clear E_
     have h344 : ¬ ((List.getD out273 (Int.toNat (List.getD (List.getD r18.1 (Int.toNat (List.getD queue149 (Int.toNat i152) 0)) []) (Int.toNat x277) 0)) 0) < 0) := of_decide_eq_false hb_
     clear hb_; replace hP := ite_f h344 hP
     refine c_false E rfl ?_
     refine wp_skip ?_
     refine bl_n ?_
     refine th_n ?_
     refine wp_region_lit ?_
     obtain ⟨g345, hP⟩ := ask_inv hP
     refine vn tbok 2 [.int .i64 (x277 + 1)] [(49, .int .i64 (x277 + 1))] [IntKind.i64.wrap (x277 + 1) = x277 + 1] E (by kernel_rfl) (by kernel_rfl) (wrap_in g345) ?_
     clear E; intro a E
     refine wpList_nil ?_
     exact th_n ⟨m311, Nat.lt_succ_self _, out273, queue274, x277 + 1, A275, c276, E.pick _ ⟨rfl, rfl, rfl, rfl, rfl, rfl, rfl, trivial⟩, H.sel [0, 1, 2, 3] rfl, hP⟩
    replace E := E_; clear E_
    have h346 : ¬ (x277 < (((List.length (List.getD r18.1 (Int.toNat (List.getD queue149 (Int.toNat i152) 0)) [])) : Nat) : Int)) := of_decide_eq_false hb_
    clear hb_; replace hP := ite_f h346 hP
    refine c_false E rfl ?_
    refine wp_exit ?_
    refine th_exit ?_
    have hx_ := Option.some.inj hP
    refine th_exit (.inl ⟨4, rfl, ?_⟩)
    exact ⟨rfl, (out273, queue274), A275, c276, E.pick _ ⟨rfl, rfl, rfl, rfl, trivial⟩, H.sel [0, 1, 2] rfl, hx_.symm⟩
   clear E H hL313; intro i_ a w315 hM_
   obtain ⟨rfl, x317, A309, c310, E, H, hx_⟩ := hM_
   subst hx_; have hP := hK314; clear hK314
   refine bl_hit ?_
   refine bl_n ?_
   refine th_n ?_
   refine wp_region_lit ?_
   obtain ⟨g347, hP⟩ := ask_inv hP
   refine vn tbok 3 [.int .i64 (i152 + 1)] [(9, .int .i64 (i152 + 1))] [IntKind.i64.wrap (i152 + 1) = i152 + 1] E (by kernel_rfl) (by kernel_rfl) (wrap_in g347) ?_
   clear E; intro a E
   refine wpList_nil ?_
   exact th_n ⟨m230, Nat.lt_succ_self _, x312.1, x312.2, i152 + 1, A309, c310, E.pick _ ⟨rfl, rfl, rfl, rfl, trivial⟩, H.sel [0, 1, 2] rfl, hP⟩
  replace E := E_; clear E_
  have h348 : ¬ (i152 < (((List.length queue149) : Nat) : Int)) := of_decide_eq_false hb_
  clear hb_; replace hP := ite_f h348 hP
  refine c_false E rfl ?_
  refine wp_exit ?_
  refine th_exit ?_
  have hx_ := Option.some.inj hP
  refine th_exit (.inl ⟨2, rfl, ?_⟩)
  exact ⟨rfl, out148, E.pick _ ⟨rfl, trivial⟩, H.sel [1] rfl, hx_.symm⟩
 clear E H hL232; intro i_ a w234 hM_
 obtain ⟨rfl, x236, E, H, hx_⟩ := hM_
 subst hx_; have hP := hK233; clear hK233
 refine bl_hit ?_
 refine th_n ?_
 refine wp_seq ?_
 refine wp_region_lit ?_
 refine vn tbok 3 [] [(2, .slice (some ⟨g34, 0, none⟩) (List.length x231) (Int.toNat (((List.length r18.1) : Nat) : Int))), (3, .int .i64 0)] [] E (by kernel_rfl) (by kernel_rfl) trivial ?_
 clear E; intro a E
 refine wpList_nil ?_
 refine th_n ?_
 refine wp_ret ?_
 replace H := H.rowx 0 rfl; try dsimp only [setn, addE, goneL] at H
 obtain rfl := Option.some.inj hP
 refine ret2 E rfl rfl rfl ?_
 exact ⟨_, rfl, (some ⟨g34, 0, none⟩), (Int.toNat (((List.length r18.1) : Nat) : Int)), rfl, H.sel [0] rfl⟩

end Go.V
