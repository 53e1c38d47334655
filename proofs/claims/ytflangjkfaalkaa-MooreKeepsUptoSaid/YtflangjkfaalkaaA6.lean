/- Plain functions, and the calls that give them. -/
import Derived.Test.YtflangjkfaalkaaA5
set_option linter.all false
set_option linter.unusedVariables false
set_option linter.unnecessarySimpa false
set_option linter.unusedSimpArgs false
namespace Go.V
open Go Go.Proofs
/-! (*rejoinder/moore.game).keeps -/
def moore_game_keeps_l0 (N : Nat) (g : (Int × (List Bool) × (List Int) × (List Nd)) × (Int × Int) × (List Int) × (List Int)) (xRanks : List Int) (xReply : List (List Int)) (q : Int) : Nat → Int → Option (Unit ⊕ Bool)
  | 0, _ => none
  | m432 + 1, x346 =>
    if x346 < (((List.length g.2.2.1) : Nat) : Int) then
      ask (idx x346 (List.length g.2.2.1)) <|
      ask (idx x346 (List.length (List.getD xReply (Int.toNat q) []))) <|
      if (andNotV .u8 (List.getD (List.getD xReply (Int.toNat q) []) (Int.toNat x346) 0) g.2.1.1 : Int) = 0 then
        Option.bind (moore_game_to N g q (orV .u8 (List.getD g.2.2.1 (Int.toNat x346) 0) (List.getD (List.getD xReply (Int.toNat q) []) (Int.toNat x346) 0))) fun r495 =>
        ask (idx r495 (List.length xRanks)) <|
        if ((List.getD xRanks (Int.toNat r495) 0) : Int) = -1 then
          ask (in64 (x346 + 1)) <|
          moore_game_keeps_l0 N g xRanks xReply q m432 (x346 + 1)
        else
          some (Sum.inr false)
      else
        some (Sum.inr false)
    else
      some (Sum.inl ())
def moore_game_keeps_l1 (N : Nat) (g : (Int × (List Bool) × (List Int) × (List Nd)) × (Int × Int) × (List Int) × (List Int)) (xRanks : List Int) (xReply : List (List Int)) (q : Int) : Nat → Int → Option (Unit ⊕ Bool)
  | 0, _ => none
  | m871 + 1, x785 =>
    if x785 < (((List.length g.2.2.1) : Nat) : Int) then
      ask (idx x785 (List.length g.2.2.1)) <|
      ask (idx x785 (List.length (List.getD xReply (Int.toNat q) []))) <|
      if (andNotV .u8 (List.getD (List.getD xReply (Int.toNat q) []) (Int.toNat x785) 0) g.2.1.1 : Int) = 0 then
        Option.bind (moore_game_to N g q (orV .u8 (List.getD g.2.2.1 (Int.toNat x785) 0) (List.getD (List.getD xReply (Int.toNat q) []) (Int.toNat x785) 0))) fun r934 =>
        ask (idx r934 (List.length xRanks)) <|
        if ((List.getD xRanks (Int.toNat r934) 0) : Int) = -1 then
          ask (in64 (x785 + 1)) <|
          moore_game_keeps_l1 N g xRanks xReply q m871 (x785 + 1)
        else
          some (Sum.inr false)
      else
        some (Sum.inr false)
    else
      some (Sum.inl ())
def moore_game_keeps_l2 (N : Nat) (g : (Int × (List Bool) × (List Int) × (List Nd)) × (Int × Int) × (List Int) × (List Int)) (xRanks : List Int) (xReply : List (List Int)) (q : Int) : Nat → Int → Option (Unit ⊕ Bool)
  | 0, _ => none
  | m1316 + 1, x1230 =>
    if x1230 < (((List.length g.2.2.1) : Nat) : Int) then
      ask (idx x1230 (List.length g.2.2.1)) <|
      ask (idx x1230 (List.length (List.getD xReply (Int.toNat q) []))) <|
      if (andNotV .u8 (List.getD (List.getD xReply (Int.toNat q) []) (Int.toNat x1230) 0) g.2.1.1 : Int) = 0 then
        Option.bind (moore_game_to N g q (orV .u8 (List.getD g.2.2.1 (Int.toNat x1230) 0) (List.getD (List.getD xReply (Int.toNat q) []) (Int.toNat x1230) 0))) fun r1379 =>
        ask (idx r1379 (List.length xRanks)) <|
        if ((List.getD xRanks (Int.toNat r1379) 0) : Int) = -1 then
          ask (in64 (x1230 + 1)) <|
          moore_game_keeps_l2 N g xRanks xReply q m1316 (x1230 + 1)
        else
          some (Sum.inr false)
      else
        some (Sum.inr false)
    else
      some (Sum.inl ())
def moore_game_keeps_l3 (N : Nat) (g : (Int × (List Bool) × (List Int) × (List Nd)) × (Int × Int) × (List Int) × (List Int)) (xRanks : List Int) (xReply : List (List Int)) (q : Int) : Nat → Int → Option (Unit ⊕ Bool)
  | 0, _ => none
  | m1758 + 1, x1672 =>
    if x1672 < (((List.length g.2.2.1) : Nat) : Int) then
      ask (idx x1672 (List.length g.2.2.1)) <|
      ask (idx x1672 (List.length (List.getD xReply (Int.toNat q) []))) <|
      if (andNotV .u8 (List.getD (List.getD xReply (Int.toNat q) []) (Int.toNat x1672) 0) g.2.1.1 : Int) = 0 then
        Option.bind (moore_game_to N g q (orV .u8 (List.getD g.2.2.1 (Int.toNat x1672) 0) (List.getD (List.getD xReply (Int.toNat q) []) (Int.toNat x1672) 0))) fun r1821 =>
        ask (idx r1821 (List.length xRanks)) <|
        if ((List.getD xRanks (Int.toNat r1821) 0) : Int) = -1 then
          ask (in64 (x1672 + 1)) <|
          moore_game_keeps_l3 N g xRanks xReply q m1758 (x1672 + 1)
        else
          some (Sum.inr false)
      else
        some (Sum.inr false)
    else
      some (Sum.inl ())
def moore_game_keeps (N : Nat) (g : (Int × (List Bool) × (List Int) × (List Nd)) × (Int × Int) × (List Int) × (List Int)) (xWins : Bool) (xRanks : List Int) (xChoice : List Int) (xReply : List (List Int)) (q : Int) : Option Bool :=
  ask (idx q (List.length xRanks)) <|
  ask (idx q (List.length g.1.2.1)) <|
  if (((List.getD xRanks (Int.toNat q) 0) : Int) == 0) = (List.getD g.1.2.1 (Int.toNat q) false) then
    if (List.getD xRanks (Int.toNat q) 0) < (-1) then
      some false
    else
      if 0 ≤ (List.getD xRanks (Int.toNat q) 0) then
        ask (idx q (List.length xReply)) <|
        if ((((List.length (List.getD xReply (Int.toNat q) [])) : Nat) : Int) : Int) = 0 then
          if (List.getD xRanks (Int.toNat q) 0) ≤ 0 then
            ask (idx q (List.length xChoice)) <|
            if ((List.getD xChoice (Int.toNat q) 0) : Int) = 0 then
              if 0 < (List.getD xRanks (Int.toNat q) 0) then
                if (andNotV .u8 (List.getD xChoice (Int.toNat q) 0) g.2.1.2 : Int) = 0 then
                  Option.bind (moore_game_worst N g xRanks q (List.getD xChoice (Int.toNat q) 0)) fun r140 =>
                  if 0 ≤ r140 then
                    some (decide (r140 < (List.getD xRanks (Int.toNat q) 0)))
                  else
                    some false
                else
                  some false
              else
                if (List.getD xRanks (Int.toNat q) 0) < 0 then
                  if ((((List.length (List.getD xReply (Int.toNat q) [])) : Nat) : Int) : Int) = (((List.length g.2.2.1) : Nat) : Int) then
                    Option.bind (moore_game_keeps_l0 N g xRanks xReply q N 0) fun x433 =>
                    Sum.elim (fun x438 =>
                      some true)
                     (fun x524 =>
                      some x524) x433
                  else
                    some false
                else
                  some true
            else
              some false
          else
            if 0 < (List.getD xRanks (Int.toNat q) 0) then
              ask (idx q (List.length xChoice)) <|
              if (andNotV .u8 (List.getD xChoice (Int.toNat q) 0) g.2.1.2 : Int) = 0 then
                Option.bind (moore_game_worst N g xRanks q (List.getD xChoice (Int.toNat q) 0)) fun r579 =>
                if 0 ≤ r579 then
                  some (decide (r579 < (List.getD xRanks (Int.toNat q) 0)))
                else
                  some false
              else
                some false
            else
              if (List.getD xRanks (Int.toNat q) 0) < 0 then
                if ((((List.length (List.getD xReply (Int.toNat q) [])) : Nat) : Int) : Int) = (((List.length g.2.2.1) : Nat) : Int) then
                  Option.bind (moore_game_keeps_l1 N g xRanks xReply q N 0) fun x872 =>
                  Sum.elim (fun x877 =>
                    some true)
                   (fun x963 =>
                    some x963) x872
                else
                  some false
              else
                some true
        else
          some false
      else
        if (List.getD xRanks (Int.toNat q) 0) ≤ 0 then
          ask (idx q (List.length xChoice)) <|
          if ((List.getD xChoice (Int.toNat q) 0) : Int) = 0 then
            if 0 < (List.getD xRanks (Int.toNat q) 0) then
              if (andNotV .u8 (List.getD xChoice (Int.toNat q) 0) g.2.1.2 : Int) = 0 then
                Option.bind (moore_game_worst N g xRanks q (List.getD xChoice (Int.toNat q) 0)) fun r1021 =>
                if 0 ≤ r1021 then
                  some (decide (r1021 < (List.getD xRanks (Int.toNat q) 0)))
                else
                  some false
              else
                some false
            else
              if (List.getD xRanks (Int.toNat q) 0) < 0 then
                ask (idx q (List.length xReply)) <|
                if ((((List.length (List.getD xReply (Int.toNat q) [])) : Nat) : Int) : Int) = (((List.length g.2.2.1) : Nat) : Int) then
                  Option.bind (moore_game_keeps_l2 N g xRanks xReply q N 0) fun x1317 =>
                  Sum.elim (fun x1322 =>
                    some true)
                   (fun x1408 =>
                    some x1408) x1317
                else
                  some false
              else
                some true
          else
            some false
        else
          if 0 < (List.getD xRanks (Int.toNat q) 0) then
            ask (idx q (List.length xChoice)) <|
            if (andNotV .u8 (List.getD xChoice (Int.toNat q) 0) g.2.1.2 : Int) = 0 then
              Option.bind (moore_game_worst N g xRanks q (List.getD xChoice (Int.toNat q) 0)) fun r1463 =>
              if 0 ≤ r1463 then
                some (decide (r1463 < (List.getD xRanks (Int.toNat q) 0)))
              else
                some false
            else
              some false
          else
            if (List.getD xRanks (Int.toNat q) 0) < 0 then
              ask (idx q (List.length xReply)) <|
              if ((((List.length (List.getD xReply (Int.toNat q) [])) : Nat) : Int) : Int) = (((List.length g.2.2.1) : Nat) : Int) then
                Option.bind (moore_game_keeps_l3 N g xRanks xReply q N 0) fun x1759 =>
                Sum.elim (fun x1764 =>
                  some true)
                 (fun x1850 =>
                  some x1850) x1759
              else
                some false
            else
              some true
  else
    some false
set_option maxRecDepth 100000 in
set_option maxHeartbeats 4000000 in
theorem moore_game_keeps_calls {N : Nat} {S Fa : Nat → Prop} {w0 : World} {r : Bool} (b1 : Nat) (o2 : Nat) (A4 : Option Addr) (c5 : Nat) (A8 : Option Addr) (c9 : Nat) (A12 : Option Addr) (c13 : Nat) (g : (Int × (List Bool) × (List Int) × (List Nd)) × (Int × Int) × (List Int) × (List Int)) (xWins : Bool) (xRanks : List Int) (xChoice : List Int) (xReply : List (List Int)) (q : Int) (hk6 : List.length xRanks ≤ c5) (hk10 : List.length xChoice ≤ c9) (hk14 : List.length xReply ≤ c13) (H : Hp S Fa w0 w0 [.ro false cS87 (some ⟨b1, o2, none⟩) ([g]), .ro false (cInt .i64) A4 xRanks, .ro false (cInt .u8) A8 xChoice, .ro false (cSl (cInt .u8)) A12 xReply]) (hP : moore_game_keeps N g xWins xRanks xChoice xReply q = some r) :
    Calls Try.prog 70 #[.pointer (some ⟨b1, o2, none⟩), .agg #[.bool xWins, .slice A4 (List.length xRanks) c5, .slice A8 (List.length xChoice) c9, .slice A12 (List.length xReply) c13], .int .i64 q] w0 fun e w' => ∃ v, e = .returned v ∧ v = .bool r ∧ Hp S Fa w0 w' [] := by
 refine enterV (n := 144) Try.func70 rfl rfl rfl ?_
 intro a E
 replace E := E.pick [(0, .pointer (some ⟨b1, o2, none⟩)), (1, .agg #[.bool xWins, .slice A4 (List.length xRanks) c5, .slice A8 (List.length xChoice) c9, .slice A12 (List.length xReply) c13]), (2, .int .i64 q)] ⟨rfl, rfl, rfl, trivial⟩
 rw [moore_game_keeps] at hP
 refine wp_seq ?_
 refine wp_region_lit ?_
 refine h_box H E rfl rfl rfl ?_
 intro w17 g16 a hc18 hg20 H_ E_
 replace E := E_ _ rfl; clear E_
 replace H := H_; clear H_; try dsimp only [setn, addE, goneL] at H
 refine vn tbok 1 [] [] [] E (by kernel_rfl) (by kernel_rfl) trivial ?_
 clear E; intro a E
 refine wpList_nil ?_
 refine th_n ?_
 refine wp_seq ?_
 refine wp_region_lit ?_
 obtain ⟨g21, hP⟩ := ask_inv hP
 obtain ⟨b22, o23, e_b22⟩ := (H.rd 1 rds_ro).addr (idx_pos g21)
 subst e_b22
 refine vn tbok 6 [.slice (some ⟨b22, o23, none⟩) (List.length xRanks) c5, .int .i64 (List.getD xRanks (Int.toNat q) 0)] [(7, .int .i64 (List.getD xRanks (Int.toNat q) 0))] [World.cell? w17 ⟨g16, 1, none⟩ = some (.slice (some ⟨b22, o23, none⟩) (List.length xRanks) c5), 0 ≤ q ∧ q < (((List.length xRanks) : Nat) : Int), World.cell? w17 ⟨b22, o23 + (Int.toNat q) * 1, none⟩ = some (.int .i64 (List.getD xRanks (Int.toNat q) 0))] E (by kernel_rfl) (by kernel_rfl) ⟨(H.box 4 rfl).cell (j := 1) rfl, g21, Rds.at1 (H.rd 1 rds_ro) 0 g21⟩ ?_
 clear E; intro a E
 refine wpList_nil ?_
 refine th_n ?_
 refine wp_seq ?_
 refine wp_seq ?_
 refine wp_region_lit ?_
 obtain ⟨Fz24, cs26, HF25, hK27, hc28⟩ := H.elem 0 false (el_ro rfl) g (idx_one _)
 obtain ⟨_, _, rfl, hK29, hK30⟩ := hK27
 obtain ⟨_, _, rfl, hK31, hK32⟩ := hK29
 obtain rfl := hK31
 obtain ⟨_, _, rfl, hK33, hK34⟩ := hK32
 obtain ⟨A35, c36, rfl, hk37, hC38⟩ := hK33
 obtain ⟨_, _, rfl, hK40, hK41⟩ := hK34
 obtain ⟨A42, c43, rfl, hk44, hC45⟩ := hK40
 obtain ⟨A47, c48, rfl, hk49, hC50⟩ := hK41
 obtain ⟨_, _, rfl, hK52, hK53⟩ := hK30
 obtain rfl := hK52
 obtain ⟨_, _, rfl, hK54, hK55⟩ := hK53
 obtain ⟨A56, c57, rfl, hk58, hC59⟩ := hK54
 obtain ⟨A61, c62, rfl, hk63, hC64⟩ := hK55
 replace HF25 := HF25.ins hC38
 replace HF25 := HF25.ins hC45
 replace HF25 := HF25.ins hC50
 replace HF25 := HF25.ins hC59
 replace HF25 := HF25.ins hC64
 replace H := HF25.hp; try dsimp only [addE] at H
 have hc66 : cellsAt w17 b1 (o2) [.int .i64 g.1.1, .slice A35 (List.length g.1.2.1) c36, .slice A42 (List.length g.1.2.2.1) c43, .slice A47 (List.length g.1.2.2.2) c48, .int .u8 g.2.1.1, .int .u8 g.2.1.2, .slice A56 (List.length g.2.2.1) c57, .slice A61 (List.length g.2.2.2) c62] := hc28
 obtain ⟨g67, hP⟩ := ask_inv hP
 obtain ⟨b68, o69, e_b68⟩ := (H.rd 5 rds_ro).addr (idx_pos g67)
 subst e_b68
 refine vn tbok 12 [.slice (some ⟨b68, o69, none⟩) (List.length g.1.2.1) c36, .bool (List.getD g.1.2.1 (Int.toNat q) false)] [(28, .bool (!((((List.getD xRanks (Int.toNat q) 0) : Int) == 0) == (List.getD g.1.2.1 (Int.toNat q) false))))] [World.cell? w17 ⟨b1, o2 + 1, none⟩ = some (.slice (some ⟨b68, o69, none⟩) (List.length g.1.2.1) c36), 0 ≤ q ∧ q < (((List.length g.1.2.1) : Nat) : Int), World.cell? w17 ⟨b68, o69 + (Int.toNat q) * 1, none⟩ = some (.bool (List.getD g.1.2.1 (Int.toNat q) false))] E (by kernel_rfl) (by kernel_rfl) ⟨hc66.get 1 _ rfl, g67, Rds.at1 (H.rd 5 rds_ro) false g67⟩ ?_
 clear E; intro a E
 refine E.cases (t := 28) rfl (fun hb_ E_ => ?_) (fun hb_ E_ => ?_)
 ·
  replace E := E_; clear E_
  have h70 : ¬ ((((List.getD xRanks (Int.toNat q) 0) : Int) == 0) = (List.getD g.1.2.1 (Int.toNat q) false)) := (by simpa using hb_)
  clear hb_; replace hP := ite_f h70 hP
  refine vn tbok 28 [] [(56, .bool true)] [] E (by kernel_rfl) (by kernel_rfl) trivial ?_
  clear E; intro a E
  refine wpList_nil ?_
  refine th_n ?_
  refine c_true E rfl ?_
  refine wp_seq ?_
  refine wp_region_lit ?_
  refine vn tbok 1 [] [(6, .bool false)] [] E (by kernel_rfl) (by kernel_rfl) trivial ?_
  clear E; intro a E
  refine wpList_nil ?_
  refine th_n ?_
  refine wp_ret ?_
  refine th_ret ?_
  obtain rfl := Option.some.inj hP
  refine ret1 E rfl rfl ?_
  exact ⟨_, rfl, rfl, H.sel [] rfl⟩
 replace E := E_; clear E_
 have h71 : (((List.getD xRanks (Int.toNat q) 0) : Int) == 0) = (List.getD g.1.2.1 (Int.toNat q) false) := (by simpa using hb_)
 clear hb_; replace hP := ite_t h71 hP
 refine vn tbok 4 [] [(32, .bool (decide ((List.getD xRanks (Int.toNat q) 0) < (-1))))] [] E (by kernel_rfl) (by kernel_rfl) trivial ?_
 clear E; intro a E
 refine E.cases (t := 32) rfl (fun hb_ E_ => ?_) (fun hb_ E_ => ?_)
 ·
  replace E := E_; clear E_
  have h72 : (List.getD xRanks (Int.toNat q) 0) < (-1) := of_decide_eq_true hb_
  clear hb_; replace hP := ite_t h72 hP
  refine vn tbok 24 [] [(56, .bool true)] [] E (by kernel_rfl) (by kernel_rfl) trivial ?_
  clear E; intro a E
  refine wpList_nil ?_
  refine th_n ?_
  refine c_true E rfl ?_
  refine wp_seq ?_
  refine wp_region_lit ?_
  refine vn tbok 1 [] [(6, .bool false)] [] E (by kernel_rfl) (by kernel_rfl) trivial ?_
  clear E; intro a E
  refine wpList_nil ?_
  refine th_n ?_
  refine wp_ret ?_
  refine th_ret ?_
  obtain rfl := Option.some.inj hP
  refine ret1 E rfl rfl ?_
  exact ⟨_, rfl, rfl, H.sel [] rfl⟩
 replace E := E_; clear E_
 have h73 : ¬ ((List.getD xRanks (Int.toNat q) 0) < (-1)) := of_decide_eq_false hb_
 clear hb_; replace hP := ite_f h73 hP
 refine vn tbok 3 [] [(35, .bool (decide (0 ≤ (List.getD xRanks (Int.toNat q) 0))))] [] E (by kernel_rfl) (by kernel_rfl) trivial ?_
 clear E; intro a E
 refine E.cases (t := 35) rfl (fun hb_ E_ => ?_) (fun hb_ E_ => ?_)
 ·
  replace E := E_; clear E_
  have h74 : 0 ≤ (List.getD xRanks (Int.toNat q) 0) := of_decide_eq_true hb_
  clear hb_; replace hP := ite_t h74 hP
  obtain ⟨g75, hP⟩ := ask_inv hP
  obtain ⟨b76, o77, e_b76⟩ := (H.rd 3 rds_ro).addr (idx_pos g75)
  subst e_b76
  obtain ⟨A78, c79, hl80, hk81, H⟩ := H.subSl 3 false (el_ro rfl) g75
  try dsimp only [addE] at H
  refine vn tbok 10 [.slice (some ⟨b76, o77, none⟩) (List.length xReply) c13, .slice A78 (List.length (List.getD xReply (Int.toNat q) [])) c79] [(45, .bool (((((List.length (List.getD xReply (Int.toNat q) [])) : Nat) : Int) : Int) != 0))] [World.cell? w17 ⟨g16, 3, none⟩ = some (.slice (some ⟨b76, o77, none⟩) (List.length xReply) c13), 0 ≤ q ∧ q < (((List.length xReply) : Nat) : Int), World.cell? w17 ⟨b76, o77 + (Int.toNat q) * 1, none⟩ = some (.slice A78 (List.length (List.getD xReply (Int.toNat q) [])) c79)] E (by kernel_rfl) (by kernel_rfl) ⟨(H.box 4 rfl).cell (j := 3) rfl, g75, hl80⟩ ?_
  clear E; intro a E
  refine E.cases (t := 45) rfl (fun hb_ E_ => ?_) (fun hb_ E_ => ?_)
  ·
   replace E := E_; clear E_
   have h83 : ¬ (((((List.length (List.getD xReply (Int.toNat q) [])) : Nat) : Int) : Int) = 0) := bne_iff_ne.1 hb_
   clear hb_; replace hP := ite_f h83 hP
   refine vn tbok 11 [] [(56, .bool true)] [] E (by kernel_rfl) (by kernel_rfl) trivial ?_
   clear E; intro a E
   refine wpList_nil ?_
   refine th_n ?_
   refine c_true E rfl ?_
   refine wp_seq ?_
   refine wp_region_lit ?_
   refine vn tbok 1 [] [(6, .bool false)] [] E (by kernel_rfl) (by kernel_rfl) trivial ?_
   clear E; intro a E
   refine wpList_nil ?_
   refine th_n ?_
   refine wp_ret ?_
   refine th_ret ?_
   obtain rfl := Option.some.inj hP
   refine ret1 E rfl rfl ?_
   exact ⟨_, rfl, rfl, H.sel [] rfl⟩
  replace E := E_; clear E_
  have h84 : ((((List.length (List.getD xReply (Int.toNat q) [])) : Nat) : Int) : Int) = 0 := bne_eq_false_iff_eq.1 hb_
  clear hb_; replace hP := ite_t h84 hP
  refine vn tbok 3 [] [(48, .bool (decide ((List.getD xRanks (Int.toNat q) 0) ≤ 0)))] [] E (by kernel_rfl) (by kernel_rfl) trivial ?_
  clear E; intro a E
  refine E.cases (t := 48) rfl (fun hb_ E_ => ?_) (fun hb_ E_ => ?_)
  ·
   replace E := E_; clear E_
   have h85 : (List.getD xRanks (Int.toNat q) 0) ≤ 0 := of_decide_eq_true hb_
   clear hb_; replace hP := ite_t h85 hP
   obtain ⟨g86, hP⟩ := ask_inv hP
   obtain ⟨b87, o88, e_b87⟩ := (H.rd 2 rds_ro).addr (idx_pos g86)
   subst e_b87
   refine vn tbok 8 [.slice (some ⟨b87, o88, none⟩) (List.length xChoice) c9, .int .u8 (List.getD xChoice (Int.toNat q) 0)] [(56, .bool (((List.getD xChoice (Int.toNat q) 0) : Int) != 0))] [World.cell? w17 ⟨g16, 2, none⟩ = some (.slice (some ⟨b87, o88, none⟩) (List.length xChoice) c9), 0 ≤ q ∧ q < (((List.length xChoice) : Nat) : Int), World.cell? w17 ⟨b87, o88 + (Int.toNat q) * 1, none⟩ = some (.int .u8 (List.getD xChoice (Int.toNat q) 0))] E (by kernel_rfl) (by kernel_rfl) ⟨(H.box 4 rfl).cell (j := 2) rfl, g86, Rds.at1 (H.rd 2 rds_ro) 0 g86⟩ ?_
   clear E; intro a E
   refine wpList_nil ?_
   refine th_n ?_
   refine E.cases (t := 56) rfl (fun hb_ E_ => ?_) (fun hb_ E_ => ?_)
   ·
    replace E := E_; clear E_
    have h89 : ¬ (((List.getD xChoice (Int.toNat q) 0) : Int) = 0) := bne_iff_ne.1 hb_
    clear hb_; replace hP := ite_f h89 hP
    refine c_true E rfl ?_
    refine wp_seq ?_
    refine wp_region_lit ?_
    refine vn tbok 1 [] [(6, .bool false)] [] E (by kernel_rfl) (by kernel_rfl) trivial ?_
    clear E; intro a E
    refine wpList_nil ?_
    refine th_n ?_
    refine wp_ret ?_
    refine th_ret ?_
    obtain rfl := Option.some.inj hP
    refine ret1 E rfl rfl ?_
    exact ⟨_, rfl, rfl, H.sel [] rfl⟩
   replace E := E_; clear E_
   have h90 : ((List.getD xChoice (Int.toNat q) 0) : Int) = 0 := bne_eq_false_iff_eq.1 hb_
   clear hb_; replace hP := ite_t h90 hP
   refine c_false E rfl ?_
   refine wp_skip ?_
   refine th_n ?_
   refine wp_seq ?_
   refine wp_block ?_
   refine wp_seq ?_
   refine wp_region_lit ?_
   refine vn tbok 3 [] [(57, .bool (decide (0 < (List.getD xRanks (Int.toNat q) 0))))] [] E (by kernel_rfl) (by kernel_rfl) trivial ?_
   clear E; intro a E
   refine wpList_nil ?_
   refine th_n ?_
   refine E.cases (t := 57) rfl (fun hb_ E_ => ?_) (fun hb_ E_ => ?_)
   ·
    replace E := E_; clear E_
    have h91 : 0 < (List.getD xRanks (Int.toNat q) 0) := of_decide_eq_true hb_
    clear hb_; replace hP := ite_t h91 hP
    refine c_true E rfl ?_
    refine wp_seq ?_
    refine wp_region_lit ?_
    refine vn tbok 1 [] [(8, .int .i64 (-1))] [] E (by kernel_rfl) (by kernel_rfl) trivial ?_
    clear E; intro a E
    refine wpList_nil ?_
    refine th_n ?_
    refine wp_seq ?_
    refine wp_seq ?_
    obtain ⟨Fz92, cs94, HF93, hK95, hc96⟩ := H.elem 0 false (el_ro rfl) g (idx_one _)
    obtain ⟨_, _, rfl, hK97, hK98⟩ := hK95
    obtain ⟨_, _, rfl, hK99, hK100⟩ := hK97
    obtain rfl := hK99
    obtain ⟨_, _, rfl, hK101, hK102⟩ := hK100
    obtain ⟨A103, c104, rfl, hk105, hC106⟩ := hK101
    obtain ⟨_, _, rfl, hK108, hK109⟩ := hK102
    obtain ⟨A110, c111, rfl, hk112, hC113⟩ := hK108
    obtain ⟨A115, c116, rfl, hk117, hC118⟩ := hK109
    obtain ⟨_, _, rfl, hK120, hK121⟩ := hK98
    obtain rfl := hK120
    obtain ⟨_, _, rfl, hK122, hK123⟩ := hK121
    obtain ⟨A124, c125, rfl, hk126, hC127⟩ := hK122
    obtain ⟨A129, c130, rfl, hk131, hC132⟩ := hK123
    replace HF93 := HF93.ins hC106
    replace HF93 := HF93.ins hC113
    replace HF93 := HF93.ins hC118
    replace HF93 := HF93.ins hC127
    replace HF93 := HF93.ins hC132
    replace H := HF93.hp; try dsimp only [addE] at H
    have hc134 : cellsAt w17 b1 (o2) [.int .i64 g.1.1, .slice A103 (List.length g.1.2.1) c104, .slice A110 (List.length g.1.2.2.1) c111, .slice A115 (List.length g.1.2.2.2) c116, .int .u8 g.2.1.1, .int .u8 g.2.1.2, .slice A124 (List.length g.2.2.1) c125, .slice A129 (List.length g.2.2.2) c130] := hc96
    have HR138 := H
    refine dr_start (S := fun w_ => Chg (atL []) w17 w_) (by kernel_rfl) ?_
    intro w135 hc136
    have HS137 : Chg (atL []) w17 w135 := hc136.mono (fun _ _ h_ => h_.elim)
    replace H := H.ext hc136
    refine dn tbok (by kernel_rfl) [0, 1, 2, 3, 4, 5, 6, 7, 8, 9, 10, 11] [.slice (some ⟨b87, o88, none⟩) (List.length xChoice) c9, .int .u8 (List.getD xChoice (Int.toNat q) 0), .int .u8 g.2.1.2, .int .u8 (andNotV .u8 (List.getD xChoice (Int.toNat q) 0) g.2.1.2)] [(71, .bool ((andNotV .u8 (List.getD xChoice (Int.toNat q) 0) g.2.1.2 : Int) == 0))] (fun w_ => [World.cell? w_ ⟨g16, 2, none⟩ = some (.slice (some ⟨b87, o88, none⟩) (List.length xChoice) c9), 0 ≤ q ∧ q < (((List.length xChoice) : Nat) : Int), World.cell? w_ ⟨b87, o88 + (Int.toNat q) * 1, none⟩ = some (.int .u8 (List.getD xChoice (Int.toNat q) 0)), World.cell? w_ ⟨b1, o2 + 4 + 1, none⟩ = some (.int .u8 g.2.1.2), IntKind.u8.wrap (BitVec.ofInt (IntKind.bits .u8) (List.getD xChoice (Int.toNat q) 0) &&& ~~~ BitVec.ofInt (IntKind.bits .u8) g.2.1.2).toNat = andNotV .u8 (List.getD xChoice (Int.toNat q) 0) g.2.1.2]) 0 E (fun _ _ => by kernel_rfl) (by kernel_rfl) (fun w_ hS_ => ⟨(HR138.boxk [] hS_ 4 rfl rfl).cell (j := 2) rfl, g86, Rds.at1 (HR138.rdk [] hS_ 2 rds_ro rfl) 0 g86, hS_.cell (hc134.get 5 _ rfl) (HR138.blk [] 0 rds_ro (idx_pos (idx_one _)) rfl), rfl⟩) (by kernel_rfl) HS137 ?_
    clear E; intro a E
    refine dr_done (by kernel_rfl) ?_
    clear HS137 HR138
    refine th_n ?_
    refine E.cases (t := 71) rfl (fun hb_ E_ => ?_) (fun hb_ E_ => ?_)
    ·
     replace E := E_; clear E_
     have h139 : (andNotV .u8 (List.getD xChoice (Int.toNat q) 0) g.2.1.2 : Int) = 0 := eq_of_beq hb_
     clear hb_; replace hP := ite_t h139 hP
     refine c_true E rfl ?_
     obtain ⟨r140, h141, hP⟩ := bind_inv hP
     have HR152 := H
     refine dr_start (S := fun w_ => Chg (atL []) w135 w_) (by kernel_rfl) ?_
     intro w149 hc150
     have HS151 : Chg (atL []) w135 w149 := hc150.mono (fun _ _ h_ => h_.elim)
     replace H := H.ext hc150
     refine dn tbok (by kernel_rfl) [0, 1, 2, 3, 4, 5, 6, 7, 8] [.slice (some ⟨b22, o23, none⟩) (List.length xRanks) c5, .slice (some ⟨b87, o88, none⟩) (List.length xChoice) c9, .int .u8 (List.getD xChoice (Int.toNat q) 0)] [(72, .pointer (some ⟨b1, o2, none⟩)), (74, .slice (some ⟨b22, o23, none⟩) (List.length xRanks) c5), (75, .int .i64 q), (80, .int .u8 (List.getD xChoice (Int.toNat q) 0))] (fun w_ => [World.cell? w_ ⟨g16, 1, none⟩ = some (.slice (some ⟨b22, o23, none⟩) (List.length xRanks) c5), World.cell? w_ ⟨g16, 2, none⟩ = some (.slice (some ⟨b87, o88, none⟩) (List.length xChoice) c9), 0 ≤ q ∧ q < (((List.length xChoice) : Nat) : Int), World.cell? w_ ⟨b87, o88 + (Int.toNat q) * 1, none⟩ = some (.int .u8 (List.getD xChoice (Int.toNat q) 0))]) 2 E (fun _ _ => by kernel_rfl) (by kernel_rfl) (fun w_ hS_ => ⟨(HR152.boxk [] hS_ 4 rfl rfl).cell (j := 1) rfl, (HR152.boxk [] hS_ 4 rfl rfl).cell (j := 2) rfl, g86, Rds.at1 (HR152.rdk [] hS_ 2 rds_ro rfl) 0 g86⟩) (by kernel_rfl) HS151 ?_
     clear E; intro a E
     refine wpAnyH_all (rs := [9]) (by kernel_rfl) (by simp) ?_
     refine all1 ?_
     refine wpOp_of_list rfl ?_
     obtain ⟨Fa153, Hc154, hb155⟩ := H.call [] [(0, false), (1, false)] rfl rfl trivial
     refine e_call E rfl rfl Try.func60 rfl rfl rfl (moore_game_worst_calls b1 o2 (some ⟨b22, o23, none⟩) c5 g xRanks q (List.getD xChoice (Int.toNat q) 0) hk6 Hc154 h141) ?_
     rintro v156 w157 a ⟨rfl, HR158⟩ E_
     replace E := E_ _ rfl; clear E_
     obtain ⟨H_, hc159⟩ := hb155 _ _ HR158 rfl
     replace HS151 := HS151.ext (callS_ext hc159)
     replace H := H_; clear H_; try dsimp only [setn, addE, goneL] at H
     refine wpList_nil ?_
     refine th_n ⟨HS151, ?_⟩
     refine dn tbok (by kernel_rfl) [10] [] [(8, .int .i64 r140)] (fun w_ => []) 0 E (fun _ _ => by kernel_rfl) (by kernel_rfl) (fun w_ hS_ => trivial) (by kernel_rfl) HS151 ?_
     clear E; intro a E
     refine dr_done (by kernel_rfl) ?_
     clear HS151 HR152
     refine th_n ?_
     refine wp_seq ?_
     refine wp_region_lit ?_
     refine vn tbok 3 [] [(84, .bool (decide (0 ≤ r140)))] [] E (by kernel_rfl) (by kernel_rfl) trivial ?_
     clear E; intro a E
     refine E.cases (t := 84) rfl (fun hb_ E_ => ?_) (fun hb_ E_ => ?_)
     ·
      replace E := E_; clear E_
      have h160 : 0 ≤ r140 := of_decide_eq_true hb_
      clear hb_; replace hP := ite_t h160 hP
      refine vn tbok 5 [] [(6, .bool (decide (r140 < (List.getD xRanks (Int.toNat q) 0))))] [] E (by kernel_rfl) (by kernel_rfl) trivial ?_
      clear E; intro a E
      refine wpList_nil ?_
      refine th_n ?_
      refine wp_ret ?_
      refine bl_ret ?_
      refine th_ret ?_
      obtain rfl := Option.some.inj hP
      refine ret1 E rfl rfl ?_
      exact ⟨_, rfl, rfl, H.sel [] rfl⟩
     replace E := E_; clear E_
     have h161 : ¬ (0 ≤ r140) := of_decide_eq_false hb_
     clear hb_; replace hP := ite_f h161 hP
     refine vn tbok 5 [] [(6, .bool false)] [] E (by kernel_rfl) (by kernel_rfl) trivial ?_
     clear E; intro a E
     refine wpList_nil ?_
     refine th_n ?_
     refine wp_ret ?_
     refine bl_ret ?_
     refine th_ret ?_
     obtain rfl := Option.some.inj hP
     refine ret1 E rfl rfl ?_
     exact ⟨_, rfl, rfl, H.sel [] rfl⟩
    replace E := E_; clear E_
    have h162 : ¬ ((andNotV .u8 (List.getD xChoice (Int.toNat q) 0) g.2.1.2 : Int) = 0) := ne_of_beq_false hb_
    clear hb_; replace hP := ite_f h162 hP
    refine c_false E rfl ?_
    refine wp_skip ?_
    refine th_n ?_
    refine wp_seq ?_
    refine wp_region_lit ?_
    refine vn tbok 8 [] [(6, .bool false)] [] E (by kernel_rfl) (by kernel_rfl) trivial ?_
    clear E; intro a E
    refine wpList_nil ?_
    refine th_n ?_
    refine wp_ret ?_
    refine bl_ret ?_
    refine th_ret ?_
    obtain rfl := Option.some.inj hP
    refine ret1 E rfl rfl ?_
    exact ⟨_, rfl, rfl, H.sel [] rfl⟩
   replace E := E_; clear E_
   have h163 : ¬ (0 < (List.getD xRanks (Int.toNat q) 0)) := of_decide_eq_false hb_
   clear hb_; replace hP := ite_f h163 hP
   refine c_false E rfl ?_
   refine wp_seq ?_
   refine wp_region_lit ?_
   refine vn tbok 3 [] [(89, .bool (decide ((List.getD xRanks (Int.toNat q) 0) < 0)))] [] E (by kernel_rfl) (by kernel_rfl) trivial ?_
   clear E; intro a E
   refine wpList_nil ?_
   refine th_n ?_
   refine E.cases (t := 89) rfl (fun hb_ E_ => ?_) (fun hb_ E_ => ?_)
   ·
    replace E := E_; clear E_
    have h164 : (List.getD xRanks (Int.toNat q) 0) < 0 := of_decide_eq_true hb_
    clear hb_; replace hP := ite_t h164 hP
    refine c_true E rfl ?_
    refine wp_seq ?_
    refine wp_seq ?_
    obtain ⟨A165, c166, hl167, hk168, H⟩ := H.subSl 3 false (el_ro rfl) g75
    try dsimp only [addE] at H
    obtain ⟨Fz170, cs172, HF171, hK173, hc174⟩ := H.elem 0 false (el_ro rfl) g (idx_one _)
    obtain ⟨_, _, rfl, hK175, hK176⟩ := hK173
    obtain ⟨_, _, rfl, hK177, hK178⟩ := hK175
    obtain rfl := hK177
    obtain ⟨_, _, rfl, hK179, hK180⟩ := hK178
    obtain ⟨A181, c182, rfl, hk183, hC184⟩ := hK179
    obtain ⟨_, _, rfl, hK186, hK187⟩ := hK180
    obtain ⟨A188, c189, rfl, hk190, hC191⟩ := hK186
    obtain ⟨A193, c194, rfl, hk195, hC196⟩ := hK187
    obtain ⟨_, _, rfl, hK198, hK199⟩ := hK176
    obtain rfl := hK198
    obtain ⟨_, _, rfl, hK200, hK201⟩ := hK199
    obtain ⟨A202, c203, rfl, hk204, hC205⟩ := hK200
    obtain ⟨A207, c208, rfl, hk209, hC210⟩ := hK201
    replace HF171 := HF171.ins hC184
    replace HF171 := HF171.ins hC191
    replace HF171 := HF171.ins hC196
    replace HF171 := HF171.ins hC205
    replace HF171 := HF171.ins hC210
    replace H := HF171.hp; try dsimp only [addE] at H
    have hc212 : cellsAt w17 b1 (o2) [.int .i64 g.1.1, .slice A181 (List.length g.1.2.1) c182, .slice A188 (List.length g.1.2.2.1) c189, .slice A193 (List.length g.1.2.2.2) c194, .int .u8 g.2.1.1, .int .u8 g.2.1.2, .slice A202 (List.length g.2.2.1) c203, .slice A207 (List.length g.2.2.2) c208] := hc174
    have HR216 := H
    refine dr_start (S := fun w_ => Chg (atL []) w17 w_) (by kernel_rfl) ?_
    intro w213 hc214
    have HS215 : Chg (atL []) w17 w213 := hc214.mono (fun _ _ h_ => h_.elim)
    replace H := H.ext hc214
    refine dn tbok (by kernel_rfl) [0, 1, 2, 3, 4, 5, 6, 7, 8, 9, 10, 11] [.slice (some ⟨b76, o77, none⟩) (List.length xReply) c13, .slice A165 (List.length (List.getD xReply (Int.toNat q) [])) c166, .slice A202 (List.length g.2.2.1) c203] [(103, .bool (((((List.length (List.getD xReply (Int.toNat q) [])) : Nat) : Int) : Int) != (((List.length g.2.2.1) : Nat) : Int)))] (fun w_ => [World.cell? w_ ⟨g16, 3, none⟩ = some (.slice (some ⟨b76, o77, none⟩) (List.length xReply) c13), 0 ≤ q ∧ q < (((List.length xReply) : Nat) : Int), World.cell? w_ ⟨b76, o77 + (Int.toNat q) * 1, none⟩ = some (.slice A165 (List.length (List.getD xReply (Int.toNat q) [])) c166), World.cell? w_ ⟨b1, o2 + 6, none⟩ = some (.slice A202 (List.length g.2.2.1) c203)]) 0 E (fun _ _ => by kernel_rfl) (by kernel_rfl) (fun w_ hS_ => ⟨(HR216.boxk [] hS_ 4 rfl rfl).cell (j := 3) rfl, g75, hS_.cell (hl167) (HR216.blk [] 3 rds_ro (idx_pos g75) rfl), hS_.cell (hc212.get 6 _ rfl) (HR216.blk [] 0 rds_ro (idx_pos (idx_one _)) rfl)⟩) (by kernel_rfl) HS215 ?_
    clear E; intro a E
    refine dr_done (by kernel_rfl) ?_
    clear HS215 HR216
    refine th_n ?_
    refine E.cases (t := 103) rfl (fun hb_ E_ => ?_) (fun hb_ E_ => ?_)
    ·
     replace E := E_; clear E_
     have h217 : ¬ (((((List.length (List.getD xReply (Int.toNat q) [])) : Nat) : Int) : Int) = (((List.length g.2.2.1) : Nat) : Int)) := bne_iff_ne.1 hb_
     clear hb_; replace hP := ite_f h217 hP
     refine c_true E rfl ?_
     refine wp_seq ?_
     refine wp_region_lit ?_
     refine vn tbok 1 [] [(6, .bool false)] [] E (by kernel_rfl) (by kernel_rfl) trivial ?_
     clear E; intro a E
     refine wpList_nil ?_
     refine th_n ?_
     refine wp_ret ?_
     refine th_ret ?_
     refine bl_ret ?_
     refine th_ret ?_
     obtain rfl := Option.some.inj hP
     refine ret1 E rfl rfl ?_
     exact ⟨_, rfl, rfl, H.sel [] rfl⟩
    replace E := E_; clear E_
    have h218 : ((((List.length (List.getD xReply (Int.toNat q) [])) : Nat) : Int) : Int) = (((List.length g.2.2.1) : Nat) : Int) := bne_eq_false_iff_eq.1 hb_
    clear hb_; replace hP := ite_t h218 hP
    refine c_false E rfl ?_
    refine wp_skip ?_
    refine th_n ?_
    refine wp_seq ?_
    refine wp_region_lit ?_
    obtain ⟨Fz219, cs221, HF220, hK222, hc223⟩ := H.elem 0 false (el_ro rfl) g (idx_one _)
    obtain ⟨_, _, rfl, hK224, hK225⟩ := hK222
    obtain ⟨_, _, rfl, hK226, hK227⟩ := hK224
    obtain rfl := hK226
    obtain ⟨_, _, rfl, hK228, hK229⟩ := hK227
    obtain ⟨A230, c231, rfl, hk232, hC233⟩ := hK228
    obtain ⟨_, _, rfl, hK235, hK236⟩ := hK229
    obtain ⟨A237, c238, rfl, hk239, hC240⟩ := hK235
    obtain ⟨A242, c243, rfl, hk244, hC245⟩ := hK236
    obtain ⟨_, _, rfl, hK247, hK248⟩ := hK225
    obtain rfl := hK247
    obtain ⟨_, _, rfl, hK249, hK250⟩ := hK248
    obtain ⟨A251, c252, rfl, hk253, hC254⟩ := hK249
    obtain ⟨A256, c257, rfl, hk258, hC259⟩ := hK250
    replace HF220 := HF220.ins hC233
    replace HF220 := HF220.ins hC240
    replace HF220 := HF220.ins hC245
    replace HF220 := HF220.ins hC254
    replace HF220 := HF220.ins hC259
    replace H := HF220.hp; try dsimp only [addE] at H
    have hc261 : cellsAt w213 b1 (o2) [.int .i64 g.1.1, .slice A230 (List.length g.1.2.1) c231, .slice A237 (List.length g.1.2.2.1) c238, .slice A242 (List.length g.1.2.2.2) c243, .int .u8 g.2.1.1, .int .u8 g.2.1.2, .slice A251 (List.length g.2.2.1) c252, .slice A256 (List.length g.2.2.2) c257] := hc223
    refine vn tbok 6 [.slice A251 (List.length g.2.2.1) c252] [(107, .slice A251 (List.length g.2.2.1) c252), (108, .int .i64 (((List.length g.2.2.1) : Nat) : Int)), (109, .int .i64 0)] [World.cell? w213 ⟨b1, o2 + 6, none⟩ = some (.slice A251 (List.length g.2.2.1) c252)] E (by kernel_rfl) (by kernel_rfl) (hc261.get 6 _ rfl) ?_
    clear E; intro a E
    refine wpList_nil ?_
    refine th_n ?_
    refine wp_block ?_
    obtain ⟨x433, hL434, hK435⟩ := bind_inv hP
    clear hP
    refine loop_cut (fun i_ a w_ => (i_ = 1 ∧ ∃ (x438 : Unit), Fr a 144 [] ∧ Hp S Fa w0 w_ [] ∧ x433 = Sum.inl x438)) ?_ ?_
    ·
     refine loopV (fun m437 a w436 => ∃ (x346 : Int), Fr a 144 [(0, .pointer (some ⟨b1, o2, none⟩)), (2, .int .i64 q), (4, .pointer (some ⟨g16, 0, none⟩)), (107, .slice A251 (List.length g.2.2.1) c252), (108, .int .i64 (((List.length g.2.2.1) : Nat) : Int)), (109, .int .i64 x346)] ∧ Hp S Fa w0 w436 [.ro false cS87 (some ⟨b1, o2, none⟩) ([g]), .ro false (cInt .i64) (some ⟨b22, o23, none⟩) xRanks, .ro false (cInt .u8) (some ⟨b87, o88, none⟩) xChoice, .ro false (cSl (cInt .u8)) (some ⟨b76, o77, none⟩) xReply, .box g16 38 [.bool xWins, .slice (some ⟨b22, o23, none⟩) (List.length xRanks) c5, .slice (some ⟨b87, o88, none⟩) (List.length xChoice) c9, .slice (some ⟨b76, o77, none⟩) (List.length xReply) c13], .ro false (cInt .u8) A251 g.2.2.1] ∧ moore_game_keeps_l0 N g xRanks xReply q m437 x346 = some x433) N ?_ ?_
     ·
      exact ⟨0, E.pick _ ⟨rfl, rfl, rfl, rfl, rfl, rfl, trivial⟩, H.sel [0, 1, 2, 3, 4, 20] rfl, hL434⟩
     clear E H hL434; intro m437 a w436 hI_
     obtain ⟨x346, E, H, hP⟩ := hI_
     obtain ⟨m432, rfl⟩ : ∃ q_, m437 = q_ + 1 := by cases m437 with | zero => rw [moore_game_keeps_l0] at hP; cases hP | succ q_ => exact ⟨q_, rfl⟩
     rw [moore_game_keeps_l0] at hP
     refine wp_seq ?_
     refine wp_region_lit ?_
     refine vn tbok 1 [] [(110, .bool (decide (x346 < (((List.length g.2.2.1) : Nat) : Int))))] [] E (by kernel_rfl) (by kernel_rfl) trivial ?_
     clear E; intro a E
     refine wpList_nil ?_
     refine th_n ?_
     refine wp_seq ?_
     refine E.cases (t := 110) rfl (fun hb_ E_ => ?_) (fun hb_ E_ => ?_)
     ·
      replace E := E_; clear E_
      have h439 : x346 < (((List.length g.2.2.1) : Nat) : Int) := of_decide_eq_true hb_
      clear hb_; replace hP := ite_t h439 hP
      refine c_true E rfl ?_
      refine wp_skip ?_
      refine th_n ?_
      refine wp_seq ?_
      refine wp_block ?_
      refine wp_seq ?_
      refine wp_region_lit ?_
      obtain ⟨g440, hP⟩ := ask_inv hP
      obtain ⟨b441, o442, e_b441⟩ := (H.rd 5 rds_ro).addr (idx_pos g440)
      subst e_b441
      refine vn tbok 5 [.int .u8 (List.getD g.2.2.1 (Int.toNat x346) 0)] [(9, .int .i64 x346), (10, .int .u8 (List.getD g.2.2.1 (Int.toNat x346) 0))] [0 ≤ x346 ∧ x346 < (((List.length g.2.2.1) : Nat) : Int), World.cell? w436 ⟨b441, o442 + (Int.toNat x346) * 1, none⟩ = some (.int .u8 (List.getD g.2.2.1 (Int.toNat x346) 0))] E (by kernel_rfl) (by kernel_rfl) ⟨g440, Rds.at1 (H.rd 5 rds_ro) 0 g440⟩ ?_
      clear E; intro a E
      refine wpList_nil ?_
      refine th_n ?_
      refine wp_seq ?_
      refine wp_region_lit ?_
      obtain ⟨A443, c444, hl445, hk446, H⟩ := H.subSl 3 false (el_ro rfl) g75
      try dsimp only [addE] at H
      obtain ⟨g448, hP⟩ := ask_inv hP
      obtain ⟨b449, o450, e_b449⟩ := (H.rd 6 rds_ro).addr (idx_pos g448)
      subst e_b449
      refine vn tbok 9 [.slice (some ⟨b76, o77, none⟩) (List.length xReply) c13, .slice (some ⟨b449, o450, none⟩) (List.length (List.getD xReply (Int.toNat q) [])) c444, .int .u8 (List.getD (List.getD xReply (Int.toNat q) []) (Int.toNat x346) 0)] [(11, .int .u8 (List.getD (List.getD xReply (Int.toNat q) []) (Int.toNat x346) 0))] [World.cell? w436 ⟨g16, 3, none⟩ = some (.slice (some ⟨b76, o77, none⟩) (List.length xReply) c13), 0 ≤ q ∧ q < (((List.length xReply) : Nat) : Int), World.cell? w436 ⟨b76, o77 + (Int.toNat q) * 1, none⟩ = some (.slice (some ⟨b449, o450, none⟩) (List.length (List.getD xReply (Int.toNat q) [])) c444), 0 ≤ x346 ∧ x346 < (((List.length (List.getD xReply (Int.toNat q) [])) : Nat) : Int), World.cell? w436 ⟨b449, o450 + (Int.toNat x346) * 1, none⟩ = some (.int .u8 (List.getD (List.getD xReply (Int.toNat q) []) (Int.toNat x346) 0))] E (by kernel_rfl) (by kernel_rfl) ⟨(H.box 4 rfl).cell (j := 3) rfl, g75, hl445, g448, Rds.at1 (H.rd 6 rds_ro) 0 g448⟩ ?_
      clear E; intro a E
      refine wpList_nil ?_
      refine th_n ?_
      refine wp_seq ?_
      obtain ⟨Fz451, cs453, HF452, hK454, hc455⟩ := H.elem 0 false (el_ro rfl) g (idx_one _)
      obtain ⟨_, _, rfl, hK456, hK457⟩ := hK454
      obtain ⟨_, _, rfl, hK458, hK459⟩ := hK456
      obtain rfl := hK458
      obtain ⟨_, _, rfl, hK460, hK461⟩ := hK459
      obtain ⟨A462, c463, rfl, hk464, hC465⟩ := hK460
      obtain ⟨_, _, rfl, hK467, hK468⟩ := hK461
      obtain ⟨A469, c470, rfl, hk471, hC472⟩ := hK467
      obtain ⟨A474, c475, rfl, hk476, hC477⟩ := hK468
      obtain ⟨_, _, rfl, hK479, hK480⟩ := hK457
      obtain rfl := hK479
      obtain ⟨_, _, rfl, hK481, hK482⟩ := hK480
      obtain ⟨A483, c484, rfl, hk485, hC486⟩ := hK481
      obtain ⟨A488, c489, rfl, hk490, hC491⟩ := hK482
      replace HF452 := HF452.ins hC465
      replace HF452 := HF452.ins hC472
      replace HF452 := HF452.ins hC477
      replace HF452 := HF452.ins hC486
      replace HF452 := HF452.ins hC491
      replace H := HF452.hp; try dsimp only [addE] at H
      have hc493 : cellsAt w436 b1 (o2) [.int .i64 g.1.1, .slice A462 (List.length g.1.2.1) c463, .slice A469 (List.length g.1.2.2.1) c470, .slice A474 (List.length g.1.2.2.2) c475, .int .u8 g.2.1.1, .int .u8 g.2.1.2, .slice A483 (List.length g.2.2.1) c484, .slice A488 (List.length g.2.2.2) c489] := hc455
      by_cases h494 : (andNotV .u8 (List.getD (List.getD xReply (Int.toNat q) []) (Int.toNat x346) 0) g.2.1.1 : Int) = 0
      ·
       replace hP := ite_t h494 hP
       obtain ⟨r495, h496, hP⟩ := bind_inv hP
       obtain ⟨g504, hP⟩ := ask_inv hP
       have HR508 := H
       refine dr_start (S := fun w_ => Chg (atL []) w436 w_) (by kernel_rfl) ?_
       intro w505 hc506
       have HS507 : Chg (atL []) w436 w505 := hc506.mono (fun _ _ h_ => h_.elim)
       replace H := H.ext hc506
       refine dn tbok (by kernel_rfl) [0, 1, 2, 3, 4, 5, 6, 7, 8] [.int .u8 g.2.1.1, .int .u8 (andNotV .u8 (List.getD (List.getD xReply (Int.toNat q) []) (Int.toNat x346) 0) g.2.1.1)] [(130, .bool ((andNotV .u8 (List.getD (List.getD xReply (Int.toNat q) []) (Int.toNat x346) 0) g.2.1.1 : Int) != 0))] (fun w_ => [World.cell? w_ ⟨b1, o2 + 4, none⟩ = some (.int .u8 g.2.1.1), IntKind.u8.wrap (BitVec.ofInt (IntKind.bits .u8) (List.getD (List.getD xReply (Int.toNat q) []) (Int.toNat x346) 0) &&& ~~~ BitVec.ofInt (IntKind.bits .u8) g.2.1.1).toNat = andNotV .u8 (List.getD (List.getD xReply (Int.toNat q) []) (Int.toNat x346) 0) g.2.1.1]) 12 E (fun _ _ => by kernel_rfl) (by kernel_rfl) (fun w_ hS_ => ⟨hS_.cell (hc493.get 4 _ rfl) (HR508.blk [] 0 rds_ro (idx_pos (idx_one _)) rfl), rfl⟩) (by kernel_rfl) HS507 ?_
       clear E; intro a E
       replace E := E.same (t := 130) (u := .bool false) rfl (congrArg Value.bool (bne_eq_false_iff_eq.2 h494))
       refine dn tbok (by kernel_rfl) [9, 10, 11, 12, 13, 14, 15] [.slice (some ⟨b22, o23, none⟩) (List.length xRanks) c5, .int .u8 (orV .u8 (List.getD g.2.2.1 (Int.toNat x346) 0) (List.getD (List.getD xReply (Int.toNat q) []) (Int.toNat x346) 0))] [(132, .slice (some ⟨b22, o23, none⟩) (List.length xRanks) c5), (133, .pointer (some ⟨b1, o2, none⟩)), (134, .int .i64 q), (137, .int .u8 (orV .u8 (List.getD g.2.2.1 (Int.toNat x346) 0) (List.getD (List.getD xReply (Int.toNat q) []) (Int.toNat x346) 0)))] (fun w_ => [World.cell? w_ ⟨g16, 1, none⟩ = some (.slice (some ⟨b22, o23, none⟩) (List.length xRanks) c5), IntKind.u8.wrap (BitVec.ofInt (IntKind.bits .u8) (List.getD g.2.2.1 (Int.toNat x346) 0) ||| BitVec.ofInt (IntKind.bits .u8) (List.getD (List.getD xReply (Int.toNat q) []) (Int.toNat x346) 0)).toNat = orV .u8 (List.getD g.2.2.1 (Int.toNat x346) 0) (List.getD (List.getD xReply (Int.toNat q) []) (Int.toNat x346) 0)]) 5 E (fun _ _ => by kernel_rfl) (by kernel_rfl) (fun w_ hS_ => ⟨(HR508.boxk [] hS_ 4 rfl rfl).cell (j := 1) rfl, rfl⟩) (by kernel_rfl) HS507 ?_
       clear E; intro a E
       refine wpAnyH_all (rs := [16]) (by kernel_rfl) (by simp) ?_
       refine all1 ?_
       refine wpOp_of_list rfl ?_
       obtain ⟨Fa509, Hc510, hb511⟩ := H.call [] [(0, false)] rfl rfl trivial
       refine e_call E rfl rfl Try.func50 rfl rfl rfl (moore_game_to_calls b1 o2 g q (orV .u8 (List.getD g.2.2.1 (Int.toNat x346) 0) (List.getD (List.getD xReply (Int.toNat q) []) (Int.toNat x346) 0))  Hc510 h496) ?_
       rintro v512 w513 a ⟨rfl, HR514⟩ E_
       replace E := E_ _ rfl; clear E_
       obtain ⟨H_, hc515⟩ := hb511 _ _ HR514 rfl
       replace HS507 := HS507.ext (callS_ext hc515)
       replace H := H_; clear H_; try dsimp only [setn, addE, goneL] at H
       refine wpList_nil ?_
       refine th_n ⟨HS507, ?_⟩
       refine dn tbok (by kernel_rfl) [17, 18, 19, 20] [.int .i64 (List.getD xRanks (Int.toNat r495) 0)] [(142, .bool (((List.getD xRanks (Int.toNat r495) 0) : Int) != (-1)))] (fun w_ => [0 ≤ r495 ∧ r495 < (((List.length xRanks) : Nat) : Int), World.cell? w_ ⟨b22, o23 + (Int.toNat r495) * 1, none⟩ = some (.int .i64 (List.getD xRanks (Int.toNat r495) 0))]) 0 E (fun _ _ => by kernel_rfl) (by kernel_rfl) (fun w_ hS_ => ⟨g504, Rds.at1 (HR508.rdk [] hS_ 1 rds_ro rfl) 0 g504⟩) (by kernel_rfl) HS507 ?_
       clear E; intro a E
       refine dr_done (by kernel_rfl) ?_
       clear HS507 HR508
       refine th_n ?_
       refine E.cases (t := 142) rfl (fun hb_ E_ => ?_) (fun hb_ E_ => ?_)
       ·
        replace E := E_; clear E_
        have h516 : ¬ (((List.getD xRanks (Int.toNat r495) 0) : Int) = -1) := bne_iff_ne.1 hb_
        clear hb_; replace hP := ite_f h516 hP
        refine c_true E rfl ?_
        refine wp_seq ?_
        refine wp_region_lit ?_
        refine vn tbok 1 [] [(6, .bool false)] [] E (by kernel_rfl) (by kernel_rfl) trivial ?_
        clear E; intro a E
        refine wpList_nil ?_
        refine th_n ?_
        refine wp_ret ?_
        refine bl_ret ?_
        refine th_ret ?_
        refine th_ret ?_
        refine .inr ⟨rfl, ?_⟩
        refine bl_ret ?_
        refine bl_ret ?_
        refine th_ret ?_
        have hx_ := Option.some.inj hP; subst hx_
        have hP : some (false) = some r := hK435
        obtain rfl := Option.some.inj hP
        refine ret1 E rfl rfl ?_
        exact ⟨_, rfl, rfl, H.sel [] rfl⟩
       replace E := E_; clear E_
       have h517 : ((List.getD xRanks (Int.toNat r495) 0) : Int) = -1 := bne_eq_false_iff_eq.1 hb_
       clear hb_; replace hP := ite_t h517 hP
       refine c_false E rfl ?_
       refine wp_skip ?_
       refine bl_n ?_
       refine th_n ?_
       refine wp_region_lit ?_
       obtain ⟨g518, hP⟩ := ask_inv hP
       refine vn tbok 2 [.int .i64 (x346 + 1)] [(109, .int .i64 (x346 + 1))] [IntKind.i64.wrap (x346 + 1) = x346 + 1] E (by kernel_rfl) (by kernel_rfl) (wrap_in g518) ?_
       clear E; intro a E
       refine wpList_nil ?_
       exact th_n ⟨m432, Nat.lt_succ_self _, x346 + 1, E.pick _ ⟨rfl, rfl, rfl, rfl, rfl, rfl, trivial⟩, H.sel [0, 1, 2, 3, 4, 5] rfl, hP⟩
      replace hP := ite_f h494 hP
      have HR522 := H
      refine dr_start (S := fun w_ => Chg (atL []) w436 w_) (by kernel_rfl) ?_
      intro w519 hc520
      have HS521 : Chg (atL []) w436 w519 := hc520.mono (fun _ _ h_ => h_.elim)
      replace H := H.ext hc520
      refine dn tbok (by kernel_rfl) [0, 1, 2, 3, 4, 5, 6, 7, 8] [.int .u8 g.2.1.1, .int .u8 (andNotV .u8 (List.getD (List.getD xReply (Int.toNat q) []) (Int.toNat x346) 0) g.2.1.1)] [(130, .bool ((andNotV .u8 (List.getD (List.getD xReply (Int.toNat q) []) (Int.toNat x346) 0) g.2.1.1 : Int) != 0))] (fun w_ => [World.cell? w_ ⟨b1, o2 + 4, none⟩ = some (.int .u8 g.2.1.1), IntKind.u8.wrap (BitVec.ofInt (IntKind.bits .u8) (List.getD (List.getD xReply (Int.toNat q) []) (Int.toNat x346) 0) &&& ~~~ BitVec.ofInt (IntKind.bits .u8) g.2.1.1).toNat = andNotV .u8 (List.getD (List.getD xReply (Int.toNat q) []) (Int.toNat x346) 0) g.2.1.1]) 12 E (fun _ _ => by kernel_rfl) (by kernel_rfl) (fun w_ hS_ => ⟨hS_.cell (hc493.get 4 _ rfl) (HR522.blk [] 0 rds_ro (idx_pos (idx_one _)) rfl), rfl⟩) (by kernel_rfl) HS521 ?_
      clear E; intro a E
      replace E := E.same (t := 130) (u := .bool true) rfl (congrArg Value.bool (bne_iff_ne.2 h494))
      refine dn tbok (by kernel_rfl) [9, 10, 11, 12, 13, 14, 15, 16, 17, 18, 19, 20] [] [(142, .bool true)] (fun w_ => []) 0 E (fun _ _ => by kernel_rfl) (by kernel_rfl) (fun w_ hS_ => trivial) (by kernel_rfl) HS521 ?_
      clear E; intro a E
      refine dr_done (by kernel_rfl) ?_
      clear HS521 HR522
      refine th_n ?_
      refine c_true E rfl ?_
      refine wp_seq ?_
      refine wp_region_lit ?_
      refine vn tbok 1 [] [(6, .bool false)] [] E (by kernel_rfl) (by kernel_rfl) trivial ?_
      clear E; intro a E
      refine wpList_nil ?_
      refine th_n ?_
      refine wp_ret ?_
      refine bl_ret ?_
      refine th_ret ?_
      refine th_ret ?_
      refine .inr ⟨rfl, ?_⟩
      refine bl_ret ?_
      refine bl_ret ?_
      refine th_ret ?_
      have hx_ := Option.some.inj hP; subst hx_
      have hP : some (false) = some r := hK435
      obtain rfl := Option.some.inj hP
      refine ret1 E rfl rfl ?_
      exact ⟨_, rfl, rfl, H.sel [] rfl⟩
     replace E := E_; clear E_
     have h523 : ¬ (x346 < (((List.length g.2.2.1) : Nat) : Int)) := of_decide_eq_false hb_
     clear hb_; replace hP := ite_f h523 hP
     refine c_false E rfl ?_
     refine wp_exit ?_
     refine th_exit ?_
     have hx_ := Option.some.inj hP
     refine th_exit (.inl ⟨1, rfl, ?_⟩)
     exact ⟨rfl, (), E.pick _ trivial, H.sel [] rfl, hx_.symm⟩
    clear E H hL434; intro i_ a w436 hM_
    obtain ⟨rfl, x438, E, H, hx_⟩ := hM_
    subst hx_; have hP := elim_l hK435
    clear hK435
    refine bl_hit ?_
    refine bl_n ?_
    refine th_n ?_
    refine wp_seq ?_
    refine wp_region_lit ?_
    refine vn tbok 1 [] [(6, .bool true)] [] E (by kernel_rfl) (by kernel_rfl) trivial ?_
    clear E; intro a E
    refine wpList_nil ?_
    refine th_n ?_
    refine wp_ret ?_
    obtain rfl := Option.some.inj hP
    refine ret1 E rfl rfl ?_
    exact ⟨_, rfl, rfl, H.sel [] rfl⟩
   replace E := E_; clear E_
   have h525 : ¬ ((List.getD xRanks (Int.toNat q) 0) < 0) := of_decide_eq_false hb_
   clear hb_; replace hP := ite_f h525 hP
   refine c_false E rfl ?_
   refine wp_skip ?_
   refine bl_n ?_
   refine th_n ?_
   refine wp_seq ?_
   refine wp_region_lit ?_
   refine vn tbok 1 [] [(6, .bool true)] [] E (by kernel_rfl) (by kernel_rfl) trivial ?_
   clear E; intro a E
   refine wpList_nil ?_
   refine th_n ?_
   refine wp_ret ?_
   obtain rfl := Option.some.inj hP
   refine ret1 E rfl rfl ?_
   exact ⟨_, rfl, rfl, H.sel [] rfl⟩
  replace E := E_; clear E_
  have h526 : ¬ ((List.getD xRanks (Int.toNat q) 0) ≤ 0) := of_decide_eq_false hb_
  clear hb_; replace hP := ite_f h526 hP
  refine vn tbok 8 [] [(56, .bool false)] [] E (by kernel_rfl) (by kernel_rfl) trivial ?_
  clear E; intro a E
  refine wpList_nil ?_
  refine th_n ?_
  refine c_false E rfl ?_
  refine wp_skip ?_
  refine th_n ?_
  refine wp_seq ?_
  refine wp_block ?_
  refine wp_seq ?_
  refine wp_region_lit ?_
  refine vn tbok 3 [] [(57, .bool (decide (0 < (List.getD xRanks (Int.toNat q) 0))))] [] E (by kernel_rfl) (by kernel_rfl) trivial ?_
  clear E; intro a E
  refine wpList_nil ?_
  refine th_n ?_
  refine E.cases (t := 57) rfl (fun hb_ E_ => ?_) (fun hb_ E_ => ?_)
  ·
   replace E := E_; clear E_
   have h527 : 0 < (List.getD xRanks (Int.toNat q) 0) := of_decide_eq_true hb_
   clear hb_; replace hP := ite_t h527 hP
   refine c_true E rfl ?_
   refine wp_seq ?_
   refine wp_region_lit ?_
   refine vn tbok 1 [] [(8, .int .i64 (-1))] [] E (by kernel_rfl) (by kernel_rfl) trivial ?_
   clear E; intro a E
   refine wpList_nil ?_
   refine th_n ?_
   refine wp_seq ?_
   refine wp_seq ?_
   obtain ⟨g528, hP⟩ := ask_inv hP
   obtain ⟨b529, o530, e_b529⟩ := (H.rd 2 rds_ro).addr (idx_pos g528)
   subst e_b529
   obtain ⟨Fz531, cs533, HF532, hK534, hc535⟩ := H.elem 0 false (el_ro rfl) g (idx_one _)
   obtain ⟨_, _, rfl, hK536, hK537⟩ := hK534
   obtain ⟨_, _, rfl, hK538, hK539⟩ := hK536
   obtain rfl := hK538
   obtain ⟨_, _, rfl, hK540, hK541⟩ := hK539
   obtain ⟨A542, c543, rfl, hk544, hC545⟩ := hK540
   obtain ⟨_, _, rfl, hK547, hK548⟩ := hK541
   obtain ⟨A549, c550, rfl, hk551, hC552⟩ := hK547
   obtain ⟨A554, c555, rfl, hk556, hC557⟩ := hK548
   obtain ⟨_, _, rfl, hK559, hK560⟩ := hK537
   obtain rfl := hK559
   obtain ⟨_, _, rfl, hK561, hK562⟩ := hK560
   obtain ⟨A563, c564, rfl, hk565, hC566⟩ := hK561
   obtain ⟨A568, c569, rfl, hk570, hC571⟩ := hK562
   replace HF532 := HF532.ins hC545
   replace HF532 := HF532.ins hC552
   replace HF532 := HF532.ins hC557
   replace HF532 := HF532.ins hC566
   replace HF532 := HF532.ins hC571
   replace H := HF532.hp; try dsimp only [addE] at H
   have hc573 : cellsAt w17 b1 (o2) [.int .i64 g.1.1, .slice A542 (List.length g.1.2.1) c543, .slice A549 (List.length g.1.2.2.1) c550, .slice A554 (List.length g.1.2.2.2) c555, .int .u8 g.2.1.1, .int .u8 g.2.1.2, .slice A563 (List.length g.2.2.1) c564, .slice A568 (List.length g.2.2.2) c569] := hc535
   have HR577 := H
   refine dr_start (S := fun w_ => Chg (atL []) w17 w_) (by kernel_rfl) ?_
   intro w574 hc575
   have HS576 : Chg (atL []) w17 w574 := hc575.mono (fun _ _ h_ => h_.elim)
   replace H := H.ext hc575
   refine dn tbok (by kernel_rfl) [0, 1, 2, 3, 4, 5, 6, 7, 8, 9, 10, 11] [.slice (some ⟨b529, o530, none⟩) (List.length xChoice) c9, .int .u8 (List.getD xChoice (Int.toNat q) 0), .int .u8 g.2.1.2, .int .u8 (andNotV .u8 (List.getD xChoice (Int.toNat q) 0) g.2.1.2)] [(71, .bool ((andNotV .u8 (List.getD xChoice (Int.toNat q) 0) g.2.1.2 : Int) == 0))] (fun w_ => [World.cell? w_ ⟨g16, 2, none⟩ = some (.slice (some ⟨b529, o530, none⟩) (List.length xChoice) c9), 0 ≤ q ∧ q < (((List.length xChoice) : Nat) : Int), World.cell? w_ ⟨b529, o530 + (Int.toNat q) * 1, none⟩ = some (.int .u8 (List.getD xChoice (Int.toNat q) 0)), World.cell? w_ ⟨b1, o2 + 4 + 1, none⟩ = some (.int .u8 g.2.1.2), IntKind.u8.wrap (BitVec.ofInt (IntKind.bits .u8) (List.getD xChoice (Int.toNat q) 0) &&& ~~~ BitVec.ofInt (IntKind.bits .u8) g.2.1.2).toNat = andNotV .u8 (List.getD xChoice (Int.toNat q) 0) g.2.1.2]) 0 E (fun _ _ => by kernel_rfl) (by kernel_rfl) (fun w_ hS_ => ⟨(HR577.boxk [] hS_ 4 rfl rfl).cell (j := 2) rfl, g528, Rds.at1 (HR577.rdk [] hS_ 2 rds_ro rfl) 0 g528, hS_.cell (hc573.get 5 _ rfl) (HR577.blk [] 0 rds_ro (idx_pos (idx_one _)) rfl), rfl⟩) (by kernel_rfl) HS576 ?_
   clear E; intro a E
   refine dr_done (by kernel_rfl) ?_
   clear HS576 HR577
   refine th_n ?_
   refine E.cases (t := 71) rfl (fun hb_ E_ => ?_) (fun hb_ E_ => ?_)
   ·
    replace E := E_; clear E_
    have h578 : (andNotV .u8 (List.getD xChoice (Int.toNat q) 0) g.2.1.2 : Int) = 0 := eq_of_beq hb_
    clear hb_; replace hP := ite_t h578 hP
    refine c_true E rfl ?_
    obtain ⟨r579, h580, hP⟩ := bind_inv hP
    have HR591 := H
    refine dr_start (S := fun w_ => Chg (atL []) w574 w_) (by kernel_rfl) ?_
    intro w588 hc589
    have HS590 : Chg (atL []) w574 w588 := hc589.mono (fun _ _ h_ => h_.elim)
    replace H := H.ext hc589
    refine dn tbok (by kernel_rfl) [0, 1, 2, 3, 4, 5, 6, 7, 8] [.slice (some ⟨b22, o23, none⟩) (List.length xRanks) c5, .slice (some ⟨b529, o530, none⟩) (List.length xChoice) c9, .int .u8 (List.getD xChoice (Int.toNat q) 0)] [(72, .pointer (some ⟨b1, o2, none⟩)), (74, .slice (some ⟨b22, o23, none⟩) (List.length xRanks) c5), (75, .int .i64 q), (80, .int .u8 (List.getD xChoice (Int.toNat q) 0))] (fun w_ => [World.cell? w_ ⟨g16, 1, none⟩ = some (.slice (some ⟨b22, o23, none⟩) (List.length xRanks) c5), World.cell? w_ ⟨g16, 2, none⟩ = some (.slice (some ⟨b529, o530, none⟩) (List.length xChoice) c9), 0 ≤ q ∧ q < (((List.length xChoice) : Nat) : Int), World.cell? w_ ⟨b529, o530 + (Int.toNat q) * 1, none⟩ = some (.int .u8 (List.getD xChoice (Int.toNat q) 0))]) 2 E (fun _ _ => by kernel_rfl) (by kernel_rfl) (fun w_ hS_ => ⟨(HR591.boxk [] hS_ 4 rfl rfl).cell (j := 1) rfl, (HR591.boxk [] hS_ 4 rfl rfl).cell (j := 2) rfl, g528, Rds.at1 (HR591.rdk [] hS_ 2 rds_ro rfl) 0 g528⟩) (by kernel_rfl) HS590 ?_
    clear E; intro a E
    refine wpAnyH_all (rs := [9]) (by kernel_rfl) (by simp) ?_
    refine all1 ?_
    refine wpOp_of_list rfl ?_
    obtain ⟨Fa592, Hc593, hb594⟩ := H.call [] [(0, false), (1, false)] rfl rfl trivial
    refine e_call E rfl rfl Try.func60 rfl rfl rfl (moore_game_worst_calls b1 o2 (some ⟨b22, o23, none⟩) c5 g xRanks q (List.getD xChoice (Int.toNat q) 0) hk6 Hc593 h580) ?_
    rintro v595 w596 a ⟨rfl, HR597⟩ E_
    replace E := E_ _ rfl; clear E_
    obtain ⟨H_, hc598⟩ := hb594 _ _ HR597 rfl
    replace HS590 := HS590.ext (callS_ext hc598)
    replace H := H_; clear H_; try dsimp only [setn, addE, goneL] at H
    refine wpList_nil ?_
    refine th_n ⟨HS590, ?_⟩
    refine dn tbok (by kernel_rfl) [10] [] [(8, .int .i64 r579)] (fun w_ => []) 0 E (fun _ _ => by kernel_rfl) (by kernel_rfl) (fun w_ hS_ => trivial) (by kernel_rfl) HS590 ?_
    clear E; intro a E
    refine dr_done (by kernel_rfl) ?_
    clear HS590 HR591
    refine th_n ?_
    refine wp_seq ?_
    refine wp_region_lit ?_
    refine vn tbok 3 [] [(84, .bool (decide (0 ≤ r579)))] [] E (by kernel_rfl) (by kernel_rfl) trivial ?_
    clear E; intro a E
    refine E.cases (t := 84) rfl (fun hb_ E_ => ?_) (fun hb_ E_ => ?_)
    ·
     replace E := E_; clear E_
     have h599 : 0 ≤ r579 := of_decide_eq_true hb_
     clear hb_; replace hP := ite_t h599 hP
     refine vn tbok 5 [] [(6, .bool (decide (r579 < (List.getD xRanks (Int.toNat q) 0))))] [] E (by kernel_rfl) (by kernel_rfl) trivial ?_
     clear E; intro a E
     refine wpList_nil ?_
     refine th_n ?_
     refine wp_ret ?_
     refine bl_ret ?_
     refine th_ret ?_
     obtain rfl := Option.some.inj hP
     refine ret1 E rfl rfl ?_
     exact ⟨_, rfl, rfl, H.sel [] rfl⟩
    replace E := E_; clear E_
    have h600 : ¬ (0 ≤ r579) := of_decide_eq_false hb_
    clear hb_; replace hP := ite_f h600 hP
    refine vn tbok 5 [] [(6, .bool false)] [] E (by kernel_rfl) (by kernel_rfl) trivial ?_
    clear E; intro a E
    refine wpList_nil ?_
    refine th_n ?_
    refine wp_ret ?_
    refine bl_ret ?_
    refine th_ret ?_
    obtain rfl := Option.some.inj hP
    refine ret1 E rfl rfl ?_
    exact ⟨_, rfl, rfl, H.sel [] rfl⟩
   replace E := E_; clear E_
   have h601 : ¬ ((andNotV .u8 (List.getD xChoice (Int.toNat q) 0) g.2.1.2 : Int) = 0) := ne_of_beq_false hb_
   clear hb_; replace hP := ite_f h601 hP
   refine c_false E rfl ?_
   refine wp_skip ?_
   refine th_n ?_
   refine wp_seq ?_
   refine wp_region_lit ?_
   refine vn tbok 8 [] [(6, .bool false)] [] E (by kernel_rfl) (by kernel_rfl) trivial ?_
   clear E; intro a E
   refine wpList_nil ?_
   refine th_n ?_
   refine wp_ret ?_
   refine bl_ret ?_
   refine th_ret ?_
   obtain rfl := Option.some.inj hP
   refine ret1 E rfl rfl ?_
   exact ⟨_, rfl, rfl, H.sel [] rfl⟩
  replace E := E_; clear E_
  have h602 : ¬ (0 < (List.getD xRanks (Int.toNat q) 0)) := of_decide_eq_false hb_
  clear hb_; replace hP := ite_f h602 hP
  refine c_false E rfl ?_
  refine wp_seq ?_
  refine wp_region_lit ?_
  refine vn tbok 3 [] [(89, .bool (decide ((List.getD xRanks (Int.toNat q) 0) < 0)))] [] E (by kernel_rfl) (by kernel_rfl) trivial ?_
  clear E; intro a E
  refine wpList_nil ?_
  refine th_n ?_
  refine E.cases (t := 89) rfl (fun hb_ E_ => ?_) (fun hb_ E_ => ?_)
  ·
   replace E := E_; clear E_
   have h603 : (List.getD xRanks (Int.toNat q) 0) < 0 := of_decide_eq_true hb_
   clear hb_; replace hP := ite_t h603 hP
   refine c_true E rfl ?_
   refine wp_seq ?_
   refine wp_seq ?_
   obtain ⟨A604, c605, hl606, hk607, H⟩ := H.subSl 3 false (el_ro rfl) g75
   try dsimp only [addE] at H
   obtain ⟨Fz609, cs611, HF610, hK612, hc613⟩ := H.elem 0 false (el_ro rfl) g (idx_one _)
   obtain ⟨_, _, rfl, hK614, hK615⟩ := hK612
   obtain ⟨_, _, rfl, hK616, hK617⟩ := hK614
   obtain rfl := hK616
   obtain ⟨_, _, rfl, hK618, hK619⟩ := hK617
   obtain ⟨A620, c621, rfl, hk622, hC623⟩ := hK618
   obtain ⟨_, _, rfl, hK625, hK626⟩ := hK619
   obtain ⟨A627, c628, rfl, hk629, hC630⟩ := hK625
   obtain ⟨A632, c633, rfl, hk634, hC635⟩ := hK626
   obtain ⟨_, _, rfl, hK637, hK638⟩ := hK615
   obtain rfl := hK637
   obtain ⟨_, _, rfl, hK639, hK640⟩ := hK638
   obtain ⟨A641, c642, rfl, hk643, hC644⟩ := hK639
   obtain ⟨A646, c647, rfl, hk648, hC649⟩ := hK640
   replace HF610 := HF610.ins hC623
   replace HF610 := HF610.ins hC630
   replace HF610 := HF610.ins hC635
   replace HF610 := HF610.ins hC644
   replace HF610 := HF610.ins hC649
   replace H := HF610.hp; try dsimp only [addE] at H
   have hc651 : cellsAt w17 b1 (o2) [.int .i64 g.1.1, .slice A620 (List.length g.1.2.1) c621, .slice A627 (List.length g.1.2.2.1) c628, .slice A632 (List.length g.1.2.2.2) c633, .int .u8 g.2.1.1, .int .u8 g.2.1.2, .slice A641 (List.length g.2.2.1) c642, .slice A646 (List.length g.2.2.2) c647] := hc613
   have HR655 := H
   refine dr_start (S := fun w_ => Chg (atL []) w17 w_) (by kernel_rfl) ?_
   intro w652 hc653
   have HS654 : Chg (atL []) w17 w652 := hc653.mono (fun _ _ h_ => h_.elim)
   replace H := H.ext hc653
   refine dn tbok (by kernel_rfl) [0, 1, 2, 3, 4, 5, 6, 7, 8, 9, 10, 11] [.slice (some ⟨b76, o77, none⟩) (List.length xReply) c13, .slice A604 (List.length (List.getD xReply (Int.toNat q) [])) c605, .slice A641 (List.length g.2.2.1) c642] [(103, .bool (((((List.length (List.getD xReply (Int.toNat q) [])) : Nat) : Int) : Int) != (((List.length g.2.2.1) : Nat) : Int)))] (fun w_ => [World.cell? w_ ⟨g16, 3, none⟩ = some (.slice (some ⟨b76, o77, none⟩) (List.length xReply) c13), 0 ≤ q ∧ q < (((List.length xReply) : Nat) : Int), World.cell? w_ ⟨b76, o77 + (Int.toNat q) * 1, none⟩ = some (.slice A604 (List.length (List.getD xReply (Int.toNat q) [])) c605), World.cell? w_ ⟨b1, o2 + 6, none⟩ = some (.slice A641 (List.length g.2.2.1) c642)]) 0 E (fun _ _ => by kernel_rfl) (by kernel_rfl) (fun w_ hS_ => ⟨(HR655.boxk [] hS_ 4 rfl rfl).cell (j := 3) rfl, g75, hS_.cell (hl606) (HR655.blk [] 3 rds_ro (idx_pos g75) rfl), hS_.cell (hc651.get 6 _ rfl) (HR655.blk [] 0 rds_ro (idx_pos (idx_one _)) rfl)⟩) (by kernel_rfl) HS654 ?_
   clear E; intro a E
   refine dr_done (by kernel_rfl) ?_
   clear HS654 HR655
   refine th_n ?_
   refine E.cases (t := 103) rfl (fun hb_ E_ => ?_) (fun hb_ E_ => ?_)
   ·
    replace E := E_; clear E_
    have h656 : ¬ (((((List.length (List.getD xReply (Int.toNat q) [])) : Nat) : Int) : Int) = (((List.length g.2.2.1) : Nat) : Int)) := bne_iff_ne.1 hb_
    clear hb_; replace hP := ite_f h656 hP
    refine c_true E rfl ?_
    refine wp_seq ?_
    refine wp_region_lit ?_
    refine vn tbok 1 [] [(6, .bool false)] [] E (by kernel_rfl) (by kernel_rfl) trivial ?_
    clear E; intro a E
    refine wpList_nil ?_
    refine th_n ?_
    refine wp_ret ?_
    refine th_ret ?_
    refine bl_ret ?_
    refine th_ret ?_
    obtain rfl := Option.some.inj hP
    refine ret1 E rfl rfl ?_
    exact ⟨_, rfl, rfl, H.sel [] rfl⟩
   replace E := E_; clear E_
   have h657 : ((((List.length (List.getD xReply (Int.toNat q) [])) : Nat) : Int) : Int) = (((List.length g.2.2.1) : Nat) : Int) := bne_eq_false_iff_eq.1 hb_
   clear hb_; replace hP := ite_t h657 hP
   refine c_false E rfl ?_
   refine wp_skip ?_
   refine th_n ?_
   refine wp_seq ?_
   refine wp_region_lit ?_
   obtain ⟨Fz658, cs660, HF659, hK661, hc662⟩ := H.elem 0 false (el_ro rfl) g (idx_one _)
   obtain ⟨_, _, rfl, hK663, hK664⟩ := hK661
   obtain ⟨_, _, rfl, hK665, hK666⟩ := hK663
   obtain rfl := hK665
   obtain ⟨_, _, rfl, hK667, hK668⟩ := hK666
   obtain ⟨A669, c670, rfl, hk671, hC672⟩ := hK667
   obtain ⟨_, _, rfl, hK674, hK675⟩ := hK668
   obtain ⟨A676, c677, rfl, hk678, hC679⟩ := hK674
   obtain ⟨A681, c682, rfl, hk683, hC684⟩ := hK675
   obtain ⟨_, _, rfl, hK686, hK687⟩ := hK664
   obtain rfl := hK686
   obtain ⟨_, _, rfl, hK688, hK689⟩ := hK687
   obtain ⟨A690, c691, rfl, hk692, hC693⟩ := hK688
   obtain ⟨A695, c696, rfl, hk697, hC698⟩ := hK689
   replace HF659 := HF659.ins hC672
   replace HF659 := HF659.ins hC679
   replace HF659 := HF659.ins hC684
   replace HF659 := HF659.ins hC693
   replace HF659 := HF659.ins hC698
   replace H := HF659.hp; try dsimp only [addE] at H
   have hc700 : cellsAt w652 b1 (o2) [.int .i64 g.1.1, .slice A669 (List.length g.1.2.1) c670, .slice A676 (List.length g.1.2.2.1) c677, .slice A681 (List.length g.1.2.2.2) c682, .int .u8 g.2.1.1, .int .u8 g.2.1.2, .slice A690 (List.length g.2.2.1) c691, .slice A695 (List.length g.2.2.2) c696] := hc662
   refine vn tbok 6 [.slice A690 (List.length g.2.2.1) c691] [(107, .slice A690 (List.length g.2.2.1) c691), (108, .int .i64 (((List.length g.2.2.1) : Nat) : Int)), (109, .int .i64 0)] [World.cell? w652 ⟨b1, o2 + 6, none⟩ = some (.slice A690 (List.length g.2.2.1) c691)] E (by kernel_rfl) (by kernel_rfl) (hc700.get 6 _ rfl) ?_
   clear E; intro a E
   refine wpList_nil ?_
   refine th_n ?_
   refine wp_block ?_
   obtain ⟨x872, hL873, hK874⟩ := bind_inv hP
   clear hP
   refine loop_cut (fun i_ a w_ => (i_ = 1 ∧ ∃ (x877 : Unit), Fr a 144 [] ∧ Hp S Fa w0 w_ [] ∧ x872 = Sum.inl x877)) ?_ ?_
   ·
    refine loopV (fun m876 a w875 => ∃ (x785 : Int), Fr a 144 [(0, .pointer (some ⟨b1, o2, none⟩)), (2, .int .i64 q), (4, .pointer (some ⟨g16, 0, none⟩)), (107, .slice A690 (List.length g.2.2.1) c691), (108, .int .i64 (((List.length g.2.2.1) : Nat) : Int)), (109, .int .i64 x785)] ∧ Hp S Fa w0 w875 [.ro false cS87 (some ⟨b1, o2, none⟩) ([g]), .ro false (cInt .i64) (some ⟨b22, o23, none⟩) xRanks, .ro false (cInt .u8) A8 xChoice, .ro false (cSl (cInt .u8)) (some ⟨b76, o77, none⟩) xReply, .box g16 38 [.bool xWins, .slice (some ⟨b22, o23, none⟩) (List.length xRanks) c5, .slice A8 (List.length xChoice) c9, .slice (some ⟨b76, o77, none⟩) (List.length xReply) c13], .ro false (cInt .u8) A690 g.2.2.1] ∧ moore_game_keeps_l1 N g xRanks xReply q m876 x785 = some x872) N ?_ ?_
    ·
     exact ⟨0, E.pick _ ⟨rfl, rfl, rfl, rfl, rfl, rfl, trivial⟩, H.sel [0, 1, 2, 3, 4, 20] rfl, hL873⟩
    clear E H hL873; intro m876 a w875 hI_
    obtain ⟨x785, E, H, hP⟩ := hI_
    obtain ⟨m871, rfl⟩ : ∃ q_, m876 = q_ + 1 := by cases m876 with | zero => rw [moore_game_keeps_l1] at hP; cases hP | succ q_ => exact ⟨q_, rfl⟩
    rw [moore_game_keeps_l1] at hP
    refine wp_seq ?_
    refine wp_region_lit ?_
    refine vn tbok 1 [] [(110, .bool (decide (x785 < (((List.length g.2.2.1) : Nat) : Int))))] [] E (by kernel_rfl) (by kernel_rfl) trivial ?_
    clear E; intro a E
    refine wpList_nil ?_
    refine th_n ?_
    refine wp_seq ?_
    refine E.cases (t := 110) rfl (fun hb_ E_ => ?_) (fun hb_ E_ => ?_)
    ·
     replace E := E_; clear E_
     have h878 : x785 < (((List.length g.2.2.1) : Nat) : Int) := of_decide_eq_true hb_
     clear hb_; replace hP := ite_t h878 hP
     refine c_true E rfl ?_
     refine wp_skip ?_
     refine th_n ?_
     refine wp_seq ?_
     refine wp_block ?_
     refine wp_seq ?_
     refine wp_region_lit ?_
     obtain ⟨g879, hP⟩ := ask_inv hP
     obtain ⟨b880, o881, e_b880⟩ := (H.rd 5 rds_ro).addr (idx_pos g879)
     subst e_b880
     refine vn tbok 5 [.int .u8 (List.getD g.2.2.1 (Int.toNat x785) 0)] [(9, .int .i64 x785), (10, .int .u8 (List.getD g.2.2.1 (Int.toNat x785) 0))] [0 ≤ x785 ∧ x785 < (((List.length g.2.2.1) : Nat) : Int), World.cell? w875 ⟨b880, o881 + (Int.toNat x785) * 1, none⟩ = some (.int .u8 (List.getD g.2.2.1 (Int.toNat x785) 0))] E (by kernel_rfl) (by kernel_rfl) ⟨g879, Rds.at1 (H.rd 5 rds_ro) 0 g879⟩ ?_
     clear E; intro a E
     refine wpList_nil ?_
     refine th_n ?_
     refine wp_seq ?_
     refine wp_region_lit ?_
     obtain ⟨A882, c883, hl884, hk885, H⟩ := H.subSl 3 false (el_ro rfl) g75
     try dsimp only [addE] at H
     obtain ⟨g887, hP⟩ := ask_inv hP
     obtain ⟨b888, o889, e_b888⟩ := (H.rd 6 rds_ro).addr (idx_pos g887)
     subst e_b888
     refine vn tbok 9 [.slice (some ⟨b76, o77, none⟩) (List.length xReply) c13, .slice (some ⟨b888, o889, none⟩) (List.length (List.getD xReply (Int.toNat q) [])) c883, .int .u8 (List.getD (List.getD xReply (Int.toNat q) []) (Int.toNat x785) 0)] [(11, .int .u8 (List.getD (List.getD xReply (Int.toNat q) []) (Int.toNat x785) 0))] [World.cell? w875 ⟨g16, 3, none⟩ = some (.slice (some ⟨b76, o77, none⟩) (List.length xReply) c13), 0 ≤ q ∧ q < (((List.length xReply) : Nat) : Int), World.cell? w875 ⟨b76, o77 + (Int.toNat q) * 1, none⟩ = some (.slice (some ⟨b888, o889, none⟩) (List.length (List.getD xReply (Int.toNat q) [])) c883), 0 ≤ x785 ∧ x785 < (((List.length (List.getD xReply (Int.toNat q) [])) : Nat) : Int), World.cell? w875 ⟨b888, o889 + (Int.toNat x785) * 1, none⟩ = some (.int .u8 (List.getD (List.getD xReply (Int.toNat q) []) (Int.toNat x785) 0))] E (by kernel_rfl) (by kernel_rfl) ⟨(H.box 4 rfl).cell (j := 3) rfl, g75, hl884, g887, Rds.at1 (H.rd 6 rds_ro) 0 g887⟩ ?_
     clear E; intro a E
     refine wpList_nil ?_
     refine th_n ?_
     refine wp_seq ?_
     obtain ⟨Fz890, cs892, HF891, hK893, hc894⟩ := H.elem 0 false (el_ro rfl) g (idx_one _)
     obtain ⟨_, _, rfl, hK895, hK896⟩ := hK893
     obtain ⟨_, _, rfl, hK897, hK898⟩ := hK895
     obtain rfl := hK897
     obtain ⟨_, _, rfl, hK899, hK900⟩ := hK898
     obtain ⟨A901, c902, rfl, hk903, hC904⟩ := hK899
     obtain ⟨_, _, rfl, hK906, hK907⟩ := hK900
     obtain ⟨A908, c909, rfl, hk910, hC911⟩ := hK906
     obtain ⟨A913, c914, rfl, hk915, hC916⟩ := hK907
     obtain ⟨_, _, rfl, hK918, hK919⟩ := hK896
     obtain rfl := hK918
     obtain ⟨_, _, rfl, hK920, hK921⟩ := hK919
     obtain ⟨A922, c923, rfl, hk924, hC925⟩ := hK920
     obtain ⟨A927, c928, rfl, hk929, hC930⟩ := hK921
     replace HF891 := HF891.ins hC904
     replace HF891 := HF891.ins hC911
     replace HF891 := HF891.ins hC916
     replace HF891 := HF891.ins hC925
     replace HF891 := HF891.ins hC930
     replace H := HF891.hp; try dsimp only [addE] at H
     have hc932 : cellsAt w875 b1 (o2) [.int .i64 g.1.1, .slice A901 (List.length g.1.2.1) c902, .slice A908 (List.length g.1.2.2.1) c909, .slice A913 (List.length g.1.2.2.2) c914, .int .u8 g.2.1.1, .int .u8 g.2.1.2, .slice A922 (List.length g.2.2.1) c923, .slice A927 (List.length g.2.2.2) c928] := hc894
     by_cases h933 : (andNotV .u8 (List.getD (List.getD xReply (Int.toNat q) []) (Int.toNat x785) 0) g.2.1.1 : Int) = 0
     ·
      replace hP := ite_t h933 hP
      obtain ⟨r934, h935, hP⟩ := bind_inv hP
      obtain ⟨g943, hP⟩ := ask_inv hP
      have HR947 := H
      refine dr_start (S := fun w_ => Chg (atL []) w875 w_) (by kernel_rfl) ?_
      intro w944 hc945
      have HS946 : Chg (atL []) w875 w944 := hc945.mono (fun _ _ h_ => h_.elim)
      replace H := H.ext hc945
      refine dn tbok (by kernel_rfl) [0, 1, 2, 3, 4, 5, 6, 7, 8] [.int .u8 g.2.1.1, .int .u8 (andNotV .u8 (List.getD (List.getD xReply (Int.toNat q) []) (Int.toNat x785) 0) g.2.1.1)] [(130, .bool ((andNotV .u8 (List.getD (List.getD xReply (Int.toNat q) []) (Int.toNat x785) 0) g.2.1.1 : Int) != 0))] (fun w_ => [World.cell? w_ ⟨b1, o2 + 4, none⟩ = some (.int .u8 g.2.1.1), IntKind.u8.wrap (BitVec.ofInt (IntKind.bits .u8) (List.getD (List.getD xReply (Int.toNat q) []) (Int.toNat x785) 0) &&& ~~~ BitVec.ofInt (IntKind.bits .u8) g.2.1.1).toNat = andNotV .u8 (List.getD (List.getD xReply (Int.toNat q) []) (Int.toNat x785) 0) g.2.1.1]) 12 E (fun _ _ => by kernel_rfl) (by kernel_rfl) (fun w_ hS_ => ⟨hS_.cell (hc932.get 4 _ rfl) (HR947.blk [] 0 rds_ro (idx_pos (idx_one _)) rfl), rfl⟩) (by kernel_rfl) HS946 ?_
      clear E; intro a E
      replace E := E.same (t := 130) (u := .bool false) rfl (congrArg Value.bool (bne_eq_false_iff_eq.2 h933))
      refine dn tbok (by kernel_rfl) [9, 10, 11, 12, 13, 14, 15] [.slice (some ⟨b22, o23, none⟩) (List.length xRanks) c5, .int .u8 (orV .u8 (List.getD g.2.2.1 (Int.toNat x785) 0) (List.getD (List.getD xReply (Int.toNat q) []) (Int.toNat x785) 0))] [(132, .slice (some ⟨b22, o23, none⟩) (List.length xRanks) c5), (133, .pointer (some ⟨b1, o2, none⟩)), (134, .int .i64 q), (137, .int .u8 (orV .u8 (List.getD g.2.2.1 (Int.toNat x785) 0) (List.getD (List.getD xReply (Int.toNat q) []) (Int.toNat x785) 0)))] (fun w_ => [World.cell? w_ ⟨g16, 1, none⟩ = some (.slice (some ⟨b22, o23, none⟩) (List.length xRanks) c5), IntKind.u8.wrap (BitVec.ofInt (IntKind.bits .u8) (List.getD g.2.2.1 (Int.toNat x785) 0) ||| BitVec.ofInt (IntKind.bits .u8) (List.getD (List.getD xReply (Int.toNat q) []) (Int.toNat x785) 0)).toNat = orV .u8 (List.getD g.2.2.1 (Int.toNat x785) 0) (List.getD (List.getD xReply (Int.toNat q) []) (Int.toNat x785) 0)]) 5 E (fun _ _ => by kernel_rfl) (by kernel_rfl) (fun w_ hS_ => ⟨(HR947.boxk [] hS_ 4 rfl rfl).cell (j := 1) rfl, rfl⟩) (by kernel_rfl) HS946 ?_
      clear E; intro a E
      refine wpAnyH_all (rs := [16]) (by kernel_rfl) (by simp) ?_
      refine all1 ?_
      refine wpOp_of_list rfl ?_
      obtain ⟨Fa948, Hc949, hb950⟩ := H.call [] [(0, false)] rfl rfl trivial
      refine e_call E rfl rfl Try.func50 rfl rfl rfl (moore_game_to_calls b1 o2 g q (orV .u8 (List.getD g.2.2.1 (Int.toNat x785) 0) (List.getD (List.getD xReply (Int.toNat q) []) (Int.toNat x785) 0))  Hc949 h935) ?_
      rintro v951 w952 a ⟨rfl, HR953⟩ E_
      replace E := E_ _ rfl; clear E_
      obtain ⟨H_, hc954⟩ := hb950 _ _ HR953 rfl
      replace HS946 := HS946.ext (callS_ext hc954)
      replace H := H_; clear H_; try dsimp only [setn, addE, goneL] at H
      refine wpList_nil ?_
      refine th_n ⟨HS946, ?_⟩
      refine dn tbok (by kernel_rfl) [17, 18, 19, 20] [.int .i64 (List.getD xRanks (Int.toNat r934) 0)] [(142, .bool (((List.getD xRanks (Int.toNat r934) 0) : Int) != (-1)))] (fun w_ => [0 ≤ r934 ∧ r934 < (((List.length xRanks) : Nat) : Int), World.cell? w_ ⟨b22, o23 + (Int.toNat r934) * 1, none⟩ = some (.int .i64 (List.getD xRanks (Int.toNat r934) 0))]) 0 E (fun _ _ => by kernel_rfl) (by kernel_rfl) (fun w_ hS_ => ⟨g943, Rds.at1 (HR947.rdk [] hS_ 1 rds_ro rfl) 0 g943⟩) (by kernel_rfl) HS946 ?_
      clear E; intro a E
      refine dr_done (by kernel_rfl) ?_
      clear HS946 HR947
      refine th_n ?_
      refine E.cases (t := 142) rfl (fun hb_ E_ => ?_) (fun hb_ E_ => ?_)
      ·
       replace E := E_; clear E_
       have h955 : ¬ (((List.getD xRanks (Int.toNat r934) 0) : Int) = -1) := bne_iff_ne.1 hb_
       clear hb_; replace hP := ite_f h955 hP
       refine c_true E rfl ?_
       refine wp_seq ?_
       refine wp_region_lit ?_
       refine vn tbok 1 [] [(6, .bool false)] [] E (by kernel_rfl) (by kernel_rfl) trivial ?_
       clear E; intro a E
       refine wpList_nil ?_
       refine th_n ?_
       refine wp_ret ?_
       refine bl_ret ?_
       refine th_ret ?_
       refine th_ret ?_
       refine .inr ⟨rfl, ?_⟩
       refine bl_ret ?_
       refine bl_ret ?_
       refine th_ret ?_
       have hx_ := Option.some.inj hP; subst hx_
       have hP : some (false) = some r := hK874
       obtain rfl := Option.some.inj hP
       refine ret1 E rfl rfl ?_
       exact ⟨_, rfl, rfl, H.sel [] rfl⟩
      replace E := E_; clear E_
      have h956 : ((List.getD xRanks (Int.toNat r934) 0) : Int) = -1 := bne_eq_false_iff_eq.1 hb_
      clear hb_; replace hP := ite_t h956 hP
      refine c_false E rfl ?_
      refine wp_skip ?_
      refine bl_n ?_
      refine th_n ?_
      refine wp_region_lit ?_
      obtain ⟨g957, hP⟩ := ask_inv hP
      refine vn tbok 2 [.int .i64 (x785 + 1)] [(109, .int .i64 (x785 + 1))] [IntKind.i64.wrap (x785 + 1) = x785 + 1] E (by kernel_rfl) (by kernel_rfl) (wrap_in g957) ?_
      clear E; intro a E
      refine wpList_nil ?_
      exact th_n ⟨m871, Nat.lt_succ_self _, x785 + 1, E.pick _ ⟨rfl, rfl, rfl, rfl, rfl, rfl, trivial⟩, H.sel [0, 1, 2, 3, 4, 5] rfl, hP⟩
     replace hP := ite_f h933 hP
     have HR961 := H
     refine dr_start (S := fun w_ => Chg (atL []) w875 w_) (by kernel_rfl) ?_
     intro w958 hc959
     have HS960 : Chg (atL []) w875 w958 := hc959.mono (fun _ _ h_ => h_.elim)
     replace H := H.ext hc959
     refine dn tbok (by kernel_rfl) [0, 1, 2, 3, 4, 5, 6, 7, 8] [.int .u8 g.2.1.1, .int .u8 (andNotV .u8 (List.getD (List.getD xReply (Int.toNat q) []) (Int.toNat x785) 0) g.2.1.1)] [(130, .bool ((andNotV .u8 (List.getD (List.getD xReply (Int.toNat q) []) (Int.toNat x785) 0) g.2.1.1 : Int) != 0))] (fun w_ => [World.cell? w_ ⟨b1, o2 + 4, none⟩ = some (.int .u8 g.2.1.1), IntKind.u8.wrap (BitVec.ofInt (IntKind.bits .u8) (List.getD (List.getD xReply (Int.toNat q) []) (Int.toNat x785) 0) &&& ~~~ BitVec.ofInt (IntKind.bits .u8) g.2.1.1).toNat = andNotV .u8 (List.getD (List.getD xReply (Int.toNat q) []) (Int.toNat x785) 0) g.2.1.1]) 12 E (fun _ _ => by kernel_rfl) (by kernel_rfl) (fun w_ hS_ => ⟨hS_.cell (hc932.get 4 _ rfl) (HR961.blk [] 0 rds_ro (idx_pos (idx_one _)) rfl), rfl⟩) (by kernel_rfl) HS960 ?_
     clear E; intro a E
     replace E := E.same (t := 130) (u := .bool true) rfl (congrArg Value.bool (bne_iff_ne.2 h933))
     refine dn tbok (by kernel_rfl) [9, 10, 11, 12, 13, 14, 15, 16, 17, 18, 19, 20] [] [(142, .bool true)] (fun w_ => []) 0 E (fun _ _ => by kernel_rfl) (by kernel_rfl) (fun w_ hS_ => trivial) (by kernel_rfl) HS960 ?_
     clear E; intro a E
     refine dr_done (by kernel_rfl) ?_
     clear HS960 HR961
     refine th_n ?_
     refine c_true E rfl ?_
     refine wp_seq ?_
     refine wp_region_lit ?_
     refine vn tbok 1 [] [(6, .bool false)] [] E (by kernel_rfl) (by kernel_rfl) trivial ?_
     clear E; intro a E
     refine wpList_nil ?_
     refine th_n ?_
     refine wp_ret ?_
     refine bl_ret ?_
     refine th_ret ?_
     refine th_ret ?_
     refine .inr ⟨rfl, ?_⟩
     refine bl_ret ?_
     refine bl_ret ?_
     refine th_ret ?_
     have hx_ := Option.some.inj hP; subst hx_
     have hP : some (false) = some r := hK874
     obtain rfl := Option.some.inj hP
     refine ret1 E rfl rfl ?_
     exact ⟨_, rfl, rfl, H.sel [] rfl⟩
    replace E := E_; clear E_
    have h962 : ¬ (x785 < (((List.length g.2.2.1) : Nat) : Int)) := of_decide_eq_false hb_
    clear hb_; replace hP := ite_f h962 hP
    refine c_false E rfl ?_
    refine wp_exit ?_
    refine th_exit ?_
    have hx_ := Option.some.inj hP
    refine th_exit (.inl ⟨1, rfl, ?_⟩)
    exact ⟨rfl, (), E.pick _ trivial, H.sel [] rfl, hx_.symm⟩
   clear E H hL873; intro i_ a w875 hM_
   obtain ⟨rfl, x877, E, H, hx_⟩ := hM_
   subst hx_; have hP := elim_l hK874
   clear hK874
   refine bl_hit ?_
   refine bl_n ?_
   refine th_n ?_
   refine wp_seq ?_
   refine wp_region_lit ?_
   refine vn tbok 1 [] [(6, .bool true)] [] E (by kernel_rfl) (by kernel_rfl) trivial ?_
   clear E; intro a E
   refine wpList_nil ?_
   refine th_n ?_
   refine wp_ret ?_
   obtain rfl := Option.some.inj hP
   refine ret1 E rfl rfl ?_
   exact ⟨_, rfl, rfl, H.sel [] rfl⟩
  replace E := E_; clear E_
  have h964 : ¬ ((List.getD xRanks (Int.toNat q) 0) < 0) := of_decide_eq_false hb_
  clear hb_; replace hP := ite_f h964 hP
  refine c_false E rfl ?_
  refine wp_skip ?_
  refine bl_n ?_
  refine th_n ?_
  refine wp_seq ?_
  refine wp_region_lit ?_
  refine vn tbok 1 [] [(6, .bool true)] [] E (by kernel_rfl) (by kernel_rfl) trivial ?_
  clear E; intro a E
  refine wpList_nil ?_
  refine th_n ?_
  refine wp_ret ?_
  obtain rfl := Option.some.inj hP
  refine ret1 E rfl rfl ?_
  exact ⟨_, rfl, rfl, H.sel [] rfl⟩
 replace E := E_; clear E_
 have h965 : ¬ (0 ≤ (List.getD xRanks (Int.toNat q) 0)) := of_decide_eq_false hb_
 clear hb_; replace hP := ite_f h965 hP
 refine vn tbok 13 [] [(45, .bool false), (48, .bool (decide ((List.getD xRanks (Int.toNat q) 0) ≤ 0)))] [] E (by kernel_rfl) (by kernel_rfl) trivial ?_
 clear E; intro a E
 refine E.cases (t := 48) rfl (fun hb_ E_ => ?_) (fun hb_ E_ => ?_)
 ·
  replace E := E_; clear E_
  have h966 : (List.getD xRanks (Int.toNat q) 0) ≤ 0 := of_decide_eq_true hb_
  clear hb_; replace hP := ite_t h966 hP
  obtain ⟨g967, hP⟩ := ask_inv hP
  obtain ⟨b968, o969, e_b968⟩ := (H.rd 2 rds_ro).addr (idx_pos g967)
  subst e_b968
  refine vn tbok 8 [.slice (some ⟨b968, o969, none⟩) (List.length xChoice) c9, .int .u8 (List.getD xChoice (Int.toNat q) 0)] [(56, .bool (((List.getD xChoice (Int.toNat q) 0) : Int) != 0))] [World.cell? w17 ⟨g16, 2, none⟩ = some (.slice (some ⟨b968, o969, none⟩) (List.length xChoice) c9), 0 ≤ q ∧ q < (((List.length xChoice) : Nat) : Int), World.cell? w17 ⟨b968, o969 + (Int.toNat q) * 1, none⟩ = some (.int .u8 (List.getD xChoice (Int.toNat q) 0))] E (by kernel_rfl) (by kernel_rfl) ⟨(H.box 4 rfl).cell (j := 2) rfl, g967, Rds.at1 (H.rd 2 rds_ro) 0 g967⟩ ?_
  clear E; intro a E
  refine wpList_nil ?_
  refine th_n ?_
  refine E.cases (t := 56) rfl (fun hb_ E_ => ?_) (fun hb_ E_ => ?_)
  ·
   replace E := E_; clear E_
   have h970 : ¬ (((List.getD xChoice (Int.toNat q) 0) : Int) = 0) := bne_iff_ne.1 hb_
   clear hb_; replace hP := ite_f h970 hP
   refine c_true E rfl ?_
   refine wp_seq ?_
   refine wp_region_lit ?_
   refine vn tbok 1 [] [(6, .bool false)] [] E (by kernel_rfl) (by kernel_rfl) trivial ?_
   clear E; intro a E
   refine wpList_nil ?_
   refine th_n ?_
   refine wp_ret ?_
   refine th_ret ?_
   obtain rfl := Option.some.inj hP
   refine ret1 E rfl rfl ?_
   exact ⟨_, rfl, rfl, H.sel [] rfl⟩
  replace E := E_; clear E_
  have h971 : ((List.getD xChoice (Int.toNat q) 0) : Int) = 0 := bne_eq_false_iff_eq.1 hb_
  clear hb_; replace hP := ite_t h971 hP
  refine c_false E rfl ?_
  refine wp_skip ?_
  refine th_n ?_
  refine wp_seq ?_
  refine wp_block ?_
  refine wp_seq ?_
  refine wp_region_lit ?_
  refine vn tbok 3 [] [(57, .bool (decide (0 < (List.getD xRanks (Int.toNat q) 0))))] [] E (by kernel_rfl) (by kernel_rfl) trivial ?_
  clear E; intro a E
  refine wpList_nil ?_
  refine th_n ?_
  refine E.cases (t := 57) rfl (fun hb_ E_ => ?_) (fun hb_ E_ => ?_)
  ·
   replace E := E_; clear E_
   have h972 : 0 < (List.getD xRanks (Int.toNat q) 0) := of_decide_eq_true hb_
   clear hb_; replace hP := ite_t h972 hP
   refine c_true E rfl ?_
   refine wp_seq ?_
   refine wp_region_lit ?_
   refine vn tbok 1 [] [(8, .int .i64 (-1))] [] E (by kernel_rfl) (by kernel_rfl) trivial ?_
   clear E; intro a E
   refine wpList_nil ?_
   refine th_n ?_
   refine wp_seq ?_
   refine wp_seq ?_
   obtain ⟨Fz973, cs975, HF974, hK976, hc977⟩ := H.elem 0 false (el_ro rfl) g (idx_one _)
   obtain ⟨_, _, rfl, hK978, hK979⟩ := hK976
   obtain ⟨_, _, rfl, hK980, hK981⟩ := hK978
   obtain rfl := hK980
   obtain ⟨_, _, rfl, hK982, hK983⟩ := hK981
   obtain ⟨A984, c985, rfl, hk986, hC987⟩ := hK982
   obtain ⟨_, _, rfl, hK989, hK990⟩ := hK983
   obtain ⟨A991, c992, rfl, hk993, hC994⟩ := hK989
   obtain ⟨A996, c997, rfl, hk998, hC999⟩ := hK990
   obtain ⟨_, _, rfl, hK1001, hK1002⟩ := hK979
   obtain rfl := hK1001
   obtain ⟨_, _, rfl, hK1003, hK1004⟩ := hK1002
   obtain ⟨A1005, c1006, rfl, hk1007, hC1008⟩ := hK1003
   obtain ⟨A1010, c1011, rfl, hk1012, hC1013⟩ := hK1004
   replace HF974 := HF974.ins hC987
   replace HF974 := HF974.ins hC994
   replace HF974 := HF974.ins hC999
   replace HF974 := HF974.ins hC1008
   replace HF974 := HF974.ins hC1013
   replace H := HF974.hp; try dsimp only [addE] at H
   have hc1015 : cellsAt w17 b1 (o2) [.int .i64 g.1.1, .slice A984 (List.length g.1.2.1) c985, .slice A991 (List.length g.1.2.2.1) c992, .slice A996 (List.length g.1.2.2.2) c997, .int .u8 g.2.1.1, .int .u8 g.2.1.2, .slice A1005 (List.length g.2.2.1) c1006, .slice A1010 (List.length g.2.2.2) c1011] := hc977
   have HR1019 := H
   refine dr_start (S := fun w_ => Chg (atL []) w17 w_) (by kernel_rfl) ?_
   intro w1016 hc1017
   have HS1018 : Chg (atL []) w17 w1016 := hc1017.mono (fun _ _ h_ => h_.elim)
   replace H := H.ext hc1017
   refine dn tbok (by kernel_rfl) [0, 1, 2, 3, 4, 5, 6, 7, 8, 9, 10, 11] [.slice (some ⟨b968, o969, none⟩) (List.length xChoice) c9, .int .u8 (List.getD xChoice (Int.toNat q) 0), .int .u8 g.2.1.2, .int .u8 (andNotV .u8 (List.getD xChoice (Int.toNat q) 0) g.2.1.2)] [(71, .bool ((andNotV .u8 (List.getD xChoice (Int.toNat q) 0) g.2.1.2 : Int) == 0))] (fun w_ => [World.cell? w_ ⟨g16, 2, none⟩ = some (.slice (some ⟨b968, o969, none⟩) (List.length xChoice) c9), 0 ≤ q ∧ q < (((List.length xChoice) : Nat) : Int), World.cell? w_ ⟨b968, o969 + (Int.toNat q) * 1, none⟩ = some (.int .u8 (List.getD xChoice (Int.toNat q) 0)), World.cell? w_ ⟨b1, o2 + 4 + 1, none⟩ = some (.int .u8 g.2.1.2), IntKind.u8.wrap (BitVec.ofInt (IntKind.bits .u8) (List.getD xChoice (Int.toNat q) 0) &&& ~~~ BitVec.ofInt (IntKind.bits .u8) g.2.1.2).toNat = andNotV .u8 (List.getD xChoice (Int.toNat q) 0) g.2.1.2]) 0 E (fun _ _ => by kernel_rfl) (by kernel_rfl) (fun w_ hS_ => ⟨(HR1019.boxk [] hS_ 4 rfl rfl).cell (j := 2) rfl, g967, Rds.at1 (HR1019.rdk [] hS_ 2 rds_ro rfl) 0 g967, hS_.cell (hc1015.get 5 _ rfl) (HR1019.blk [] 0 rds_ro (idx_pos (idx_one _)) rfl), rfl⟩) (by kernel_rfl) HS1018 ?_
   clear E; intro a E
   refine dr_done (by kernel_rfl) ?_
   clear HS1018 HR1019
   refine th_n ?_
   refine E.cases (t := 71) rfl (fun hb_ E_ => ?_) (fun hb_ E_ => ?_)
   ·
    replace E := E_; clear E_
    have h1020 : (andNotV .u8 (List.getD xChoice (Int.toNat q) 0) g.2.1.2 : Int) = 0 := eq_of_beq hb_
    clear hb_; replace hP := ite_t h1020 hP
    refine c_true E rfl ?_
    obtain ⟨r1021, h1022, hP⟩ := bind_inv hP
    have HR1033 := H
    refine dr_start (S := fun w_ => Chg (atL []) w1016 w_) (by kernel_rfl) ?_
    intro w1030 hc1031
    have HS1032 : Chg (atL []) w1016 w1030 := hc1031.mono (fun _ _ h_ => h_.elim)
    replace H := H.ext hc1031
    refine dn tbok (by kernel_rfl) [0, 1, 2, 3, 4, 5, 6, 7, 8] [.slice (some ⟨b22, o23, none⟩) (List.length xRanks) c5, .slice (some ⟨b968, o969, none⟩) (List.length xChoice) c9, .int .u8 (List.getD xChoice (Int.toNat q) 0)] [(72, .pointer (some ⟨b1, o2, none⟩)), (74, .slice (some ⟨b22, o23, none⟩) (List.length xRanks) c5), (75, .int .i64 q), (80, .int .u8 (List.getD xChoice (Int.toNat q) 0))] (fun w_ => [World.cell? w_ ⟨g16, 1, none⟩ = some (.slice (some ⟨b22, o23, none⟩) (List.length xRanks) c5), World.cell? w_ ⟨g16, 2, none⟩ = some (.slice (some ⟨b968, o969, none⟩) (List.length xChoice) c9), 0 ≤ q ∧ q < (((List.length xChoice) : Nat) : Int), World.cell? w_ ⟨b968, o969 + (Int.toNat q) * 1, none⟩ = some (.int .u8 (List.getD xChoice (Int.toNat q) 0))]) 2 E (fun _ _ => by kernel_rfl) (by kernel_rfl) (fun w_ hS_ => ⟨(HR1033.boxk [] hS_ 4 rfl rfl).cell (j := 1) rfl, (HR1033.boxk [] hS_ 4 rfl rfl).cell (j := 2) rfl, g967, Rds.at1 (HR1033.rdk [] hS_ 2 rds_ro rfl) 0 g967⟩) (by kernel_rfl) HS1032 ?_
    clear E; intro a E
    refine wpAnyH_all (rs := [9]) (by kernel_rfl) (by simp) ?_
    refine all1 ?_
    refine wpOp_of_list rfl ?_
    obtain ⟨Fa1034, Hc1035, hb1036⟩ := H.call [] [(0, false), (1, false)] rfl rfl trivial
    refine e_call E rfl rfl Try.func60 rfl rfl rfl (moore_game_worst_calls b1 o2 (some ⟨b22, o23, none⟩) c5 g xRanks q (List.getD xChoice (Int.toNat q) 0) hk6 Hc1035 h1022) ?_
    rintro v1037 w1038 a ⟨rfl, HR1039⟩ E_
    replace E := E_ _ rfl; clear E_
    obtain ⟨H_, hc1040⟩ := hb1036 _ _ HR1039 rfl
    replace HS1032 := HS1032.ext (callS_ext hc1040)
    replace H := H_; clear H_; try dsimp only [setn, addE, goneL] at H
    refine wpList_nil ?_
    refine th_n ⟨HS1032, ?_⟩
    refine dn tbok (by kernel_rfl) [10] [] [(8, .int .i64 r1021)] (fun w_ => []) 0 E (fun _ _ => by kernel_rfl) (by kernel_rfl) (fun w_ hS_ => trivial) (by kernel_rfl) HS1032 ?_
    clear E; intro a E
    refine dr_done (by kernel_rfl) ?_
    clear HS1032 HR1033
    refine th_n ?_
    refine wp_seq ?_
    refine wp_region_lit ?_
    refine vn tbok 3 [] [(84, .bool (decide (0 ≤ r1021)))] [] E (by kernel_rfl) (by kernel_rfl) trivial ?_
    clear E; intro a E
    refine E.cases (t := 84) rfl (fun hb_ E_ => ?_) (fun hb_ E_ => ?_)
    ·
     replace E := E_; clear E_
     have h1041 : 0 ≤ r1021 := of_decide_eq_true hb_
     clear hb_; replace hP := ite_t h1041 hP
     refine vn tbok 5 [] [(6, .bool (decide (r1021 < (List.getD xRanks (Int.toNat q) 0))))] [] E (by kernel_rfl) (by kernel_rfl) trivial ?_
     clear E; intro a E
     refine wpList_nil ?_
     refine th_n ?_
     refine wp_ret ?_
     refine bl_ret ?_
     refine th_ret ?_
     obtain rfl := Option.some.inj hP
     refine ret1 E rfl rfl ?_
     exact ⟨_, rfl, rfl, H.sel [] rfl⟩
    replace E := E_; clear E_
    have h1042 : ¬ (0 ≤ r1021) := of_decide_eq_false hb_
    clear hb_; replace hP := ite_f h1042 hP
    refine vn tbok 5 [] [(6, .bool false)] [] E (by kernel_rfl) (by kernel_rfl) trivial ?_
    clear E; intro a E
    refine wpList_nil ?_
    refine th_n ?_
    refine wp_ret ?_
    refine bl_ret ?_
    refine th_ret ?_
    obtain rfl := Option.some.inj hP
    refine ret1 E rfl rfl ?_
    exact ⟨_, rfl, rfl, H.sel [] rfl⟩
   replace E := E_; clear E_
   have h1043 : ¬ ((andNotV .u8 (List.getD xChoice (Int.toNat q) 0) g.2.1.2 : Int) = 0) := ne_of_beq_false hb_
   clear hb_; replace hP := ite_f h1043 hP
   refine c_false E rfl ?_
   refine wp_skip ?_
   refine th_n ?_
   refine wp_seq ?_
   refine wp_region_lit ?_
   refine vn tbok 8 [] [(6, .bool false)] [] E (by kernel_rfl) (by kernel_rfl) trivial ?_
   clear E; intro a E
   refine wpList_nil ?_
   refine th_n ?_
   refine wp_ret ?_
   refine bl_ret ?_
   refine th_ret ?_
   obtain rfl := Option.some.inj hP
   refine ret1 E rfl rfl ?_
   exact ⟨_, rfl, rfl, H.sel [] rfl⟩
  replace E := E_; clear E_
  have h1044 : ¬ (0 < (List.getD xRanks (Int.toNat q) 0)) := of_decide_eq_false hb_
  clear hb_; replace hP := ite_f h1044 hP
  refine c_false E rfl ?_
  refine wp_seq ?_
  refine wp_region_lit ?_
  refine vn tbok 3 [] [(89, .bool (decide ((List.getD xRanks (Int.toNat q) 0) < 0)))] [] E (by kernel_rfl) (by kernel_rfl) trivial ?_
  clear E; intro a E
  refine wpList_nil ?_
  refine th_n ?_
  refine E.cases (t := 89) rfl (fun hb_ E_ => ?_) (fun hb_ E_ => ?_)
  ·
   replace E := E_; clear E_
   have h1045 : (List.getD xRanks (Int.toNat q) 0) < 0 := of_decide_eq_true hb_
   clear hb_; replace hP := ite_t h1045 hP
   refine c_true E rfl ?_
   refine wp_seq ?_
   refine wp_seq ?_
   obtain ⟨g1046, hP⟩ := ask_inv hP
   obtain ⟨b1047, o1048, e_b1047⟩ := (H.rd 3 rds_ro).addr (idx_pos g1046)
   subst e_b1047
   obtain ⟨A1049, c1050, hl1051, hk1052, H⟩ := H.subSl 3 false (el_ro rfl) g1046
   try dsimp only [addE] at H
   obtain ⟨Fz1054, cs1056, HF1055, hK1057, hc1058⟩ := H.elem 0 false (el_ro rfl) g (idx_one _)
   obtain ⟨_, _, rfl, hK1059, hK1060⟩ := hK1057
   obtain ⟨_, _, rfl, hK1061, hK1062⟩ := hK1059
   obtain rfl := hK1061
   obtain ⟨_, _, rfl, hK1063, hK1064⟩ := hK1062
   obtain ⟨A1065, c1066, rfl, hk1067, hC1068⟩ := hK1063
   obtain ⟨_, _, rfl, hK1070, hK1071⟩ := hK1064
   obtain ⟨A1072, c1073, rfl, hk1074, hC1075⟩ := hK1070
   obtain ⟨A1077, c1078, rfl, hk1079, hC1080⟩ := hK1071
   obtain ⟨_, _, rfl, hK1082, hK1083⟩ := hK1060
   obtain rfl := hK1082
   obtain ⟨_, _, rfl, hK1084, hK1085⟩ := hK1083
   obtain ⟨A1086, c1087, rfl, hk1088, hC1089⟩ := hK1084
   obtain ⟨A1091, c1092, rfl, hk1093, hC1094⟩ := hK1085
   replace HF1055 := HF1055.ins hC1068
   replace HF1055 := HF1055.ins hC1075
   replace HF1055 := HF1055.ins hC1080
   replace HF1055 := HF1055.ins hC1089
   replace HF1055 := HF1055.ins hC1094
   replace H := HF1055.hp; try dsimp only [addE] at H
   have hc1096 : cellsAt w17 b1 (o2) [.int .i64 g.1.1, .slice A1065 (List.length g.1.2.1) c1066, .slice A1072 (List.length g.1.2.2.1) c1073, .slice A1077 (List.length g.1.2.2.2) c1078, .int .u8 g.2.1.1, .int .u8 g.2.1.2, .slice A1086 (List.length g.2.2.1) c1087, .slice A1091 (List.length g.2.2.2) c1092] := hc1058
   have HR1100 := H
   refine dr_start (S := fun w_ => Chg (atL []) w17 w_) (by kernel_rfl) ?_
   intro w1097 hc1098
   have HS1099 : Chg (atL []) w17 w1097 := hc1098.mono (fun _ _ h_ => h_.elim)
   replace H := H.ext hc1098
   refine dn tbok (by kernel_rfl) [0, 1, 2, 3, 4, 5, 6, 7, 8, 9, 10, 11] [.slice (some ⟨b1047, o1048, none⟩) (List.length xReply) c13, .slice A1049 (List.length (List.getD xReply (Int.toNat q) [])) c1050, .slice A1086 (List.length g.2.2.1) c1087] [(103, .bool (((((List.length (List.getD xReply (Int.toNat q) [])) : Nat) : Int) : Int) != (((List.length g.2.2.1) : Nat) : Int)))] (fun w_ => [World.cell? w_ ⟨g16, 3, none⟩ = some (.slice (some ⟨b1047, o1048, none⟩) (List.length xReply) c13), 0 ≤ q ∧ q < (((List.length xReply) : Nat) : Int), World.cell? w_ ⟨b1047, o1048 + (Int.toNat q) * 1, none⟩ = some (.slice A1049 (List.length (List.getD xReply (Int.toNat q) [])) c1050), World.cell? w_ ⟨b1, o2 + 6, none⟩ = some (.slice A1086 (List.length g.2.2.1) c1087)]) 0 E (fun _ _ => by kernel_rfl) (by kernel_rfl) (fun w_ hS_ => ⟨(HR1100.boxk [] hS_ 4 rfl rfl).cell (j := 3) rfl, g1046, hS_.cell (hl1051) (HR1100.blk [] 3 rds_ro (idx_pos g1046) rfl), hS_.cell (hc1096.get 6 _ rfl) (HR1100.blk [] 0 rds_ro (idx_pos (idx_one _)) rfl)⟩) (by kernel_rfl) HS1099 ?_
   clear E; intro a E
   refine dr_done (by kernel_rfl) ?_
   clear HS1099 HR1100
   refine th_n ?_
   refine E.cases (t := 103) rfl (fun hb_ E_ => ?_) (fun hb_ E_ => ?_)
   ·
    replace E := E_; clear E_
    have h1101 : ¬ (((((List.length (List.getD xReply (Int.toNat q) [])) : Nat) : Int) : Int) = (((List.length g.2.2.1) : Nat) : Int)) := bne_iff_ne.1 hb_
    clear hb_; replace hP := ite_f h1101 hP
    refine c_true E rfl ?_
    refine wp_seq ?_
    refine wp_region_lit ?_
    refine vn tbok 1 [] [(6, .bool false)] [] E (by kernel_rfl) (by kernel_rfl) trivial ?_
    clear E; intro a E
    refine wpList_nil ?_
    refine th_n ?_
    refine wp_ret ?_
    refine th_ret ?_
    refine bl_ret ?_
    refine th_ret ?_
    obtain rfl := Option.some.inj hP
    refine ret1 E rfl rfl ?_
    exact ⟨_, rfl, rfl, H.sel [] rfl⟩
   replace E := E_; clear E_
   have h1102 : ((((List.length (List.getD xReply (Int.toNat q) [])) : Nat) : Int) : Int) = (((List.length g.2.2.1) : Nat) : Int) := bne_eq_false_iff_eq.1 hb_
   clear hb_; replace hP := ite_t h1102 hP
   refine c_false E rfl ?_
   refine wp_skip ?_
   refine th_n ?_
   refine wp_seq ?_
   refine wp_region_lit ?_
   obtain ⟨Fz1103, cs1105, HF1104, hK1106, hc1107⟩ := H.elem 0 false (el_ro rfl) g (idx_one _)
   obtain ⟨_, _, rfl, hK1108, hK1109⟩ := hK1106
   obtain ⟨_, _, rfl, hK1110, hK1111⟩ := hK1108
   obtain rfl := hK1110
   obtain ⟨_, _, rfl, hK1112, hK1113⟩ := hK1111
   obtain ⟨A1114, c1115, rfl, hk1116, hC1117⟩ := hK1112
   obtain ⟨_, _, rfl, hK1119, hK1120⟩ := hK1113
   obtain ⟨A1121, c1122, rfl, hk1123, hC1124⟩ := hK1119
   obtain ⟨A1126, c1127, rfl, hk1128, hC1129⟩ := hK1120
   obtain ⟨_, _, rfl, hK1131, hK1132⟩ := hK1109
   obtain rfl := hK1131
   obtain ⟨_, _, rfl, hK1133, hK1134⟩ := hK1132
   obtain ⟨A1135, c1136, rfl, hk1137, hC1138⟩ := hK1133
   obtain ⟨A1140, c1141, rfl, hk1142, hC1143⟩ := hK1134
   replace HF1104 := HF1104.ins hC1117
   replace HF1104 := HF1104.ins hC1124
   replace HF1104 := HF1104.ins hC1129
   replace HF1104 := HF1104.ins hC1138
   replace HF1104 := HF1104.ins hC1143
   replace H := HF1104.hp; try dsimp only [addE] at H
   have hc1145 : cellsAt w1097 b1 (o2) [.int .i64 g.1.1, .slice A1114 (List.length g.1.2.1) c1115, .slice A1121 (List.length g.1.2.2.1) c1122, .slice A1126 (List.length g.1.2.2.2) c1127, .int .u8 g.2.1.1, .int .u8 g.2.1.2, .slice A1135 (List.length g.2.2.1) c1136, .slice A1140 (List.length g.2.2.2) c1141] := hc1107
   refine vn tbok 6 [.slice A1135 (List.length g.2.2.1) c1136] [(107, .slice A1135 (List.length g.2.2.1) c1136), (108, .int .i64 (((List.length g.2.2.1) : Nat) : Int)), (109, .int .i64 0)] [World.cell? w1097 ⟨b1, o2 + 6, none⟩ = some (.slice A1135 (List.length g.2.2.1) c1136)] E (by kernel_rfl) (by kernel_rfl) (hc1145.get 6 _ rfl) ?_
   clear E; intro a E
   refine wpList_nil ?_
   refine th_n ?_
   refine wp_block ?_
   obtain ⟨x1317, hL1318, hK1319⟩ := bind_inv hP
   clear hP
   refine loop_cut (fun i_ a w_ => (i_ = 1 ∧ ∃ (x1322 : Unit), Fr a 144 [] ∧ Hp S Fa w0 w_ [] ∧ x1317 = Sum.inl x1322)) ?_ ?_
   ·
    refine loopV (fun m1321 a w1320 => ∃ (x1230 : Int), Fr a 144 [(0, .pointer (some ⟨b1, o2, none⟩)), (2, .int .i64 q), (4, .pointer (some ⟨g16, 0, none⟩)), (107, .slice A1135 (List.length g.2.2.1) c1136), (108, .int .i64 (((List.length g.2.2.1) : Nat) : Int)), (109, .int .i64 x1230)] ∧ Hp S Fa w0 w1320 [.ro false cS87 (some ⟨b1, o2, none⟩) ([g]), .ro false (cInt .i64) (some ⟨b22, o23, none⟩) xRanks, .ro false (cInt .u8) (some ⟨b968, o969, none⟩) xChoice, .ro false (cSl (cInt .u8)) (some ⟨b1047, o1048, none⟩) xReply, .box g16 38 [.bool xWins, .slice (some ⟨b22, o23, none⟩) (List.length xRanks) c5, .slice (some ⟨b968, o969, none⟩) (List.length xChoice) c9, .slice (some ⟨b1047, o1048, none⟩) (List.length xReply) c13], .ro false (cInt .u8) A1135 g.2.2.1] ∧ moore_game_keeps_l2 N g xRanks xReply q m1321 x1230 = some x1317) N ?_ ?_
    ·
     exact ⟨0, E.pick _ ⟨rfl, rfl, rfl, rfl, rfl, rfl, trivial⟩, H.sel [0, 1, 2, 3, 4, 19] rfl, hL1318⟩
    clear E H hL1318; intro m1321 a w1320 hI_
    obtain ⟨x1230, E, H, hP⟩ := hI_
    obtain ⟨m1316, rfl⟩ : ∃ q_, m1321 = q_ + 1 := by cases m1321 with | zero => rw [moore_game_keeps_l2] at hP; cases hP | succ q_ => exact ⟨q_, rfl⟩
    rw [moore_game_keeps_l2] at hP
    refine wp_seq ?_
    refine wp_region_lit ?_
    refine vn tbok 1 [] [(110, .bool (decide (x1230 < (((List.length g.2.2.1) : Nat) : Int))))] [] E (by kernel_rfl) (by kernel_rfl) trivial ?_
    clear E; intro a E
    refine wpList_nil ?_
    refine th_n ?_
    refine wp_seq ?_
    refine E.cases (t := 110) rfl (fun hb_ E_ => ?_) (fun hb_ E_ => ?_)
    ·
     replace E := E_; clear E_
     have h1323 : x1230 < (((List.length g.2.2.1) : Nat) : Int) := of_decide_eq_true hb_
     clear hb_; replace hP := ite_t h1323 hP
     refine c_true E rfl ?_
     refine wp_skip ?_
     refine th_n ?_
     refine wp_seq ?_
     refine wp_block ?_
     refine wp_seq ?_
     refine wp_region_lit ?_
     obtain ⟨g1324, hP⟩ := ask_inv hP
     obtain ⟨b1325, o1326, e_b1325⟩ := (H.rd 5 rds_ro).addr (idx_pos g1324)
     subst e_b1325
     refine vn tbok 5 [.int .u8 (List.getD g.2.2.1 (Int.toNat x1230) 0)] [(9, .int .i64 x1230), (10, .int .u8 (List.getD g.2.2.1 (Int.toNat x1230) 0))] [0 ≤ x1230 ∧ x1230 < (((List.length g.2.2.1) : Nat) : Int), World.cell? w1320 ⟨b1325, o1326 + (Int.toNat x1230) * 1, none⟩ = some (.int .u8 (List.getD g.2.2.1 (Int.toNat x1230) 0))] E (by kernel_rfl) (by kernel_rfl) ⟨g1324, Rds.at1 (H.rd 5 rds_ro) 0 g1324⟩ ?_
     clear E; intro a E
     refine wpList_nil ?_
     refine th_n ?_
     refine wp_seq ?_
     refine wp_region_lit ?_
     obtain ⟨A1327, c1328, hl1329, hk1330, H⟩ := H.subSl 3 false (el_ro rfl) g1046
     try dsimp only [addE] at H
     obtain ⟨g1332, hP⟩ := ask_inv hP
     obtain ⟨b1333, o1334, e_b1333⟩ := (H.rd 6 rds_ro).addr (idx_pos g1332)
     subst e_b1333
     refine vn tbok 9 [.slice (some ⟨b1047, o1048, none⟩) (List.length xReply) c13, .slice (some ⟨b1333, o1334, none⟩) (List.length (List.getD xReply (Int.toNat q) [])) c1328, .int .u8 (List.getD (List.getD xReply (Int.toNat q) []) (Int.toNat x1230) 0)] [(11, .int .u8 (List.getD (List.getD xReply (Int.toNat q) []) (Int.toNat x1230) 0))] [World.cell? w1320 ⟨g16, 3, none⟩ = some (.slice (some ⟨b1047, o1048, none⟩) (List.length xReply) c13), 0 ≤ q ∧ q < (((List.length xReply) : Nat) : Int), World.cell? w1320 ⟨b1047, o1048 + (Int.toNat q) * 1, none⟩ = some (.slice (some ⟨b1333, o1334, none⟩) (List.length (List.getD xReply (Int.toNat q) [])) c1328), 0 ≤ x1230 ∧ x1230 < (((List.length (List.getD xReply (Int.toNat q) [])) : Nat) : Int), World.cell? w1320 ⟨b1333, o1334 + (Int.toNat x1230) * 1, none⟩ = some (.int .u8 (List.getD (List.getD xReply (Int.toNat q) []) (Int.toNat x1230) 0))] E (by kernel_rfl) (by kernel_rfl) ⟨(H.box 4 rfl).cell (j := 3) rfl, g1046, hl1329, g1332, Rds.at1 (H.rd 6 rds_ro) 0 g1332⟩ ?_
     clear E; intro a E
     refine wpList_nil ?_
     refine th_n ?_
     refine wp_seq ?_
     obtain ⟨Fz1335, cs1337, HF1336, hK1338, hc1339⟩ := H.elem 0 false (el_ro rfl) g (idx_one _)
     obtain ⟨_, _, rfl, hK1340, hK1341⟩ := hK1338
     obtain ⟨_, _, rfl, hK1342, hK1343⟩ := hK1340
     obtain rfl := hK1342
     obtain ⟨_, _, rfl, hK1344, hK1345⟩ := hK1343
     obtain ⟨A1346, c1347, rfl, hk1348, hC1349⟩ := hK1344
     obtain ⟨_, _, rfl, hK1351, hK1352⟩ := hK1345
     obtain ⟨A1353, c1354, rfl, hk1355, hC1356⟩ := hK1351
     obtain ⟨A1358, c1359, rfl, hk1360, hC1361⟩ := hK1352
     obtain ⟨_, _, rfl, hK1363, hK1364⟩ := hK1341
     obtain rfl := hK1363
     obtain ⟨_, _, rfl, hK1365, hK1366⟩ := hK1364
     obtain ⟨A1367, c1368, rfl, hk1369, hC1370⟩ := hK1365
     obtain ⟨A1372, c1373, rfl, hk1374, hC1375⟩ := hK1366
     replace HF1336 := HF1336.ins hC1349
     replace HF1336 := HF1336.ins hC1356
     replace HF1336 := HF1336.ins hC1361
     replace HF1336 := HF1336.ins hC1370
     replace HF1336 := HF1336.ins hC1375
     replace H := HF1336.hp; try dsimp only [addE] at H
     have hc1377 : cellsAt w1320 b1 (o2) [.int .i64 g.1.1, .slice A1346 (List.length g.1.2.1) c1347, .slice A1353 (List.length g.1.2.2.1) c1354, .slice A1358 (List.length g.1.2.2.2) c1359, .int .u8 g.2.1.1, .int .u8 g.2.1.2, .slice A1367 (List.length g.2.2.1) c1368, .slice A1372 (List.length g.2.2.2) c1373] := hc1339
     by_cases h1378 : (andNotV .u8 (List.getD (List.getD xReply (Int.toNat q) []) (Int.toNat x1230) 0) g.2.1.1 : Int) = 0
     ·
      replace hP := ite_t h1378 hP
      obtain ⟨r1379, h1380, hP⟩ := bind_inv hP
      obtain ⟨g1388, hP⟩ := ask_inv hP
      have HR1392 := H
      refine dr_start (S := fun w_ => Chg (atL []) w1320 w_) (by kernel_rfl) ?_
      intro w1389 hc1390
      have HS1391 : Chg (atL []) w1320 w1389 := hc1390.mono (fun _ _ h_ => h_.elim)
      replace H := H.ext hc1390
      refine dn tbok (by kernel_rfl) [0, 1, 2, 3, 4, 5, 6, 7, 8] [.int .u8 g.2.1.1, .int .u8 (andNotV .u8 (List.getD (List.getD xReply (Int.toNat q) []) (Int.toNat x1230) 0) g.2.1.1)] [(130, .bool ((andNotV .u8 (List.getD (List.getD xReply (Int.toNat q) []) (Int.toNat x1230) 0) g.2.1.1 : Int) != 0))] (fun w_ => [World.cell? w_ ⟨b1, o2 + 4, none⟩ = some (.int .u8 g.2.1.1), IntKind.u8.wrap (BitVec.ofInt (IntKind.bits .u8) (List.getD (List.getD xReply (Int.toNat q) []) (Int.toNat x1230) 0) &&& ~~~ BitVec.ofInt (IntKind.bits .u8) g.2.1.1).toNat = andNotV .u8 (List.getD (List.getD xReply (Int.toNat q) []) (Int.toNat x1230) 0) g.2.1.1]) 12 E (fun _ _ => by kernel_rfl) (by kernel_rfl) (fun w_ hS_ => ⟨hS_.cell (hc1377.get 4 _ rfl) (HR1392.blk [] 0 rds_ro (idx_pos (idx_one _)) rfl), rfl⟩) (by kernel_rfl) HS1391 ?_
      clear E; intro a E
      replace E := E.same (t := 130) (u := .bool false) rfl (congrArg Value.bool (bne_eq_false_iff_eq.2 h1378))
      refine dn tbok (by kernel_rfl) [9, 10, 11, 12, 13, 14, 15] [.slice (some ⟨b22, o23, none⟩) (List.length xRanks) c5, .int .u8 (orV .u8 (List.getD g.2.2.1 (Int.toNat x1230) 0) (List.getD (List.getD xReply (Int.toNat q) []) (Int.toNat x1230) 0))] [(132, .slice (some ⟨b22, o23, none⟩) (List.length xRanks) c5), (133, .pointer (some ⟨b1, o2, none⟩)), (134, .int .i64 q), (137, .int .u8 (orV .u8 (List.getD g.2.2.1 (Int.toNat x1230) 0) (List.getD (List.getD xReply (Int.toNat q) []) (Int.toNat x1230) 0)))] (fun w_ => [World.cell? w_ ⟨g16, 1, none⟩ = some (.slice (some ⟨b22, o23, none⟩) (List.length xRanks) c5), IntKind.u8.wrap (BitVec.ofInt (IntKind.bits .u8) (List.getD g.2.2.1 (Int.toNat x1230) 0) ||| BitVec.ofInt (IntKind.bits .u8) (List.getD (List.getD xReply (Int.toNat q) []) (Int.toNat x1230) 0)).toNat = orV .u8 (List.getD g.2.2.1 (Int.toNat x1230) 0) (List.getD (List.getD xReply (Int.toNat q) []) (Int.toNat x1230) 0)]) 5 E (fun _ _ => by kernel_rfl) (by kernel_rfl) (fun w_ hS_ => ⟨(HR1392.boxk [] hS_ 4 rfl rfl).cell (j := 1) rfl, rfl⟩) (by kernel_rfl) HS1391 ?_
      clear E; intro a E
      refine wpAnyH_all (rs := [16]) (by kernel_rfl) (by simp) ?_
      refine all1 ?_
      refine wpOp_of_list rfl ?_
      obtain ⟨Fa1393, Hc1394, hb1395⟩ := H.call [] [(0, false)] rfl rfl trivial
      refine e_call E rfl rfl Try.func50 rfl rfl rfl (moore_game_to_calls b1 o2 g q (orV .u8 (List.getD g.2.2.1 (Int.toNat x1230) 0) (List.getD (List.getD xReply (Int.toNat q) []) (Int.toNat x1230) 0))  Hc1394 h1380) ?_
      rintro v1396 w1397 a ⟨rfl, HR1398⟩ E_
      replace E := E_ _ rfl; clear E_
      obtain ⟨H_, hc1399⟩ := hb1395 _ _ HR1398 rfl
      replace HS1391 := HS1391.ext (callS_ext hc1399)
      replace H := H_; clear H_; try dsimp only [setn, addE, goneL] at H
      refine wpList_nil ?_
      refine th_n ⟨HS1391, ?_⟩
      refine dn tbok (by kernel_rfl) [17, 18, 19, 20] [.int .i64 (List.getD xRanks (Int.toNat r1379) 0)] [(142, .bool (((List.getD xRanks (Int.toNat r1379) 0) : Int) != (-1)))] (fun w_ => [0 ≤ r1379 ∧ r1379 < (((List.length xRanks) : Nat) : Int), World.cell? w_ ⟨b22, o23 + (Int.toNat r1379) * 1, none⟩ = some (.int .i64 (List.getD xRanks (Int.toNat r1379) 0))]) 0 E (fun _ _ => by kernel_rfl) (by kernel_rfl) (fun w_ hS_ => ⟨g1388, Rds.at1 (HR1392.rdk [] hS_ 1 rds_ro rfl) 0 g1388⟩) (by kernel_rfl) HS1391 ?_
      clear E; intro a E
      refine dr_done (by kernel_rfl) ?_
      clear HS1391 HR1392
      refine th_n ?_
      refine E.cases (t := 142) rfl (fun hb_ E_ => ?_) (fun hb_ E_ => ?_)
      ·
       replace E := E_; clear E_
       have h1400 : ¬ (((List.getD xRanks (Int.toNat r1379) 0) : Int) = -1) := bne_iff_ne.1 hb_
       clear hb_; replace hP := ite_f h1400 hP
       refine c_true E rfl ?_
       refine wp_seq ?_
       refine wp_region_lit ?_
       refine vn tbok 1 [] [(6, .bool false)] [] E (by kernel_rfl) (by kernel_rfl) trivial ?_
       clear E; intro a E
       refine wpList_nil ?_
       refine th_n ?_
       refine wp_ret ?_
       refine bl_ret ?_
       refine th_ret ?_
       refine th_ret ?_
       refine .inr ⟨rfl, ?_⟩
       refine bl_ret ?_
       refine bl_ret ?_
       refine th_ret ?_
       have hx_ := Option.some.inj hP; subst hx_
       have hP : some (false) = some r := hK1319
       obtain rfl := Option.some.inj hP
       refine ret1 E rfl rfl ?_
       exact ⟨_, rfl, rfl, H.sel [] rfl⟩
      replace E := E_; clear E_
      have h1401 : ((List.getD xRanks (Int.toNat r1379) 0) : Int) = -1 := bne_eq_false_iff_eq.1 hb_
      clear hb_; replace hP := ite_t h1401 hP
      refine c_false E rfl ?_
      refine wp_skip ?_
      refine bl_n ?_
      refine th_n ?_
      refine wp_region_lit ?_
      obtain ⟨g1402, hP⟩ := ask_inv hP
      refine vn tbok 2 [.int .i64 (x1230 + 1)] [(109, .int .i64 (x1230 + 1))] [IntKind.i64.wrap (x1230 + 1) = x1230 + 1] E (by kernel_rfl) (by kernel_rfl) (wrap_in g1402) ?_
      clear E; intro a E
      refine wpList_nil ?_
      exact th_n ⟨m1316, Nat.lt_succ_self _, x1230 + 1, E.pick _ ⟨rfl, rfl, rfl, rfl, rfl, rfl, trivial⟩, H.sel [0, 1, 2, 3, 4, 5] rfl, hP⟩
     replace hP := ite_f h1378 hP
     have HR1406 := H
     refine dr_start (S := fun w_ => Chg (atL []) w1320 w_) (by kernel_rfl) ?_
     intro w1403 hc1404
     have HS1405 : Chg (atL []) w1320 w1403 := hc1404.mono (fun _ _ h_ => h_.elim)
     replace H := H.ext hc1404
     refine dn tbok (by kernel_rfl) [0, 1, 2, 3, 4, 5, 6, 7, 8] [.int .u8 g.2.1.1, .int .u8 (andNotV .u8 (List.getD (List.getD xReply (Int.toNat q) []) (Int.toNat x1230) 0) g.2.1.1)] [(130, .bool ((andNotV .u8 (List.getD (List.getD xReply (Int.toNat q) []) (Int.toNat x1230) 0) g.2.1.1 : Int) != 0))] (fun w_ => [World.cell? w_ ⟨b1, o2 + 4, none⟩ = some (.int .u8 g.2.1.1), IntKind.u8.wrap (BitVec.ofInt (IntKind.bits .u8) (List.getD (List.getD xReply (Int.toNat q) []) (Int.toNat x1230) 0) &&& ~~~ BitVec.ofInt (IntKind.bits .u8) g.2.1.1).toNat = andNotV .u8 (List.getD (List.getD xReply (Int.toNat q) []) (Int.toNat x1230) 0) g.2.1.1]) 12 E (fun _ _ => by kernel_rfl) (by kernel_rfl) (fun w_ hS_ => ⟨hS_.cell (hc1377.get 4 _ rfl) (HR1406.blk [] 0 rds_ro (idx_pos (idx_one _)) rfl), rfl⟩) (by kernel_rfl) HS1405 ?_
     clear E; intro a E
     replace E := E.same (t := 130) (u := .bool true) rfl (congrArg Value.bool (bne_iff_ne.2 h1378))
     refine dn tbok (by kernel_rfl) [9, 10, 11, 12, 13, 14, 15, 16, 17, 18, 19, 20] [] [(142, .bool true)] (fun w_ => []) 0 E (fun _ _ => by kernel_rfl) (by kernel_rfl) (fun w_ hS_ => trivial) (by kernel_rfl) HS1405 ?_
     clear E; intro a E
     refine dr_done (by kernel_rfl) ?_
     clear HS1405 HR1406
     refine th_n ?_
     refine c_true E rfl ?_
     refine wp_seq ?_
     refine wp_region_lit ?_
     refine vn tbok 1 [] [(6, .bool false)] [] E (by kernel_rfl) (by kernel_rfl) trivial ?_
     clear E; intro a E
     refine wpList_nil ?_
     refine th_n ?_
     refine wp_ret ?_
     refine bl_ret ?_
     refine th_ret ?_
     refine th_ret ?_
     refine .inr ⟨rfl, ?_⟩
     refine bl_ret ?_
     refine bl_ret ?_
     refine th_ret ?_
     have hx_ := Option.some.inj hP; subst hx_
     have hP : some (false) = some r := hK1319
     obtain rfl := Option.some.inj hP
     refine ret1 E rfl rfl ?_
     exact ⟨_, rfl, rfl, H.sel [] rfl⟩
    replace E := E_; clear E_
    have h1407 : ¬ (x1230 < (((List.length g.2.2.1) : Nat) : Int)) := of_decide_eq_false hb_
    clear hb_; replace hP := ite_f h1407 hP
    refine c_false E rfl ?_
    refine wp_exit ?_
    refine th_exit ?_
    have hx_ := Option.some.inj hP
    refine th_exit (.inl ⟨1, rfl, ?_⟩)
    exact ⟨rfl, (), E.pick _ trivial, H.sel [] rfl, hx_.symm⟩
   clear E H hL1318; intro i_ a w1320 hM_
   obtain ⟨rfl, x1322, E, H, hx_⟩ := hM_
   subst hx_; have hP := elim_l hK1319
   clear hK1319
   refine bl_hit ?_
   refine bl_n ?_
   refine th_n ?_
   refine wp_seq ?_
   refine wp_region_lit ?_
   refine vn tbok 1 [] [(6, .bool true)] [] E (by kernel_rfl) (by kernel_rfl) trivial ?_
   clear E; intro a E
   refine wpList_nil ?_
   refine th_n ?_
   refine wp_ret ?_
   obtain rfl := Option.some.inj hP
   refine ret1 E rfl rfl ?_
   exact ⟨_, rfl, rfl, H.sel [] rfl⟩
  replace E := E_; clear E_
  have h1409 : ¬ ((List.getD xRanks (Int.toNat q) 0) < 0) := of_decide_eq_false hb_
  clear hb_; replace hP := ite_f h1409 hP
  refine c_false E rfl ?_
  refine wp_skip ?_
  refine bl_n ?_
  refine th_n ?_
  refine wp_seq ?_
  refine wp_region_lit ?_
  refine vn tbok 1 [] [(6, .bool true)] [] E (by kernel_rfl) (by kernel_rfl) trivial ?_
  clear E; intro a E
  refine wpList_nil ?_
  refine th_n ?_
  refine wp_ret ?_
  obtain rfl := Option.some.inj hP
  refine ret1 E rfl rfl ?_
  exact ⟨_, rfl, rfl, H.sel [] rfl⟩
 replace E := E_; clear E_
 have h1410 : ¬ ((List.getD xRanks (Int.toNat q) 0) ≤ 0) := of_decide_eq_false hb_
 clear hb_; replace hP := ite_f h1410 hP
 refine vn tbok 8 [] [(56, .bool false)] [] E (by kernel_rfl) (by kernel_rfl) trivial ?_
 clear E; intro a E
 refine wpList_nil ?_
 refine th_n ?_
 refine c_false E rfl ?_
 refine wp_skip ?_
 refine th_n ?_
 refine wp_seq ?_
 refine wp_block ?_
 refine wp_seq ?_
 refine wp_region_lit ?_
 refine vn tbok 3 [] [(57, .bool (decide (0 < (List.getD xRanks (Int.toNat q) 0))))] [] E (by kernel_rfl) (by kernel_rfl) trivial ?_
 clear E; intro a E
 refine wpList_nil ?_
 refine th_n ?_
 refine E.cases (t := 57) rfl (fun hb_ E_ => ?_) (fun hb_ E_ => ?_)
 ·
  replace E := E_; clear E_
  have h1411 : 0 < (List.getD xRanks (Int.toNat q) 0) := of_decide_eq_true hb_
  clear hb_; replace hP := ite_t h1411 hP
  refine c_true E rfl ?_
  refine wp_seq ?_
  refine wp_region_lit ?_
  refine vn tbok 1 [] [(8, .int .i64 (-1))] [] E (by kernel_rfl) (by kernel_rfl) trivial ?_
  clear E; intro a E
  refine wpList_nil ?_
  refine th_n ?_
  refine wp_seq ?_
  refine wp_seq ?_
  obtain ⟨g1412, hP⟩ := ask_inv hP
  obtain ⟨b1413, o1414, e_b1413⟩ := (H.rd 2 rds_ro).addr (idx_pos g1412)
  subst e_b1413
  obtain ⟨Fz1415, cs1417, HF1416, hK1418, hc1419⟩ := H.elem 0 false (el_ro rfl) g (idx_one _)
  obtain ⟨_, _, rfl, hK1420, hK1421⟩ := hK1418
  obtain ⟨_, _, rfl, hK1422, hK1423⟩ := hK1420
  obtain rfl := hK1422
  obtain ⟨_, _, rfl, hK1424, hK1425⟩ := hK1423
  obtain ⟨A1426, c1427, rfl, hk1428, hC1429⟩ := hK1424
  obtain ⟨_, _, rfl, hK1431, hK1432⟩ := hK1425
  obtain ⟨A1433, c1434, rfl, hk1435, hC1436⟩ := hK1431
  obtain ⟨A1438, c1439, rfl, hk1440, hC1441⟩ := hK1432
  obtain ⟨_, _, rfl, hK1443, hK1444⟩ := hK1421
  obtain rfl := hK1443
  obtain ⟨_, _, rfl, hK1445, hK1446⟩ := hK1444
  obtain ⟨A1447, c1448, rfl, hk1449, hC1450⟩ := hK1445
  obtain ⟨A1452, c1453, rfl, hk1454, hC1455⟩ := hK1446
  replace HF1416 := HF1416.ins hC1429
  replace HF1416 := HF1416.ins hC1436
  replace HF1416 := HF1416.ins hC1441
  replace HF1416 := HF1416.ins hC1450
  replace HF1416 := HF1416.ins hC1455
  replace H := HF1416.hp; try dsimp only [addE] at H
  have hc1457 : cellsAt w17 b1 (o2) [.int .i64 g.1.1, .slice A1426 (List.length g.1.2.1) c1427, .slice A1433 (List.length g.1.2.2.1) c1434, .slice A1438 (List.length g.1.2.2.2) c1439, .int .u8 g.2.1.1, .int .u8 g.2.1.2, .slice A1447 (List.length g.2.2.1) c1448, .slice A1452 (List.length g.2.2.2) c1453] := hc1419
  have HR1461 := H
  refine dr_start (S := fun w_ => Chg (atL []) w17 w_) (by kernel_rfl) ?_
  intro w1458 hc1459
  have HS1460 : Chg (atL []) w17 w1458 := hc1459.mono (fun _ _ h_ => h_.elim)
  replace H := H.ext hc1459
  refine dn tbok (by kernel_rfl) [0, 1, 2, 3, 4, 5, 6, 7, 8, 9, 10, 11] [.slice (some ⟨b1413, o1414, none⟩) (List.length xChoice) c9, .int .u8 (List.getD xChoice (Int.toNat q) 0), .int .u8 g.2.1.2, .int .u8 (andNotV .u8 (List.getD xChoice (Int.toNat q) 0) g.2.1.2)] [(71, .bool ((andNotV .u8 (List.getD xChoice (Int.toNat q) 0) g.2.1.2 : Int) == 0))] (fun w_ => [World.cell? w_ ⟨g16, 2, none⟩ = some (.slice (some ⟨b1413, o1414, none⟩) (List.length xChoice) c9), 0 ≤ q ∧ q < (((List.length xChoice) : Nat) : Int), World.cell? w_ ⟨b1413, o1414 + (Int.toNat q) * 1, none⟩ = some (.int .u8 (List.getD xChoice (Int.toNat q) 0)), World.cell? w_ ⟨b1, o2 + 4 + 1, none⟩ = some (.int .u8 g.2.1.2), IntKind.u8.wrap (BitVec.ofInt (IntKind.bits .u8) (List.getD xChoice (Int.toNat q) 0) &&& ~~~ BitVec.ofInt (IntKind.bits .u8) g.2.1.2).toNat = andNotV .u8 (List.getD xChoice (Int.toNat q) 0) g.2.1.2]) 0 E (fun _ _ => by kernel_rfl) (by kernel_rfl) (fun w_ hS_ => ⟨(HR1461.boxk [] hS_ 4 rfl rfl).cell (j := 2) rfl, g1412, Rds.at1 (HR1461.rdk [] hS_ 2 rds_ro rfl) 0 g1412, hS_.cell (hc1457.get 5 _ rfl) (HR1461.blk [] 0 rds_ro (idx_pos (idx_one _)) rfl), rfl⟩) (by kernel_rfl) HS1460 ?_
  clear E; intro a E
  refine dr_done (by kernel_rfl) ?_
  clear HS1460 HR1461
  refine th_n ?_
  refine E.cases (t := 71) rfl (fun hb_ E_ => ?_) (fun hb_ E_ => ?_)
  ·
   replace E := E_; clear E_
   have h1462 : (andNotV .u8 (List.getD xChoice (Int.toNat q) 0) g.2.1.2 : Int) = 0 := eq_of_beq hb_
   clear hb_; replace hP := ite_t h1462 hP
   refine c_true E rfl ?_
   obtain ⟨r1463, h1464, hP⟩ := bind_inv hP
   have HR1475 := H
   refine dr_start (S := fun w_ => Chg (atL []) w1458 w_) (by kernel_rfl) ?_
   intro w1472 hc1473
   have HS1474 : Chg (atL []) w1458 w1472 := hc1473.mono (fun _ _ h_ => h_.elim)
   replace H := H.ext hc1473
   refine dn tbok (by kernel_rfl) [0, 1, 2, 3, 4, 5, 6, 7, 8] [.slice (some ⟨b22, o23, none⟩) (List.length xRanks) c5, .slice (some ⟨b1413, o1414, none⟩) (List.length xChoice) c9, .int .u8 (List.getD xChoice (Int.toNat q) 0)] [(72, .pointer (some ⟨b1, o2, none⟩)), (74, .slice (some ⟨b22, o23, none⟩) (List.length xRanks) c5), (75, .int .i64 q), (80, .int .u8 (List.getD xChoice (Int.toNat q) 0))] (fun w_ => [World.cell? w_ ⟨g16, 1, none⟩ = some (.slice (some ⟨b22, o23, none⟩) (List.length xRanks) c5), World.cell? w_ ⟨g16, 2, none⟩ = some (.slice (some ⟨b1413, o1414, none⟩) (List.length xChoice) c9), 0 ≤ q ∧ q < (((List.length xChoice) : Nat) : Int), World.cell? w_ ⟨b1413, o1414 + (Int.toNat q) * 1, none⟩ = some (.int .u8 (List.getD xChoice (Int.toNat q) 0))]) 2 E (fun _ _ => by kernel_rfl) (by kernel_rfl) (fun w_ hS_ => ⟨(HR1475.boxk [] hS_ 4 rfl rfl).cell (j := 1) rfl, (HR1475.boxk [] hS_ 4 rfl rfl).cell (j := 2) rfl, g1412, Rds.at1 (HR1475.rdk [] hS_ 2 rds_ro rfl) 0 g1412⟩) (by kernel_rfl) HS1474 ?_
   clear E; intro a E
   refine wpAnyH_all (rs := [9]) (by kernel_rfl) (by simp) ?_
   refine all1 ?_
   refine wpOp_of_list rfl ?_
   obtain ⟨Fa1476, Hc1477, hb1478⟩ := H.call [] [(0, false), (1, false)] rfl rfl trivial
   refine e_call E rfl rfl Try.func60 rfl rfl rfl (moore_game_worst_calls b1 o2 (some ⟨b22, o23, none⟩) c5 g xRanks q (List.getD xChoice (Int.toNat q) 0) hk6 Hc1477 h1464) ?_
   rintro v1479 w1480 a ⟨rfl, HR1481⟩ E_
   replace E := E_ _ rfl; clear E_
   obtain ⟨H_, hc1482⟩ := hb1478 _ _ HR1481 rfl
   replace HS1474 := HS1474.ext (callS_ext hc1482)
   replace H := H_; clear H_; try dsimp only [setn, addE, goneL] at H
   refine wpList_nil ?_
   refine th_n ⟨HS1474, ?_⟩
   refine dn tbok (by kernel_rfl) [10] [] [(8, .int .i64 r1463)] (fun w_ => []) 0 E (fun _ _ => by kernel_rfl) (by kernel_rfl) (fun w_ hS_ => trivial) (by kernel_rfl) HS1474 ?_
   clear E; intro a E
   refine dr_done (by kernel_rfl) ?_
   clear HS1474 HR1475
   refine th_n ?_
   refine wp_seq ?_
   refine wp_region_lit ?_
   refine vn tbok 3 [] [(84, .bool (decide (0 ≤ r1463)))] [] E (by kernel_rfl) (by kernel_rfl) trivial ?_
   clear E; intro a E
   refine E.cases (t := 84) rfl (fun hb_ E_ => ?_) (fun hb_ E_ => ?_)
   ·
    replace E := E_; clear E_
    have h1483 : 0 ≤ r1463 := of_decide_eq_true hb_
    clear hb_; replace hP := ite_t h1483 hP
    refine vn tbok 5 [] [(6, .bool (decide (r1463 < (List.getD xRanks (Int.toNat q) 0))))] [] E (by kernel_rfl) (by kernel_rfl) trivial ?_
    clear E; intro a E
    refine wpList_nil ?_
    refine th_n ?_
    refine wp_ret ?_
    refine bl_ret ?_
    refine th_ret ?_
    obtain rfl := Option.some.inj hP
    refine ret1 E rfl rfl ?_
    exact ⟨_, rfl, rfl, H.sel [] rfl⟩
   replace E := E_; clear E_
   have h1484 : ¬ (0 ≤ r1463) := of_decide_eq_false hb_
   clear hb_; replace hP := ite_f h1484 hP
   refine vn tbok 5 [] [(6, .bool false)] [] E (by kernel_rfl) (by kernel_rfl) trivial ?_
   clear E; intro a E
   refine wpList_nil ?_
   refine th_n ?_
   refine wp_ret ?_
   refine bl_ret ?_
   refine th_ret ?_
   obtain rfl := Option.some.inj hP
   refine ret1 E rfl rfl ?_
   exact ⟨_, rfl, rfl, H.sel [] rfl⟩
  replace E := E_; clear E_
  have h1485 : ¬ ((andNotV .u8 (List.getD xChoice (Int.toNat q) 0) g.2.1.2 : Int) = 0) := ne_of_beq_false hb_
  clear hb_; replace hP := ite_f h1485 hP
  refine c_false E rfl ?_
  refine wp_skip ?_
  refine th_n ?_
  refine wp_seq ?_
  refine wp_region_lit ?_
  refine vn tbok 8 [] [(6, .bool false)] [] E (by kernel_rfl) (by kernel_rfl) trivial ?_
  clear E; intro a E
  refine wpList_nil ?_
  refine th_n ?_
  refine wp_ret ?_
  refine bl_ret ?_
  refine th_ret ?_
  obtain rfl := Option.some.inj hP
  refine ret1 E rfl rfl ?_
  exact ⟨_, rfl, rfl, H.sel [] rfl⟩
 replace E := E_; clear E_
 have h1486 : ¬ (0 < (List.getD xRanks (Int.toNat q) 0)) := of_decide_eq_false hb_
 clear hb_; replace hP := ite_f h1486 hP
 refine c_false E rfl ?_
 refine wp_seq ?_
 refine wp_region_lit ?_
 refine vn tbok 3 [] [(89, .bool (decide ((List.getD xRanks (Int.toNat q) 0) < 0)))] [] E (by kernel_rfl) (by kernel_rfl) trivial ?_
 clear E; intro a E
 refine wpList_nil ?_
 refine th_n ?_
 refine E.cases (t := 89) rfl (fun hb_ E_ => ?_) (fun hb_ E_ => ?_)
 ·
  replace E := E_; clear E_
  have h1487 : (List.getD xRanks (Int.toNat q) 0) < 0 := of_decide_eq_true hb_
  clear hb_; replace hP := ite_t h1487 hP
  refine c_true E rfl ?_
  refine wp_seq ?_
  refine wp_seq ?_
  obtain ⟨g1488, hP⟩ := ask_inv hP
  obtain ⟨b1489, o1490, e_b1489⟩ := (H.rd 3 rds_ro).addr (idx_pos g1488)
  subst e_b1489
  obtain ⟨A1491, c1492, hl1493, hk1494, H⟩ := H.subSl 3 false (el_ro rfl) g1488
  try dsimp only [addE] at H
  obtain ⟨Fz1496, cs1498, HF1497, hK1499, hc1500⟩ := H.elem 0 false (el_ro rfl) g (idx_one _)
  obtain ⟨_, _, rfl, hK1501, hK1502⟩ := hK1499
  obtain ⟨_, _, rfl, hK1503, hK1504⟩ := hK1501
  obtain rfl := hK1503
  obtain ⟨_, _, rfl, hK1505, hK1506⟩ := hK1504
  obtain ⟨A1507, c1508, rfl, hk1509, hC1510⟩ := hK1505
  obtain ⟨_, _, rfl, hK1512, hK1513⟩ := hK1506
  obtain ⟨A1514, c1515, rfl, hk1516, hC1517⟩ := hK1512
  obtain ⟨A1519, c1520, rfl, hk1521, hC1522⟩ := hK1513
  obtain ⟨_, _, rfl, hK1524, hK1525⟩ := hK1502
  obtain rfl := hK1524
  obtain ⟨_, _, rfl, hK1526, hK1527⟩ := hK1525
  obtain ⟨A1528, c1529, rfl, hk1530, hC1531⟩ := hK1526
  obtain ⟨A1533, c1534, rfl, hk1535, hC1536⟩ := hK1527
  replace HF1497 := HF1497.ins hC1510
  replace HF1497 := HF1497.ins hC1517
  replace HF1497 := HF1497.ins hC1522
  replace HF1497 := HF1497.ins hC1531
  replace HF1497 := HF1497.ins hC1536
  replace H := HF1497.hp; try dsimp only [addE] at H
  have hc1538 : cellsAt w17 b1 (o2) [.int .i64 g.1.1, .slice A1507 (List.length g.1.2.1) c1508, .slice A1514 (List.length g.1.2.2.1) c1515, .slice A1519 (List.length g.1.2.2.2) c1520, .int .u8 g.2.1.1, .int .u8 g.2.1.2, .slice A1528 (List.length g.2.2.1) c1529, .slice A1533 (List.length g.2.2.2) c1534] := hc1500
  have HR1542 := H
  refine dr_start (S := fun w_ => Chg (atL []) w17 w_) (by kernel_rfl) ?_
  intro w1539 hc1540
  have HS1541 : Chg (atL []) w17 w1539 := hc1540.mono (fun _ _ h_ => h_.elim)
  replace H := H.ext hc1540
  refine dn tbok (by kernel_rfl) [0, 1, 2, 3, 4, 5, 6, 7, 8, 9, 10, 11] [.slice (some ⟨b1489, o1490, none⟩) (List.length xReply) c13, .slice A1491 (List.length (List.getD xReply (Int.toNat q) [])) c1492, .slice A1528 (List.length g.2.2.1) c1529] [(103, .bool (((((List.length (List.getD xReply (Int.toNat q) [])) : Nat) : Int) : Int) != (((List.length g.2.2.1) : Nat) : Int)))] (fun w_ => [World.cell? w_ ⟨g16, 3, none⟩ = some (.slice (some ⟨b1489, o1490, none⟩) (List.length xReply) c13), 0 ≤ q ∧ q < (((List.length xReply) : Nat) : Int), World.cell? w_ ⟨b1489, o1490 + (Int.toNat q) * 1, none⟩ = some (.slice A1491 (List.length (List.getD xReply (Int.toNat q) [])) c1492), World.cell? w_ ⟨b1, o2 + 6, none⟩ = some (.slice A1528 (List.length g.2.2.1) c1529)]) 0 E (fun _ _ => by kernel_rfl) (by kernel_rfl) (fun w_ hS_ => ⟨(HR1542.boxk [] hS_ 4 rfl rfl).cell (j := 3) rfl, g1488, hS_.cell (hl1493) (HR1542.blk [] 3 rds_ro (idx_pos g1488) rfl), hS_.cell (hc1538.get 6 _ rfl) (HR1542.blk [] 0 rds_ro (idx_pos (idx_one _)) rfl)⟩) (by kernel_rfl) HS1541 ?_
  clear E; intro a E
  refine dr_done (by kernel_rfl) ?_
  clear HS1541 HR1542
  refine th_n ?_
  refine E.cases (t := 103) rfl (fun hb_ E_ => ?_) (fun hb_ E_ => ?_)
  ·
   replace E := E_; clear E_
   have h1543 : ¬ (((((List.length (List.getD xReply (Int.toNat q) [])) : Nat) : Int) : Int) = (((List.length g.2.2.1) : Nat) : Int)) := bne_iff_ne.1 hb_
   clear hb_; replace hP := ite_f h1543 hP
   refine c_true E rfl ?_
   refine wp_seq ?_
   refine wp_region_lit ?_
   refine vn tbok 1 [] [(6, .bool false)] [] E (by kernel_rfl) (by kernel_rfl) trivial ?_
   clear E; intro a E
   refine wpList_nil ?_
   refine th_n ?_
   refine wp_ret ?_
   refine th_ret ?_
   refine bl_ret ?_
   refine th_ret ?_
   obtain rfl := Option.some.inj hP
   refine ret1 E rfl rfl ?_
   exact ⟨_, rfl, rfl, H.sel [] rfl⟩
  replace E := E_; clear E_
  have h1544 : ((((List.length (List.getD xReply (Int.toNat q) [])) : Nat) : Int) : Int) = (((List.length g.2.2.1) : Nat) : Int) := bne_eq_false_iff_eq.1 hb_
  clear hb_; replace hP := ite_t h1544 hP
  refine c_false E rfl ?_
  refine wp_skip ?_
  refine th_n ?_
  refine wp_seq ?_
  refine wp_region_lit ?_
  obtain ⟨Fz1545, cs1547, HF1546, hK1548, hc1549⟩ := H.elem 0 false (el_ro rfl) g (idx_one _)
  obtain ⟨_, _, rfl, hK1550, hK1551⟩ := hK1548
  obtain ⟨_, _, rfl, hK1552, hK1553⟩ := hK1550
  obtain rfl := hK1552
  obtain ⟨_, _, rfl, hK1554, hK1555⟩ := hK1553
  obtain ⟨A1556, c1557, rfl, hk1558, hC1559⟩ := hK1554
  obtain ⟨_, _, rfl, hK1561, hK1562⟩ := hK1555
  obtain ⟨A1563, c1564, rfl, hk1565, hC1566⟩ := hK1561
  obtain ⟨A1568, c1569, rfl, hk1570, hC1571⟩ := hK1562
  obtain ⟨_, _, rfl, hK1573, hK1574⟩ := hK1551
  obtain rfl := hK1573
  obtain ⟨_, _, rfl, hK1575, hK1576⟩ := hK1574
  obtain ⟨A1577, c1578, rfl, hk1579, hC1580⟩ := hK1575
  obtain ⟨A1582, c1583, rfl, hk1584, hC1585⟩ := hK1576
  replace HF1546 := HF1546.ins hC1559
  replace HF1546 := HF1546.ins hC1566
  replace HF1546 := HF1546.ins hC1571
  replace HF1546 := HF1546.ins hC1580
  replace HF1546 := HF1546.ins hC1585
  replace H := HF1546.hp; try dsimp only [addE] at H
  have hc1587 : cellsAt w1539 b1 (o2) [.int .i64 g.1.1, .slice A1556 (List.length g.1.2.1) c1557, .slice A1563 (List.length g.1.2.2.1) c1564, .slice A1568 (List.length g.1.2.2.2) c1569, .int .u8 g.2.1.1, .int .u8 g.2.1.2, .slice A1577 (List.length g.2.2.1) c1578, .slice A1582 (List.length g.2.2.2) c1583] := hc1549
  refine vn tbok 6 [.slice A1577 (List.length g.2.2.1) c1578] [(107, .slice A1577 (List.length g.2.2.1) c1578), (108, .int .i64 (((List.length g.2.2.1) : Nat) : Int)), (109, .int .i64 0)] [World.cell? w1539 ⟨b1, o2 + 6, none⟩ = some (.slice A1577 (List.length g.2.2.1) c1578)] E (by kernel_rfl) (by kernel_rfl) (hc1587.get 6 _ rfl) ?_
  clear E; intro a E
  refine wpList_nil ?_
  refine th_n ?_
  refine wp_block ?_
  obtain ⟨x1759, hL1760, hK1761⟩ := bind_inv hP
  clear hP
  refine loop_cut (fun i_ a w_ => (i_ = 1 ∧ ∃ (x1764 : Unit), Fr a 144 [] ∧ Hp S Fa w0 w_ [] ∧ x1759 = Sum.inl x1764)) ?_ ?_
  ·
   refine loopV (fun m1763 a w1762 => ∃ (x1672 : Int), Fr a 144 [(0, .pointer (some ⟨b1, o2, none⟩)), (2, .int .i64 q), (4, .pointer (some ⟨g16, 0, none⟩)), (107, .slice A1577 (List.length g.2.2.1) c1578), (108, .int .i64 (((List.length g.2.2.1) : Nat) : Int)), (109, .int .i64 x1672)] ∧ Hp S Fa w0 w1762 [.ro false cS87 (some ⟨b1, o2, none⟩) ([g]), .ro false (cInt .i64) (some ⟨b22, o23, none⟩) xRanks, .ro false (cInt .u8) A8 xChoice, .ro false (cSl (cInt .u8)) (some ⟨b1489, o1490, none⟩) xReply, .box g16 38 [.bool xWins, .slice (some ⟨b22, o23, none⟩) (List.length xRanks) c5, .slice A8 (List.length xChoice) c9, .slice (some ⟨b1489, o1490, none⟩) (List.length xReply) c13], .ro false (cInt .u8) A1577 g.2.2.1] ∧ moore_game_keeps_l3 N g xRanks xReply q m1763 x1672 = some x1759) N ?_ ?_
   ·
    exact ⟨0, E.pick _ ⟨rfl, rfl, rfl, rfl, rfl, rfl, trivial⟩, H.sel [0, 1, 2, 3, 4, 19] rfl, hL1760⟩
   clear E H hL1760; intro m1763 a w1762 hI_
   obtain ⟨x1672, E, H, hP⟩ := hI_
   obtain ⟨m1758, rfl⟩ : ∃ q_, m1763 = q_ + 1 := by cases m1763 with | zero => rw [moore_game_keeps_l3] at hP; cases hP | succ q_ => exact ⟨q_, rfl⟩
   rw [moore_game_keeps_l3] at hP
   refine wp_seq ?_
   refine wp_region_lit ?_
   refine vn tbok 1 [] [(110, .bool (decide (x1672 < (((List.length g.2.2.1) : Nat) : Int))))] [] E (by kernel_rfl) (by kernel_rfl) trivial ?_
   clear E; intro a E
   refine wpList_nil ?_
   refine th_n ?_
   refine wp_seq ?_
   refine E.cases (t := 110) rfl (fun hb_ E_ => ?_) (fun hb_ E_ => ?_)
   ·
    replace E := E_; clear E_
    have h1765 : x1672 < (((List.length g.2.2.1) : Nat) : Int) := of_decide_eq_true hb_
    clear hb_; replace hP := ite_t h1765 hP
    refine c_true E rfl ?_
    refine wp_skip ?_
    refine th_n ?_
    refine wp_seq ?_
    refine wp_block ?_
    refine wp_seq ?_
    refine wp_region_lit ?_
    obtain ⟨g1766, hP⟩ := ask_inv hP
    obtain ⟨b1767, o1768, e_b1767⟩ := (H.rd 5 rds_ro).addr (idx_pos g1766)
    subst e_b1767
    refine vn tbok 5 [.int .u8 (List.getD g.2.2.1 (Int.toNat x1672) 0)] [(9, .int .i64 x1672), (10, .int .u8 (List.getD g.2.2.1 (Int.toNat x1672) 0))] [0 ≤ x1672 ∧ x1672 < (((List.length g.2.2.1) : Nat) : Int), World.cell? w1762 ⟨b1767, o1768 + (Int.toNat x1672) * 1, none⟩ = some (.int .u8 (List.getD g.2.2.1 (Int.toNat x1672) 0))] E (by kernel_rfl) (by kernel_rfl) ⟨g1766, Rds.at1 (H.rd 5 rds_ro) 0 g1766⟩ ?_
    clear E; intro a E
    refine wpList_nil ?_
    refine th_n ?_
    refine wp_seq ?_
    refine wp_region_lit ?_
    obtain ⟨A1769, c1770, hl1771, hk1772, H⟩ := H.subSl 3 false (el_ro rfl) g1488
    try dsimp only [addE] at H
    obtain ⟨g1774, hP⟩ := ask_inv hP
    obtain ⟨b1775, o1776, e_b1775⟩ := (H.rd 6 rds_ro).addr (idx_pos g1774)
    subst e_b1775
    refine vn tbok 9 [.slice (some ⟨b1489, o1490, none⟩) (List.length xReply) c13, .slice (some ⟨b1775, o1776, none⟩) (List.length (List.getD xReply (Int.toNat q) [])) c1770, .int .u8 (List.getD (List.getD xReply (Int.toNat q) []) (Int.toNat x1672) 0)] [(11, .int .u8 (List.getD (List.getD xReply (Int.toNat q) []) (Int.toNat x1672) 0))] [World.cell? w1762 ⟨g16, 3, none⟩ = some (.slice (some ⟨b1489, o1490, none⟩) (List.length xReply) c13), 0 ≤ q ∧ q < (((List.length xReply) : Nat) : Int), World.cell? w1762 ⟨b1489, o1490 + (Int.toNat q) * 1, none⟩ = some (.slice (some ⟨b1775, o1776, none⟩) (List.length (List.getD xReply (Int.toNat q) [])) c1770), 0 ≤ x1672 ∧ x1672 < (((List.length (List.getD xReply (Int.toNat q) [])) : Nat) : Int), World.cell? w1762 ⟨b1775, o1776 + (Int.toNat x1672) * 1, none⟩ = some (.int .u8 (List.getD (List.getD xReply (Int.toNat q) []) (Int.toNat x1672) 0))] E (by kernel_rfl) (by kernel_rfl) ⟨(H.box 4 rfl).cell (j := 3) rfl, g1488, hl1771, g1774, Rds.at1 (H.rd 6 rds_ro) 0 g1774⟩ ?_
    clear E; intro a E
    refine wpList_nil ?_
    refine th_n ?_
    refine wp_seq ?_
    obtain ⟨Fz1777, cs1779, HF1778, hK1780, hc1781⟩ := H.elem 0 false (el_ro rfl) g (idx_one _)
    obtain ⟨_, _, rfl, hK1782, hK1783⟩ := hK1780
    obtain ⟨_, _, rfl, hK1784, hK1785⟩ := hK1782
    obtain rfl := hK1784
    obtain ⟨_, _, rfl, hK1786, hK1787⟩ := hK1785
    obtain ⟨A1788, c1789, rfl, hk1790, hC1791⟩ := hK1786
    obtain ⟨_, _, rfl, hK1793, hK1794⟩ := hK1787
    obtain ⟨A1795, c1796, rfl, hk1797, hC1798⟩ := hK1793
    obtain ⟨A1800, c1801, rfl, hk1802, hC1803⟩ := hK1794
    obtain ⟨_, _, rfl, hK1805, hK1806⟩ := hK1783
    obtain rfl := hK1805
    obtain ⟨_, _, rfl, hK1807, hK1808⟩ := hK1806
    obtain ⟨A1809, c1810, rfl, hk1811, hC1812⟩ := hK1807
    obtain ⟨A1814, c1815, rfl, hk1816, hC1817⟩ := hK1808
    replace HF1778 := HF1778.ins hC1791
    replace HF1778 := HF1778.ins hC1798
    replace HF1778 := HF1778.ins hC1803
    replace HF1778 := HF1778.ins hC1812
    replace HF1778 := HF1778.ins hC1817
    replace H := HF1778.hp; try dsimp only [addE] at H
    have hc1819 : cellsAt w1762 b1 (o2) [.int .i64 g.1.1, .slice A1788 (List.length g.1.2.1) c1789, .slice A1795 (List.length g.1.2.2.1) c1796, .slice A1800 (List.length g.1.2.2.2) c1801, .int .u8 g.2.1.1, .int .u8 g.2.1.2, .slice A1809 (List.length g.2.2.1) c1810, .slice A1814 (List.length g.2.2.2) c1815] := hc1781
    by_cases h1820 : (andNotV .u8 (List.getD (List.getD xReply (Int.toNat q) []) (Int.toNat x1672) 0) g.2.1.1 : Int) = 0
    ·
     replace hP := ite_t h1820 hP
     obtain ⟨r1821, h1822, hP⟩ := bind_inv hP
     obtain ⟨g1830, hP⟩ := ask_inv hP
     have HR1834 := H
     refine dr_start (S := fun w_ => Chg (atL []) w1762 w_) (by kernel_rfl) ?_
     intro w1831 hc1832
     have HS1833 : Chg (atL []) w1762 w1831 := hc1832.mono (fun _ _ h_ => h_.elim)
     replace H := H.ext hc1832
     refine dn tbok (by kernel_rfl) [0, 1, 2, 3, 4, 5, 6, 7, 8] [.int .u8 g.2.1.1, .int .u8 (andNotV .u8 (List.getD (List.getD xReply (Int.toNat q) []) (Int.toNat x1672) 0) g.2.1.1)] [(130, .bool ((andNotV .u8 (List.getD (List.getD xReply (Int.toNat q) []) (Int.toNat x1672) 0) g.2.1.1 : Int) != 0))] (fun w_ => [World.cell? w_ ⟨b1, o2 + 4, none⟩ = some (.int .u8 g.2.1.1), IntKind.u8.wrap (BitVec.ofInt (IntKind.bits .u8) (List.getD (List.getD xReply (Int.toNat q) []) (Int.toNat x1672) 0) &&& ~~~ BitVec.ofInt (IntKind.bits .u8) g.2.1.1).toNat = andNotV .u8 (List.getD (List.getD xReply (Int.toNat q) []) (Int.toNat x1672) 0) g.2.1.1]) 12 E (fun _ _ => by kernel_rfl) (by kernel_rfl) (fun w_ hS_ => ⟨hS_.cell (hc1819.get 4 _ rfl) (HR1834.blk [] 0 rds_ro (idx_pos (idx_one _)) rfl), rfl⟩) (by kernel_rfl) HS1833 ?_
     clear E; intro a E
     replace E := E.same (t := 130) (u := .bool false) rfl (congrArg Value.bool (bne_eq_false_iff_eq.2 h1820))
     refine dn tbok (by kernel_rfl) [9, 10, 11, 12, 13, 14, 15] [.slice (some ⟨b22, o23, none⟩) (List.length xRanks) c5, .int .u8 (orV .u8 (List.getD g.2.2.1 (Int.toNat x1672) 0) (List.getD (List.getD xReply (Int.toNat q) []) (Int.toNat x1672) 0))] [(132, .slice (some ⟨b22, o23, none⟩) (List.length xRanks) c5), (133, .pointer (some ⟨b1, o2, none⟩)), (134, .int .i64 q), (137, .int .u8 (orV .u8 (List.getD g.2.2.1 (Int.toNat x1672) 0) (List.getD (List.getD xReply (Int.toNat q) []) (Int.toNat x1672) 0)))] (fun w_ => [World.cell? w_ ⟨g16, 1, none⟩ = some (.slice (some ⟨b22, o23, none⟩) (List.length xRanks) c5), IntKind.u8.wrap (BitVec.ofInt (IntKind.bits .u8) (List.getD g.2.2.1 (Int.toNat x1672) 0) ||| BitVec.ofInt (IntKind.bits .u8) (List.getD (List.getD xReply (Int.toNat q) []) (Int.toNat x1672) 0)).toNat = orV .u8 (List.getD g.2.2.1 (Int.toNat x1672) 0) (List.getD (List.getD xReply (Int.toNat q) []) (Int.toNat x1672) 0)]) 5 E (fun _ _ => by kernel_rfl) (by kernel_rfl) (fun w_ hS_ => ⟨(HR1834.boxk [] hS_ 4 rfl rfl).cell (j := 1) rfl, rfl⟩) (by kernel_rfl) HS1833 ?_
     clear E; intro a E
     refine wpAnyH_all (rs := [16]) (by kernel_rfl) (by simp) ?_
     refine all1 ?_
     refine wpOp_of_list rfl ?_
     obtain ⟨Fa1835, Hc1836, hb1837⟩ := H.call [] [(0, false)] rfl rfl trivial
     refine e_call E rfl rfl Try.func50 rfl rfl rfl (moore_game_to_calls b1 o2 g q (orV .u8 (List.getD g.2.2.1 (Int.toNat x1672) 0) (List.getD (List.getD xReply (Int.toNat q) []) (Int.toNat x1672) 0))  Hc1836 h1822) ?_
     rintro v1838 w1839 a ⟨rfl, HR1840⟩ E_
     replace E := E_ _ rfl; clear E_
     obtain ⟨H_, hc1841⟩ := hb1837 _ _ HR1840 rfl
     replace HS1833 := HS1833.ext (callS_ext hc1841)
     replace H := H_; clear H_; try dsimp only [setn, addE, goneL] at H
     refine wpList_nil ?_
     refine th_n ⟨HS1833, ?_⟩
     refine dn tbok (by kernel_rfl) [17, 18, 19, 20] [.int .i64 (List.getD xRanks (Int.toNat r1821) 0)] [(142, .bool (((List.getD xRanks (Int.toNat r1821) 0) : Int) != (-1)))] (fun w_ => [0 ≤ r1821 ∧ r1821 < (((List.length xRanks) : Nat) : Int), World.cell? w_ ⟨b22, o23 + (Int.toNat r1821) * 1, none⟩ = some (.int .i64 (List.getD xRanks (Int.toNat r1821) 0))]) 0 E (fun _ _ => by kernel_rfl) (by kernel_rfl) (fun w_ hS_ => ⟨g1830, Rds.at1 (HR1834.rdk [] hS_ 1 rds_ro rfl) 0 g1830⟩) (by kernel_rfl) HS1833 ?_
     clear E; intro a E
     refine dr_done (by kernel_rfl) ?_
     clear HS1833 HR1834
     refine th_n ?_
     refine E.cases (t := 142) rfl (fun hb_ E_ => ?_) (fun hb_ E_ => ?_)
     ·
      replace E := E_; clear E_
      have h1842 : ¬ (((List.getD xRanks (Int.toNat r1821) 0) : Int) = -1) := bne_iff_ne.1 hb_
      clear hb_; replace hP := ite_f h1842 hP
      refine c_true E rfl ?_
      refine wp_seq ?_
      refine wp_region_lit ?_
      refine vn tbok 1 [] [(6, .bool false)] [] E (by kernel_rfl) (by kernel_rfl) trivial ?_
      clear E; intro a E
      refine wpList_nil ?_
      refine th_n ?_
      refine wp_ret ?_
      refine bl_ret ?_
      refine th_ret ?_
      refine th_ret ?_
      refine .inr ⟨rfl, ?_⟩
      refine bl_ret ?_
      refine bl_ret ?_
      refine th_ret ?_
      have hx_ := Option.some.inj hP; subst hx_
      have hP : some (false) = some r := hK1761
      obtain rfl := Option.some.inj hP
      refine ret1 E rfl rfl ?_
      exact ⟨_, rfl, rfl, H.sel [] rfl⟩
     replace E := E_; clear E_
     have h1843 : ((List.getD xRanks (Int.toNat r1821) 0) : Int) = -1 := bne_eq_false_iff_eq.1 hb_
     clear hb_; replace hP := ite_t h1843 hP
     refine c_false E rfl ?_
     refine wp_skip ?_
     refine bl_n ?_
     refine th_n ?_
     refine wp_region_lit ?_
     obtain ⟨g1844, hP⟩ := ask_inv hP
     refine vn tbok 2 [.int .i64 (x1672 + 1)] [(109, .int .i64 (x1672 + 1))] [IntKind.i64.wrap (x1672 + 1) = x1672 + 1] E (by kernel_rfl) (by kernel_rfl) (wrap_in g1844) ?_
     clear E; intro a E
     refine wpList_nil ?_
     exact th_n ⟨m1758, Nat.lt_succ_self _, x1672 + 1, E.pick _ ⟨rfl, rfl, rfl, rfl, rfl, rfl, trivial⟩, H.sel [0, 1, 2, 3, 4, 5] rfl, hP⟩
    replace hP := ite_f h1820 hP
    have HR1848 := H
    refine dr_start (S := fun w_ => Chg (atL []) w1762 w_) (by kernel_rfl) ?_
    intro w1845 hc1846
    have HS1847 : Chg (atL []) w1762 w1845 := hc1846.mono (fun _ _ h_ => h_.elim)
    replace H := H.ext hc1846
    refine dn tbok (by kernel_rfl) [0, 1, 2, 3, 4, 5, 6, 7, 8] [.int .u8 g.2.1.1, .int .u8 (andNotV .u8 (List.getD (List.getD xReply (Int.toNat q) []) (Int.toNat x1672) 0) g.2.1.1)] [(130, .bool ((andNotV .u8 (List.getD (List.getD xReply (Int.toNat q) []) (Int.toNat x1672) 0) g.2.1.1 : Int) != 0))] (fun w_ => [World.cell? w_ ⟨b1, o2 + 4, none⟩ = some (.int .u8 g.2.1.1), IntKind.u8.wrap (BitVec.ofInt (IntKind.bits .u8) (List.getD (List.getD xReply (Int.toNat q) []) (Int.toNat x1672) 0) &&& ~~~ BitVec.ofInt (IntKind.bits .u8) g.2.1.1).toNat = andNotV .u8 (List.getD (List.getD xReply (Int.toNat q) []) (Int.toNat x1672) 0) g.2.1.1]) 12 E (fun _ _ => by kernel_rfl) (by kernel_rfl) (fun w_ hS_ => ⟨hS_.cell (hc1819.get 4 _ rfl) (HR1848.blk [] 0 rds_ro (idx_pos (idx_one _)) rfl), rfl⟩) (by kernel_rfl) HS1847 ?_
    clear E; intro a E
    replace E := E.same (t := 130) (u := .bool true) rfl (congrArg Value.bool (bne_iff_ne.2 h1820))
    refine dn tbok (by kernel_rfl) [9, 10, 11, 12, 13, 14, 15, 16, 17, 18, 19, 20] [] [(142, .bool true)] (fun w_ => []) 0 E (fun _ _ => by kernel_rfl) (by kernel_rfl) (fun w_ hS_ => trivial) (by kernel_rfl) HS1847 ?_
    clear E; intro a E
    refine dr_done (by kernel_rfl) ?_
    clear HS1847 HR1848
    refine th_n ?_
    refine c_true E rfl ?_
    refine wp_seq ?_
    refine wp_region_lit ?_
    refine vn tbok 1 [] [(6, .bool false)] [] E (by kernel_rfl) (by kernel_rfl) trivial ?_
    clear E; intro a E
    refine wpList_nil ?_
    refine th_n ?_
    refine wp_ret ?_
    refine bl_ret ?_
    refine th_ret ?_
    refine th_ret ?_
    refine .inr ⟨rfl, ?_⟩
    refine bl_ret ?_
    refine bl_ret ?_
    refine th_ret ?_
    have hx_ := Option.some.inj hP; subst hx_
    have hP : some (false) = some r := hK1761
    obtain rfl := Option.some.inj hP
    refine ret1 E rfl rfl ?_
    exact ⟨_, rfl, rfl, H.sel [] rfl⟩
   replace E := E_; clear E_
   have h1849 : ¬ (x1672 < (((List.length g.2.2.1) : Nat) : Int)) := of_decide_eq_false hb_
   clear hb_; replace hP := ite_f h1849 hP
   refine c_false E rfl ?_
   refine wp_exit ?_
   refine th_exit ?_
   have hx_ := Option.some.inj hP
   refine th_exit (.inl ⟨1, rfl, ?_⟩)
   exact ⟨rfl, (), E.pick _ trivial, H.sel [] rfl, hx_.symm⟩
  clear E H hL1760; intro i_ a w1762 hM_
  obtain ⟨rfl, x1764, E, H, hx_⟩ := hM_
  subst hx_; have hP := elim_l hK1761
  clear hK1761
  refine bl_hit ?_
  refine bl_n ?_
  refine th_n ?_
  refine wp_seq ?_
  refine wp_region_lit ?_
  refine vn tbok 1 [] [(6, .bool true)] [] E (by kernel_rfl) (by kernel_rfl) trivial ?_
  clear E; intro a E
  refine wpList_nil ?_
  refine th_n ?_
  refine wp_ret ?_
  obtain rfl := Option.some.inj hP
  refine ret1 E rfl rfl ?_
  exact ⟨_, rfl, rfl, H.sel [] rfl⟩
 replace E := E_; clear E_
 have h1851 : ¬ ((List.getD xRanks (Int.toNat q) 0) < 0) := of_decide_eq_false hb_
 clear hb_; replace hP := ite_f h1851 hP
 refine c_false E rfl ?_
 refine wp_skip ?_
 refine bl_n ?_
 refine th_n ?_
 refine wp_seq ?_
 refine wp_region_lit ?_
 refine vn tbok 1 [] [(6, .bool true)] [] E (by kernel_rfl) (by kernel_rfl) trivial ?_
 clear E; intro a E
 refine wpList_nil ?_
 refine th_n ?_
 refine wp_ret ?_
 obtain rfl := Option.some.inj hP
 refine ret1 E rfl rfl ?_
 exact ⟨_, rfl, rfl, H.sel [] rfl⟩

end Go.V
