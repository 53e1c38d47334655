/- Plain functions, and the calls that give them. -/
import Derived.Test.YtljkomkejdngcaaSQ
import Derived.Test.YtljkomkejdngcaaA10
set_option linter.all false
set_option linter.unusedVariables false
set_option linter.unnecessarySimpa false
set_option linter.unusedSimpArgs false
namespace Go.V
open Go Go.Proofs
/-! rejoinder/rejoinderlaw21.WatchScript -/
def law21_WatchScript_j0 (N : Nat) (aProps : Int) (aAccept : List Bool) (aGuard : List Int) (aNodes : List Nd) (script : List (Int × Int × Int)) : Option Bool :=
    Option.bind (law16_Small N aProps aAccept aGuard aNodes) fun r39 =>
    if r39 = true then
      some (decide (60 < (((List.length script) : Nat) : Int)))
    else
      some true
def law21_WatchScript_j1 (N : Nat) (aProps : Int) (aAccept : List Bool) (aGuard : List Int) (aNodes : List Nd) (r52 : Int × (List Bool × List Bool) × (List Int × List Int) × (List Nd × List Nd)) (x94 : Int) (x112 : Int) : Option Bool :=
    if (x94 : Int) = x112 then
      if true = true then
        Option.bind (kit_KeptAuto N r52.1 r52.2.1.1 r52.2.1.2 r52.2.2.1.1 r52.2.2.1.2 r52.2.2.2.1 r52.2.2.2.2 aProps aAccept aGuard aNodes) fun r137 =>
        some (!r137)
      else
        some true
    else
      some true
def law21_WatchScript_j2 (N : Nat) (aProps : Int) (aAccept : List Bool) (aGuard : List Int) (aNodes : List Nd) (r52 : Int × (List Bool × List Bool) × (List Int × List Int) × (List Nd × List Nd)) (x94 : Int) (x113 : Int) : Option Bool :=
    if (x94 : Int) = x113 then
      if true = false then
        Option.bind (kit_KeptAuto N r52.1 r52.2.1.1 r52.2.1.2 r52.2.2.1.1 r52.2.2.1.2 r52.2.2.2.1 r52.2.2.2.2 aProps aAccept aGuard aNodes) fun r172 =>
        some (!r172)
      else
        some true
    else
      some true
def law21_WatchScript_l5 (N : Nat) : Nat → (List Int) → Int → Option (List Int)
  | 0, _, _ => none
  | m311 + 1, all299, i300 =>
    if i300 < (((List.length all299) : Nat) : Int) then
      ask (idx i300 (List.length all299)) <|
      ask (in64 (i300 + 1)) <|
      law21_WatchScript_l5 N m311 (List.set all299 (Int.toNat i300) (xorV .i64 (List.getD all299 (Int.toNat i300) 0) 21845)) (i300 + 1)
    else
      some all299
def law21_WatchScript_f4 (N : Nat) (r52 : Int × (List Bool × List Bool) × (List Int × List Int) × (List Nd × List Nd)) : Option (List Int) :=
    Option.bind (law21_WatchScript_l5 N N (r52.2.2.1.1 ++ r52.2.2.1.2) 0) fun x312 =>
    some x312
def law21_WatchScript_l6 (N : Nat) : Nat → (List Bool) → Int → Option (List Bool)
  | 0, _, _ => none
  | m360 + 1, accept348, i349 =>
    if i349 < (((List.length accept348) : Nat) : Int) then
      ask (idx i349 (List.length accept348)) <|
      ask (in64 (i349 + 1)) <|
      law21_WatchScript_l6 N m360 (List.set accept348 (Int.toNat i349) (!(List.getD accept348 (Int.toNat i349) false))) (i349 + 1)
    else
      some accept348
def law21_WatchScript_l7 (N : Nat) : Nat → (List Nd) → Int → Option (List Nd)
  | 0, _, _ => none
  | m396 + 1, nodes384, i385 =>
    if i385 < (((List.length nodes384) : Nat) : Int) then
      ask (idx i385 (List.length nodes384)) <|
      ask (in64 (i385 + 1)) <|
      law21_WatchScript_l7 N m396 (List.set nodes384 (Int.toNat i385) (⟨xorV .i64 ((List.getD nodes384 (Int.toNat i385) (default : Nd)).P) 85, (List.getD nodes384 (Int.toNat i385) (default : Nd)).Lo, (List.getD nodes384 (Int.toNat i385) (default : Nd)).Hi⟩ : Nd)) (i385 + 1)
    else
      some nodes384
def law21_WatchScript_f3 (N : Nat) (r52 : Int × (List Bool × List Bool) × (List Int × List Int) × (List Nd × List Nd)) : Option ((List Bool) × (List Int) × (List Nd)) :=
    Option.bind (law21_WatchScript_f4 N r52) fun x287 =>
    Option.bind (law21_WatchScript_l6 N N (r52.2.1.1 ++ r52.2.1.2) 0) fun x361 =>
    Option.bind (law21_WatchScript_l7 N N (r52.2.2.2.1 ++ r52.2.2.2.2) 0) fun x397 =>
    some (x361, x287, x397)
def law21_WatchScript_f9 (N : Nat) : Option Unit :=
    some ()
def law21_WatchScript_f8 (N : Nat) : Option Unit :=
    Option.bind (law21_WatchScript_f9 N) fun x419 =>
    some ()
def law21_WatchScript_j10 (N : Nat) (aProps : Int) (aAccept : List Bool) (aGuard : List Int) (aNodes : List Nd) (r52 : Int × (List Bool × List Bool) × (List Int × List Int) × (List Nd × List Nd)) (x95 : ((Int × (List Bool) × (List Int) × (List Nd)) × (List Int) × (List Int)) × Int) (x444 : Int) : Option Bool :=
    if (x95.2 : Int) = x444 then
      if false = true then
        Option.bind (kit_KeptAuto N r52.1 r52.2.1.1 r52.2.1.2 r52.2.2.1.1 r52.2.2.1.2 r52.2.2.2.1 r52.2.2.2.2 aProps aAccept aGuard aNodes) fun r469 =>
        some (!r469)
      else
        some true
    else
      some true
def law21_WatchScript_j11 (N : Nat) (aProps : Int) (aAccept : List Bool) (aGuard : List Int) (aNodes : List Nd) (r52 : Int × (List Bool × List Bool) × (List Int × List Int) × (List Nd × List Nd)) (x95 : ((Int × (List Bool) × (List Int) × (List Nd)) × (List Int) × (List Int)) × Int) (x445 : Int) : Option Bool :=
    if (x95.2 : Int) = x445 then
      if false = false then
        Option.bind (kit_KeptAuto N r52.1 r52.2.1.1 r52.2.1.2 r52.2.2.1.1 r52.2.2.1.2 r52.2.2.2.1 r52.2.2.2.2 aProps aAccept aGuard aNodes) fun r504 =>
        some (!r504)
      else
        some true
    else
      some true
def law21_WatchScript_l14 (N : Nat) : Nat → (List Int) → Int → Option (List Int)
  | 0, _, _ => none
  | m643 + 1, all631, i632 =>
    if i632 < (((List.length all631) : Nat) : Int) then
      ask (idx i632 (List.length all631)) <|
      ask (in64 (i632 + 1)) <|
      law21_WatchScript_l14 N m643 (List.set all631 (Int.toNat i632) (xorV .i64 (List.getD all631 (Int.toNat i632) 0) 21845)) (i632 + 1)
    else
      some all631
def law21_WatchScript_f13 (N : Nat) (r52 : Int × (List Bool × List Bool) × (List Int × List Int) × (List Nd × List Nd)) : Option (List Int) :=
    Option.bind (law21_WatchScript_l14 N N (r52.2.2.1.1 ++ r52.2.2.1.2) 0) fun x644 =>
    some x644
def law21_WatchScript_l15 (N : Nat) : Nat → (List Bool) → Int → Option (List Bool)
  | 0, _, _ => none
  | m692 + 1, accept680, i681 =>
    if i681 < (((List.length accept680) : Nat) : Int) then
      ask (idx i681 (List.length accept680)) <|
      ask (in64 (i681 + 1)) <|
      law21_WatchScript_l15 N m692 (List.set accept680 (Int.toNat i681) (!(List.getD accept680 (Int.toNat i681) false))) (i681 + 1)
    else
      some accept680
def law21_WatchScript_l16 (N : Nat) : Nat → (List Nd) → Int → Option (List Nd)
  | 0, _, _ => none
  | m728 + 1, nodes716, i717 =>
    if i717 < (((List.length nodes716) : Nat) : Int) then
      ask (idx i717 (List.length nodes716)) <|
      ask (in64 (i717 + 1)) <|
      law21_WatchScript_l16 N m728 (List.set nodes716 (Int.toNat i717) (⟨xorV .i64 ((List.getD nodes716 (Int.toNat i717) (default : Nd)).P) 85, (List.getD nodes716 (Int.toNat i717) (default : Nd)).Lo, (List.getD nodes716 (Int.toNat i717) (default : Nd)).Hi⟩ : Nd)) (i717 + 1)
    else
      some nodes716
def law21_WatchScript_f12 (N : Nat) (r52 : Int × (List Bool × List Bool) × (List Int × List Int) × (List Nd × List Nd)) : Option ((List Bool) × (List Int) × (List Nd)) :=
    Option.bind (law21_WatchScript_f13 N r52) fun x619 =>
    Option.bind (law21_WatchScript_l15 N N (r52.2.1.1 ++ r52.2.1.2) 0) fun x693 =>
    Option.bind (law21_WatchScript_l16 N N (r52.2.2.2.1 ++ r52.2.2.2.2) 0) fun x729 =>
    some (x693, x619, x729)
def law21_WatchScript_j19 (N : Nat) (r2822 : Int × Int × (List Int)) (r2840 : Int × Int × (List Int)) : Option Bool :=
    if (r2822.1 : Int) = r2840.1 then
      some ((r2822.2.1 : Int) == r2840.2.1)
    else
      some false
def law21_WatchScript_j20 (N : Nat) (r2871 : Int × Int × (List Int)) (r2889 : Int × Int × (List Int)) : Option Bool :=
    if (r2871.1 : Int) = r2889.1 then
      some ((r2871.2.1 : Int) == r2889.2.1)
    else
      some false
def law21_WatchScript_j21 (N : Nat) (aProps : Int) (aAccept : List Bool) (aGuard : List Int) (aNodes : List Nd) (x95 : ((Int × (List Bool) × (List Int) × (List Nd)) × (List Int) × (List Int)) × Int) (s1467 : List Int) (m1479 : List Int) : Option Bool :=
    Option.bind (watch_Watch_Verdict N x95.1 s1467) fun r3015 =>
    Option.bind (ref21_Watch_State N aProps aAccept aGuard aNodes m1479) fun r3031 =>
    Option.bind (ref21_Verdict N aProps aAccept aGuard aNodes r3031) fun r3046 =>
    if (r3015 : Int) = r3046 then
      Option.bind (watch_Watch_State N x95.1 s1467) fun r3056 =>
      Option.bind (ref21_Watch_State N aProps aAccept aGuard aNodes m1479) fun r3072 =>
      if (r3056 : Int) = r3072 then
        Option.bind (watch_Watch_Len N x95.1 s1467) fun r3088 =>
        some ((r3088 : Int) == (((List.length m1479) : Nat) : Int))
      else
        some false
    else
      some false
def law21_WatchScript_j22 (N : Nat) (r3631 : Int × Int) (r3662 : Int × Int) : Option Bool :=
    if (r3631.1 : Int) = r3662.1 then
      some ((r3631.2 : Int) == r3662.2)
    else
      some false
def law21_WatchScript_j23 (N : Nat) (r3804 : Int × Int × (List Int)) (r3822 : Int × Int × (List Int)) : Option Bool :=
    if (r3804.1 : Int) = r3822.1 then
      some ((r3804.2.1 : Int) == r3822.2.1)
    else
      some false
def law21_WatchScript_j24 (N : Nat) (r3853 : Int × Int × (List Int)) (r3871 : Int × Int × (List Int)) : Option Bool :=
    if (r3853.1 : Int) = r3871.1 then
      some ((r3853.2.1 : Int) == r3871.2.1)
    else
      some false
def law21_WatchScript_j25 (N : Nat) (aProps : Int) (aAccept : List Bool) (aGuard : List Int) (aNodes : List Nd) (x95 : ((Int × (List Bool) × (List Int) × (List Nd)) × (List Int) × (List Int)) × Int) (s1473 : List Int) (m1486 : List Int) : Option Bool :=
    Option.bind (watch_Watch_Verdict N x95.1 s1473) fun r3997 =>
    Option.bind (ref21_Watch_State N aProps aAccept aGuard aNodes m1486) fun r4013 =>
    Option.bind (ref21_Verdict N aProps aAccept aGuard aNodes r4013) fun r4028 =>
    if (r3997 : Int) = r4028 then
      Option.bind (watch_Watch_State N x95.1 s1473) fun r4038 =>
      Option.bind (ref21_Watch_State N aProps aAccept aGuard aNodes m1486) fun r4054 =>
      if (r4038 : Int) = r4054 then
        Option.bind (watch_Watch_Len N x95.1 s1473) fun r4070 =>
        some ((r4070 : Int) == (((List.length m1486) : Nat) : Int))
      else
        some false
    else
      some false
def law21_WatchScript_j26 (N : Nat) (r4613 : Int × Int) (r4644 : Int × Int) : Option Bool :=
    if (r4613.1 : Int) = r4644.1 then
      some ((r4613.2 : Int) == r4644.2)
    else
      some false
def law21_WatchScript_f18 (N : Nat) (aProps : Int) (aAccept : List Bool) (aGuard : List Int) (aNodes : List Nd) (script : List (Int × Int × Int)) (x95 : ((Int × (List Bool) × (List Int) × (List Nd)) × (List Int) × (List Int)) × Int) (s1467 : List Int) (s1473 : List Int) (m1479 : List Int) (m1486 : List Int) (i1490 : Int) : Option (Bool × (List Int) × (List Int) × (List Int) × (List Int)) :=
    ask (in64 (Int.tmod ((List.getD script (Int.toNat i1490) (0, 0, 0)).2.1) 2)) <|
    if (Int.tmod ((List.getD script (Int.toNat i1490) (0, 0, 0)).2.1) 2 : Int) = 0 then
      if ((List.getD script (Int.toNat i1490) (0, 0, 0)).1 : Int) = 0 then
        Option.bind (watch_Watch_Feed N x95.1 s1467 ((List.getD script (Int.toNat i1490) (0, 0, 0)).2.2)) fun r2822 =>
        Option.bind (ref21_Watch_Feed N aProps aAccept aGuard aNodes m1479 ((List.getD script (Int.toNat i1490) (0, 0, 0)).2.2)) fun r2840 =>
        Option.bind (law21_WatchScript_j19 N r2822 r2840) fun x2862 =>
        some (x2862, r2822.2.2, s1473, r2840.2.2, m1486)
      else
        if ((List.getD script (Int.toNat i1490) (0, 0, 0)).1 : Int) = 1 then
          Option.bind (watch_Watch_Back N x95.1 s1467) fun r2871 =>
          Option.bind (ref21_Watch_Back N aProps aAccept aGuard aNodes m1479) fun r2889 =>
          Option.bind (law21_WatchScript_j20 N r2871 r2889) fun x2911 =>
          some (x2911, r2871.2.2, s1473, r2889.2.2, m1486)
        else
          if ((List.getD script (Int.toNat i1490) (0, 0, 0)).1 : Int) = 2 then
            Option.bind (law21_WatchScript_j21 N aProps aAccept aGuard aNodes x95 s1467 m1479) fun x3010 =>
            some (x3010, s1467, s1473, m1479, m1486)
          else
            if ((List.getD script (Int.toNat i1490) (0, 0, 0)).1 : Int) = 3 then
              Option.bind (watch_Watch_Off N x95.1 s1467) fun r3631 =>
              Option.bind (ref21_Watch_State N aProps aAccept aGuard aNodes m1479) fun r3647 =>
              Option.bind (ref21_Off N aProps aAccept aGuard aNodes r3647) fun r3662 =>
              Option.bind (law21_WatchScript_j22 N r3631 r3662) fun x3719 =>
              some (x3719, s1467, s1473, m1479, m1486)
            else
              Option.bind (watch_Watch_Fork N x95.1 s1467) fun r3727 =>
              Sum.elim (fun x3745 =>
                some (false, s1467, s1473, m1479, m1486))
               (fun x3746 =>
                ask (List.length ([] : List Int) + List.length m1479 ≤ 1000000000) <|
                some (true, s1467, ([] : List Int) ++ s1467, m1479, ([] : List Int) ++ m1479)) r3727
    else
      ask ((Int.tmod ((List.getD script (Int.toNat i1490) (0, 0, 0)).2.1) 2 : Int) = 1) <|
      if ((List.getD script (Int.toNat i1490) (0, 0, 0)).1 : Int) = 0 then
        Option.bind (watch_Watch_Feed N x95.1 s1473 ((List.getD script (Int.toNat i1490) (0, 0, 0)).2.2)) fun r3804 =>
        Option.bind (ref21_Watch_Feed N aProps aAccept aGuard aNodes m1486 ((List.getD script (Int.toNat i1490) (0, 0, 0)).2.2)) fun r3822 =>
        Option.bind (law21_WatchScript_j23 N r3804 r3822) fun x3844 =>
        some (x3844, s1467, r3804.2.2, m1479, r3822.2.2)
      else
        if ((List.getD script (Int.toNat i1490) (0, 0, 0)).1 : Int) = 1 then
          Option.bind (watch_Watch_Back N x95.1 s1473) fun r3853 =>
          Option.bind (ref21_Watch_Back N aProps aAccept aGuard aNodes m1486) fun r3871 =>
          Option.bind (law21_WatchScript_j24 N r3853 r3871) fun x3893 =>
          some (x3893, s1467, r3853.2.2, m1479, r3871.2.2)
        else
          if ((List.getD script (Int.toNat i1490) (0, 0, 0)).1 : Int) = 2 then
            Option.bind (law21_WatchScript_j25 N aProps aAccept aGuard aNodes x95 s1473 m1486) fun x3992 =>
            some (x3992, s1467, s1473, m1479, m1486)
          else
            if ((List.getD script (Int.toNat i1490) (0, 0, 0)).1 : Int) = 3 then
              Option.bind (watch_Watch_Off N x95.1 s1473) fun r4613 =>
              Option.bind (ref21_Watch_State N aProps aAccept aGuard aNodes m1486) fun r4629 =>
              Option.bind (ref21_Off N aProps aAccept aGuard aNodes r4629) fun r4644 =>
              Option.bind (law21_WatchScript_j26 N r4613 r4644) fun x4701 =>
              some (x4701, s1467, s1473, m1479, m1486)
            else
              Option.bind (watch_Watch_Fork N x95.1 s1473) fun r4709 =>
              Sum.elim (fun x4727 =>
                some (false, s1467, s1473, m1479, m1486))
               (fun x4728 =>
                ask (List.length ([] : List Int) + List.length m1486 ≤ 1000000000) <|
                some (true, ([] : List Int) ++ s1473, s1473, ([] : List Int) ++ m1486, m1486)) r4709
def law21_WatchScript_l17 (N : Nat) (aProps : Int) (aAccept : List Bool) (aGuard : List Int) (aNodes : List Nd) (script : List (Int × Int × Int)) (x95 : ((Int × (List Bool) × (List Int) × (List Nd)) × (List Int) × (List Int)) × Int) : Nat → (List Int) → (List Int) → (List Int) → (List Int) → Int → Option (((List Int) × (List Int) × (List Int) × (List Int)) ⊕ Bool)
  | 0, _, _, _, _, _ => none
  | m2162 + 1, s1467, s1473, m1479, m1486, i1490 =>
    if i1490 < (((List.length script) : Nat) : Int) then
      ask (idx i1490 (List.length script)) <|
      Option.bind (law21_WatchScript_f18 N aProps aAccept aGuard aNodes script x95 s1467 s1473 m1479 m1486 i1490) fun x2802 =>
      if x2802.1 = true then
        ask (in64 (i1490 + 1)) <|
        law21_WatchScript_l17 N aProps aAccept aGuard aNodes script x95 m2162 x2802.2.1 x2802.2.2.1 x2802.2.2.2.1 x2802.2.2.2.2 (i1490 + 1)
      else
        some (Sum.inr false)
    else
      some (Sum.inl (s1467, s1473, m1479, m1486))
def law21_WatchScript_j29 (N : Nat) (aProps : Int) (aAccept : List Bool) (aGuard : List Int) (aNodes : List Nd) (x95 : ((Int × (List Bool) × (List Int) × (List Nd)) × (List Int) × (List Int)) × Int) (x2172 : (List Int) × (List Int) × (List Int) × (List Int)) : Option Bool :=
    Option.bind (watch_Watch_Verdict N x95.1 x2172.1) fun r5211 =>
    Option.bind (ref21_Watch_State N aProps aAccept aGuard aNodes x2172.2.2.1) fun r5227 =>
    Option.bind (ref21_Verdict N aProps aAccept aGuard aNodes r5227) fun r5242 =>
    if (r5211 : Int) = r5242 then
      Option.bind (watch_Watch_State N x95.1 x2172.1) fun r5252 =>
      Option.bind (ref21_Watch_State N aProps aAccept aGuard aNodes x2172.2.2.1) fun r5268 =>
      if (r5252 : Int) = r5268 then
        Option.bind (watch_Watch_Len N x95.1 x2172.1) fun r5284 =>
        some ((r5284 : Int) == (((List.length x2172.2.2.1) : Nat) : Int))
      else
        some false
    else
      some false
def law21_WatchScript_f28 (N : Nat) (aProps : Int) (aAccept : List Bool) (aGuard : List Int) (aNodes : List Nd) (x95 : ((Int × (List Bool) × (List Int) × (List Nd)) × (List Int) × (List Int)) × Int) (x2172 : (List Int) × (List Int) × (List Int) × (List Int)) : Option Bool :=
    Option.bind (law21_WatchScript_j29 N aProps aAccept aGuard aNodes x95 x2172) fun x5206 =>
    some x5206
def law21_WatchScript_j31 (N : Nat) (aProps : Int) (aAccept : List Bool) (aGuard : List Int) (aNodes : List Nd) (x95 : ((Int × (List Bool) × (List Int) × (List Nd)) × (List Int) × (List Int)) × Int) (x2172 : (List Int) × (List Int) × (List Int) × (List Int)) : Option Bool :=
    Option.bind (watch_Watch_Verdict N x95.1 x2172.2.1) fun r6040 =>
    Option.bind (ref21_Watch_State N aProps aAccept aGuard aNodes x2172.2.2.2) fun r6056 =>
    Option.bind (ref21_Verdict N aProps aAccept aGuard aNodes r6056) fun r6071 =>
    if (r6040 : Int) = r6071 then
      Option.bind (watch_Watch_State N x95.1 x2172.2.1) fun r6081 =>
      Option.bind (ref21_Watch_State N aProps aAccept aGuard aNodes x2172.2.2.2) fun r6097 =>
      if (r6081 : Int) = r6097 then
        Option.bind (watch_Watch_Len N x95.1 x2172.2.1) fun r6113 =>
        some ((r6113 : Int) == (((List.length x2172.2.2.2) : Nat) : Int))
      else
        some false
    else
      some false
def law21_WatchScript_f30 (N : Nat) (aProps : Int) (aAccept : List Bool) (aGuard : List Int) (aNodes : List Nd) (x95 : ((Int × (List Bool) × (List Int) × (List Nd)) × (List Int) × (List Int)) × Int) (x2172 : (List Int) × (List Int) × (List Int) × (List Int)) : Option Bool :=
    Option.bind (law21_WatchScript_j31 N aProps aAccept aGuard aNodes x95 x2172) fun x6035 =>
    some x6035
def law21_WatchScript_j27 (N : Nat) (aProps : Int) (aAccept : List Bool) (aGuard : List Int) (aNodes : List Nd) (x95 : ((Int × (List Bool) × (List Int) × (List Nd)) × (List Int) × (List Int)) × Int) (x2172 : (List Int) × (List Int) × (List Int) × (List Int)) : Option Bool :=
    Option.bind (law21_WatchScript_f28 N aProps aAccept aGuard aNodes x95 x2172) fun x5099 =>
    if x5099 = true then
      Option.bind (law21_WatchScript_f30 N aProps aAccept aGuard aNodes x95 x2172) fun x5928 =>
      some x5928
    else
      some false
def law21_WatchScript (N : Nat) (aProps : Int) (aAccept : List Bool) (aGuard : List Int) (aNodes : List Nd) (script : List (Int × Int × Int)) : Option Bool :=
  Option.bind (law21_WatchScript_j0 N aProps aAccept aGuard aNodes script) fun x34 =>
  if x34 = true then
    some true
  else
    Option.bind (kit_LentAuto N aProps aAccept aGuard aNodes) fun r52 =>
    Option.bind (watch_New N r52.1 r52.2.1.1 r52.2.2.1.1 r52.2.2.2.1) fun r77 =>
    Sum.elim (fun x94 =>
      Option.bind (ref21_New N aProps aAccept aGuard aNodes) fun r96 =>
      Sum.elim (fun x112 =>
        Option.bind (law21_WatchScript_j1 N aProps aAccept aGuard aNodes r52 x94 x112) fun x128 =>
        if x128 = true then
          some false
        else
          some true)
       (fun x113 =>
        Option.bind (law21_WatchScript_j2 N aProps aAccept aGuard aNodes r52 x94 x113) fun x163 =>
        if x163 = true then
          some false
        else
          Option.bind (law21_WatchScript_f3 N r52) fun x257 =>
          Option.bind (law21_WatchScript_f8 N) fun x416 =>
          some false) r96)
     (fun x95 =>
      Option.bind (ref21_New N aProps aAccept aGuard aNodes) fun r428 =>
      Sum.elim (fun x444 =>
        Option.bind (law21_WatchScript_j10 N aProps aAccept aGuard aNodes r52 x95 x444) fun x460 =>
        if x460 = true then
          some false
        else
          some true)
       (fun x445 =>
        Option.bind (law21_WatchScript_j11 N aProps aAccept aGuard aNodes r52 x95 x445) fun x495 =>
        if x495 = true then
          some false
        else
          Option.bind (law21_WatchScript_f12 N r52) fun x589 =>
          Option.bind (watch_Watch_Fork N x95.1 []) fun r747 =>
          Sum.elim (fun x765 =>
            some false)
           (fun x766 =>
            Option.bind (law21_WatchScript_l17 N aProps aAccept aGuard aNodes script x95 N [] (([] : List Int) ++ []) [] [] 0) fun x2163 =>
            Sum.elim (fun x2172 =>
              Option.bind (law21_WatchScript_j27 N aProps aAccept aGuard aNodes x95 x2172) fun x4994 =>
              some x4994)
             (fun x4786 =>
              some x4786) x2163) r747) r428) r77
end Go.V
