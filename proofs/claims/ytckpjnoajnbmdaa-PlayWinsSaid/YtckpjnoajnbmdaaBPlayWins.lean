/- Plain functions, and the calls that give them. -/
import Derived.Test.YtckpjnoajnbmdaaA11
set_option linter.all false
set_option linter.unusedVariables false
set_option linter.unnecessarySimpa false
set_option linter.unusedSimpArgs false
namespace Go.V
open Go Go.Proofs
/-! rejoinder/rejoinderlaw25.PlayWins -/
def law25_PlayWins_j0 (N : Nat) (aProps : Int) (aAccept : List Bool) (aGuard : List Int) (aNodes : List Nd) (s : Int × Int) (raws : List Int) : Option Bool :=
    Option.bind (law19_Large N aProps aAccept aGuard aNodes) fun r64 =>
    if r64 = true then
      some true
    else
      if 40 < (((List.length raws) : Nat) : Int) then
        some true
      else
        Option.bind (board_Check N aProps aAccept aGuard aNodes (s.1, s.2)) fun r77 =>
        some ((r77 : Int) != 0)
def law25_PlayWins_j1 (N : Nat) (aProps : Int) (aAccept : List Bool) (aGuard : List Int) (aNodes : List Nd) (x128 : Bool × (List Int) × (List (List Int)) × (List Int) × Bool) : Option Bool :=
    if x128.2.2.2.2 = true then
      Option.bind (law19_Real N aProps aAccept aGuard aNodes) fun r161 =>
      if r161 = true then
        some (((((List.length x128.2.1) : Nat) : Int) : Int) != (((List.length aAccept) : Nat) : Int))
      else
        some true
    else
      some true
def law25_PlayWins_j2 (N : Nat) (s : Int × Int) (x128 : Bool × (List Int) × (List (List Int)) × (List Int) × Bool) : Option Int :=
    if x128.1 = true then
      some s.1
    else
      some s.2
def law25_PlayWins_f5 (N : Nat) : Option Unit :=
    some ()
def law25_PlayWins_f4 (N : Nat) : Option Unit :=
    Option.bind (law25_PlayWins_f5 N) fun x331 =>
    some ()
def law25_PlayWins_f7 (N : Nat) : Option Unit :=
    some ()
def law25_PlayWins_f6 (N : Nat) : Option Unit :=
    Option.bind (law25_PlayWins_f7 N) fun x348 =>
    some ()
def law25_PlayWins_f9 (N : Nat) : Option Unit :=
    some ()
def law25_PlayWins_f8 (N : Nat) : Option Unit :=
    Option.bind (law25_PlayWins_f9 N) fun x367 =>
    some ()
def law25_PlayWins_f11 (N : Nat) : Option Unit :=
    some ()
def law25_PlayWins_f10 (N : Nat) : Option Unit :=
    Option.bind (law25_PlayWins_f11 N) fun x382 =>
    some ()
def law25_PlayWins_j12 (N : Nat) (raws : List Int) (x177 : Int) (i250 : Int) : Option Bool :=
    if (List.getD raws (Int.toNat i250) 0) < 256 then
      some ((andNotV .u8 (IntKind.u8.wrap (List.getD raws (Int.toNat i250) 0)) x177 : Int) == 0)
    else
      some false
def law25_PlayWins_j13 (N : Nat) (x392 : Bool) : Option Bool :=
    if x392 = true then
      if false = true then
        if x392 = true then
          some false
        else
          some true
      else
        some true
    else
      if false = false then
        if x392 = true then
          some false
        else
          some true
      else
        some true
def law25_PlayWins_f15 (N : Nat) : Option Unit :=
    some ()
def law25_PlayWins_f14 (N : Nat) : Option Unit :=
    Option.bind (law25_PlayWins_f15 N) fun x444 =>
    some ()
def law25_PlayWins_f17 (N : Nat) : Option Unit :=
    some ()
def law25_PlayWins_f16 (N : Nat) : Option Unit :=
    Option.bind (law25_PlayWins_f17 N) fun x456 =>
    some ()
def law25_PlayWins_f19 (N : Nat) : Option Unit :=
    some ()
def law25_PlayWins_f18 (N : Nat) : Option Unit :=
    Option.bind (law25_PlayWins_f19 N) fun x468 =>
    some ()
def law25_PlayWins_l3 (N : Nat) (raws : List Int) (x177 : Int) : Nat → Int → Option (Unit ⊕ Bool)
  | 0, _ => none
  | m318 + 1, i250 =>
    if i250 < (((List.length raws) : Nat) : Int) then
      Option.bind (law25_PlayWins_f4 N) fun x328 =>
      Option.bind (law25_PlayWins_f6 N) fun x345 =>
      Option.bind (law25_PlayWins_f8 N) fun x364 =>
      ask (idx i250 (List.length raws)) <|
      Option.bind (law25_PlayWins_f10 N) fun x379 =>
      Option.bind (law25_PlayWins_j12 N raws x177 i250) fun x392 =>
      Option.bind (law25_PlayWins_j13 N x392) fun x410 =>
      if x410 = true then
        some (Sum.inr false)
      else
        Option.bind (law25_PlayWins_f14 N) fun x441 =>
        Option.bind (law25_PlayWins_f16 N) fun x453 =>
        Option.bind (law25_PlayWins_f18 N) fun x465 =>
        ask (in64 (i250 + 1)) <|
        law25_PlayWins_l3 N raws x177 m318 (i250 + 1)
    else
      some (Sum.inl ())
def law25_PlayWins_f21 (N : Nat) : Option Unit :=
    some ()
def law25_PlayWins_f20 (N : Nat) : Option Unit :=
    Option.bind (law25_PlayWins_f21 N) fun x497 =>
    some ()
def law25_PlayWins_j22 (N : Nat) (aProps : Int) (aAccept : List Bool) (aGuard : List Int) (aNodes : List Nd) (x129 : (List Bool) × (List Int) × (List Nd) × Bool × (List Int) × (List (List Int)) × (List Int) × Bool × (List Int) × (List (List Int)) × (List Int) × Bool) : Option Bool :=
    if x129.2.2.2.2.2.2.2.2.2.2.2 = true then
      Option.bind (law19_Real N aProps aAccept aGuard aNodes) fun r551 =>
      if r551 = true then
        some (((((List.length x129.2.2.2.2.2.2.2.2.1) : Nat) : Int) : Int) != (((List.length aAccept) : Nat) : Int))
      else
        some true
    else
      some true
def law25_PlayWins_j23 (N : Nat) (s : Int × Int) (x129 : (List Bool) × (List Int) × (List Nd) × Bool × (List Int) × (List (List Int)) × (List Int) × Bool × (List Int) × (List (List Int)) × (List Int) × Bool) : Option Int :=
    if x129.2.2.2.2.2.2.2.1 = true then
      some s.1
    else
      some s.2
def law25_PlayWins_j25 (N : Nat) (raws : List Int) (x567 : Int) (i932 : Int) : Option Bool :=
    if (List.getD raws (Int.toNat i932) 0) < 256 then
      some ((andNotV .u8 (IntKind.u8.wrap (List.getD raws (Int.toNat i932) 0)) x567 : Int) == 0)
    else
      some false
def law25_PlayWins_j26 (N : Nat) (r1322 : Bool) (r1357 : Int × Int × Int × (List (Int × Int))) (x1378 : Bool) : Option Bool :=
    if x1378 = true then
      if ((r1357.2.1 : Int) == 0) = (!r1322) then
        if r1322 = true then
          if (r1357.2.1 : Int) = 351 then
            if r1322 = true then
              some false
            else
              if x1378 = true then
                some false
              else
                some ((r1357.2.1 : Int) != 14)
          else
            some true
        else
          if r1322 = true then
            some false
          else
            if x1378 = true then
              some false
            else
              some ((r1357.2.1 : Int) != 14)
      else
        some true
    else
      if ((r1357.2.1 : Int) == 0) = false then
        if r1322 = true then
          if (r1357.2.1 : Int) = 351 then
            if r1322 = true then
              some false
            else
              if x1378 = true then
                some false
              else
                some ((r1357.2.1 : Int) != 14)
          else
            some true
        else
          if r1322 = true then
            some false
          else
            if x1378 = true then
              some false
            else
              some ((r1357.2.1 : Int) != 14)
      else
        some true
def law25_PlayWins_j27 (N : Nat) (aProps : Int) (s : Int × Int) (x129 : (List Bool) × (List Int) × (List Nd) × Bool × (List Int) × (List (List Int)) × (List Int) × Bool × (List Int) × (List (List Int)) × (List Int) × Bool) (rounds931 : Int) (r1306 : Int) (r1338 : Int) (r1357 : Int × Int × Int × (List (Int × Int))) : Option Bool :=
    if (r1357.1 : Int) = 0 then
      Option.bind (play_Referee_Rank N aProps x129.1 x129.2.1 x129.2.2.1 (s.1, s.2) x129.2.2.2.1 x129.2.2.2.2.1 x129.2.2.2.2.2.1 x129.2.2.2.2.2.2.1 r1357.2.2.1 r1357.2.2.2 true) fun r1519 =>
      if (r1519 : Int) = r1306 then
        Option.bind (play_Referee_State N aProps x129.1 x129.2.1 x129.2.2.1 (s.1, s.2) x129.2.2.2.1 x129.2.2.2.2.1 x129.2.2.2.2.2.1 x129.2.2.2.2.2.2.1 r1357.2.2.1 r1357.2.2.2 true) fun r1537 =>
        if (r1537 : Int) = r1338 then
          Option.bind (play_Referee_Trace N aProps x129.1 x129.2.1 x129.2.2.1 (s.1, s.2) x129.2.2.2.1 x129.2.2.2.2.1 x129.2.2.2.2.2.1 x129.2.2.2.2.2.2.1 r1357.2.2.1 r1357.2.2.2 true) fun r1555 =>
          some (((((List.length r1555) : Nat) : Int) : Int) != rounds931)
        else
          some true
      else
        some true
    else
      some true
def law25_PlayWins_l24 (N : Nat) (aProps : Int) (s : Int × Int) (raws : List Int) (x129 : (List Bool) × (List Int) × (List Nd) × Bool × (List Int) × (List (List Int)) × (List Int) × Bool × (List Int) × (List (List Int)) × (List Int) × Bool) (x567 : Int) : Nat → Int → (List (Int × Int)) → Int → Int → Option ((Int × (List (Int × Int)) × Int) ⊕ Bool)
  | 0, _, _, _, _ => none
  | m1297 + 1, r926, r928, rounds931, i932 =>
    if i932 < (((List.length raws) : Nat) : Int) then
      Option.bind (play_Referee_Rank N aProps x129.1 x129.2.1 x129.2.2.1 (s.1, s.2) x129.2.2.2.1 x129.2.2.2.2.1 x129.2.2.2.2.2.1 x129.2.2.2.2.2.2.1 r926 r928 true) fun r1306 =>
      Option.bind (play_Referee_Over N aProps x129.1 x129.2.1 x129.2.2.1 (s.1, s.2) x129.2.2.2.1 x129.2.2.2.2.1 x129.2.2.2.2.2.1 x129.2.2.2.2.2.2.1 r926 r928 true) fun r1322 =>
      Option.bind (play_Referee_State N aProps x129.1 x129.2.1 x129.2.2.1 (s.1, s.2) x129.2.2.2.1 x129.2.2.2.2.1 x129.2.2.2.2.2.1 x129.2.2.2.2.2.2.1 r926 r928 true) fun r1338 =>
      ask (idx i932 (List.length raws)) <|
      Option.bind (play_Referee_Move N aProps x129.1 x129.2.1 x129.2.2.1 (s.1, s.2) x129.2.2.2.1 x129.2.2.2.2.1 x129.2.2.2.2.2.1 x129.2.2.2.2.2.2.1 r926 r928 true (List.getD raws (Int.toNat i932) 0)) fun r1357 =>
      Option.bind (law25_PlayWins_j25 N raws x567 i932) fun x1378 =>
      Option.bind (law25_PlayWins_j26 N r1322 r1357 x1378) fun x1416 =>
      if x1416 = true then
        some (Sum.inr false)
      else
        if (r1357.2.1 : Int) = 0 then
          ask (in64 (rounds931 + 1)) <|
          if (andV .u8 r1357.1 x567 : Int) = IntKind.u8.wrap (List.getD raws (Int.toNat i932) 0) then
            if x129.2.2.2.2.2.2.2.1 = true then
              Option.bind (play_Referee_Rank N aProps x129.1 x129.2.1 x129.2.2.1 (s.1, s.2) x129.2.2.2.1 x129.2.2.2.2.1 x129.2.2.2.2.2.1 x129.2.2.2.2.2.2.1 r1357.2.2.1 r1357.2.2.2 true) fun r1582 =>
              if r1306 ≤ r1582 then
                some (Sum.inr false)
              else
                if x129.2.2.2.2.2.2.2.1 = true then
                  Option.bind (play_Referee_Trace N aProps x129.1 x129.2.1 x129.2.2.1 (s.1, s.2) x129.2.2.2.1 x129.2.2.2.2.1 x129.2.2.2.2.2.1 x129.2.2.2.2.2.2.1 r1357.2.2.1 r1357.2.2.2 true) fun r1660 =>
                  if ((((List.length r1660) : Nat) : Int) : Int) = rounds931 + 1 then
                    ask (in64 (i932 + 1)) <|
                    law25_PlayWins_l24 N aProps s raws x129 x567 m1297 r1357.2.2.1 r1357.2.2.2 (rounds931 + 1) (i932 + 1)
                  else
                    some (Sum.inr false)
                else
                  Option.bind (play_Referee_Rank N aProps x129.1 x129.2.1 x129.2.2.1 (s.1, s.2) x129.2.2.2.1 x129.2.2.2.2.1 x129.2.2.2.2.2.1 x129.2.2.2.2.2.2.1 r1357.2.2.1 r1357.2.2.2 true) fun r1601 =>
                  if (r1601 : Int) = -1 then
                    Option.bind (play_Referee_Over N aProps x129.1 x129.2.1 x129.2.2.1 (s.1, s.2) x129.2.2.2.1 x129.2.2.2.2.1 x129.2.2.2.2.2.1 x129.2.2.2.2.2.2.1 r1357.2.2.1 r1357.2.2.2 true) fun r1619 =>
                    if r1619 = true then
                      some (Sum.inr false)
                    else
                      Option.bind (play_Referee_Trace N aProps x129.1 x129.2.1 x129.2.2.1 (s.1, s.2) x129.2.2.2.1 x129.2.2.2.2.1 x129.2.2.2.2.2.1 x129.2.2.2.2.2.2.1 r1357.2.2.1 r1357.2.2.2 true) fun r1637 =>
                      if ((((List.length r1637) : Nat) : Int) : Int) = rounds931 + 1 then
                        ask (in64 (i932 + 1)) <|
                        law25_PlayWins_l24 N aProps s raws x129 x567 m1297 r1357.2.2.1 r1357.2.2.2 (rounds931 + 1) (i932 + 1)
                      else
                        some (Sum.inr false)
                  else
                    some (Sum.inr false)
            else
              if x129.2.2.2.2.2.2.2.1 = true then
                Option.bind (play_Referee_Trace N aProps x129.1 x129.2.1 x129.2.2.1 (s.1, s.2) x129.2.2.2.1 x129.2.2.2.2.1 x129.2.2.2.2.2.1 x129.2.2.2.2.2.2.1 r1357.2.2.1 r1357.2.2.2 true) fun r1743 =>
                if ((((List.length r1743) : Nat) : Int) : Int) = rounds931 + 1 then
                  ask (in64 (i932 + 1)) <|
                  law25_PlayWins_l24 N aProps s raws x129 x567 m1297 r1357.2.2.1 r1357.2.2.2 (rounds931 + 1) (i932 + 1)
                else
                  some (Sum.inr false)
              else
                Option.bind (play_Referee_Rank N aProps x129.1 x129.2.1 x129.2.2.1 (s.1, s.2) x129.2.2.2.1 x129.2.2.2.2.1 x129.2.2.2.2.2.1 x129.2.2.2.2.2.2.1 r1357.2.2.1 r1357.2.2.2 true) fun r1684 =>
                if (r1684 : Int) = -1 then
                  Option.bind (play_Referee_Over N aProps x129.1 x129.2.1 x129.2.2.1 (s.1, s.2) x129.2.2.2.1 x129.2.2.2.2.1 x129.2.2.2.2.2.1 x129.2.2.2.2.2.2.1 r1357.2.2.1 r1357.2.2.2 true) fun r1702 =>
                  if r1702 = true then
                    some (Sum.inr false)
                  else
                    Option.bind (play_Referee_Trace N aProps x129.1 x129.2.1 x129.2.2.1 (s.1, s.2) x129.2.2.2.1 x129.2.2.2.2.1 x129.2.2.2.2.2.1 x129.2.2.2.2.2.2.1 r1357.2.2.1 r1357.2.2.2 true) fun r1720 =>
                    if ((((List.length r1720) : Nat) : Int) : Int) = rounds931 + 1 then
                      ask (in64 (i932 + 1)) <|
                      law25_PlayWins_l24 N aProps s raws x129 x567 m1297 r1357.2.2.1 r1357.2.2.2 (rounds931 + 1) (i932 + 1)
                    else
                      some (Sum.inr false)
                else
                  some (Sum.inr false)
          else
            some (Sum.inr false)
        else
          Option.bind (law25_PlayWins_j27 N aProps s x129 rounds931 r1306 r1338 r1357) fun x1512 =>
          if x1512 = true then
            some (Sum.inr false)
          else
            ask (in64 (i932 + 1)) <|
            law25_PlayWins_l24 N aProps s raws x129 x567 m1297 r1357.2.2.1 r1357.2.2.2 rounds931 (i932 + 1)
    else
      some (Sum.inl (r926, r928, rounds931))
def law25_PlayWins (N : Nat) (aProps : Int) (aAccept : List Bool) (aGuard : List Int) (aNodes : List Nd) (s : Int × Int) (raws : List Int) : Option Bool :=
  Option.bind (law25_awake N) fun r27 =>
  Option.bind (law25_PlayWins_j0 N aProps aAccept aGuard aNodes s raws) fun x59 =>
  if x59 = true then
    some r27
  else
    Option.bind (law25_begun N aProps aAccept aGuard aNodes (s.1, s.2)) fun r88 =>
    Sum.elim (fun x128 =>
      Option.bind (law25_PlayWins_j1 N aProps aAccept aGuard aNodes x128) fun x154 =>
      if x154 = true then
        some false
      else
        Option.bind (law25_PlayWins_j2 N s x128) fun x177 =>
        Option.bind (law25_PlayWins_l3 N raws x177 N 0) fun x319 =>
        Sum.elim (fun x324 =>
          if r27 = true then
            if x128.1 = true then
              ask (idx (0 : Int) (List.length x128.2.1)) <|
              if 0 ≤ (List.getD x128.2.1 (Int.toNat (0 : Int)) 0) then
                if 0 < (List.getD x128.2.1 (Int.toNat (0 : Int)) 0) then
                  some true
                else
                  Option.bind (law25_PlayWins_f20 N) fun x494 =>
                  some false
              else
                some false
            else
              some true
          else
            some false)
         (fun x477 =>
          some x477) x319)
     (fun x129 =>
      Option.bind (law25_PlayWins_j22 N aProps aAccept aGuard aNodes x129) fun x544 =>
      if x544 = true then
        some false
      else
        Option.bind (law25_PlayWins_j23 N s x129) fun x567 =>
        Option.bind (law25_PlayWins_l24 N aProps s raws x129 x567 N 0 [] 0 0) fun x1298 =>
        Sum.elim (fun x1304 =>
          if r27 = true then
            if x129.2.2.2.2.2.2.2.1 = true then
              ask (idx (0 : Int) (List.length x129.2.2.2.2.2.2.2.2.1)) <|
              if x1304.2.2 ≤ (List.getD x129.2.2.2.2.2.2.2.2.1 (Int.toNat (0 : Int)) 0) then
                if x1304.2.2 < (List.getD x129.2.2.2.2.2.2.2.2.1 (Int.toNat (0 : Int)) 0) then
                  some true
                else
                  Option.bind (play_Referee_Over N aProps x129.1 x129.2.1 x129.2.2.1 (s.1, s.2) x129.2.2.2.1 x129.2.2.2.2.1 x129.2.2.2.2.2.1 x129.2.2.2.2.2.2.1 x1304.1 x1304.2.1 true) fun r1776 =>
                  some r1776
              else
                some false
            else
              some true
          else
            some false)
         (fun x1766 =>
          some x1766) x1298) r88
set_option maxRecDepth 100000 in
set_option maxHeartbeats 4000000 in
theorem law25_PlayWins_calls {N : Nat} {S Fa : Nat → Prop} {w0 : World} {r : Bool} (A1 : Option Addr) (c2 : Nat) (A5 : Option Addr) (c6 : Nat) (A9 : Option Addr) (c10 : Nat) (A13 : Option Addr) (c14 : Nat) (aProps : Int) (aAccept : List Bool) (aGuard : List Int) (aNodes : List Nd) (s : Int × Int) (raws : List Int) (hk3 : List.length aAccept ≤ c2) (hk7 : List.length aGuard ≤ c6) (hk11 : List.length aNodes ≤ c10) (hk15 : List.length raws ≤ c14) (H : Hp S Fa w0 w0 [.ro false cBool A1 aAccept, .ro false (cInt .i64) A5 aGuard, .ro false cNode A9 aNodes, .ro false (cInt .u64) A13 raws]) (hP : law25_PlayWins N aProps aAccept aGuard aNodes s raws = some r) :
    Calls Try.prog 4 #[.agg #[.int .i64 aProps, .slice A1 (List.length aAccept) c2, .slice A5 (List.length aGuard) c6, .slice A9 (List.length aNodes) c10], .agg #[.int .u8 s.1, .int .u8 s.2], .slice A13 (List.length raws) c14] w0 fun e w' => ∃ v, e = .returned v ∧ v = .bool r ∧ Hp S Fa w0 w' [] := by
 refine enterV (n := 218) Try.func4 rfl rfl rfl ?_
 intro a E
 replace E := E.pick [(0, .agg #[.int .i64 aProps, .slice A1 (List.length aAccept) c2, .slice A5 (List.length aGuard) c6, .slice A9 (List.length aNodes) c10]), (1, .agg #[.int .u8 s.1, .int .u8 s.2]), (2, .slice A13 (List.length raws) c14)] ⟨rfl, rfl, rfl, trivial⟩
 rw [law25_PlayWins] at hP
 refine wp_seq ?_
 refine wp_region_lit ?_
 refine h_box H E rfl rfl rfl ?_
 intro w18 g17 a hc19 hg21 H_ E_
 replace E := E_ _ rfl; clear E_
 replace H := H_; clear H_; try dsimp only [setn, addE, goneL] at H
 refine h_box H E rfl rfl rfl ?_
 intro w23 g22 a hc24 hg26 H_ E_
 replace E := E_ _ rfl; clear E_
 replace H := H_; clear H_; try dsimp only [setn, addE, goneL] at H
 refine vr tbok 1 [] [(2, .slice A13 (List.length raws) c14), (3, .pointer (some ⟨g17, 0, none⟩)), (4, .pointer (some ⟨g22, 0, none⟩))] [] E (by kernel_rfl) trivial ?_
 clear E; intro a E
 refine wpList_nil ?_
 refine th_n ?_
 refine wp_seq ?_
 refine wp_region_lit ?_
 obtain ⟨r27, h28, hP⟩ := bind_inv hP
 obtain ⟨Fa29, Hc30, hb31⟩ := H.call [] [] rfl rfl trivial
 refine e_call E rfl rfl Try.func22 rfl rfl rfl (law25_awake_calls    Hc30 h28) ?_
 rintro v32 w33 a ⟨rfl, HR34⟩ E_
 replace E := E_ _ rfl; clear E_
 obtain ⟨H_, hc35⟩ := hb31 _ _ HR34 rfl
 replace H := H_; clear H_; try dsimp only [setn, addE, goneL] at H
 refine vr tbok 1 [] [(2, .slice A13 (List.length raws) c14), (3, .pointer (some ⟨g17, 0, none⟩)), (4, .pointer (some ⟨g22, 0, none⟩)), (7, .bool r27)] [] E (by kernel_rfl) trivial ?_
 clear E; intro a E
 refine wpList_nil ?_
 refine th_n ?_
 refine wp_seq ?_
 refine wp_seq ?_
 obtain ⟨x59, h60, hK61⟩ := bind_inv hP
 clear hP
 refine meet_cut (fun a w63 => ∃ (x62 : Bool), Fr a 218 [(2, .slice A13 (List.length raws) c14), (3, .pointer (some ⟨g17, 0, none⟩)), (4, .pointer (some ⟨g22, 0, none⟩)), (7, .bool r27), (33, .bool x62)] ∧ Hp S Fa w0 w63 [.ro false (cInt .u64) A13 raws, .ro false cBool A1 aAccept, .ro false (cInt .i64) A5 aGuard, .ro false cNode A9 aNodes, .box g17 26 [.int .i64 aProps, .slice A1 (List.length aAccept) c2, .slice A5 (List.length aGuard) c6, .slice A9 (List.length aNodes) c10], .box g22 29 [.int .u8 s.1, .int .u8 s.2]] ∧ x59 = x62) ?_ ?_
 ·
  have hP := h60; clear h60; rw [law25_PlayWins_j0] at hP
  refine wp_region_lit ?_
  refine vr tbok 1 [.agg #[.int .i64 aProps, .slice A1 (List.length aAccept) c2, .slice A5 (List.length aGuard) c6, .slice A9 (List.length aNodes) c10]] [(2, .slice A13 (List.length raws) c14), (3, .pointer (some ⟨g17, 0, none⟩)), (4, .pointer (some ⟨g22, 0, none⟩)), (7, .bool r27), (21, .agg #[.int .i64 aProps, .slice A1 (List.length aAccept) c2, .slice A5 (List.length aGuard) c6, .slice A9 (List.length aNodes) c10])] [cellsAt w33 g17 (0) [.int .i64 aProps, .slice A1 (List.length aAccept) c2, .slice A5 (List.length aGuard) c6, .slice A9 (List.length aNodes) c10]] E (by kernel_rfl) ((H.box 4 rfl).sub 0 _ rfl) ?_
  clear E; intro a E
  obtain ⟨r64, h65, hP⟩ := bind_inv hP
  obtain ⟨Fa66, Hc67, hb68⟩ := H.call [] [(0, false), (1, false), (2, false)] rfl rfl trivial
  refine e_call E rfl rfl Try.func8 rfl rfl rfl (law19_Large_calls A1 c2 A5 c6 A9 c10 aProps aAccept aGuard aNodes hk3 hk7 hk11 Hc67 h65) ?_
  rintro v69 w70 a ⟨rfl, HR71⟩ E_
  replace E := E_ _ rfl; clear E_
  obtain ⟨H_, hc72⟩ := hb68 _ _ HR71 rfl
  replace H := H_; clear H_; try dsimp only [setn, addE, goneL] at H
  refine vr tbok 1 [] [(2, .slice A13 (List.length raws) c14), (3, .pointer (some ⟨g17, 0, none⟩)), (4, .pointer (some ⟨g22, 0, none⟩)), (7, .bool r27), (23, .bool r64)] [] E (by kernel_rfl) trivial ?_
  clear E; intro a E
  refine E.cases (t := 23) rfl (fun hb_ E_ => ?_) (fun hb_ E_ => ?_)
  ·
   replace E := E_; clear E_
   have h73 : r64 = true := hb_
   clear hb_; replace hP := ite_t h73 hP
   refine vr tbok 10 [] [(2, .slice A13 (List.length raws) c14), (3, .pointer (some ⟨g17, 0, none⟩)), (4, .pointer (some ⟨g22, 0, none⟩)), (7, .bool r27), (33, .bool true)] [] E (by kernel_rfl) trivial ?_
   clear E; intro a E
   refine wpList_nil ?_
   have hx_ := Option.some.inj hP
   exact .inl ⟨rfl, true, E.pick _ ⟨rfl, rfl, rfl, rfl, rfl, trivial⟩, H.sel [3, 0, 1, 2, 4, 5] rfl, hx_.symm⟩
  replace E := E_; clear E_
  have h74 : ¬ (r64 = true) := (ne_true_of_eq_false hb_)
  clear hb_; replace hP := ite_f h74 hP
  refine vr tbok 5 [] [(2, .slice A13 (List.length raws) c14), (3, .pointer (some ⟨g17, 0, none⟩)), (4, .pointer (some ⟨g22, 0, none⟩)), (7, .bool r27), (28, .bool (decide (40 < (((List.length raws) : Nat) : Int))))] [] E (by kernel_rfl) trivial ?_
  clear E; intro a E
  refine E.cases (t := 28) rfl (fun hb_ E_ => ?_) (fun hb_ E_ => ?_)
  ·
   replace E := E_; clear E_
   have h75 : 40 < (((List.length raws) : Nat) : Int) := of_decide_eq_true hb_
   clear hb_; replace hP := ite_t h75 hP
   refine vr tbok 5 [] [(2, .slice A13 (List.length raws) c14), (3, .pointer (some ⟨g17, 0, none⟩)), (4, .pointer (some ⟨g22, 0, none⟩)), (7, .bool r27), (33, .bool true)] [] E (by kernel_rfl) trivial ?_
   clear E; intro a E
   refine wpList_nil ?_
   have hx_ := Option.some.inj hP
   exact .inl ⟨rfl, true, E.pick _ ⟨rfl, rfl, rfl, rfl, rfl, trivial⟩, H.sel [3, 0, 1, 2, 4, 5] rfl, hx_.symm⟩
  replace E := E_; clear E_
  have h76 : ¬ (40 < (((List.length raws) : Nat) : Int)) := of_decide_eq_false hb_
  clear hb_; replace hP := ite_f h76 hP
  refine vr tbok 2 [.agg #[.int .i64 aProps, .slice A1 (List.length aAccept) c2, .slice A5 (List.length aGuard) c6, .slice A9 (List.length aNodes) c10], .agg #[.int .u8 s.1, .int .u8 s.2]] [(2, .slice A13 (List.length raws) c14), (3, .pointer (some ⟨g17, 0, none⟩)), (4, .pointer (some ⟨g22, 0, none⟩)), (7, .bool r27), (28, .bool false), (29, .agg #[.int .i64 aProps, .slice A1 (List.length aAccept) c2, .slice A5 (List.length aGuard) c6, .slice A9 (List.length aNodes) c10]), (30, .agg #[.int .u8 s.1, .int .u8 s.2])] [cellsAt w70 g17 (0) [.int .i64 aProps, .slice A1 (List.length aAccept) c2, .slice A5 (List.length aGuard) c6, .slice A9 (List.length aNodes) c10], cellsAt w70 g22 (0) [.int .u8 s.1, .int .u8 s.2]] E (by kernel_rfl) ⟨(H.box 4 rfl).sub 0 _ rfl, (H.box 5 rfl).sub 0 _ rfl⟩ ?_
  clear E; intro a E
  obtain ⟨r77, h78, hP⟩ := bind_inv hP
  obtain ⟨Fa79, Hc80, hb81⟩ := H.call [] [(0, false), (1, false), (2, false)] rfl rfl trivial
  refine e_call E rfl rfl Try.func23 rfl rfl rfl (board_Check_calls A1 c2 A5 c6 A9 c10 aProps aAccept aGuard aNodes (s.1, s.2) hk3 hk7 hk11 Hc80 h78) ?_
  rintro v82 w83 a ⟨rfl, HR84⟩ E_
  replace E := E_ _ rfl; clear E_
  obtain ⟨H_, hc85⟩ := hb81 _ _ HR84 rfl
  replace H := H_; clear H_; try dsimp only [setn, addE, goneL] at H
  refine vr tbok 2 [] [(2, .slice A13 (List.length raws) c14), (3, .pointer (some ⟨g17, 0, none⟩)), (4, .pointer (some ⟨g22, 0, none⟩)), (7, .bool r27), (33, .bool ((r77 : Int) != 0))] [] E (by kernel_rfl) trivial ?_
  clear E; intro a E
  refine wpList_nil ?_
  have hx_ := Option.some.inj hP
  exact .inl ⟨rfl, (r77 : Int) != 0, E.pick _ ⟨rfl, rfl, rfl, rfl, rfl, trivial⟩, H.sel [3, 0, 1, 2, 4, 5] rfl, hx_.symm⟩
 clear E H h60; rintro a w63 ⟨x62, E, H, hx_⟩
 subst hx_; have hP := hK61; clear hK61
 refine th_n ?_
 refine E.cases (t := 33) rfl (fun hb_ E_ => ?_) (fun hb_ E_ => ?_)
 ·
  replace E := E_; clear E_
  have h86 : x59 = true := hb_
  clear hb_; replace hP := ite_t h86 hP
  refine c_true E rfl ?_
  refine wp_seq ?_
  refine wp_region_lit ?_
  refine vr tbok 2 [] [(6, .bool r27)] [] E (by kernel_rfl) trivial ?_
  clear E; intro a E
  refine wpList_nil ?_
  refine th_n ?_
  refine wp_ret ?_
  refine th_ret ?_
  obtain rfl := Option.some.inj hP
  refine ret1 E rfl rfl ?_
  exact ⟨_, rfl, rfl, H.sel [] rfl⟩
 replace E := E_; clear E_
 have h87 : ¬ (x59 = true) := (ne_true_of_eq_false hb_)
 clear hb_; replace hP := ite_f h87 hP
 refine c_false E rfl ?_
 refine wp_skip ?_
 refine th_n ?_
 refine wp_seq ?_
 refine wp_region_lit ?_
 refine vr tbok 2 [.agg #[.int .i64 aProps, .slice A1 (List.length aAccept) c2, .slice A5 (List.length aGuard) c6, .slice A9 (List.length aNodes) c10], .agg #[.int .u8 s.1, .int .u8 s.2]] [(2, .slice A13 (List.length raws) c14), (3, .pointer (some ⟨g17, 0, none⟩)), (4, .pointer (some ⟨g22, 0, none⟩)), (7, .bool r27), (36, .agg #[.int .i64 aProps, .slice A1 (List.length aAccept) c2, .slice A5 (List.length aGuard) c6, .slice A9 (List.length aNodes) c10]), (37, .agg #[.int .u8 s.1, .int .u8 s.2])] [cellsAt w63 g17 (0) [.int .i64 aProps, .slice A1 (List.length aAccept) c2, .slice A5 (List.length aGuard) c6, .slice A9 (List.length aNodes) c10], cellsAt w63 g22 (0) [.int .u8 s.1, .int .u8 s.2]] E (by kernel_rfl) ⟨(H.box 4 rfl).sub 0 _ rfl, (H.box 5 rfl).sub 0 _ rfl⟩ ?_
 clear E; intro a E
 obtain ⟨r88, h89, hP⟩ := bind_inv hP
 obtain ⟨Fa90, Hc91, hb92⟩ := H.call [] [(1, false), (2, false), (3, false)] rfl rfl trivial
 refine e_call E rfl rfl Try.func24 rfl rfl rfl (law25_begun_calls A1 c2 A5 c6 A9 c10 aProps aAccept aGuard aNodes (s.1, s.2) hk3 hk7 hk11 Hc91 h89) ?_
 intro v98 w97 a hR99 E_
 rcases hR99 with ⟨x_, A101, c102, A103, c104, A105, c106, hr_, rfl, HR107⟩ | ⟨x_, g108, A109, c110, A111, c112, A113, c114, A115, c116, A117, c118, A119, c120, A121, c122, A123, c124, A125, c126, hr_, rfl, HR127⟩
 ·
  subst hr_; have hP := elim_l hP
  obtain ⟨x128, hxx_⟩ : ∃ y_, y_ = x_ := ⟨_, rfl⟩; subst hxx_
  replace E := E_ _ rfl; clear E_
  obtain ⟨H_, hc100⟩ := hb92 _ _ HR107 rfl
  replace H := H_; clear H_; try dsimp only [setn, addE, goneL] at H
  refine vr tbok 4 [] [(2, .slice A13 (List.length raws) c14), (3, .pointer (some ⟨g17, 0, none⟩)), (4, .pointer (some ⟨g22, 0, none⟩)), (7, .bool r27), (39, .pointer none), (40, .agg #[.bool x128.1, .slice A101 (List.length x128.2.1) c102, .slice A103 (List.length x128.2.2.1) c104, .slice A105 (List.length x128.2.2.2.1) c106]), (41, .bool x128.2.2.2.2)] [] E (by kernel_rfl) trivial ?_
  clear E; intro a E
  refine h_alloc H E rfl rfl tbok rfl ?_
  intro w134 g133 a hc135 hg137 H_ E_
  replace E := E_ _ rfl; clear E_
  replace H := H_; clear H_; try dsimp only [setn, addE, goneL] at H
  refine vr tbok 1 [] [(2, .slice A13 (List.length raws) c14), (3, .pointer (some ⟨g17, 0, none⟩)), (4, .pointer (some ⟨g22, 0, none⟩)), (7, .bool r27), (8, .pointer none), (9, .pointer (some ⟨g133, 0, none⟩)), (40, .agg #[.bool x128.1, .slice A101 (List.length x128.2.1) c102, .slice A103 (List.length x128.2.2.1) c104, .slice A105 (List.length x128.2.2.2.1) c106]), (41, .bool x128.2.2.2.2)] [] E (by kernel_rfl) trivial ?_
  clear E; intro a E
  refine h_store (g := g133) (off := 0) H 9 rfl E rfl rfl rfl rfl tbok rfl rfl rfl rfl rfl ?_
  clear E; intro w138 a hc139 H_ E
  replace H := H_; clear H_; try dsimp only [setn, addE, goneL] at H
  refine vr tbok 1 [] [(2, .slice A13 (List.length raws) c14), (3, .pointer (some ⟨g17, 0, none⟩)), (4, .pointer (some ⟨g22, 0, none⟩)), (7, .bool r27), (8, .pointer none), (9, .pointer (some ⟨g133, 0, none⟩)), (10, .bool x128.2.2.2.2)] [] E (by kernel_rfl) trivial ?_
  clear E; intro a E
  refine wpList_nil ?_
  refine th_n ?_
  refine wp_seq ?_
  refine wp_seq ?_
  obtain ⟨x154, h155, hK156⟩ := bind_inv hP
  clear hP
  refine meet_cut (fun a w158 => ∃ (x157 : Bool), Fr a 218 [(2, .slice A13 (List.length raws) c14), (4, .pointer (some ⟨g22, 0, none⟩)), (7, .bool r27), (8, .pointer none), (9, .pointer (some ⟨g133, 0, none⟩)), (57, .bool x157)] ∧ Hp S Fa w0 w158 [.ro false (cInt .u64) A13 raws, .box g22 29 [.int .u8 s.1, .int .u8 s.2], .row true (cInt .i64) 3 A101 c102 x128.2.1, .row true (cSl (cInt .u8)) 31 A103 c104 x128.2.2.1, .row true (cInt .u8) 27 A105 c106 x128.2.2.2.1, .box g133 33 [.bool x128.1, .slice A101 (List.length x128.2.1) c102, .slice A103 (List.length x128.2.2.1) c104, .slice A105 (List.length x128.2.2.2.1) c106]] ∧ x154 = x157) ?_ ?_
  ·
   have hP := h155; clear h155; rw [law25_PlayWins_j1] at hP
   refine wp_region_lit ?_
   refine vr tbok 3 [] [(2, .slice A13 (List.length raws) c14), (3, .pointer (some ⟨g17, 0, none⟩)), (4, .pointer (some ⟨g22, 0, none⟩)), (7, .bool r27), (8, .pointer none), (9, .pointer (some ⟨g133, 0, none⟩)), (44, .bool (!x128.2.2.2.2))] [] E (by kernel_rfl) trivial ?_
   clear E; intro a E
   refine E.cases (t := 44) rfl (fun hb_ E_ => ?_) (fun hb_ E_ => ?_)
   ·
    replace E := E_; clear E_
    have h159 : ¬ (x128.2.2.2.2 = true) := (ne_true_of_eq_false (not_t hb_))
    clear hb_; replace hP := ite_f h159 hP
    refine vr tbok 13 [] [(2, .slice A13 (List.length raws) c14), (4, .pointer (some ⟨g22, 0, none⟩)), (7, .bool r27), (8, .pointer none), (9, .pointer (some ⟨g133, 0, none⟩)), (57, .bool true)] [] E (by kernel_rfl) trivial ?_
    clear E; intro a E
    refine wpList_nil ?_
    have hx_ := Option.some.inj hP
    exact .inl ⟨rfl, true, E.pick _ ⟨rfl, rfl, rfl, rfl, rfl, rfl, trivial⟩, H.sel [0, 5, 6, 7, 8, 9] rfl, hx_.symm⟩
   replace E := E_; clear E_
   have h160 : x128.2.2.2.2 = true := (not_f hb_)
   clear hb_; replace hP := ite_t h160 hP
   refine vr tbok 1 [.agg #[.int .i64 aProps, .slice A1 (List.length aAccept) c2, .slice A5 (List.length aGuard) c6, .slice A9 (List.length aNodes) c10]] [(2, .slice A13 (List.length raws) c14), (3, .pointer (some ⟨g17, 0, none⟩)), (4, .pointer (some ⟨g22, 0, none⟩)), (7, .bool r27), (8, .pointer none), (9, .pointer (some ⟨g133, 0, none⟩)), (44, .bool false), (45, .agg #[.int .i64 aProps, .slice A1 (List.length aAccept) c2, .slice A5 (List.length aGuard) c6, .slice A9 (List.length aNodes) c10])] [cellsAt w138 g17 (0) [.int .i64 aProps, .slice A1 (List.length aAccept) c2, .slice A5 (List.length aGuard) c6, .slice A9 (List.length aNodes) c10]] E (by kernel_rfl) ((H.box 4 rfl).sub 0 _ rfl) ?_
   clear E; intro a E
   obtain ⟨r161, h162, hP⟩ := bind_inv hP
   obtain ⟨Fa163, Hc164, hb165⟩ := H.call [] [(1, false), (2, false), (3, false)] rfl rfl trivial
   refine e_call E rfl rfl Try.func25 rfl rfl rfl (law19_Real_calls A1 c2 A5 c6 A9 c10 aProps aAccept aGuard aNodes hk3 hk7 hk11 Hc164 h162) ?_
   rintro v166 w167 a ⟨rfl, HR168⟩ E_
   replace E := E_ _ rfl; clear E_
   obtain ⟨H_, hc169⟩ := hb165 _ _ HR168 rfl
   replace H := H_; clear H_; try dsimp only [setn, addE, goneL] at H
   refine vr tbok 3 [] [(2, .slice A13 (List.length raws) c14), (3, .pointer (some ⟨g17, 0, none⟩)), (4, .pointer (some ⟨g22, 0, none⟩)), (7, .bool r27), (8, .pointer none), (9, .pointer (some ⟨g133, 0, none⟩)), (49, .bool (!r161))] [] E (by kernel_rfl) trivial ?_
   clear E; intro a E
   refine E.cases (t := 49) rfl (fun hb_ E_ => ?_) (fun hb_ E_ => ?_)
   ·
    replace E := E_; clear E_
    have h170 : ¬ (r161 = true) := (ne_true_of_eq_false (not_t hb_))
    clear hb_; replace hP := ite_f h170 hP
    refine vr tbok 8 [] [(2, .slice A13 (List.length raws) c14), (4, .pointer (some ⟨g22, 0, none⟩)), (7, .bool r27), (8, .pointer none), (9, .pointer (some ⟨g133, 0, none⟩)), (57, .bool true)] [] E (by kernel_rfl) trivial ?_
    clear E; intro a E
    refine wpList_nil ?_
    have hx_ := Option.some.inj hP
    exact .inl ⟨rfl, true, E.pick _ ⟨rfl, rfl, rfl, rfl, rfl, rfl, trivial⟩, H.sel [0, 5, 6, 7, 8, 9] rfl, hx_.symm⟩
   replace E := E_; clear E_
   have h171 : r161 = true := (not_f hb_)
   clear hb_; replace hP := ite_t h171 hP
   refine vr tbok 8 [.slice A101 (List.length x128.2.1) c102, .slice A1 (List.length aAccept) c2] [(2, .slice A13 (List.length raws) c14), (4, .pointer (some ⟨g22, 0, none⟩)), (7, .bool r27), (8, .pointer none), (9, .pointer (some ⟨g133, 0, none⟩)), (57, .bool (((((List.length x128.2.1) : Nat) : Int) : Int) != (((List.length aAccept) : Nat) : Int)))] [World.cell? w167 ⟨g133, 1, none⟩ = some (.slice A101 (List.length x128.2.1) c102), World.cell? w167 ⟨g17, 1, none⟩ = some (.slice A1 (List.length aAccept) c2)] E (by kernel_rfl) ⟨(H.box 9 rfl).cell (j := 1) rfl, (H.box 4 rfl).cell (j := 1) rfl⟩ ?_
   clear E; intro a E
   refine wpList_nil ?_
   have hx_ := Option.some.inj hP
   exact .inl ⟨rfl, ((((List.length x128.2.1) : Nat) : Int) : Int) != (((List.length aAccept) : Nat) : Int), E.pick _ ⟨rfl, rfl, rfl, rfl, rfl, rfl, trivial⟩, H.sel [0, 5, 6, 7, 8, 9] rfl, hx_.symm⟩
  clear E H h155; rintro a w158 ⟨x157, E, H, hx_⟩
  subst hx_; have hP := hK156; clear hK156
  refine th_n ?_
  refine E.cases (t := 57) rfl (fun hb_ E_ => ?_) (fun hb_ E_ => ?_)
  ·
   replace E := E_; clear E_
   have h172 : x154 = true := hb_
   clear hb_; replace hP := ite_t h172 hP
   refine c_true E rfl ?_
   refine wp_seq ?_
   refine wp_region_lit ?_
   refine vr tbok 1 [] [(6, .bool false)] [] E (by kernel_rfl) trivial ?_
   clear E; intro a E
   refine wpList_nil ?_
   refine th_n ?_
   refine wp_ret ?_
   refine th_ret ?_
   obtain rfl := Option.some.inj hP
   refine ret1 E rfl rfl ?_
   exact ⟨_, rfl, rfl, H.sel [] rfl⟩
  replace E := E_; clear E_
  have h173 : ¬ (x154 = true) := (ne_true_of_eq_false hb_)
  clear hb_; replace hP := ite_f h173 hP
  refine c_false E rfl ?_
  refine wp_skip ?_
  refine th_n ?_
  refine wp_seq ?_
  refine wp_region_lit ?_
  refine vr tbok 3 [.int .u8 s.2] [(2, .slice A13 (List.length raws) c14), (4, .pointer (some ⟨g22, 0, none⟩)), (7, .bool r27), (8, .pointer none), (9, .pointer (some ⟨g133, 0, none⟩)), (11, .int .u8 s.2)] [World.cell? w158 ⟨g22, 1, none⟩ = some (.int .u8 s.2)] E (by kernel_rfl) ((H.box 1 rfl).cell (j := 1) rfl) ?_
  clear E; intro a E
  refine wpList_nil ?_
  refine th_n ?_
  refine wp_seq ?_
  refine wp_seq ?_
  refine wp_region_lit ?_
  refine vr tbok 2 [.bool x128.1] [(2, .slice A13 (List.length raws) c14), (4, .pointer (some ⟨g22, 0, none⟩)), (7, .bool r27), (8, .pointer none), (9, .pointer (some ⟨g133, 0, none⟩)), (11, .int .u8 s.2), (61, .bool x128.1)] [World.cell? w158 ⟨g133, 0, none⟩ = some (.bool x128.1)] E (by kernel_rfl) ((H.box 5 rfl).cell (j := 0) rfl) ?_
  clear E; intro a E
  refine wpList_nil ?_
  refine th_n ?_
  obtain ⟨x177, h178, hK179⟩ := bind_inv hP
  clear hP
  refine meet_cut (fun a w181 => ∃ (x180 : Int), Fr a 218 [(2, .slice A13 (List.length raws) c14), (7, .bool r27), (8, .pointer none), (9, .pointer (some ⟨g133, 0, none⟩)), (11, .int .u8 x180)] ∧ Hp S Fa w0 w181 [.ro false (cInt .u64) A13 raws, .row true (cInt .i64) 3 A101 c102 x128.2.1, .row true (cSl (cInt .u8)) 31 A103 c104 x128.2.2.1, .row true (cInt .u8) 27 A105 c106 x128.2.2.2.1, .box g133 33 [.bool x128.1, .slice A101 (List.length x128.2.1) c102, .slice A103 (List.length x128.2.2.1) c104, .slice A105 (List.length x128.2.2.2.1) c106]] ∧ x177 = x180) ?_ ?_
  ·
   have hP := h178; clear h178; rw [law25_PlayWins_j2] at hP
   refine E.cases (t := 61) rfl (fun hb_ E_ => ?_) (fun hb_ E_ => ?_)
   ·
    replace E := E_; clear E_
    have h182 : x128.1 = true := hb_
    clear hb_; replace hP := ite_t h182 hP
    refine c_true E rfl ?_
    refine wp_region_lit ?_
    refine vr tbok 3 [.int .u8 s.1] [(2, .slice A13 (List.length raws) c14), (7, .bool r27), (8, .pointer none), (9, .pointer (some ⟨g133, 0, none⟩)), (11, .int .u8 s.1)] [World.cell? w158 ⟨g22, 0, none⟩ = some (.int .u8 s.1)] E (by kernel_rfl) ((H.box 1 rfl).cell (j := 0) rfl) ?_
    clear E; intro a E
    refine wpList_nil ?_
    have hx_ := Option.some.inj hP
    exact .inl ⟨rfl, s.1, E.pick _ ⟨rfl, rfl, rfl, rfl, rfl, trivial⟩, H.sel [0, 2, 3, 4, 5] rfl, hx_.symm⟩
   replace E := E_; clear E_
   have h183 : ¬ (x128.1 = true) := (ne_true_of_eq_false hb_)
   clear hb_; replace hP := ite_f h183 hP
   refine c_false E rfl ?_
   refine wp_skip ?_
   have hx_ := Option.some.inj hP
   exact .inl ⟨rfl, s.2, E.pick _ ⟨rfl, rfl, rfl, rfl, rfl, trivial⟩, H.sel [0, 2, 3, 4, 5] rfl, hx_.symm⟩
  clear E H h178; rintro a w181 ⟨x180, E, H, hx_⟩
  subst hx_; have hP := hK179; clear hK179
  refine th_n ?_
  refine wp_seq ?_
  refine wp_region_lit ?_
  refine vr tbok 1 [] [(2, .slice A13 (List.length raws) c14), (7, .bool r27), (8, .pointer none), (9, .pointer (some ⟨g133, 0, none⟩)), (11, .int .u8 x177), (12, .int .i64 0)] [] E (by kernel_rfl) trivial ?_
  clear E; intro a E
  refine wpList_nil ?_
  refine th_n ?_
  refine wp_seq ?_
  refine wp_seq ?_
  refine wp_region_lit ?_
  refine vr tbok 1 [] [(2, .slice A13 (List.length raws) c14), (7, .bool r27), (8, .pointer none), (9, .pointer (some ⟨g133, 0, none⟩)), (11, .int .u8 x177), (12, .int .i64 0), (13, .int .i64 0)] [] E (by kernel_rfl) trivial ?_
  clear E; intro a E
  refine wpList_nil ?_
  refine th_n ?_
  refine wp_block ?_
  obtain ⟨x319, hL320, hK321⟩ := bind_inv hP
  clear hP
  refine loop_cut (fun i_ a w_ => (i_ = 0 ∧ ∃ (x324 : Unit), Fr a 218 [(7, .bool r27), (8, .pointer none), (9, .pointer (some ⟨g133, 0, none⟩)), (12, .int .i64 0)] ∧ Hp S Fa w0 w_ [.row true (cInt .i64) 3 A101 c102 x128.2.1, .row true (cSl (cInt .u8)) 31 A103 c104 x128.2.2.1, .row true (cInt .u8) 27 A105 c106 x128.2.2.2.1, .box g133 33 [.bool x128.1, .slice A101 (List.length x128.2.1) c102, .slice A103 (List.length x128.2.2.1) c104, .slice A105 (List.length x128.2.2.2.1) c106]] ∧ x319 = Sum.inl x324)) ?_ ?_
  ·
   refine loopV (fun m323 a w322 => ∃ (i250 : Int), Fr a 218 [(2, .slice A13 (List.length raws) c14), (7, .bool r27), (8, .pointer none), (9, .pointer (some ⟨g133, 0, none⟩)), (11, .int .u8 x177), (12, .int .i64 0), (13, .int .i64 i250)] ∧ Hp S Fa w0 w322 [.ro false (cInt .u64) A13 raws, .row true (cInt .i64) 3 A101 c102 x128.2.1, .row true (cSl (cInt .u8)) 31 A103 c104 x128.2.2.1, .row true (cInt .u8) 27 A105 c106 x128.2.2.2.1, .box g133 33 [.bool x128.1, .slice A101 (List.length x128.2.1) c102, .slice A103 (List.length x128.2.2.1) c104, .slice A105 (List.length x128.2.2.2.1) c106]] ∧ law25_PlayWins_l3 N raws x177 m323 i250 = some x319) N ?_ ?_
   ·
    exact ⟨0, E.pick _ ⟨rfl, rfl, rfl, rfl, rfl, rfl, rfl, trivial⟩, H.sel [0, 1, 2, 3, 4] rfl, hL320⟩
   clear E H hL320; intro m323 a w322 hI_
   obtain ⟨i250, E, H, hP⟩ := hI_
   obtain ⟨m318, rfl⟩ : ∃ q_, m323 = q_ + 1 := by cases m323 with | zero => rw [law25_PlayWins_l3] at hP; cases hP | succ q_ => exact ⟨q_, rfl⟩
   rw [law25_PlayWins_l3] at hP
   refine wp_seq ?_
   refine wp_seq ?_
   refine wp_region_lit ?_
   refine vr tbok 4 [] [(2, .slice A13 (List.length raws) c14), (7, .bool r27), (8, .pointer none), (9, .pointer (some ⟨g133, 0, none⟩)), (11, .int .u8 x177), (12, .int .i64 0), (13, .int .i64 i250), (67, .bool (decide (i250 < (((List.length raws) : Nat) : Int))))] [] E (by kernel_rfl) trivial ?_
   clear E; intro a E
   refine wpList_nil ?_
   refine th_n ?_
   refine E.cases (t := 67) rfl (fun hb_ E_ => ?_) (fun hb_ E_ => ?_)
   ·
    replace E := E_; clear E_
    have h325 : i250 < (((List.length raws) : Nat) : Int) := of_decide_eq_true hb_
    clear hb_; replace hP := ite_t h325 hP
    refine c_true E rfl ?_
    refine wp_skip ?_
    refine th_n ?_
    refine wp_seq ?_
    refine wp_block ?_
    refine wp_seq ?_
    refine wp_region_lit ?_
    refine vr tbok 1 [] [(2, .slice A13 (List.length raws) c14), (7, .bool r27), (8, .pointer none), (9, .pointer (some ⟨g133, 0, none⟩)), (11, .int .u8 x177), (12, .int .i64 0), (13, .int .i64 i250), (70, .pointer none)] [] E (by kernel_rfl) trivial ?_
    clear E; intro a E
    obtain ⟨x328, h329, hP⟩ := bind_inv hP
    refine e_call (R := fun v_ w_ => ∃ (x330 : Unit), v_ = .int .i64 0 ∧ Hp S Fa w0 w_ [.ro false (cInt .u64) A13 raws, .row true (cInt .i64) 3 A101 c102 x128.2.1, .row true (cSl (cInt .u8)) 31 A103 c104 x128.2.2.1, .row true (cInt .u8) 27 A105 c106 x128.2.2.2.1, .box g133 33 [.bool x128.1, .slice A101 (List.length x128.2.1) c102, .slice A103 (List.length x128.2.2.1) c104, .slice A105 (List.length x128.2.2.2.1) c106]] ∧ x328 = x330) E rfl rfl Try.func26 rfl rfl rfl ?_ ?_
    ·
     clear E hP; have hP := h329; clear h329; rw [law25_PlayWins_f4] at hP
     refine enterV (n := 16) Try.func26 rfl rfl rfl ?_
     intro a E
     replace E := E.pick [(0, .pointer none)] ⟨rfl, trivial⟩
     refine wp_seq ?_
     refine wp_region_lit ?_
     refine vr tbok 1 [] [(0, .pointer none)] [] E (by kernel_rfl) trivial ?_
     clear E; intro a E
     refine wpList_nil ?_
     refine th_n ?_
     refine wp_seq ?_
     refine wp_seq ?_
     refine wp_region_lit ?_
     refine vr tbok 1 [] [(0, .pointer none), (3, .pointer none)] [] E (by kernel_rfl) trivial ?_
     clear E; intro a E
     obtain ⟨x331, h332, hP⟩ := bind_inv hP
     refine e_call (R := fun v_ w_ => ∃ (x333 : Unit), v_ = .bool true ∧ Hp S Fa w0 w_ [.ro false (cInt .u64) A13 raws, .row true (cInt .i64) 3 A101 c102 x128.2.1, .row true (cSl (cInt .u8)) 31 A103 c104 x128.2.2.1, .row true (cInt .u8) 27 A105 c106 x128.2.2.2.1, .box g133 33 [.bool x128.1, .slice A101 (List.length x128.2.1) c102, .slice A103 (List.length x128.2.2.1) c104, .slice A105 (List.length x128.2.2.2.1) c106]] ∧ x331 = x333) E rfl rfl Try.func60 rfl rfl rfl ?_ ?_
     ·
      clear E hP; have hP := h332; clear h332; rw [law25_PlayWins_f5] at hP
      refine enterV (n := 12) Try.func60 rfl rfl rfl ?_
      intro a E
      replace E := E.pick [(0, .pointer none)] ⟨rfl, trivial⟩
      refine wp_seq ?_
      refine wp_region_lit ?_
      refine vr tbok 1 [] [(0, .pointer none)] [] E (by kernel_rfl) trivial ?_
      clear E; intro a E
      refine wpList_nil ?_
      refine th_n ?_
      refine wp_seq ?_
      refine wp_region_lit ?_
      refine vr tbok 10 [] [(2, .bool true)] [] E (by kernel_rfl) trivial ?_
      clear E; intro a E
      refine wpList_nil ?_
      refine th_n ?_
      refine wp_ret ?_
      have hx_ := Option.some.inj hP
      refine ret1 E rfl rfl ?_
      exact ⟨_, rfl, (), rfl, H.sel [0, 1, 2, 3, 4] rfl, hx_.symm⟩
     clear H
     rintro v335 w334 a ⟨x333, rfl, H, hx_⟩ E_
     subst hx_
     replace E := E_ _ rfl; clear E_
     refine wpList_nil ?_
     refine th_n ?_
     refine c_true E rfl ?_
     refine wp_seq ?_
     refine wp_region_lit ?_
     refine vr tbok 1 [] [(2, .int .i64 0)] [] E (by kernel_rfl) trivial ?_
     clear E; intro a E
     refine wpList_nil ?_
     refine th_n ?_
     refine wp_ret ?_
     refine th_ret ?_
     have hx_ := Option.some.inj hP
     refine ret1 E rfl rfl ?_
     exact ⟨_, rfl, (), rfl, H.sel [0, 1, 2, 3, 4] rfl, hx_.symm⟩
    clear H
    rintro v337 w336 a ⟨x330, rfl, H, hx_⟩ E_
    subst hx_
    replace E := E_ _ rfl; clear E_
    refine vr tbok 1 [] [(2, .slice A13 (List.length raws) c14), (7, .bool r27), (8, .pointer none), (9, .pointer (some ⟨g133, 0, none⟩)), (11, .int .u8 x177), (12, .int .i64 0), (13, .int .i64 i250), (71, .int .i64 0), (72, .pointer none)] [] E (by kernel_rfl) trivial ?_
    clear E; intro a E
    obtain ⟨x345, h346, hP⟩ := bind_inv hP
    refine e_call (R := fun v_ w_ => ∃ (x347 : Unit), v_ = .bool false ∧ Hp S Fa w0 w_ [.ro false (cInt .u64) A13 raws, .row true (cInt .i64) 3 A101 c102 x128.2.1, .row true (cSl (cInt .u8)) 31 A103 c104 x128.2.2.1, .row true (cInt .u8) 27 A105 c106 x128.2.2.2.1, .box g133 33 [.bool x128.1, .slice A101 (List.length x128.2.1) c102, .slice A103 (List.length x128.2.2.1) c104, .slice A105 (List.length x128.2.2.2.1) c106]] ∧ x345 = x347) E rfl rfl Try.func27 rfl rfl rfl ?_ ?_
    ·
     clear E hP; have hP := h346; clear h346; rw [law25_PlayWins_f6] at hP
     refine enterV (n := 19) Try.func27 rfl rfl rfl ?_
     intro a E
     replace E := E.pick [(0, .pointer none)] ⟨rfl, trivial⟩
     refine wp_seq ?_
     refine wp_region_lit ?_
     refine vr tbok 1 [] [(0, .pointer none)] [] E (by kernel_rfl) trivial ?_
     clear E; intro a E
     refine wpList_nil ?_
     refine th_n ?_
     refine wp_seq ?_
     obtain ⟨x348, h349, hP⟩ := bind_inv hP
     have HR356 := H
     refine dr_start (S := fun w_ => Chg (atL []) w336 w_) (by kernel_rfl) ?_
     intro w353 hc354
     have HS355 : Chg (atL []) w336 w353 := hc354.mono (fun _ _ h_ => h_.elim)
     replace H := H.ext hc354
     refine dr tbok (by kernel_rfl) [0] [] [(0, .pointer none), (3, .pointer none)] (fun w_ => []) 16 E (fun _ _ => by kernel_rfl) (fun w_ hS_ => trivial) (by kernel_rfl) HS355 ?_
     clear E; intro a E
     refine wpAnyH_all (rs := [1]) (by kernel_rfl) (by simp) ?_
     refine all1 ?_
     refine wpOp_of_list rfl ?_
     refine e_call (R := fun v_ w_ => ∃ (x357 : Unit), v_ = .bool true ∧ Hp S Fa w0 w_ [.ro false (cInt .u64) A13 raws, .row true (cInt .i64) 3 A101 c102 x128.2.1, .row true (cSl (cInt .u8)) 31 A103 c104 x128.2.2.1, .row true (cInt .u8) 27 A105 c106 x128.2.2.2.1, .box g133 33 [.bool x128.1, .slice A101 (List.length x128.2.1) c102, .slice A103 (List.length x128.2.2.1) c104, .slice A105 (List.length x128.2.2.2.1) c106]] ∧ Chg (atL []) w336 w_ ∧ x348 = x357) E rfl rfl Try.func60 rfl rfl rfl ?_ ?_
     ·
      clear E hP; have hP := h349; clear h349; rw [law25_PlayWins_f7] at hP
      refine enterV (n := 12) Try.func60 rfl rfl rfl ?_
      intro a E
      replace E := E.pick [(0, .pointer none)] ⟨rfl, trivial⟩
      refine wp_seq ?_
      refine wp_region_lit ?_
      refine vr tbok 1 [] [(0, .pointer none)] [] E (by kernel_rfl) trivial ?_
      clear E; intro a E
      refine wpList_nil ?_
      refine th_n ?_
      refine wp_seq ?_
      refine wp_region_lit ?_
      refine vr tbok 10 [] [(2, .bool true)] [] E (by kernel_rfl) trivial ?_
      clear E; intro a E
      refine wpList_nil ?_
      refine th_n ?_
      refine wp_ret ?_
      have hx_ := Option.some.inj hP
      refine ret1 E rfl rfl ?_
      exact ⟨_, rfl, (), rfl, H.sel [0, 1, 2, 3, 4] rfl, HS355, hx_.symm⟩
     clear H HS355
     rintro v359 w358 a ⟨x357, rfl, H, HS355, hx_⟩ E_
     subst hx_
     replace E := E_ _ rfl; clear E_
     refine wpList_nil ?_
     refine th_n ⟨HS355, ?_⟩
     refine dr tbok (by kernel_rfl) [2, 3, 4, 5, 6, 7, 8, 9, 10, 11, 12, 13, 14, 15, 16] [] [(2, .bool false)] (fun w_ => []) 0 E (fun _ _ => by kernel_rfl) (fun w_ hS_ => trivial) (by kernel_rfl) HS355 ?_
     clear E; intro a E
     refine dr_done (by kernel_rfl) ?_
     clear HS355 HR356
     refine th_n ?_
     refine wp_ret ?_
     have hx_ := Option.some.inj hP
     refine ret1 E rfl rfl ?_
     exact ⟨_, rfl, (), rfl, H.sel [0, 1, 2, 3, 4] rfl, hx_.symm⟩
    clear H
    rintro v361 w360 a ⟨x347, rfl, H, hx_⟩ E_
    subst hx_
    replace E := E_ _ rfl; clear E_
    refine vr tbok 1 [] [(2, .slice A13 (List.length raws) c14), (7, .bool r27), (8, .pointer none), (9, .pointer (some ⟨g133, 0, none⟩)), (11, .int .u8 x177), (12, .int .i64 0), (13, .int .i64 i250), (71, .int .i64 0), (73, .bool false), (74, .pointer none)] [] E (by kernel_rfl) trivial ?_
    clear E; intro a E
    obtain ⟨x364, h365, hP⟩ := bind_inv hP
    refine e_call (R := fun v_ w_ => ∃ (x366 : Unit), v_ = .int .i64 0 ∧ Hp S Fa w0 w_ [.ro false (cInt .u64) A13 raws, .row true (cInt .i64) 3 A101 c102 x128.2.1, .row true (cSl (cInt .u8)) 31 A103 c104 x128.2.2.1, .row true (cInt .u8) 27 A105 c106 x128.2.2.2.1, .box g133 33 [.bool x128.1, .slice A101 (List.length x128.2.1) c102, .slice A103 (List.length x128.2.2.1) c104, .slice A105 (List.length x128.2.2.2.1) c106]] ∧ x364 = x366) E rfl rfl Try.func28 rfl rfl rfl ?_ ?_
    ·
     clear E hP; have hP := h365; clear h365; rw [law25_PlayWins_f8] at hP
     refine enterV (n := 9) Try.func28 rfl rfl rfl ?_
     intro a E
     replace E := E.pick [(0, .pointer none)] ⟨rfl, trivial⟩
     refine wp_seq ?_
     refine wp_region_lit ?_
     refine vr tbok 1 [] [(0, .pointer none)] [] E (by kernel_rfl) trivial ?_
     clear E; intro a E
     refine wpList_nil ?_
     refine th_n ?_
     refine wp_seq ?_
     refine wp_seq ?_
     refine wp_region_lit ?_
     refine vr tbok 1 [] [(0, .pointer none), (3, .pointer none)] [] E (by kernel_rfl) trivial ?_
     clear E; intro a E
     obtain ⟨x367, h368, hP⟩ := bind_inv hP
     refine e_call (R := fun v_ w_ => ∃ (x369 : Unit), v_ = .bool true ∧ Hp S Fa w0 w_ [.ro false (cInt .u64) A13 raws, .row true (cInt .i64) 3 A101 c102 x128.2.1, .row true (cSl (cInt .u8)) 31 A103 c104 x128.2.2.1, .row true (cInt .u8) 27 A105 c106 x128.2.2.2.1, .box g133 33 [.bool x128.1, .slice A101 (List.length x128.2.1) c102, .slice A103 (List.length x128.2.2.1) c104, .slice A105 (List.length x128.2.2.2.1) c106]] ∧ x367 = x369) E rfl rfl Try.func60 rfl rfl rfl ?_ ?_
     ·
      clear E hP; have hP := h368; clear h368; rw [law25_PlayWins_f9] at hP
      refine enterV (n := 12) Try.func60 rfl rfl rfl ?_
      intro a E
      replace E := E.pick [(0, .pointer none)] ⟨rfl, trivial⟩
      refine wp_seq ?_
      refine wp_region_lit ?_
      refine vr tbok 1 [] [(0, .pointer none)] [] E (by kernel_rfl) trivial ?_
      clear E; intro a E
      refine wpList_nil ?_
      refine th_n ?_
      refine wp_seq ?_
      refine wp_region_lit ?_
      refine vr tbok 10 [] [(2, .bool true)] [] E (by kernel_rfl) trivial ?_
      clear E; intro a E
      refine wpList_nil ?_
      refine th_n ?_
      refine wp_ret ?_
      have hx_ := Option.some.inj hP
      refine ret1 E rfl rfl ?_
      exact ⟨_, rfl, (), rfl, H.sel [0, 1, 2, 3, 4] rfl, hx_.symm⟩
     clear H
     rintro v371 w370 a ⟨x369, rfl, H, hx_⟩ E_
     subst hx_
     replace E := E_ _ rfl; clear E_
     refine wpList_nil ?_
     refine th_n ?_
     refine c_true E rfl ?_
     refine wp_seq ?_
     refine wp_region_lit ?_
     refine vr tbok 1 [] [(2, .int .i64 0)] [] E (by kernel_rfl) trivial ?_
     clear E; intro a E
     refine wpList_nil ?_
     refine th_n ?_
     refine wp_ret ?_
     refine th_ret ?_
     have hx_ := Option.some.inj hP
     refine ret1 E rfl rfl ?_
     exact ⟨_, rfl, (), rfl, H.sel [0, 1, 2, 3, 4] rfl, hx_.symm⟩
    clear H
    rintro v373 w372 a ⟨x366, rfl, H, hx_⟩ E_
    subst hx_
    replace E := E_ _ rfl; clear E_
    refine vr tbok 3 [] [(2, .slice A13 (List.length raws) c14), (7, .bool r27), (8, .pointer none), (9, .pointer (some ⟨g133, 0, none⟩)), (11, .int .u8 x177), (12, .int .i64 0), (13, .int .i64 i250), (14, .int .i64 0), (15, .bool false), (16, .int .i64 0)] [] E (by kernel_rfl) trivial ?_
    clear E; intro a E
    refine wpList_nil ?_
    refine th_n ?_
    refine wp_seq ?_
    refine wp_region_lit ?_
    obtain ⟨g374, hP⟩ := ask_inv hP
    obtain ⟨b375, o376, e_b375⟩ := (H.rd 0 rds_ro).addr (idx_pos g374)
    subst e_b375
    refine vr tbok 5 [.int .u64 (List.getD raws (Int.toNat i250) 0)] [(2, .slice (some ⟨b375, o376, none⟩) (List.length raws) c14), (7, .bool r27), (8, .pointer none), (9, .pointer (some ⟨g133, 0, none⟩)), (11, .int .u8 x177), (12, .int .i64 0), (13, .int .i64 i250), (14, .int .i64 0), (15, .bool false), (16, .int .i64 0), (77, .pointer none), (81, .int .u64 (List.getD raws (Int.toNat i250) 0))] [0 ≤ i250 ∧ i250 < (((List.length raws) : Nat) : Int), World.cell? w372 ⟨b375, o376 + (Int.toNat i250) * 1, none⟩ = some (.int .u64 (List.getD raws (Int.toNat i250) 0))] E (by kernel_rfl) ⟨g374, Rds.at1 (H.rd 0 rds_ro) 0 g374⟩ ?_
    clear E; intro a E
    obtain ⟨x379, h380, hP⟩ := bind_inv hP
    refine e_call (R := fun v_ w_ => ∃ (x381 : Unit), v_ = .tuple #[.int .u8 0, .int .i64 1] ∧ Hp S Fa w0 w_ [.ro false (cInt .u64) (some ⟨b375, o376, none⟩) raws, .row true (cInt .i64) 3 A101 c102 x128.2.1, .row true (cSl (cInt .u8)) 31 A103 c104 x128.2.2.1, .row true (cInt .u8) 27 A105 c106 x128.2.2.2.1, .box g133 33 [.bool x128.1, .slice A101 (List.length x128.2.1) c102, .slice A103 (List.length x128.2.2.1) c104, .slice A105 (List.length x128.2.2.2.1) c106]] ∧ x379 = x381) E rfl rfl Try.func29 rfl rfl rfl ?_ ?_
    ·
     clear E hP; have hP := h380; clear h380; rw [law25_PlayWins_f10] at hP
     refine enterV (n := 85) Try.func29 rfl rfl rfl ?_
     intro a E
     replace E := E.pick [(0, .pointer none), (1, .int .u64 (List.getD raws (Int.toNat i250) 0))] ⟨rfl, rfl, trivial⟩
     refine wp_seq ?_
     refine wp_region_lit ?_
     refine vr tbok 2 [] [(0, .pointer none), (1, .int .u64 (List.getD raws (Int.toNat i250) 0))] [] E (by kernel_rfl) trivial ?_
     clear E; intro a E
     refine wpList_nil ?_
     refine th_n ?_
     refine wp_seq ?_
     refine wp_seq ?_
     refine wp_region_lit ?_
     refine vr tbok 1 [] [(0, .pointer none), (1, .int .u64 (List.getD raws (Int.toNat i250) 0)), (8, .pointer none)] [] E (by kernel_rfl) trivial ?_
     clear E; intro a E
     obtain ⟨x382, h383, hP⟩ := bind_inv hP
     refine e_call (R := fun v_ w_ => ∃ (x384 : Unit), v_ = .bool true ∧ Hp S Fa w0 w_ [.ro false (cInt .u64) (some ⟨b375, o376, none⟩) raws, .row true (cInt .i64) 3 A101 c102 x128.2.1, .row true (cSl (cInt .u8)) 31 A103 c104 x128.2.2.1, .row true (cInt .u8) 27 A105 c106 x128.2.2.2.1, .box g133 33 [.bool x128.1, .slice A101 (List.length x128.2.1) c102, .slice A103 (List.length x128.2.2.1) c104, .slice A105 (List.length x128.2.2.2.1) c106]] ∧ x382 = x384) E rfl rfl Try.func60 rfl rfl rfl ?_ ?_
     ·
      clear E hP; have hP := h383; clear h383; rw [law25_PlayWins_f11] at hP
      refine enterV (n := 12) Try.func60 rfl rfl rfl ?_
      intro a E
      replace E := E.pick [(0, .pointer none)] ⟨rfl, trivial⟩
      refine wp_seq ?_
      refine wp_region_lit ?_
      refine vr tbok 1 [] [(0, .pointer none)] [] E (by kernel_rfl) trivial ?_
      clear E; intro a E
      refine wpList_nil ?_
      refine th_n ?_
      refine wp_seq ?_
      refine wp_region_lit ?_
      refine vr tbok 10 [] [(2, .bool true)] [] E (by kernel_rfl) trivial ?_
      clear E; intro a E
      refine wpList_nil ?_
      refine th_n ?_
      refine wp_ret ?_
      have hx_ := Option.some.inj hP
      refine ret1 E rfl rfl ?_
      exact ⟨_, rfl, (), rfl, H.sel [0, 1, 2, 3, 4] rfl, hx_.symm⟩
     clear H
     rintro v386 w385 a ⟨x384, rfl, H, hx_⟩ E_
     subst hx_
     replace E := E_ _ rfl; clear E_
     refine wpList_nil ?_
     refine th_n ?_
     refine c_true E rfl ?_
     refine wp_seq ?_
     refine wp_region_lit ?_
     refine vr tbok 2 [] [(4, .int .u8 0), (5, .int .i64 1)] [] E (by kernel_rfl) trivial ?_
     clear E; intro a E
     refine wpList_nil ?_
     refine th_n ?_
     refine wp_ret ?_
     refine th_ret ?_
     have hx_ := Option.some.inj hP
     refine ret2 E rfl rfl rfl ?_
     exact ⟨_, rfl, (), rfl, H.sel [0, 1, 2, 3, 4] rfl, hx_.symm⟩
    clear H
    rintro v388 w387 a ⟨x381, rfl, H, hx_⟩ E_
    subst hx_
    replace E := E_ _ rfl; clear E_
    refine vr tbok 5 [] [(2, .slice (some ⟨b375, o376, none⟩) (List.length raws) c14), (7, .bool r27), (8, .pointer none), (9, .pointer (some ⟨g133, 0, none⟩)), (11, .int .u8 x177), (12, .int .i64 0), (13, .int .i64 i250), (14, .int .i64 0), (15, .bool false), (16, .int .i64 0), (17, .int .u8 0), (18, .int .i64 1)] [] E (by kernel_rfl) trivial ?_
    clear E; intro a E
    refine wpList_nil ?_
    refine th_n ?_
    refine wp_seq ?_
    obtain ⟨x392, h393, hK394⟩ := bind_inv hP
    clear hP
    refine meet_cut (fun a w396 => ∃ (x395 : Bool), Fr a 218 [(2, .slice (some ⟨b375, o376, none⟩) (List.length raws) c14), (7, .bool r27), (8, .pointer none), (9, .pointer (some ⟨g133, 0, none⟩)), (11, .int .u8 x177), (12, .int .i64 0), (13, .int .i64 i250), (14, .int .i64 0), (15, .bool false), (16, .int .i64 0), (17, .int .u8 0), (18, .int .i64 1), (19, .bool x395)] ∧ Hp S Fa w0 w396 [.ro false (cInt .u64) (some ⟨b375, o376, none⟩) raws, .row true (cInt .i64) 3 A101 c102 x128.2.1, .row true (cSl (cInt .u8)) 31 A103 c104 x128.2.2.1, .row true (cInt .u8) 27 A105 c106 x128.2.2.2.1, .box g133 33 [.bool x128.1, .slice A101 (List.length x128.2.1) c102, .slice A103 (List.length x128.2.2.1) c104, .slice A105 (List.length x128.2.2.2.1) c106]] ∧ x392 = x395) ?_ ?_
    ·
     have hP := h393; clear h393; rw [law25_PlayWins_j12] at hP
     refine wp_region_lit ?_
     refine vr tbok 6 [.int .u64 (List.getD raws (Int.toNat i250) 0)] [(2, .slice (some ⟨b375, o376, none⟩) (List.length raws) c14), (7, .bool r27), (8, .pointer none), (9, .pointer (some ⟨g133, 0, none⟩)), (11, .int .u8 x177), (12, .int .i64 0), (13, .int .i64 i250), (14, .int .i64 0), (15, .bool false), (16, .int .i64 0), (17, .int .u8 0), (18, .int .i64 1), (90, .bool (decide ((List.getD raws (Int.toNat i250) 0) < 256)))] [0 ≤ i250 ∧ i250 < (((List.length raws) : Nat) : Int), World.cell? w387 ⟨b375, o376 + (Int.toNat i250) * 1, none⟩ = some (.int .u64 (List.getD raws (Int.toNat i250) 0))] E (by kernel_rfl) ⟨g374, Rds.at1 (H.rd 0 rds_ro) 0 g374⟩ ?_
     clear E; intro a E
     refine E.cases (t := 90) rfl (fun hb_ E_ => ?_) (fun hb_ E_ => ?_)
     ·
      replace E := E_; clear E_
      have h397 : (List.getD raws (Int.toNat i250) 0) < 256 := of_decide_eq_true hb_
      clear hb_; replace hP := ite_t h397 hP
      refine vr tbok 10 [.int .u64 (List.getD raws (Int.toNat i250) 0), .int .u8 (IntKind.u8.wrap (List.getD raws (Int.toNat i250) 0)), .int .u8 (andNotV .u8 (IntKind.u8.wrap (List.getD raws (Int.toNat i250) 0)) x177)] [(2, .slice (some ⟨b375, o376, none⟩) (List.length raws) c14), (7, .bool r27), (8, .pointer none), (9, .pointer (some ⟨g133, 0, none⟩)), (11, .int .u8 x177), (12, .int .i64 0), (13, .int .i64 i250), (14, .int .i64 0), (15, .bool false), (16, .int .i64 0), (17, .int .u8 0), (18, .int .i64 1), (19, .bool ((andNotV .u8 (IntKind.u8.wrap (List.getD raws (Int.toNat i250) 0)) x177 : Int) == 0))] [0 ≤ i250 ∧ i250 < (((List.length raws) : Nat) : Int), World.cell? w387 ⟨b375, o376 + (Int.toNat i250) * 1, none⟩ = some (.int .u64 (List.getD raws (Int.toNat i250) 0)), IntKind.u8.wrap (List.getD raws (Int.toNat i250) 0) = (IntKind.u8.wrap (List.getD raws (Int.toNat i250) 0)), IntKind.u8.wrap (BitVec.ofInt (IntKind.bits .u8) (IntKind.u8.wrap (List.getD raws (Int.toNat i250) 0)) &&& ~~~ BitVec.ofInt (IntKind.bits .u8) x177).toNat = andNotV .u8 (IntKind.u8.wrap (List.getD raws (Int.toNat i250) 0)) x177] E (by kernel_rfl) ⟨g374, Rds.at1 (H.rd 0 rds_ro) 0 g374, rfl, rfl⟩ ?_
      clear E; intro a E
      refine wpList_nil ?_
      have hx_ := Option.some.inj hP
      exact .inl ⟨rfl, (andNotV .u8 (IntKind.u8.wrap (List.getD raws (Int.toNat i250) 0)) x177 : Int) == 0, E.pick _ ⟨rfl, rfl, rfl, rfl, rfl, rfl, rfl, rfl, rfl, rfl, rfl, rfl, rfl, trivial⟩, H.sel [0, 1, 2, 3, 4] rfl, hx_.symm⟩
     replace E := E_; clear E_
     have h398 : ¬ ((List.getD raws (Int.toNat i250) 0) < 256) := of_decide_eq_false hb_
     clear hb_; replace hP := ite_f h398 hP
     refine vr tbok 10 [] [(2, .slice (some ⟨b375, o376, none⟩) (List.length raws) c14), (7, .bool r27), (8, .pointer none), (9, .pointer (some ⟨g133, 0, none⟩)), (11, .int .u8 x177), (12, .int .i64 0), (13, .int .i64 i250), (14, .int .i64 0), (15, .bool false), (16, .int .i64 0), (17, .int .u8 0), (18, .int .i64 1), (19, .bool false)] [] E (by kernel_rfl) trivial ?_
     clear E; intro a E
     refine wpList_nil ?_
     have hx_ := Option.some.inj hP
     exact .inl ⟨rfl, false, E.pick _ ⟨rfl, rfl, rfl, rfl, rfl, rfl, rfl, rfl, rfl, rfl, rfl, rfl, rfl, trivial⟩, H.sel [0, 1, 2, 3, 4] rfl, hx_.symm⟩
    clear E H h393; rintro a w396 ⟨x395, E, H, hx_⟩
    subst hx_; have hP := hK394; clear hK394
    refine th_n ?_
    refine wp_seq ?_
    refine wp_seq ?_
    obtain ⟨x410, h411, hK412⟩ := bind_inv hP
    clear hP
    refine meet_cut (fun a w414 => ∃ (x413 : Bool), Fr a 218 [(2, .slice (some ⟨b375, o376, none⟩) (List.length raws) c14), (7, .bool r27), (8, .pointer none), (9, .pointer (some ⟨g133, 0, none⟩)), (11, .int .u8 x177), (12, .int .i64 0), (13, .int .i64 i250), (14, .int .i64 0), (16, .int .i64 0), (17, .int .u8 0), (18, .int .i64 1), (126, .bool x413)] ∧ Hp S Fa w0 w414 [.ro false (cInt .u64) (some ⟨b375, o376, none⟩) raws, .row true (cInt .i64) 3 A101 c102 x128.2.1, .row true (cSl (cInt .u8)) 31 A103 c104 x128.2.2.1, .row true (cInt .u8) 27 A105 c106 x128.2.2.2.1, .box g133 33 [.bool x128.1, .slice A101 (List.length x128.2.1) c102, .slice A103 (List.length x128.2.2.1) c104, .slice A105 (List.length x128.2.2.2.1) c106]] ∧ x410 = x413) ?_ ?_
    ·
     have hP := h411; clear h411; rw [law25_PlayWins_j13] at hP
     refine wp_region_lit ?_
     refine vr tbok 4 [] [(2, .slice (some ⟨b375, o376, none⟩) (List.length raws) c14), (7, .bool r27), (8, .pointer none), (9, .pointer (some ⟨g133, 0, none⟩)), (11, .int .u8 x177), (12, .int .i64 0), (13, .int .i64 i250), (14, .int .i64 0), (15, .bool false), (16, .int .i64 0), (17, .int .u8 0), (18, .int .i64 1), (19, .bool x392), (101, .bool false), (103, .bool x392)] [] E (by kernel_rfl) trivial ?_
     clear E; intro a E
     refine E.cases (t := 103) rfl (fun hb_ E_ => ?_) (fun hb_ E_ => ?_)
     ·
      replace E := E_; clear E_
      have h415 : x392 = true := hb_
      clear hb_; replace hP := ite_t h415 hP
      refine vr tbok 5 [] [(2, .slice (some ⟨b375, o376, none⟩) (List.length raws) c14), (7, .bool r27), (8, .pointer none), (9, .pointer (some ⟨g133, 0, none⟩)), (11, .int .u8 x177), (12, .int .i64 0), (13, .int .i64 i250), (14, .int .i64 0), (15, .bool false), (16, .int .i64 0), (17, .int .u8 0), (18, .int .i64 1), (19, .bool x392), (108, .bool (!(false == true)))] [] E (by kernel_rfl) trivial ?_
      clear E; intro a E
      refine E.cases (t := 108) rfl (fun hb_ E_ => ?_) (fun hb_ E_ => ?_)
      ·
       replace E := E_; clear E_
       have h416 : ¬ (false = true) := (by simpa using hb_)
       clear hb_; replace hP := ite_f h416 hP
       refine vr tbok 18 [] [(2, .slice (some ⟨b375, o376, none⟩) (List.length raws) c14), (7, .bool r27), (8, .pointer none), (9, .pointer (some ⟨g133, 0, none⟩)), (11, .int .u8 x177), (12, .int .i64 0), (13, .int .i64 i250), (14, .int .i64 0), (16, .int .i64 0), (17, .int .u8 0), (18, .int .i64 1), (126, .bool true)] [] E (by kernel_rfl) trivial ?_
       clear E; intro a E
       refine wpList_nil ?_
       have hx_ := Option.some.inj hP
       exact .inl ⟨rfl, true, E.pick _ ⟨rfl, rfl, rfl, rfl, rfl, rfl, rfl, rfl, rfl, rfl, rfl, rfl, trivial⟩, H.sel [0, 1, 2, 3, 4] rfl, hx_.symm⟩
      replace E := E_; clear E_
      have h417 : false = true := (by simpa using hb_)
      clear hb_; replace hP := ite_t h417 hP
      refine vr tbok 14 [] [(2, .slice (some ⟨b375, o376, none⟩) (List.length raws) c14), (7, .bool r27), (8, .pointer none), (9, .pointer (some ⟨g133, 0, none⟩)), (11, .int .u8 x177), (12, .int .i64 0), (13, .int .i64 i250), (14, .int .i64 0), (16, .int .i64 0), (17, .int .u8 0), (18, .int .i64 1), (115, .bool false), (122, .bool (!x392))] [] E (by kernel_rfl) trivial ?_
      clear E; intro a E
      refine E.cases (t := 122) rfl (fun hb_ E_ => ?_) (fun hb_ E_ => ?_)
      ·
       replace E := E_; clear E_
       have h418 : ¬ (x392 = true) := (ne_true_of_eq_false (not_t hb_))
       clear hb_; replace hP := ite_f h418 hP
       refine vr tbok 4 [] [(2, .slice (some ⟨b375, o376, none⟩) (List.length raws) c14), (7, .bool r27), (8, .pointer none), (9, .pointer (some ⟨g133, 0, none⟩)), (11, .int .u8 x177), (12, .int .i64 0), (13, .int .i64 i250), (14, .int .i64 0), (16, .int .i64 0), (17, .int .u8 0), (18, .int .i64 1), (126, .bool true)] [] E (by kernel_rfl) trivial ?_
       clear E; intro a E
       refine wpList_nil ?_
       have hx_ := Option.some.inj hP
       exact .inl ⟨rfl, true, E.pick _ ⟨rfl, rfl, rfl, rfl, rfl, rfl, rfl, rfl, rfl, rfl, rfl, rfl, trivial⟩, H.sel [0, 1, 2, 3, 4] rfl, hx_.symm⟩
      replace E := E_; clear E_
      have h419 : x392 = true := (not_f hb_)
      clear hb_; replace hP := ite_t h419 hP
      refine vr tbok 4 [] [(2, .slice (some ⟨b375, o376, none⟩) (List.length raws) c14), (7, .bool r27), (8, .pointer none), (9, .pointer (some ⟨g133, 0, none⟩)), (11, .int .u8 x177), (12, .int .i64 0), (13, .int .i64 i250), (14, .int .i64 0), (16, .int .i64 0), (17, .int .u8 0), (18, .int .i64 1), (126, .bool false)] [] E (by kernel_rfl) trivial ?_
      clear E; intro a E
      refine wpList_nil ?_
      have hx_ := Option.some.inj hP
      exact .inl ⟨rfl, false, E.pick _ ⟨rfl, rfl, rfl, rfl, rfl, rfl, rfl, rfl, rfl, rfl, rfl, rfl, trivial⟩, H.sel [0, 1, 2, 3, 4] rfl, hx_.symm⟩
     replace E := E_; clear E_
     have h420 : ¬ (x392 = true) := (ne_true_of_eq_false hb_)
     clear hb_; replace hP := ite_f h420 hP
     refine vr tbok 5 [] [(2, .slice (some ⟨b375, o376, none⟩) (List.length raws) c14), (7, .bool r27), (8, .pointer none), (9, .pointer (some ⟨g133, 0, none⟩)), (11, .int .u8 x177), (12, .int .i64 0), (13, .int .i64 i250), (14, .int .i64 0), (15, .bool false), (16, .int .i64 0), (17, .int .u8 0), (18, .int .i64 1), (19, .bool x392), (108, .bool (!(false == false)))] [] E (by kernel_rfl) trivial ?_
     clear E; intro a E
     refine E.cases (t := 108) rfl (fun hb_ E_ => ?_) (fun hb_ E_ => ?_)
     ·
      replace E := E_; clear E_
      have h421 : ¬ (false = false) := (by simpa using hb_)
      clear hb_; replace hP := ite_f h421 hP
      refine vr tbok 18 [] [(2, .slice (some ⟨b375, o376, none⟩) (List.length raws) c14), (7, .bool r27), (8, .pointer none), (9, .pointer (some ⟨g133, 0, none⟩)), (11, .int .u8 x177), (12, .int .i64 0), (13, .int .i64 i250), (14, .int .i64 0), (16, .int .i64 0), (17, .int .u8 0), (18, .int .i64 1), (126, .bool true)] [] E (by kernel_rfl) trivial ?_
      clear E; intro a E
      refine wpList_nil ?_
      have hx_ := Option.some.inj hP
      exact .inl ⟨rfl, true, E.pick _ ⟨rfl, rfl, rfl, rfl, rfl, rfl, rfl, rfl, rfl, rfl, rfl, rfl, trivial⟩, H.sel [0, 1, 2, 3, 4] rfl, hx_.symm⟩
     replace E := E_; clear E_
     have h422 : false = false := (by simpa using hb_)
     clear hb_; replace hP := ite_t h422 hP
     refine vr tbok 14 [] [(2, .slice (some ⟨b375, o376, none⟩) (List.length raws) c14), (7, .bool r27), (8, .pointer none), (9, .pointer (some ⟨g133, 0, none⟩)), (11, .int .u8 x177), (12, .int .i64 0), (13, .int .i64 i250), (14, .int .i64 0), (16, .int .i64 0), (17, .int .u8 0), (18, .int .i64 1), (115, .bool false), (122, .bool (!x392))] [] E (by kernel_rfl) trivial ?_
     clear E; intro a E
     refine E.cases (t := 122) rfl (fun hb_ E_ => ?_) (fun hb_ E_ => ?_)
     ·
      replace E := E_; clear E_
      have h423 : ¬ (x392 = true) := (ne_true_of_eq_false (not_t hb_))
      clear hb_; replace hP := ite_f h423 hP
      refine vr tbok 4 [] [(2, .slice (some ⟨b375, o376, none⟩) (List.length raws) c14), (7, .bool r27), (8, .pointer none), (9, .pointer (some ⟨g133, 0, none⟩)), (11, .int .u8 x177), (12, .int .i64 0), (13, .int .i64 i250), (14, .int .i64 0), (16, .int .i64 0), (17, .int .u8 0), (18, .int .i64 1), (126, .bool true)] [] E (by kernel_rfl) trivial ?_
      clear E; intro a E
      refine wpList_nil ?_
      have hx_ := Option.some.inj hP
      exact .inl ⟨rfl, true, E.pick _ ⟨rfl, rfl, rfl, rfl, rfl, rfl, rfl, rfl, rfl, rfl, rfl, rfl, trivial⟩, H.sel [0, 1, 2, 3, 4] rfl, hx_.symm⟩
     replace E := E_; clear E_
     have h424 : x392 = true := (not_f hb_)
     clear hb_; replace hP := ite_t h424 hP
     refine vr tbok 4 [] [(2, .slice (some ⟨b375, o376, none⟩) (List.length raws) c14), (7, .bool r27), (8, .pointer none), (9, .pointer (some ⟨g133, 0, none⟩)), (11, .int .u8 x177), (12, .int .i64 0), (13, .int .i64 i250), (14, .int .i64 0), (16, .int .i64 0), (17, .int .u8 0), (18, .int .i64 1), (126, .bool false)] [] E (by kernel_rfl) trivial ?_
     clear E; intro a E
     refine wpList_nil ?_
     have hx_ := Option.some.inj hP
     exact .inl ⟨rfl, false, E.pick _ ⟨rfl, rfl, rfl, rfl, rfl, rfl, rfl, rfl, rfl, rfl, rfl, rfl, trivial⟩, H.sel [0, 1, 2, 3, 4] rfl, hx_.symm⟩
    clear E H h411; rintro a w414 ⟨x413, E, H, hx_⟩
    subst hx_; have hP := hK412; clear hK412
    refine th_n ?_
    refine E.cases (t := 126) rfl (fun hb_ E_ => ?_) (fun hb_ E_ => ?_)
    ·
     replace E := E_; clear E_
     have h425 : x410 = true := hb_
     clear hb_; replace hP := ite_t h425 hP
     refine c_true E rfl ?_
     refine wp_seq ?_
     refine wp_region_lit ?_
     refine vr tbok 1 [] [(6, .bool false)] [] E (by kernel_rfl) trivial ?_
     clear E; intro a E
     refine wpList_nil ?_
     refine th_n ?_
     refine wp_ret ?_
     refine th_ret ?_
     refine bl_ret ?_
     refine th_ret ?_
     refine th_ret ?_
     refine .inr ⟨rfl, ?_⟩
     refine bl_ret ?_
     refine th_ret ?_
     have hx_ := Option.some.inj hP; subst hx_
     have hP : some (false) = some r := hK321
     obtain rfl := Option.some.inj hP
     refine ret1 E rfl rfl ?_
     exact ⟨_, rfl, rfl, H.sel [] rfl⟩
    replace E := E_; clear E_
    have h426 : ¬ (x410 = true) := (ne_true_of_eq_false hb_)
    clear hb_; replace hP := ite_f h426 hP
    refine c_false E rfl ?_
    refine wp_skip ?_
    refine th_n ?_
    refine wp_seq ?_
    refine wp_seq ?_
    refine wp_region_lit ?_
    refine vr tbok 2 [] [(2, .slice (some ⟨b375, o376, none⟩) (List.length raws) c14), (7, .bool r27), (8, .pointer none), (9, .pointer (some ⟨g133, 0, none⟩)), (11, .int .u8 x177), (12, .int .i64 0), (13, .int .i64 i250), (14, .int .i64 0), (16, .int .i64 0), (17, .int .u8 0), (128, .bool true)] [] E (by kernel_rfl) trivial ?_
    clear E; intro a E
    refine wpList_nil ?_
    refine th_n ?_
    refine c_true E rfl ?_
    refine wp_seq ?_
    refine wp_seq ?_
    refine wp_region_lit ?_
    refine vr tbok 4 [] [(2, .slice (some ⟨b375, o376, none⟩) (List.length raws) c14), (7, .bool r27), (8, .pointer none), (9, .pointer (some ⟨g133, 0, none⟩)), (11, .int .u8 x177), (12, .int .i64 0), (13, .int .i64 i250), (14, .int .i64 0), (16, .int .i64 0), (131, .bool false), (132, .pointer none)] [] E (by kernel_rfl) trivial ?_
    clear E; intro a E
    obtain ⟨x441, h442, hP⟩ := bind_inv hP
    refine e_call (R := fun v_ w_ => ∃ (x443 : Unit), v_ = .int .i64 0 ∧ Hp S Fa w0 w_ [.ro false (cInt .u64) (some ⟨b375, o376, none⟩) raws, .row true (cInt .i64) 3 A101 c102 x128.2.1, .row true (cSl (cInt .u8)) 31 A103 c104 x128.2.2.1, .row true (cInt .u8) 27 A105 c106 x128.2.2.2.1, .box g133 33 [.bool x128.1, .slice A101 (List.length x128.2.1) c102, .slice A103 (List.length x128.2.2.1) c104, .slice A105 (List.length x128.2.2.2.1) c106]] ∧ x441 = x443) E rfl rfl Try.func26 rfl rfl rfl ?_ ?_
    ·
     clear E hP; have hP := h442; clear h442; rw [law25_PlayWins_f14] at hP
     refine enterV (n := 16) Try.func26 rfl rfl rfl ?_
     intro a E
     replace E := E.pick [(0, .pointer none)] ⟨rfl, trivial⟩
     refine wp_seq ?_
     refine wp_region_lit ?_
     refine vr tbok 1 [] [(0, .pointer none)] [] E (by kernel_rfl) trivial ?_
     clear E; intro a E
     refine wpList_nil ?_
     refine th_n ?_
     refine wp_seq ?_
     refine wp_seq ?_
     refine wp_region_lit ?_
     refine vr tbok 1 [] [(0, .pointer none), (3, .pointer none)] [] E (by kernel_rfl) trivial ?_
     clear E; intro a E
     obtain ⟨x444, h445, hP⟩ := bind_inv hP
     refine e_call (R := fun v_ w_ => ∃ (x446 : Unit), v_ = .bool true ∧ Hp S Fa w0 w_ [.ro false (cInt .u64) (some ⟨b375, o376, none⟩) raws, .row true (cInt .i64) 3 A101 c102 x128.2.1, .row true (cSl (cInt .u8)) 31 A103 c104 x128.2.2.1, .row true (cInt .u8) 27 A105 c106 x128.2.2.2.1, .box g133 33 [.bool x128.1, .slice A101 (List.length x128.2.1) c102, .slice A103 (List.length x128.2.2.1) c104, .slice A105 (List.length x128.2.2.2.1) c106]] ∧ x444 = x446) E rfl rfl Try.func60 rfl rfl rfl ?_ ?_
     ·
      clear E hP; have hP := h445; clear h445; rw [law25_PlayWins_f15] at hP
      refine enterV (n := 12) Try.func60 rfl rfl rfl ?_
      intro a E
      replace E := E.pick [(0, .pointer none)] ⟨rfl, trivial⟩
      refine wp_seq ?_
      refine wp_region_lit ?_
      refine vr tbok 1 [] [(0, .pointer none)] [] E (by kernel_rfl) trivial ?_
      clear E; intro a E
      refine wpList_nil ?_
      refine th_n ?_
      refine wp_seq ?_
      refine wp_region_lit ?_
      refine vr tbok 10 [] [(2, .bool true)] [] E (by kernel_rfl) trivial ?_
      clear E; intro a E
      refine wpList_nil ?_
      refine th_n ?_
      refine wp_ret ?_
      have hx_ := Option.some.inj hP
      refine ret1 E rfl rfl ?_
      exact ⟨_, rfl, (), rfl, H.sel [0, 1, 2, 3, 4] rfl, hx_.symm⟩
     clear H
     rintro v448 w447 a ⟨x446, rfl, H, hx_⟩ E_
     subst hx_
     replace E := E_ _ rfl; clear E_
     refine wpList_nil ?_
     refine th_n ?_
     refine c_true E rfl ?_
     refine wp_seq ?_
     refine wp_region_lit ?_
     refine vr tbok 1 [] [(2, .int .i64 0)] [] E (by kernel_rfl) trivial ?_
     clear E; intro a E
     refine wpList_nil ?_
     refine th_n ?_
     refine wp_ret ?_
     refine th_ret ?_
     have hx_ := Option.some.inj hP
     refine ret1 E rfl rfl ?_
     exact ⟨_, rfl, (), rfl, H.sel [0, 1, 2, 3, 4] rfl, hx_.symm⟩
    clear H
    rintro v450 w449 a ⟨x443, rfl, H, hx_⟩ E_
    subst hx_
    replace E := E_ _ rfl; clear E_
    refine vr tbok 5 [] [(2, .slice (some ⟨b375, o376, none⟩) (List.length raws) c14), (7, .bool r27), (8, .pointer none), (9, .pointer (some ⟨g133, 0, none⟩)), (11, .int .u8 x177), (12, .int .i64 0), (13, .int .i64 i250), (16, .int .i64 0), (137, .bool false), (138, .pointer none)] [] E (by kernel_rfl) trivial ?_
    clear E; intro a E
    obtain ⟨x453, h454, hP⟩ := bind_inv hP
    refine e_call (R := fun v_ w_ => ∃ (x455 : Unit), v_ = .int .i64 0 ∧ Hp S Fa w0 w_ [.ro false (cInt .u64) (some ⟨b375, o376, none⟩) raws, .row true (cInt .i64) 3 A101 c102 x128.2.1, .row true (cSl (cInt .u8)) 31 A103 c104 x128.2.2.1, .row true (cInt .u8) 27 A105 c106 x128.2.2.2.1, .box g133 33 [.bool x128.1, .slice A101 (List.length x128.2.1) c102, .slice A103 (List.length x128.2.2.1) c104, .slice A105 (List.length x128.2.2.2.1) c106]] ∧ x453 = x455) E rfl rfl Try.func28 rfl rfl rfl ?_ ?_
    ·
     clear E hP; have hP := h454; clear h454; rw [law25_PlayWins_f16] at hP
     refine enterV (n := 9) Try.func28 rfl rfl rfl ?_
     intro a E
     replace E := E.pick [(0, .pointer none)] ⟨rfl, trivial⟩
     refine wp_seq ?_
     refine wp_region_lit ?_
     refine vr tbok 1 [] [(0, .pointer none)] [] E (by kernel_rfl) trivial ?_
     clear E; intro a E
     refine wpList_nil ?_
     refine th_n ?_
     refine wp_seq ?_
     refine wp_seq ?_
     refine wp_region_lit ?_
     refine vr tbok 1 [] [(0, .pointer none), (3, .pointer none)] [] E (by kernel_rfl) trivial ?_
     clear E; intro a E
     obtain ⟨x456, h457, hP⟩ := bind_inv hP
     refine e_call (R := fun v_ w_ => ∃ (x458 : Unit), v_ = .bool true ∧ Hp S Fa w0 w_ [.ro false (cInt .u64) (some ⟨b375, o376, none⟩) raws, .row true (cInt .i64) 3 A101 c102 x128.2.1, .row true (cSl (cInt .u8)) 31 A103 c104 x128.2.2.1, .row true (cInt .u8) 27 A105 c106 x128.2.2.2.1, .box g133 33 [.bool x128.1, .slice A101 (List.length x128.2.1) c102, .slice A103 (List.length x128.2.2.1) c104, .slice A105 (List.length x128.2.2.2.1) c106]] ∧ x456 = x458) E rfl rfl Try.func60 rfl rfl rfl ?_ ?_
     ·
      clear E hP; have hP := h457; clear h457; rw [law25_PlayWins_f17] at hP
      refine enterV (n := 12) Try.func60 rfl rfl rfl ?_
      intro a E
      replace E := E.pick [(0, .pointer none)] ⟨rfl, trivial⟩
      refine wp_seq ?_
      refine wp_region_lit ?_
      refine vr tbok 1 [] [(0, .pointer none)] [] E (by kernel_rfl) trivial ?_
      clear E; intro a E
      refine wpList_nil ?_
      refine th_n ?_
      refine wp_seq ?_
      refine wp_region_lit ?_
      refine vr tbok 10 [] [(2, .bool true)] [] E (by kernel_rfl) trivial ?_
      clear E; intro a E
      refine wpList_nil ?_
      refine th_n ?_
      refine wp_ret ?_
      have hx_ := Option.some.inj hP
      refine ret1 E rfl rfl ?_
      exact ⟨_, rfl, (), rfl, H.sel [0, 1, 2, 3, 4] rfl, hx_.symm⟩
     clear H
     rintro v460 w459 a ⟨x458, rfl, H, hx_⟩ E_
     subst hx_
     replace E := E_ _ rfl; clear E_
     refine wpList_nil ?_
     refine th_n ?_
     refine c_true E rfl ?_
     refine wp_seq ?_
     refine wp_region_lit ?_
     refine vr tbok 1 [] [(2, .int .i64 0)] [] E (by kernel_rfl) trivial ?_
     clear E; intro a E
     refine wpList_nil ?_
     refine th_n ?_
     refine wp_ret ?_
     refine th_ret ?_
     have hx_ := Option.some.inj hP
     refine ret1 E rfl rfl ?_
     exact ⟨_, rfl, (), rfl, H.sel [0, 1, 2, 3, 4] rfl, hx_.symm⟩
    clear H
    rintro v462 w461 a ⟨x455, rfl, H, hx_⟩ E_
    subst hx_
    replace E := E_ _ rfl; clear E_
    refine vr tbok 5 [] [(2, .slice (some ⟨b375, o376, none⟩) (List.length raws) c14), (7, .bool r27), (8, .pointer none), (9, .pointer (some ⟨g133, 0, none⟩)), (11, .int .u8 x177), (12, .int .i64 0), (13, .int .i64 i250), (143, .bool false), (144, .pointer none)] [] E (by kernel_rfl) trivial ?_
    clear E; intro a E
    obtain ⟨x465, h466, hP⟩ := bind_inv hP
    refine e_call (R := fun v_ w_ => ∃ (x467 : Unit), v_ = .slice none 0 0 ∧ Hp S Fa w0 w_ [.ro false (cInt .u64) (some ⟨b375, o376, none⟩) raws, .row true (cInt .i64) 3 A101 c102 x128.2.1, .row true (cSl (cInt .u8)) 31 A103 c104 x128.2.2.1, .row true (cInt .u8) 27 A105 c106 x128.2.2.2.1, .box g133 33 [.bool x128.1, .slice A101 (List.length x128.2.1) c102, .slice A103 (List.length x128.2.2.1) c104, .slice A105 (List.length x128.2.2.2.1) c106]] ∧ x465 = x467) E rfl rfl Try.func30 rfl rfl rfl ?_ ?_
    ·
     clear E hP; have hP := h466; clear h466; rw [law25_PlayWins_f18] at hP
     refine enterV (n := 25) Try.func30 rfl rfl rfl ?_
     intro a E
     replace E := E.pick [(0, .pointer none)] ⟨rfl, trivial⟩
     refine wp_seq ?_
     refine wp_region_lit ?_
     refine vr tbok 1 [] [(0, .pointer none)] [] E (by kernel_rfl) trivial ?_
     clear E; intro a E
     refine wpList_nil ?_
     refine th_n ?_
     refine wp_seq ?_
     refine wp_region_lit ?_
     refine vr tbok 1 [] [(0, .pointer none), (3, .slice none 0 0)] [] E (by kernel_rfl) trivial ?_
     clear E; intro a E
     refine wpList_nil ?_
     refine th_n ?_
     refine wp_seq ?_
     refine wp_seq ?_
     refine wp_region_lit ?_
     refine vr tbok 1 [] [(0, .pointer none), (3, .slice none 0 0), (6, .pointer none)] [] E (by kernel_rfl) trivial ?_
     clear E; intro a E
     obtain ⟨x468, h469, hP⟩ := bind_inv hP
     refine e_call (R := fun v_ w_ => ∃ (x470 : Unit), v_ = .bool true ∧ Hp S Fa w0 w_ [.ro false (cInt .u64) (some ⟨b375, o376, none⟩) raws, .row true (cInt .i64) 3 A101 c102 x128.2.1, .row true (cSl (cInt .u8)) 31 A103 c104 x128.2.2.1, .row true (cInt .u8) 27 A105 c106 x128.2.2.2.1, .box g133 33 [.bool x128.1, .slice A101 (List.length x128.2.1) c102, .slice A103 (List.length x128.2.2.1) c104, .slice A105 (List.length x128.2.2.2.1) c106]] ∧ x468 = x470) E rfl rfl Try.func60 rfl rfl rfl ?_ ?_
     ·
      clear E hP; have hP := h469; clear h469; rw [law25_PlayWins_f19] at hP
      refine enterV (n := 12) Try.func60 rfl rfl rfl ?_
      intro a E
      replace E := E.pick [(0, .pointer none)] ⟨rfl, trivial⟩
      refine wp_seq ?_
      refine wp_region_lit ?_
      refine vr tbok 1 [] [(0, .pointer none)] [] E (by kernel_rfl) trivial ?_
      clear E; intro a E
      refine wpList_nil ?_
      refine th_n ?_
      refine wp_seq ?_
      refine wp_region_lit ?_
      refine vr tbok 10 [] [(2, .bool true)] [] E (by kernel_rfl) trivial ?_
      clear E; intro a E
      refine wpList_nil ?_
      refine th_n ?_
      refine wp_ret ?_
      have hx_ := Option.some.inj hP
      refine ret1 E rfl rfl ?_
      exact ⟨_, rfl, (), rfl, H.sel [0, 1, 2, 3, 4] rfl, hx_.symm⟩
     clear H
     rintro v472 w471 a ⟨x470, rfl, H, hx_⟩ E_
     subst hx_
     replace E := E_ _ rfl; clear E_
     refine wpList_nil ?_
     refine th_n ?_
     refine c_true E rfl ?_
     refine wp_seq ?_
     refine wp_region_lit ?_
     refine vr tbok 2 [] [(2, .slice none 0 0)] [] E (by kernel_rfl) trivial ?_
     clear E; intro a E
     refine wpList_nil ?_
     refine th_n ?_
     refine wp_ret ?_
     refine th_ret ?_
     have hx_ := Option.some.inj hP
     refine ret1 E rfl rfl ?_
     exact ⟨_, rfl, (), rfl, H.sel [0, 1, 2, 3, 4] rfl, hx_.symm⟩
    clear H
    rintro v474 w473 a ⟨x467, rfl, H, hx_⟩ E_
    subst hx_
    replace E := E_ _ rfl; clear E_
    refine vr tbok 4 [] [(2, .slice (some ⟨b375, o376, none⟩) (List.length raws) c14), (7, .bool r27), (8, .pointer none), (9, .pointer (some ⟨g133, 0, none⟩)), (11, .int .u8 x177), (12, .int .i64 0), (13, .int .i64 i250), (149, .bool false)] [] E (by kernel_rfl) trivial ?_
    clear E; intro a E
    refine wpList_nil ?_
    refine th_n ?_
    refine c_false E rfl ?_
    refine wp_skip ?_
    refine th_n ?_
    refine wp_exit ?_
    refine th_exit ?_
    refine bl_hit ?_
    refine th_n ?_
    refine wp_region_lit ?_
    obtain ⟨g475, hP⟩ := ask_inv hP
    refine vr tbok 3 [.int .i64 (i250 + 1)] [(2, .slice (some ⟨b375, o376, none⟩) (List.length raws) c14), (7, .bool r27), (8, .pointer none), (9, .pointer (some ⟨g133, 0, none⟩)), (11, .int .u8 x177), (12, .int .i64 0), (13, .int .i64 (i250 + 1))] [IntKind.i64.wrap (i250 + 1) = i250 + 1] E (by kernel_rfl) (wrap_in g475) ?_
    clear E; intro a E
    refine wpList_nil ?_
    exact th_n ⟨m318, Nat.lt_succ_self _, i250 + 1, E.pick _ ⟨rfl, rfl, rfl, rfl, rfl, rfl, rfl, trivial⟩, H.sel [0, 1, 2, 3, 4] rfl, hP⟩
   replace E := E_; clear E_
   have h476 : ¬ (i250 < (((List.length raws) : Nat) : Int)) := of_decide_eq_false hb_
   clear hb_; replace hP := ite_f h476 hP
   refine c_false E rfl ?_
   refine wp_exit ?_
   refine th_exit ?_
   have hx_ := Option.some.inj hP
   refine th_exit (.inl ⟨0, rfl, ?_⟩)
   exact ⟨rfl, (), E.pick _ ⟨rfl, rfl, rfl, rfl, trivial⟩, H.sel [1, 2, 3, 4] rfl, hx_.symm⟩
  clear E H hL320; intro i_ a w322 hM_
  obtain ⟨rfl, x324, E, H, hx_⟩ := hM_
  subst hx_; have hP := elim_l hK321
  clear hK321
  refine bl_hit ?_
  refine th_n ?_
  refine wp_seq ?_
  refine wp_region_lit ?_
  refine vr tbok 2 [] [(8, .pointer none), (9, .pointer (some ⟨g133, 0, none⟩)), (12, .int .i64 0), (193, .bool r27)] [] E (by kernel_rfl) trivial ?_
  clear E; intro a E
  refine E.cases (t := 193) rfl (fun hb_ E_ => ?_) (fun hb_ E_ => ?_)
  ·
   replace E := E_; clear E_
   have h478 : r27 = true := hb_
   clear hb_; replace hP := ite_t h478 hP
   refine vr tbok 4 [.bool x128.1] [(8, .pointer none), (9, .pointer (some ⟨g133, 0, none⟩)), (12, .int .i64 0), (193, .bool true), (197, .bool (!x128.1))] [World.cell? w322 ⟨g133, 0, none⟩ = some (.bool x128.1)] E (by kernel_rfl) ((H.box 3 rfl).cell (j := 0) rfl) ?_
   clear E; intro a E
   refine E.cases (t := 197) rfl (fun hb_ E_ => ?_) (fun hb_ E_ => ?_)
   ·
    replace E := E_; clear E_
    have h479 : ¬ (x128.1 = true) := (ne_true_of_eq_false (not_t hb_))
    clear hb_; replace hP := ite_f h479 hP
    refine vr tbok 21 [] [(6, .bool true)] [] E (by kernel_rfl) trivial ?_
    clear E; intro a E
    refine wpList_nil ?_
    refine th_n ?_
    refine wp_ret ?_
    obtain rfl := Option.some.inj hP
    refine ret1 E rfl rfl ?_
    exact ⟨_, rfl, rfl, H.sel [] rfl⟩
   replace E := E_; clear E_
   have h480 : x128.1 = true := (not_f hb_)
   clear hb_; replace hP := ite_t h480 hP
   obtain ⟨g481, hP⟩ := ask_inv hP
   obtain ⟨b482, e_b482⟩ := H.raddr 0 rfl (idx_pos g481)
   subst e_b482
   refine vr tbok 7 [.slice (some ⟨b482, 0, none⟩) (List.length x128.2.1) c102, .int .i64 (List.getD x128.2.1 (Int.toNat (0 : Int)) 0)] [(8, .pointer none), (9, .pointer (some ⟨g133, 0, none⟩)), (12, .int .i64 0), (193, .bool true), (197, .bool false), (204, .bool (decide (0 ≤ (List.getD x128.2.1 (Int.toNat (0 : Int)) 0))))] [World.cell? w322 ⟨g133, 1, none⟩ = some (.slice (some ⟨b482, 0, none⟩) (List.length x128.2.1) c102), 0 ≤ (0 : Int) ∧ (0 : Int) < (((List.length x128.2.1) : Nat) : Int), World.cell? w322 ⟨b482, 0 + (Int.toNat (0 : Int)) * 1, none⟩ = some (.int .i64 (List.getD x128.2.1 (Int.toNat (0 : Int)) 0))] E (by kernel_rfl) ⟨(H.box 3 rfl).cell (j := 1) rfl, g481, Rds.at1 (H.rd 0 rds_row) 0 g481⟩ ?_
   clear E; intro a E
   refine E.cases (t := 204) rfl (fun hb_ E_ => ?_) (fun hb_ E_ => ?_)
   ·
    replace E := E_; clear E_
    have h484 : 0 ≤ (List.getD x128.2.1 (Int.toNat (0 : Int)) 0) := of_decide_eq_true hb_
    clear hb_; replace hP := ite_t h484 hP
    refine vr tbok 7 [.slice (some ⟨b482, 0, none⟩) (List.length x128.2.1) c102, .int .i64 (List.getD x128.2.1 (Int.toNat (0 : Int)) 0)] [(8, .pointer none), (193, .bool true), (197, .bool false), (204, .bool true), (211, .bool (decide (0 < (List.getD x128.2.1 (Int.toNat (0 : Int)) 0))))] [World.cell? w322 ⟨g133, 1, none⟩ = some (.slice (some ⟨b482, 0, none⟩) (List.length x128.2.1) c102), 0 ≤ (0 : Int) ∧ (0 : Int) < (((List.length x128.2.1) : Nat) : Int), World.cell? w322 ⟨b482, 0 + (Int.toNat (0 : Int)) * 1, none⟩ = some (.int .i64 (List.getD x128.2.1 (Int.toNat (0 : Int)) 0))] E (by kernel_rfl) ⟨(H.box 3 rfl).cell (j := 1) rfl, g481, Rds.at1 (H.rd 0 rds_row) 0 g481⟩ ?_
    clear E; intro a E
    refine E.cases (t := 211) rfl (fun hb_ E_ => ?_) (fun hb_ E_ => ?_)
    ·
     replace E := E_; clear E_
     have h485 : 0 < (List.getD x128.2.1 (Int.toNat (0 : Int)) 0) := of_decide_eq_true hb_
     clear hb_; replace hP := ite_t h485 hP
     refine vr tbok 7 [] [(6, .bool true)] [] E (by kernel_rfl) trivial ?_
     clear E; intro a E
     refine wpList_nil ?_
     refine th_n ?_
     refine wp_ret ?_
     obtain rfl := Option.some.inj hP
     refine ret1 E rfl rfl ?_
     exact ⟨_, rfl, rfl, H.sel [] rfl⟩
    replace E := E_; clear E_
    have h486 : ¬ (0 < (List.getD x128.2.1 (Int.toNat (0 : Int)) 0)) := of_decide_eq_false hb_
    clear hb_; replace hP := ite_f h486 hP
    refine vr tbok 1 [] [(193, .bool true), (197, .bool false), (204, .bool true), (211, .bool false), (212, .pointer none)] [] E (by kernel_rfl) trivial ?_
    clear E; intro a E
    obtain ⟨x494, h495, hP⟩ := bind_inv hP
    refine e_call (R := fun v_ w_ => ∃ (x496 : Unit), v_ = .bool false ∧ Hp S Fa w0 w_ [] ∧ x494 = x496) E rfl rfl Try.func27 rfl rfl rfl ?_ ?_
    ·
     clear E hP; have hP := h495; clear h495; rw [law25_PlayWins_f20] at hP
     refine enterV (n := 19) Try.func27 rfl rfl rfl ?_
     intro a E
     replace E := E.pick [(0, .pointer none)] ⟨rfl, trivial⟩
     refine wp_seq ?_
     refine wp_region_lit ?_
     refine vr tbok 1 [] [(0, .pointer none)] [] E (by kernel_rfl) trivial ?_
     clear E; intro a E
     refine wpList_nil ?_
     refine th_n ?_
     refine wp_seq ?_
     obtain ⟨x497, h498, hP⟩ := bind_inv hP
     have HR505 := H
     refine dr_start (S := fun w_ => Chg (atL []) w322 w_) (by kernel_rfl) ?_
     intro w502 hc503
     have HS504 : Chg (atL []) w322 w502 := hc503.mono (fun _ _ h_ => h_.elim)
     replace H := H.ext hc503
     refine dr tbok (by kernel_rfl) [0] [] [(0, .pointer none), (3, .pointer none)] (fun w_ => []) 16 E (fun _ _ => by kernel_rfl) (fun w_ hS_ => trivial) (by kernel_rfl) HS504 ?_
     clear E; intro a E
     refine wpAnyH_all (rs := [1]) (by kernel_rfl) (by simp) ?_
     refine all1 ?_
     refine wpOp_of_list rfl ?_
     refine e_call (R := fun v_ w_ => ∃ (x506 : Unit), v_ = .bool true ∧ Hp S Fa w0 w_ [] ∧ Chg (atL []) w322 w_ ∧ x497 = x506) E rfl rfl Try.func60 rfl rfl rfl ?_ ?_
     ·
      clear E hP; have hP := h498; clear h498; rw [law25_PlayWins_f21] at hP
      refine enterV (n := 12) Try.func60 rfl rfl rfl ?_
      intro a E
      replace E := E.pick [(0, .pointer none)] ⟨rfl, trivial⟩
      refine wp_seq ?_
      refine wp_region_lit ?_
      refine vr tbok 1 [] [(0, .pointer none)] [] E (by kernel_rfl) trivial ?_
      clear E; intro a E
      refine wpList_nil ?_
      refine th_n ?_
      refine wp_seq ?_
      refine wp_region_lit ?_
      refine vr tbok 10 [] [(2, .bool true)] [] E (by kernel_rfl) trivial ?_
      clear E; intro a E
      refine wpList_nil ?_
      refine th_n ?_
      refine wp_ret ?_
      have hx_ := Option.some.inj hP
      refine ret1 E rfl rfl ?_
      exact ⟨_, rfl, (), rfl, H.sel [] rfl, HS504, hx_.symm⟩
     clear H HS504
     rintro v508 w507 a ⟨x506, rfl, H, HS504, hx_⟩ E_
     subst hx_
     replace E := E_ _ rfl; clear E_
     refine wpList_nil ?_
     refine th_n ⟨HS504, ?_⟩
     refine dr tbok (by kernel_rfl) [2, 3, 4, 5, 6, 7, 8, 9, 10, 11, 12, 13, 14, 15, 16] [] [(2, .bool false)] (fun w_ => []) 0 E (fun _ _ => by kernel_rfl) (fun w_ hS_ => trivial) (by kernel_rfl) HS504 ?_
     clear E; intro a E
     refine dr_done (by kernel_rfl) ?_
     clear HS504 HR505
     refine th_n ?_
     refine wp_ret ?_
     have hx_ := Option.some.inj hP
     refine ret1 E rfl rfl ?_
     exact ⟨_, rfl, (), rfl, H.sel [] rfl, hx_.symm⟩
    clear H
    rintro v510 w509 a ⟨x496, rfl, H, hx_⟩ E_
    subst hx_
    replace E := E_ _ rfl; clear E_
    refine vr tbok 5 [] [(6, .bool false)] [] E (by kernel_rfl) trivial ?_
    clear E; intro a E
    refine wpList_nil ?_
    refine th_n ?_
    refine wp_ret ?_
    obtain rfl := Option.some.inj hP
    refine ret1 E rfl rfl ?_
    exact ⟨_, rfl, rfl, H.sel [] rfl⟩
   replace E := E_; clear E_
   have h511 : ¬ (0 ≤ (List.getD x128.2.1 (Int.toNat (0 : Int)) 0)) := of_decide_eq_false hb_
   clear hb_; replace hP := ite_f h511 hP
   refine vr tbok 14 [] [(6, .bool false)] [] E (by kernel_rfl) trivial ?_
   clear E; intro a E
   refine wpList_nil ?_
   refine th_n ?_
   refine wp_ret ?_
   obtain rfl := Option.some.inj hP
   refine ret1 E rfl rfl ?_
   exact ⟨_, rfl, rfl, H.sel [] rfl⟩
  replace E := E_; clear E_
  have h512 : ¬ (r27 = true) := (ne_true_of_eq_false hb_)
  clear hb_; replace hP := ite_f h512 hP
  refine vr tbok 25 [] [(6, .bool false)] [] E (by kernel_rfl) trivial ?_
  clear E; intro a E
  refine wpList_nil ?_
  refine th_n ?_
  refine wp_ret ?_
  obtain rfl := Option.some.inj hP
  refine ret1 E rfl rfl ?_
  exact ⟨_, rfl, rfl, H.sel [] rfl⟩
 subst hr_; have hP := (elim_r hP)
 obtain ⟨x129, hxx_⟩ : ∃ y_, y_ = x_ := ⟨_, rfl⟩; subst hxx_
 replace E := E_ _ rfl; clear E_
 obtain ⟨H_, hc100⟩ := hb92 _ _ HR127 rfl
 replace H := H_; clear H_; try dsimp only [setn, addE, goneL] at H
 refine vr tbok 4 [] [(2, .slice A13 (List.length raws) c14), (3, .pointer (some ⟨g17, 0, none⟩)), (4, .pointer (some ⟨g22, 0, none⟩)), (7, .bool r27), (39, .pointer (some ⟨g108, 0, none⟩)), (40, .agg #[.bool x129.2.2.2.2.2.2.2.1, .slice A121 (List.length x129.2.2.2.2.2.2.2.2.1) c122, .slice A123 (List.length x129.2.2.2.2.2.2.2.2.2.1) c124, .slice A125 (List.length x129.2.2.2.2.2.2.2.2.2.2.1) c126]), (41, .bool x129.2.2.2.2.2.2.2.2.2.2.2)] [] E (by kernel_rfl) trivial ?_
 clear E; intro a E
 refine h_alloc H E rfl rfl tbok rfl ?_
 intro w524 g523 a hc525 hg527 H_ E_
 replace E := E_ _ rfl; clear E_
 replace H := H_; clear H_; try dsimp only [setn, addE, goneL] at H
 refine vr tbok 1 [] [(2, .slice A13 (List.length raws) c14), (3, .pointer (some ⟨g17, 0, none⟩)), (4, .pointer (some ⟨g22, 0, none⟩)), (7, .bool r27), (8, .pointer (some ⟨g108, 0, none⟩)), (9, .pointer (some ⟨g523, 0, none⟩)), (40, .agg #[.bool x129.2.2.2.2.2.2.2.1, .slice A121 (List.length x129.2.2.2.2.2.2.2.2.1) c122, .slice A123 (List.length x129.2.2.2.2.2.2.2.2.2.1) c124, .slice A125 (List.length x129.2.2.2.2.2.2.2.2.2.2.1) c126]), (41, .bool x129.2.2.2.2.2.2.2.2.2.2.2)] [] E (by kernel_rfl) trivial ?_
 clear E; intro a E
 refine h_store (g := g523) (off := 0) H 16 rfl E rfl rfl rfl rfl tbok rfl rfl rfl rfl rfl ?_
 clear E; intro w528 a hc529 H_ E
 replace H := H_; clear H_; try dsimp only [setn, addE, goneL] at H
 refine vr tbok 1 [] [(2, .slice A13 (List.length raws) c14), (3, .pointer (some ⟨g17, 0, none⟩)), (4, .pointer (some ⟨g22, 0, none⟩)), (7, .bool r27), (8, .pointer (some ⟨g108, 0, none⟩)), (9, .pointer (some ⟨g523, 0, none⟩)), (10, .bool x129.2.2.2.2.2.2.2.2.2.2.2)] [] E (by kernel_rfl) trivial ?_
 clear E; intro a E
 refine wpList_nil ?_
 refine th_n ?_
 refine wp_seq ?_
 refine wp_seq ?_
 obtain ⟨x544, h545, hK546⟩ := bind_inv hP
 clear hP
 refine meet_cut (fun a w548 => ∃ (x547 : Bool), Fr a 218 [(2, .slice A13 (List.length raws) c14), (4, .pointer (some ⟨g22, 0, none⟩)), (7, .bool r27), (8, .pointer (some ⟨g108, 0, none⟩)), (9, .pointer (some ⟨g523, 0, none⟩)), (57, .bool x547)] ∧ Hp S Fa w0 w548 [.ro false (cInt .u64) A13 raws, .box g22 29 [.int .u8 s.1, .int .u8 s.2], .row true cBool 4 A109 c110 x129.1, .row true (cInt .i64) 3 A111 c112 x129.2.1, .row true cNode 90 A113 c114 x129.2.2.1, .row true (cInt .i64) 3 A115 c116 x129.2.2.2.2.1, .row true (cSl (cInt .u8)) 31 A117 c118 x129.2.2.2.2.2.1, .row true (cInt .u8) 27 A119 c120 x129.2.2.2.2.2.2.1, .box g108 74 [.int .i64 aProps, .slice A109 (List.length x129.1) c110, .slice A111 (List.length x129.2.1) c112, .slice A113 (List.length x129.2.2.1) c114, .int .u8 s.1, .int .u8 s.2, .bool x129.2.2.2.1, .slice A115 (List.length x129.2.2.2.2.1) c116, .slice A117 (List.length x129.2.2.2.2.2.1) c118, .slice A119 (List.length x129.2.2.2.2.2.2.1) c120, .int .i64 0, .slice none 0 0, .bool true], .row true (cInt .i64) 3 A121 c122 x129.2.2.2.2.2.2.2.2.1, .row true (cSl (cInt .u8)) 31 A123 c124 x129.2.2.2.2.2.2.2.2.2.1, .row true (cInt .u8) 27 A125 c126 x129.2.2.2.2.2.2.2.2.2.2.1, .box g523 33 [.bool x129.2.2.2.2.2.2.2.1, .slice A121 (List.length x129.2.2.2.2.2.2.2.2.1) c122, .slice A123 (List.length x129.2.2.2.2.2.2.2.2.2.1) c124, .slice A125 (List.length x129.2.2.2.2.2.2.2.2.2.2.1) c126]] ∧ x544 = x547) ?_ ?_
 ·
  have hP := h545; clear h545; rw [law25_PlayWins_j22] at hP
  refine wp_region_lit ?_
  refine vr tbok 3 [] [(2, .slice A13 (List.length raws) c14), (3, .pointer (some ⟨g17, 0, none⟩)), (4, .pointer (some ⟨g22, 0, none⟩)), (7, .bool r27), (8, .pointer (some ⟨g108, 0, none⟩)), (9, .pointer (some ⟨g523, 0, none⟩)), (44, .bool (!x129.2.2.2.2.2.2.2.2.2.2.2))] [] E (by kernel_rfl) trivial ?_
  clear E; intro a E
  refine E.cases (t := 44) rfl (fun hb_ E_ => ?_) (fun hb_ E_ => ?_)
  ·
   replace E := E_; clear E_
   have h549 : ¬ (x129.2.2.2.2.2.2.2.2.2.2.2 = true) := (ne_true_of_eq_false (not_t hb_))
   clear hb_; replace hP := ite_f h549 hP
   refine vr tbok 13 [] [(2, .slice A13 (List.length raws) c14), (4, .pointer (some ⟨g22, 0, none⟩)), (7, .bool r27), (8, .pointer (some ⟨g108, 0, none⟩)), (9, .pointer (some ⟨g523, 0, none⟩)), (57, .bool true)] [] E (by kernel_rfl) trivial ?_
   clear E; intro a E
   refine wpList_nil ?_
   have hx_ := Option.some.inj hP
   exact .inl ⟨rfl, true, E.pick _ ⟨rfl, rfl, rfl, rfl, rfl, rfl, trivial⟩, H.sel [0, 5, 7, 8, 9, 10, 11, 12, 6, 13, 14, 15, 16] rfl, hx_.symm⟩
  replace E := E_; clear E_
  have h550 : x129.2.2.2.2.2.2.2.2.2.2.2 = true := (not_f hb_)
  clear hb_; replace hP := ite_t h550 hP
  refine vr tbok 1 [.agg #[.int .i64 aProps, .slice A1 (List.length aAccept) c2, .slice A5 (List.length aGuard) c6, .slice A9 (List.length aNodes) c10]] [(2, .slice A13 (List.length raws) c14), (3, .pointer (some ⟨g17, 0, none⟩)), (4, .pointer (some ⟨g22, 0, none⟩)), (7, .bool r27), (8, .pointer (some ⟨g108, 0, none⟩)), (9, .pointer (some ⟨g523, 0, none⟩)), (44, .bool false), (45, .agg #[.int .i64 aProps, .slice A1 (List.length aAccept) c2, .slice A5 (List.length aGuard) c6, .slice A9 (List.length aNodes) c10])] [cellsAt w528 g17 (0) [.int .i64 aProps, .slice A1 (List.length aAccept) c2, .slice A5 (List.length aGuard) c6, .slice A9 (List.length aNodes) c10]] E (by kernel_rfl) ((H.box 4 rfl).sub 0 _ rfl) ?_
  clear E; intro a E
  obtain ⟨r551, h552, hP⟩ := bind_inv hP
  obtain ⟨Fa553, Hc554, hb555⟩ := H.call [] [(1, false), (2, false), (3, false)] rfl rfl trivial
  refine e_call E rfl rfl Try.func25 rfl rfl rfl (law19_Real_calls A1 c2 A5 c6 A9 c10 aProps aAccept aGuard aNodes hk3 hk7 hk11 Hc554 h552) ?_
  rintro v556 w557 a ⟨rfl, HR558⟩ E_
  replace E := E_ _ rfl; clear E_
  obtain ⟨H_, hc559⟩ := hb555 _ _ HR558 rfl
  replace H := H_; clear H_; try dsimp only [setn, addE, goneL] at H
  refine vr tbok 3 [] [(2, .slice A13 (List.length raws) c14), (3, .pointer (some ⟨g17, 0, none⟩)), (4, .pointer (some ⟨g22, 0, none⟩)), (7, .bool r27), (8, .pointer (some ⟨g108, 0, none⟩)), (9, .pointer (some ⟨g523, 0, none⟩)), (49, .bool (!r551))] [] E (by kernel_rfl) trivial ?_
  clear E; intro a E
  refine E.cases (t := 49) rfl (fun hb_ E_ => ?_) (fun hb_ E_ => ?_)
  ·
   replace E := E_; clear E_
   have h560 : ¬ (r551 = true) := (ne_true_of_eq_false (not_t hb_))
   clear hb_; replace hP := ite_f h560 hP
   refine vr tbok 8 [] [(2, .slice A13 (List.length raws) c14), (4, .pointer (some ⟨g22, 0, none⟩)), (7, .bool r27), (8, .pointer (some ⟨g108, 0, none⟩)), (9, .pointer (some ⟨g523, 0, none⟩)), (57, .bool true)] [] E (by kernel_rfl) trivial ?_
   clear E; intro a E
   refine wpList_nil ?_
   have hx_ := Option.some.inj hP
   exact .inl ⟨rfl, true, E.pick _ ⟨rfl, rfl, rfl, rfl, rfl, rfl, trivial⟩, H.sel [0, 5, 7, 8, 9, 10, 11, 12, 6, 13, 14, 15, 16] rfl, hx_.symm⟩
  replace E := E_; clear E_
  have h561 : r551 = true := (not_f hb_)
  clear hb_; replace hP := ite_t h561 hP
  refine vr tbok 8 [.slice A121 (List.length x129.2.2.2.2.2.2.2.2.1) c122, .slice A1 (List.length aAccept) c2] [(2, .slice A13 (List.length raws) c14), (4, .pointer (some ⟨g22, 0, none⟩)), (7, .bool r27), (8, .pointer (some ⟨g108, 0, none⟩)), (9, .pointer (some ⟨g523, 0, none⟩)), (57, .bool (((((List.length x129.2.2.2.2.2.2.2.2.1) : Nat) : Int) : Int) != (((List.length aAccept) : Nat) : Int)))] [World.cell? w557 ⟨g523, 1, none⟩ = some (.slice A121 (List.length x129.2.2.2.2.2.2.2.2.1) c122), World.cell? w557 ⟨g17, 1, none⟩ = some (.slice A1 (List.length aAccept) c2)] E (by kernel_rfl) ⟨(H.box 16 rfl).cell (j := 1) rfl, (H.box 4 rfl).cell (j := 1) rfl⟩ ?_
  clear E; intro a E
  refine wpList_nil ?_
  have hx_ := Option.some.inj hP
  exact .inl ⟨rfl, ((((List.length x129.2.2.2.2.2.2.2.2.1) : Nat) : Int) : Int) != (((List.length aAccept) : Nat) : Int), E.pick _ ⟨rfl, rfl, rfl, rfl, rfl, rfl, trivial⟩, H.sel [0, 5, 7, 8, 9, 10, 11, 12, 6, 13, 14, 15, 16] rfl, hx_.symm⟩
 clear E H h545; rintro a w548 ⟨x547, E, H, hx_⟩
 subst hx_; have hP := hK546; clear hK546
 refine th_n ?_
 refine E.cases (t := 57) rfl (fun hb_ E_ => ?_) (fun hb_ E_ => ?_)
 ·
  replace E := E_; clear E_
  have h562 : x544 = true := hb_
  clear hb_; replace hP := ite_t h562 hP
  refine c_true E rfl ?_
  refine wp_seq ?_
  refine wp_region_lit ?_
  refine vr tbok 1 [] [(6, .bool false)] [] E (by kernel_rfl) trivial ?_
  clear E; intro a E
  refine wpList_nil ?_
  refine th_n ?_
  refine wp_ret ?_
  refine th_ret ?_
  obtain rfl := Option.some.inj hP
  refine ret1 E rfl rfl ?_
  exact ⟨_, rfl, rfl, H.sel [] rfl⟩
 replace E := E_; clear E_
 have h563 : ¬ (x544 = true) := (ne_true_of_eq_false hb_)
 clear hb_; replace hP := ite_f h563 hP
 refine c_false E rfl ?_
 refine wp_skip ?_
 refine th_n ?_
 refine wp_seq ?_
 refine wp_region_lit ?_
 refine vr tbok 3 [.int .u8 s.2] [(2, .slice A13 (List.length raws) c14), (4, .pointer (some ⟨g22, 0, none⟩)), (7, .bool r27), (8, .pointer (some ⟨g108, 0, none⟩)), (9, .pointer (some ⟨g523, 0, none⟩)), (11, .int .u8 s.2)] [World.cell? w548 ⟨g22, 1, none⟩ = some (.int .u8 s.2)] E (by kernel_rfl) ((H.box 1 rfl).cell (j := 1) rfl) ?_
 clear E; intro a E
 refine wpList_nil ?_
 refine th_n ?_
 refine wp_seq ?_
 refine wp_seq ?_
 refine wp_region_lit ?_
 refine vr tbok 2 [.bool x129.2.2.2.2.2.2.2.1] [(2, .slice A13 (List.length raws) c14), (4, .pointer (some ⟨g22, 0, none⟩)), (7, .bool r27), (8, .pointer (some ⟨g108, 0, none⟩)), (9, .pointer (some ⟨g523, 0, none⟩)), (11, .int .u8 s.2), (61, .bool x129.2.2.2.2.2.2.2.1)] [World.cell? w548 ⟨g523, 0, none⟩ = some (.bool x129.2.2.2.2.2.2.2.1)] E (by kernel_rfl) ((H.box 12 rfl).cell (j := 0) rfl) ?_
 clear E; intro a E
 refine wpList_nil ?_
 refine th_n ?_
 obtain ⟨x567, h568, hK569⟩ := bind_inv hP
 clear hP
 refine meet_cut (fun a w571 => ∃ (x570 : Int), Fr a 218 [(2, .slice A13 (List.length raws) c14), (7, .bool r27), (8, .pointer (some ⟨g108, 0, none⟩)), (9, .pointer (some ⟨g523, 0, none⟩)), (11, .int .u8 x570)] ∧ Hp S Fa w0 w571 [.ro false (cInt .u64) A13 raws, .row true cBool 4 A109 c110 x129.1, .row true (cInt .i64) 3 A111 c112 x129.2.1, .row true cNode 90 A113 c114 x129.2.2.1, .row true (cInt .i64) 3 A115 c116 x129.2.2.2.2.1, .row true (cSl (cInt .u8)) 31 A117 c118 x129.2.2.2.2.2.1, .row true (cInt .u8) 27 A119 c120 x129.2.2.2.2.2.2.1, .box g108 74 [.int .i64 aProps, .slice A109 (List.length x129.1) c110, .slice A111 (List.length x129.2.1) c112, .slice A113 (List.length x129.2.2.1) c114, .int .u8 s.1, .int .u8 s.2, .bool x129.2.2.2.1, .slice A115 (List.length x129.2.2.2.2.1) c116, .slice A117 (List.length x129.2.2.2.2.2.1) c118, .slice A119 (List.length x129.2.2.2.2.2.2.1) c120, .int .i64 0, .slice none 0 0, .bool true], .row true (cInt .i64) 3 A121 c122 x129.2.2.2.2.2.2.2.2.1, .row true (cSl (cInt .u8)) 31 A123 c124 x129.2.2.2.2.2.2.2.2.2.1, .row true (cInt .u8) 27 A125 c126 x129.2.2.2.2.2.2.2.2.2.2.1, .box g523 33 [.bool x129.2.2.2.2.2.2.2.1, .slice A121 (List.length x129.2.2.2.2.2.2.2.2.1) c122, .slice A123 (List.length x129.2.2.2.2.2.2.2.2.2.1) c124, .slice A125 (List.length x129.2.2.2.2.2.2.2.2.2.2.1) c126]] ∧ x567 = x570) ?_ ?_
 ·
  have hP := h568; clear h568; rw [law25_PlayWins_j23] at hP
  refine E.cases (t := 61) rfl (fun hb_ E_ => ?_) (fun hb_ E_ => ?_)
  ·
   replace E := E_; clear E_
   have h572 : x129.2.2.2.2.2.2.2.1 = true := hb_
   clear hb_; replace hP := ite_t h572 hP
   refine c_true E rfl ?_
   refine wp_region_lit ?_
   refine vr tbok 3 [.int .u8 s.1] [(2, .slice A13 (List.length raws) c14), (7, .bool r27), (8, .pointer (some ⟨g108, 0, none⟩)), (9, .pointer (some ⟨g523, 0, none⟩)), (11, .int .u8 s.1)] [World.cell? w548 ⟨g22, 0, none⟩ = some (.int .u8 s.1)] E (by kernel_rfl) ((H.box 1 rfl).cell (j := 0) rfl) ?_
   clear E; intro a E
   refine wpList_nil ?_
   have hx_ := Option.some.inj hP
   exact .inl ⟨rfl, s.1, E.pick _ ⟨rfl, rfl, rfl, rfl, rfl, trivial⟩, H.sel [0, 2, 3, 4, 5, 6, 7, 8, 9, 10, 11, 12] rfl, hx_.symm⟩
  replace E := E_; clear E_
  have h573 : ¬ (x129.2.2.2.2.2.2.2.1 = true) := (ne_true_of_eq_false hb_)
  clear hb_; replace hP := ite_f h573 hP
  refine c_false E rfl ?_
  refine wp_skip ?_
  have hx_ := Option.some.inj hP
  exact .inl ⟨rfl, s.2, E.pick _ ⟨rfl, rfl, rfl, rfl, rfl, trivial⟩, H.sel [0, 2, 3, 4, 5, 6, 7, 8, 9, 10, 11, 12] rfl, hx_.symm⟩
 clear E H h568; rintro a w571 ⟨x570, E, H, hx_⟩
 subst hx_; have hP := hK569; clear hK569
 refine th_n ?_
 refine wp_seq ?_
 refine wp_region_lit ?_
 refine vr tbok 1 [] [(2, .slice A13 (List.length raws) c14), (7, .bool r27), (8, .pointer (some ⟨g108, 0, none⟩)), (9, .pointer (some ⟨g523, 0, none⟩)), (11, .int .u8 x567), (12, .int .i64 0)] [] E (by kernel_rfl) trivial ?_
 clear E; intro a E
 refine wpList_nil ?_
 refine th_n ?_
 refine wp_seq ?_
 refine wp_seq ?_
 refine wp_region_lit ?_
 refine vr tbok 1 [] [(2, .slice A13 (List.length raws) c14), (7, .bool r27), (8, .pointer (some ⟨g108, 0, none⟩)), (9, .pointer (some ⟨g523, 0, none⟩)), (11, .int .u8 x567), (12, .int .i64 0), (13, .int .i64 0)] [] E (by kernel_rfl) trivial ?_
 clear E; intro a E
 refine wpList_nil ?_
 refine th_n ?_
 refine wp_block ?_
 obtain ⟨x1298, hL1299, hK1300⟩ := bind_inv hP
 clear hP
 replace H := H.nilrow cS98 99; try dsimp only [setn, addE, goneL] at H
 refine loop_cut (fun i_ a w_ => (i_ = 0 ∧ ∃ (x1304 : Int × (List (Int × Int)) × Int), ∃ (A1294 : Option Addr) (c1295 : Nat), Fr a 218 [(7, .bool r27), (8, .pointer (some ⟨g108, 0, none⟩)), (9, .pointer (some ⟨g523, 0, none⟩)), (12, .int .i64 x1304.2.2)] ∧ Hp S Fa w0 w_ [.box g108 74 [.int .i64 aProps, .slice A109 (List.length x129.1) c110, .slice A111 (List.length x129.2.1) c112, .slice A113 (List.length x129.2.2.1) c114, .int .u8 s.1, .int .u8 s.2, .bool x129.2.2.2.1, .slice A115 (List.length x129.2.2.2.2.1) c116, .slice A117 (List.length x129.2.2.2.2.2.1) c118, .slice A119 (List.length x129.2.2.2.2.2.2.1) c120, .int .i64 x1304.1, .slice A1294 (List.length x1304.2.1) c1295, .bool true], .row true cBool 4 A109 c110 x129.1, .row true (cInt .i64) 3 A111 c112 x129.2.1, .row true cNode 90 A113 c114 x129.2.2.1, .row true (cInt .i64) 3 A115 c116 x129.2.2.2.2.1, .row true (cSl (cInt .u8)) 31 A117 c118 x129.2.2.2.2.2.1, .row true (cInt .u8) 27 A119 c120 x129.2.2.2.2.2.2.1, .row true cS98 99 A1294 c1295 x1304.2.1, .row true (cInt .i64) 3 A121 c122 x129.2.2.2.2.2.2.2.2.1, .row true (cSl (cInt .u8)) 31 A123 c124 x129.2.2.2.2.2.2.2.2.2.1, .row true (cInt .u8) 27 A125 c126 x129.2.2.2.2.2.2.2.2.2.2.1, .box g523 33 [.bool x129.2.2.2.2.2.2.2.1, .slice A121 (List.length x129.2.2.2.2.2.2.2.2.1) c122, .slice A123 (List.length x129.2.2.2.2.2.2.2.2.2.1) c124, .slice A125 (List.length x129.2.2.2.2.2.2.2.2.2.2.1) c126]] ∧ x1298 = Sum.inl x1304)) ?_ ?_
 ·
  refine loopV (fun m1303 a w1302 => ∃ (r926 : Int) (r928 : List (Int × Int)) (rounds931 : Int) (i932 : Int), ∃ (A929 : Option Addr) (c930 : Nat), Fr a 218 [(2, .slice A13 (List.length raws) c14), (7, .bool r27), (8, .pointer (some ⟨g108, 0, none⟩)), (9, .pointer (some ⟨g523, 0, none⟩)), (11, .int .u8 x567), (12, .int .i64 rounds931), (13, .int .i64 i932)] ∧ Hp S Fa w0 w1302 [.ro false (cInt .u64) A13 raws, .box g108 74 [.int .i64 aProps, .slice A109 (List.length x129.1) c110, .slice A111 (List.length x129.2.1) c112, .slice A113 (List.length x129.2.2.1) c114, .int .u8 s.1, .int .u8 s.2, .bool x129.2.2.2.1, .slice A115 (List.length x129.2.2.2.2.1) c116, .slice A117 (List.length x129.2.2.2.2.2.1) c118, .slice A119 (List.length x129.2.2.2.2.2.2.1) c120, .int .i64 r926, .slice A929 (List.length r928) c930, .bool true], .row true cBool 4 A109 c110 x129.1, .row true (cInt .i64) 3 A111 c112 x129.2.1, .row true cNode 90 A113 c114 x129.2.2.1, .row true (cInt .i64) 3 A115 c116 x129.2.2.2.2.1, .row true (cSl (cInt .u8)) 31 A117 c118 x129.2.2.2.2.2.1, .row true (cInt .u8) 27 A119 c120 x129.2.2.2.2.2.2.1, .row true cS98 99 A929 c930 r928, .row true (cInt .i64) 3 A121 c122 x129.2.2.2.2.2.2.2.2.1, .row true (cSl (cInt .u8)) 31 A123 c124 x129.2.2.2.2.2.2.2.2.2.1, .row true (cInt .u8) 27 A125 c126 x129.2.2.2.2.2.2.2.2.2.2.1, .box g523 33 [.bool x129.2.2.2.2.2.2.2.1, .slice A121 (List.length x129.2.2.2.2.2.2.2.2.1) c122, .slice A123 (List.length x129.2.2.2.2.2.2.2.2.2.1) c124, .slice A125 (List.length x129.2.2.2.2.2.2.2.2.2.2.1) c126]] ∧ law25_PlayWins_l24 N aProps s raws x129 x567 m1303 r926 r928 rounds931 i932 = some x1298) N ?_ ?_
  ·
   exact ⟨0, [], 0, 0, none, 0, E.pick _ ⟨rfl, rfl, rfl, rfl, rfl, rfl, rfl, trivial⟩, H.sel [0, 7, 1, 2, 3, 4, 5, 6, 12, 8, 9, 10, 11] rfl, hL1299⟩
  clear E H hL1299; intro m1303 a w1302 hI_
  obtain ⟨r926, r928, rounds931, i932, A929, c930, E, H, hP⟩ := hI_
  obtain ⟨m1297, rfl⟩ : ∃ q_, m1303 = q_ + 1 := by cases m1303 with | zero => rw [law25_PlayWins_l24] at hP; cases hP | succ q_ => exact ⟨q_, rfl⟩
  rw [law25_PlayWins_l24] at hP
  refine wp_seq ?_
  refine wp_seq ?_
  refine wp_region_lit ?_
  refine vr tbok 4 [] [(2, .slice A13 (List.length raws) c14), (7, .bool r27), (8, .pointer (some ⟨g108, 0, none⟩)), (9, .pointer (some ⟨g523, 0, none⟩)), (11, .int .u8 x567), (12, .int .i64 rounds931), (13, .int .i64 i932), (67, .bool (decide (i932 < (((List.length raws) : Nat) : Int))))] [] E (by kernel_rfl) trivial ?_
  clear E; intro a E
  refine wpList_nil ?_
  refine th_n ?_
  refine E.cases (t := 67) rfl (fun hb_ E_ => ?_) (fun hb_ E_ => ?_)
  ·
   replace E := E_; clear E_
   have h1305 : i932 < (((List.length raws) : Nat) : Int) := of_decide_eq_true hb_
   clear hb_; replace hP := ite_t h1305 hP
   refine c_true E rfl ?_
   refine wp_skip ?_
   refine th_n ?_
   refine wp_seq ?_
   refine wp_block ?_
   refine wp_seq ?_
   refine wp_region_lit ?_
   refine vr tbok 1 [] [(2, .slice A13 (List.length raws) c14), (7, .bool r27), (8, .pointer (some ⟨g108, 0, none⟩)), (9, .pointer (some ⟨g523, 0, none⟩)), (11, .int .u8 x567), (12, .int .i64 rounds931), (13, .int .i64 i932), (70, .pointer (some ⟨g108, 0, none⟩))] [] E (by kernel_rfl) trivial ?_
   clear E; intro a E
   obtain ⟨r1306, h1307, hP⟩ := bind_inv hP
   obtain ⟨Fa1308, Hc1309, hb1310⟩ := H.call [1, 8] [(2, false), (3, false), (4, false), (5, false), (6, false), (7, false)] rfl rfl ⟨flat_plain, trivial⟩
   refine e_call E rfl rfl Try.func26 rfl rfl rfl (play_Referee_Rank_calls g108 A109 c110 A111 c112 A113 c114 A115 c116 A117 c118 A119 c120 A929 c930 aProps x129.1 x129.2.1 x129.2.2.1 (s.1, s.2) x129.2.2.2.1 x129.2.2.2.2.1 x129.2.2.2.2.2.1 x129.2.2.2.2.2.2.1 r926 r928 true (H.rcap 2 rfl) (H.rcap 3 rfl) (H.rcap 4 rfl) (H.rcap 5 rfl) (H.rcap 6 rfl) (H.rcap 7 rfl) Hc1309 h1307) ?_
   intro v1316 w1315 a hR1317 E_
   obtain ⟨x_, hr_, rfl, HR1319⟩ := hR1317
   subst hr_
   replace E := E_ _ rfl; clear E_
   obtain ⟨H_, hc1318⟩ := hb1310 _ _ HR1319 rfl
   replace H := H_; clear H_; try dsimp only [setn, addE, goneL] at H
   refine vr tbok 1 [] [(2, .slice A13 (List.length raws) c14), (7, .bool r27), (8, .pointer (some ⟨g108, 0, none⟩)), (9, .pointer (some ⟨g523, 0, none⟩)), (11, .int .u8 x567), (12, .int .i64 rounds931), (13, .int .i64 i932), (71, .int .i64 r1306), (72, .pointer (some ⟨g108, 0, none⟩))] [] E (by kernel_rfl) trivial ?_
   clear E; intro a E
   obtain ⟨r1322, h1323, hP⟩ := bind_inv hP
   obtain ⟨Fa1324, Hc1325, hb1326⟩ := H.call [14, 13] [(2, false), (3, false), (4, false), (5, false), (6, false), (7, false)] rfl rfl ⟨flat_plain, trivial⟩
   refine e_call E rfl rfl Try.func27 rfl rfl rfl (play_Referee_Over_calls g108 A109 c110 A111 c112 A113 c114 A115 c116 A117 c118 A119 c120 A929 c930 aProps x129.1 x129.2.1 x129.2.2.1 (s.1, s.2) x129.2.2.2.1 x129.2.2.2.2.1 x129.2.2.2.2.2.1 x129.2.2.2.2.2.2.1 r926 r928 true (H.rcap 2 rfl) (H.rcap 3 rfl) (H.rcap 4 rfl) (H.rcap 5 rfl) (H.rcap 6 rfl) (H.rcap 7 rfl) Hc1325 h1323) ?_
   intro v1332 w1331 a hR1333 E_
   obtain ⟨x_, hr_, rfl, HR1335⟩ := hR1333
   subst hr_
   replace E := E_ _ rfl; clear E_
   obtain ⟨H_, hc1334⟩ := hb1326 _ _ HR1335 rfl
   replace H := H_; clear H_; try dsimp only [setn, addE, goneL] at H
   refine vr tbok 1 [] [(2, .slice A13 (List.length raws) c14), (7, .bool r27), (8, .pointer (some ⟨g108, 0, none⟩)), (9, .pointer (some ⟨g523, 0, none⟩)), (11, .int .u8 x567), (12, .int .i64 rounds931), (13, .int .i64 i932), (71, .int .i64 r1306), (73, .bool r1322), (74, .pointer (some ⟨g108, 0, none⟩))] [] E (by kernel_rfl) trivial ?_
   clear E; intro a E
   obtain ⟨r1338, h1339, hP⟩ := bind_inv hP
   obtain ⟨Fa1340, Hc1341, hb1342⟩ := H.call [16, 15] [(2, false), (3, false), (4, false), (5, false), (6, false), (7, false)] rfl rfl ⟨flat_plain, trivial⟩
   refine e_call E rfl rfl Try.func28 rfl rfl rfl (play_Referee_State_calls g108 A109 c110 A111 c112 A113 c114 A115 c116 A117 c118 A119 c120 A929 c930 aProps x129.1 x129.2.1 x129.2.2.1 (s.1, s.2) x129.2.2.2.1 x129.2.2.2.2.1 x129.2.2.2.2.2.1 x129.2.2.2.2.2.2.1 r926 r928 true (H.rcap 2 rfl) (H.rcap 3 rfl) (H.rcap 4 rfl) (H.rcap 5 rfl) (H.rcap 6 rfl) (H.rcap 7 rfl) Hc1341 h1339) ?_
   intro v1348 w1347 a hR1349 E_
   obtain ⟨x_, hr_, rfl, HR1351⟩ := hR1349
   subst hr_
   replace E := E_ _ rfl; clear E_
   obtain ⟨H_, hc1350⟩ := hb1342 _ _ HR1351 rfl
   replace H := H_; clear H_; try dsimp only [setn, addE, goneL] at H
   refine vr tbok 3 [] [(2, .slice A13 (List.length raws) c14), (7, .bool r27), (8, .pointer (some ⟨g108, 0, none⟩)), (9, .pointer (some ⟨g523, 0, none⟩)), (11, .int .u8 x567), (12, .int .i64 rounds931), (13, .int .i64 i932), (14, .int .i64 r1306), (15, .bool r1322), (16, .int .i64 r1338)] [] E (by kernel_rfl) trivial ?_
   clear E; intro a E
   refine wpList_nil ?_
   refine th_n ?_
   refine wp_seq ?_
   refine wp_region_lit ?_
   obtain ⟨g1354, hP⟩ := ask_inv hP
   obtain ⟨b1355, o1356, e_b1355⟩ := (H.rd 0 rds_ro).addr (idx_pos g1354)
   subst e_b1355
   refine vr tbok 5 [.int .u64 (List.getD raws (Int.toNat i932) 0)] [(2, .slice (some ⟨b1355, o1356, none⟩) (List.length raws) c14), (7, .bool r27), (8, .pointer (some ⟨g108, 0, none⟩)), (9, .pointer (some ⟨g523, 0, none⟩)), (11, .int .u8 x567), (12, .int .i64 rounds931), (13, .int .i64 i932), (14, .int .i64 r1306), (15, .bool r1322), (16, .int .i64 r1338), (77, .pointer (some ⟨g108, 0, none⟩)), (81, .int .u64 (List.getD raws (Int.toNat i932) 0))] [0 ≤ i932 ∧ i932 < (((List.length raws) : Nat) : Int), World.cell? w1347 ⟨b1355, o1356 + (Int.toNat i932) * 1, none⟩ = some (.int .u64 (List.getD raws (Int.toNat i932) 0))] E (by kernel_rfl) ⟨g1354, Rds.at1 (H.rd 0 rds_ro) 0 g1354⟩ ?_
   clear E; intro a E
   obtain ⟨r1357, h1358, hP⟩ := bind_inv hP
   obtain ⟨Fa1359, Hc1360, hb1361⟩ := H.call [18, 17] [(2, false), (3, false), (4, false), (5, false), (6, false), (7, false)] rfl rfl ⟨flat_plain, trivial⟩
   refine e_call E rfl rfl Try.func29 rfl rfl rfl (play_Referee_Move_calls g108 A109 c110 A111 c112 A113 c114 A115 c116 A117 c118 A119 c120 A929 c930 aProps x129.1 x129.2.1 x129.2.2.1 (s.1, s.2) x129.2.2.2.1 x129.2.2.2.2.1 x129.2.2.2.2.2.1 x129.2.2.2.2.2.2.1 r926 r928 true (List.getD raws (Int.toNat i932) 0) (H.rcap 2 rfl) (H.rcap 3 rfl) (H.rcap 4 rfl) (H.rcap 5 rfl) (H.rcap 6 rfl) (H.rcap 7 rfl) Hc1360 h1358) ?_
   intro v1367 w1366 a hR1368 E_
   obtain ⟨x_, A1371, c1372, hr_, rfl, HR1370⟩ := hR1368
   subst hr_
   replace E := E_ _ rfl; clear E_
   obtain ⟨H_, hc1369⟩ := hb1361 _ _ HR1370 rfl
   replace H := H_; clear H_; try dsimp only [setn, addE, goneL] at H
   refine vr tbok 5 [] [(2, .slice (some ⟨b1355, o1356, none⟩) (List.length raws) c14), (7, .bool r27), (8, .pointer (some ⟨g108, 0, none⟩)), (9, .pointer (some ⟨g523, 0, none⟩)), (11, .int .u8 x567), (12, .int .i64 rounds931), (13, .int .i64 i932), (14, .int .i64 r1306), (15, .bool r1322), (16, .int .i64 r1338), (17, .int .u8 r1357.1), (18, .int .i64 r1357.2.1)] [] E (by kernel_rfl) trivial ?_
   clear E; intro a E
   refine wpList_nil ?_
   refine th_n ?_
   refine wp_seq ?_
   obtain ⟨x1378, h1379, hK1380⟩ := bind_inv hP
   clear hP
   refine meet_cut (fun a w1382 => ∃ (x1381 : Bool), Fr a 218 [(2, .slice (some ⟨b1355, o1356, none⟩) (List.length raws) c14), (7, .bool r27), (8, .pointer (some ⟨g108, 0, none⟩)), (9, .pointer (some ⟨g523, 0, none⟩)), (11, .int .u8 x567), (12, .int .i64 rounds931), (13, .int .i64 i932), (14, .int .i64 r1306), (15, .bool r1322), (16, .int .i64 r1338), (17, .int .u8 r1357.1), (18, .int .i64 r1357.2.1), (19, .bool x1381)] ∧ Hp S Fa w0 w1382 [.ro false (cInt .u64) (some ⟨b1355, o1356, none⟩) raws, .row true cBool 4 A109 c110 x129.1, .row true (cInt .i64) 3 A111 c112 x129.2.1, .row true cNode 90 A113 c114 x129.2.2.1, .row true (cInt .i64) 3 A115 c116 x129.2.2.2.2.1, .row true (cSl (cInt .u8)) 31 A117 c118 x129.2.2.2.2.2.1, .row true (cInt .u8) 27 A119 c120 x129.2.2.2.2.2.2.1, .row true cS98 99 A1371 c1372 r1357.2.2.2, .box g108 74 [.int .i64 aProps, .slice A109 (List.length x129.1) c110, .slice A111 (List.length x129.2.1) c112, .slice A113 (List.length x129.2.2.1) c114, .int .u8 s.1, .int .u8 s.2, .bool x129.2.2.2.1, .slice A115 (List.length x129.2.2.2.2.1) c116, .slice A117 (List.length x129.2.2.2.2.2.1) c118, .slice A119 (List.length x129.2.2.2.2.2.2.1) c120, .int .i64 r1357.2.2.1, .slice A1371 (List.length r1357.2.2.2) c1372, .bool true], .row true (cInt .i64) 3 A121 c122 x129.2.2.2.2.2.2.2.2.1, .row true (cSl (cInt .u8)) 31 A123 c124 x129.2.2.2.2.2.2.2.2.2.1, .row true (cInt .u8) 27 A125 c126 x129.2.2.2.2.2.2.2.2.2.2.1, .box g523 33 [.bool x129.2.2.2.2.2.2.2.1, .slice A121 (List.length x129.2.2.2.2.2.2.2.2.1) c122, .slice A123 (List.length x129.2.2.2.2.2.2.2.2.2.1) c124, .slice A125 (List.length x129.2.2.2.2.2.2.2.2.2.2.1) c126]] ∧ x1378 = x1381) ?_ ?_
   ·
    have hP := h1379; clear h1379; rw [law25_PlayWins_j25] at hP
    refine wp_region_lit ?_
    refine vr tbok 6 [.int .u64 (List.getD raws (Int.toNat i932) 0)] [(2, .slice (some ⟨b1355, o1356, none⟩) (List.length raws) c14), (7, .bool r27), (8, .pointer (some ⟨g108, 0, none⟩)), (9, .pointer (some ⟨g523, 0, none⟩)), (11, .int .u8 x567), (12, .int .i64 rounds931), (13, .int .i64 i932), (14, .int .i64 r1306), (15, .bool r1322), (16, .int .i64 r1338), (17, .int .u8 r1357.1), (18, .int .i64 r1357.2.1), (90, .bool (decide ((List.getD raws (Int.toNat i932) 0) < 256)))] [0 ≤ i932 ∧ i932 < (((List.length raws) : Nat) : Int), World.cell? w1366 ⟨b1355, o1356 + (Int.toNat i932) * 1, none⟩ = some (.int .u64 (List.getD raws (Int.toNat i932) 0))] E (by kernel_rfl) ⟨g1354, Rds.at1 (H.rd 0 rds_ro) 0 g1354⟩ ?_
    clear E; intro a E
    refine E.cases (t := 90) rfl (fun hb_ E_ => ?_) (fun hb_ E_ => ?_)
    ·
     replace E := E_; clear E_
     have h1383 : (List.getD raws (Int.toNat i932) 0) < 256 := of_decide_eq_true hb_
     clear hb_; replace hP := ite_t h1383 hP
     refine vr tbok 10 [.int .u64 (List.getD raws (Int.toNat i932) 0), .int .u8 (IntKind.u8.wrap (List.getD raws (Int.toNat i932) 0)), .int .u8 (andNotV .u8 (IntKind.u8.wrap (List.getD raws (Int.toNat i932) 0)) x567)] [(2, .slice (some ⟨b1355, o1356, none⟩) (List.length raws) c14), (7, .bool r27), (8, .pointer (some ⟨g108, 0, none⟩)), (9, .pointer (some ⟨g523, 0, none⟩)), (11, .int .u8 x567), (12, .int .i64 rounds931), (13, .int .i64 i932), (14, .int .i64 r1306), (15, .bool r1322), (16, .int .i64 r1338), (17, .int .u8 r1357.1), (18, .int .i64 r1357.2.1), (19, .bool ((andNotV .u8 (IntKind.u8.wrap (List.getD raws (Int.toNat i932) 0)) x567 : Int) == 0))] [0 ≤ i932 ∧ i932 < (((List.length raws) : Nat) : Int), World.cell? w1366 ⟨b1355, o1356 + (Int.toNat i932) * 1, none⟩ = some (.int .u64 (List.getD raws (Int.toNat i932) 0)), IntKind.u8.wrap (List.getD raws (Int.toNat i932) 0) = (IntKind.u8.wrap (List.getD raws (Int.toNat i932) 0)), IntKind.u8.wrap (BitVec.ofInt (IntKind.bits .u8) (IntKind.u8.wrap (List.getD raws (Int.toNat i932) 0)) &&& ~~~ BitVec.ofInt (IntKind.bits .u8) x567).toNat = andNotV .u8 (IntKind.u8.wrap (List.getD raws (Int.toNat i932) 0)) x567] E (by kernel_rfl) ⟨g1354, Rds.at1 (H.rd 0 rds_ro) 0 g1354, rfl, rfl⟩ ?_
     clear E; intro a E
     refine wpList_nil ?_
     have hx_ := Option.some.inj hP
     exact .inl ⟨rfl, (andNotV .u8 (IntKind.u8.wrap (List.getD raws (Int.toNat i932) 0)) x567 : Int) == 0, E.pick _ ⟨rfl, rfl, rfl, rfl, rfl, rfl, rfl, rfl, rfl, rfl, rfl, rfl, rfl, trivial⟩, H.sel [0, 2, 3, 4, 5, 6, 7, 20, 19, 9, 10, 11, 12] rfl, hx_.symm⟩
    replace E := E_; clear E_
    have h1384 : ¬ ((List.getD raws (Int.toNat i932) 0) < 256) := of_decide_eq_false hb_
    clear hb_; replace hP := ite_f h1384 hP
    refine vr tbok 10 [] [(2, .slice (some ⟨b1355, o1356, none⟩) (List.length raws) c14), (7, .bool r27), (8, .pointer (some ⟨g108, 0, none⟩)), (9, .pointer (some ⟨g523, 0, none⟩)), (11, .int .u8 x567), (12, .int .i64 rounds931), (13, .int .i64 i932), (14, .int .i64 r1306), (15, .bool r1322), (16, .int .i64 r1338), (17, .int .u8 r1357.1), (18, .int .i64 r1357.2.1), (19, .bool false)] [] E (by kernel_rfl) trivial ?_
    clear E; intro a E
    refine wpList_nil ?_
    have hx_ := Option.some.inj hP
    exact .inl ⟨rfl, false, E.pick _ ⟨rfl, rfl, rfl, rfl, rfl, rfl, rfl, rfl, rfl, rfl, rfl, rfl, rfl, trivial⟩, H.sel [0, 2, 3, 4, 5, 6, 7, 20, 19, 9, 10, 11, 12] rfl, hx_.symm⟩
   clear E H h1379; rintro a w1382 ⟨x1381, E, H, hx_⟩
   subst hx_; have hP := hK1380; clear hK1380
   refine th_n ?_
   refine wp_seq ?_
   refine wp_seq ?_
   obtain ⟨x1416, h1417, hK1418⟩ := bind_inv hP
   clear hP
   refine meet_cut (fun a w1420 => ∃ (x1419 : Bool), Fr a 218 [(2, .slice (some ⟨b1355, o1356, none⟩) (List.length raws) c14), (7, .bool r27), (8, .pointer (some ⟨g108, 0, none⟩)), (9, .pointer (some ⟨g523, 0, none⟩)), (11, .int .u8 x567), (12, .int .i64 rounds931), (13, .int .i64 i932), (14, .int .i64 r1306), (16, .int .i64 r1338), (17, .int .u8 r1357.1), (18, .int .i64 r1357.2.1), (126, .bool x1419)] ∧ Hp S Fa w0 w1420 [.ro false (cInt .u64) (some ⟨b1355, o1356, none⟩) raws, .row true cBool 4 A109 c110 x129.1, .row true (cInt .i64) 3 A111 c112 x129.2.1, .row true cNode 90 A113 c114 x129.2.2.1, .row true (cInt .i64) 3 A115 c116 x129.2.2.2.2.1, .row true (cSl (cInt .u8)) 31 A117 c118 x129.2.2.2.2.2.1, .row true (cInt .u8) 27 A119 c120 x129.2.2.2.2.2.2.1, .row true cS98 99 A1371 c1372 r1357.2.2.2, .box g108 74 [.int .i64 aProps, .slice A109 (List.length x129.1) c110, .slice A111 (List.length x129.2.1) c112, .slice A113 (List.length x129.2.2.1) c114, .int .u8 s.1, .int .u8 s.2, .bool x129.2.2.2.1, .slice A115 (List.length x129.2.2.2.2.1) c116, .slice A117 (List.length x129.2.2.2.2.2.1) c118, .slice A119 (List.length x129.2.2.2.2.2.2.1) c120, .int .i64 r1357.2.2.1, .slice A1371 (List.length r1357.2.2.2) c1372, .bool true], .row true (cInt .i64) 3 A121 c122 x129.2.2.2.2.2.2.2.2.1, .row true (cSl (cInt .u8)) 31 A123 c124 x129.2.2.2.2.2.2.2.2.2.1, .row true (cInt .u8) 27 A125 c126 x129.2.2.2.2.2.2.2.2.2.2.1, .box g523 33 [.bool x129.2.2.2.2.2.2.2.1, .slice A121 (List.length x129.2.2.2.2.2.2.2.2.1) c122, .slice A123 (List.length x129.2.2.2.2.2.2.2.2.2.1) c124, .slice A125 (List.length x129.2.2.2.2.2.2.2.2.2.2.1) c126]] ∧ x1416 = x1419) ?_ ?_
   ·
    have hP := h1417; clear h1417; rw [law25_PlayWins_j26] at hP
    refine wp_region_lit ?_
    refine vr tbok 4 [] [(2, .slice (some ⟨b1355, o1356, none⟩) (List.length raws) c14), (7, .bool r27), (8, .pointer (some ⟨g108, 0, none⟩)), (9, .pointer (some ⟨g523, 0, none⟩)), (11, .int .u8 x567), (12, .int .i64 rounds931), (13, .int .i64 i932), (14, .int .i64 r1306), (15, .bool r1322), (16, .int .i64 r1338), (17, .int .u8 r1357.1), (18, .int .i64 r1357.2.1), (19, .bool x1378), (101, .bool ((r1357.2.1 : Int) == 0)), (103, .bool x1378)] [] E (by kernel_rfl) trivial ?_
    clear E; intro a E
    refine E.cases (t := 103) rfl (fun hb_ E_ => ?_) (fun hb_ E_ => ?_)
    ·
     replace E := E_; clear E_
     have h1421 : x1378 = true := hb_
     clear hb_; replace hP := ite_t h1421 hP
     refine vr tbok 5 [] [(2, .slice (some ⟨b1355, o1356, none⟩) (List.length raws) c14), (7, .bool r27), (8, .pointer (some ⟨g108, 0, none⟩)), (9, .pointer (some ⟨g523, 0, none⟩)), (11, .int .u8 x567), (12, .int .i64 rounds931), (13, .int .i64 i932), (14, .int .i64 r1306), (15, .bool r1322), (16, .int .i64 r1338), (17, .int .u8 r1357.1), (18, .int .i64 r1357.2.1), (19, .bool x1378), (108, .bool (!(((r1357.2.1 : Int) == 0) == (!r1322))))] [] E (by kernel_rfl) trivial ?_
     clear E; intro a E
     refine E.cases (t := 108) rfl (fun hb_ E_ => ?_) (fun hb_ E_ => ?_)
     ·
      replace E := E_; clear E_
      have h1422 : ¬ (((r1357.2.1 : Int) == 0) = (!r1322)) := (by simpa using hb_)
      clear hb_; replace hP := ite_f h1422 hP
      refine vr tbok 18 [] [(2, .slice (some ⟨b1355, o1356, none⟩) (List.length raws) c14), (7, .bool r27), (8, .pointer (some ⟨g108, 0, none⟩)), (9, .pointer (some ⟨g523, 0, none⟩)), (11, .int .u8 x567), (12, .int .i64 rounds931), (13, .int .i64 i932), (14, .int .i64 r1306), (16, .int .i64 r1338), (17, .int .u8 r1357.1), (18, .int .i64 r1357.2.1), (126, .bool true)] [] E (by kernel_rfl) trivial ?_
      clear E; intro a E
      refine wpList_nil ?_
      have hx_ := Option.some.inj hP
      exact .inl ⟨rfl, true, E.pick _ ⟨rfl, rfl, rfl, rfl, rfl, rfl, rfl, rfl, rfl, rfl, rfl, rfl, trivial⟩, H.sel [0, 1, 2, 3, 4, 5, 6, 7, 8, 9, 10, 11, 12] rfl, hx_.symm⟩
     replace E := E_; clear E_
     have h1423 : ((r1357.2.1 : Int) == 0) = (!r1322) := (by simpa using hb_)
     clear hb_; replace hP := ite_t h1423 hP
     refine vr tbok 2 [] [(2, .slice (some ⟨b1355, o1356, none⟩) (List.length raws) c14), (7, .bool r27), (8, .pointer (some ⟨g108, 0, none⟩)), (9, .pointer (some ⟨g523, 0, none⟩)), (11, .int .u8 x567), (12, .int .i64 rounds931), (13, .int .i64 i932), (14, .int .i64 r1306), (15, .bool r1322), (16, .int .i64 r1338), (17, .int .u8 r1357.1), (18, .int .i64 r1357.2.1), (19, .bool x1378), (108, .bool false), (110, .bool r1322)] [] E (by kernel_rfl) trivial ?_
     clear E; intro a E
     refine E.cases (t := 110) rfl (fun hb_ E_ => ?_) (fun hb_ E_ => ?_)
     ·
      replace E := E_; clear E_
      have h1424 : r1322 = true := hb_
      clear hb_; replace hP := ite_t h1424 hP
      refine vr tbok 5 [] [(2, .slice (some ⟨b1355, o1356, none⟩) (List.length raws) c14), (7, .bool r27), (8, .pointer (some ⟨g108, 0, none⟩)), (9, .pointer (some ⟨g523, 0, none⟩)), (11, .int .u8 x567), (12, .int .i64 rounds931), (13, .int .i64 i932), (14, .int .i64 r1306), (15, .bool r1322), (16, .int .i64 r1338), (17, .int .u8 r1357.1), (18, .int .i64 r1357.2.1), (19, .bool x1378), (115, .bool ((r1357.2.1 : Int) != 351))] [] E (by kernel_rfl) trivial ?_
      clear E; intro a E
      refine E.cases (t := 115) rfl (fun hb_ E_ => ?_) (fun hb_ E_ => ?_)
      ·
       replace E := E_; clear E_
       have h1425 : ¬ ((r1357.2.1 : Int) = 351) := bne_iff_ne.1 hb_
       clear hb_; replace hP := ite_f h1425 hP
       refine vr tbok 11 [] [(2, .slice (some ⟨b1355, o1356, none⟩) (List.length raws) c14), (7, .bool r27), (8, .pointer (some ⟨g108, 0, none⟩)), (9, .pointer (some ⟨g523, 0, none⟩)), (11, .int .u8 x567), (12, .int .i64 rounds931), (13, .int .i64 i932), (14, .int .i64 r1306), (16, .int .i64 r1338), (17, .int .u8 r1357.1), (18, .int .i64 r1357.2.1), (126, .bool true)] [] E (by kernel_rfl) trivial ?_
       clear E; intro a E
       refine wpList_nil ?_
       have hx_ := Option.some.inj hP
       exact .inl ⟨rfl, true, E.pick _ ⟨rfl, rfl, rfl, rfl, rfl, rfl, rfl, rfl, rfl, rfl, rfl, rfl, trivial⟩, H.sel [0, 1, 2, 3, 4, 5, 6, 7, 8, 9, 10, 11, 12] rfl, hx_.symm⟩
      replace E := E_; clear E_
      have h1426 : (r1357.2.1 : Int) = 351 := bne_eq_false_iff_eq.1 hb_
      clear hb_; replace hP := ite_t h1426 hP
      refine vr tbok 3 [] [(2, .slice (some ⟨b1355, o1356, none⟩) (List.length raws) c14), (7, .bool r27), (8, .pointer (some ⟨g108, 0, none⟩)), (9, .pointer (some ⟨g523, 0, none⟩)), (11, .int .u8 x567), (12, .int .i64 rounds931), (13, .int .i64 i932), (14, .int .i64 r1306), (16, .int .i64 r1338), (17, .int .u8 r1357.1), (18, .int .i64 r1357.2.1), (19, .bool x1378), (115, .bool false), (118, .bool (!r1322))] [] E (by kernel_rfl) trivial ?_
      clear E; intro a E
      refine E.cases (t := 118) rfl (fun hb_ E_ => ?_) (fun hb_ E_ => ?_)
      ·
       replace E := E_; clear E_
       have h1427 : ¬ (r1322 = true) := (ne_true_of_eq_false (not_t hb_))
       clear hb_; replace hP := ite_f h1427 hP
       refine vr tbok 4 [] [(2, .slice (some ⟨b1355, o1356, none⟩) (List.length raws) c14), (7, .bool r27), (8, .pointer (some ⟨g108, 0, none⟩)), (9, .pointer (some ⟨g523, 0, none⟩)), (11, .int .u8 x567), (12, .int .i64 rounds931), (13, .int .i64 i932), (14, .int .i64 r1306), (16, .int .i64 r1338), (17, .int .u8 r1357.1), (18, .int .i64 r1357.2.1), (115, .bool false), (122, .bool (!x1378))] [] E (by kernel_rfl) trivial ?_
       clear E; intro a E
       refine E.cases (t := 122) rfl (fun hb_ E_ => ?_) (fun hb_ E_ => ?_)
       ·
        replace E := E_; clear E_
        have h1428 : ¬ (x1378 = true) := (ne_true_of_eq_false (not_t hb_))
        clear hb_; replace hP := ite_f h1428 hP
        refine vr tbok 4 [] [(2, .slice (some ⟨b1355, o1356, none⟩) (List.length raws) c14), (7, .bool r27), (8, .pointer (some ⟨g108, 0, none⟩)), (9, .pointer (some ⟨g523, 0, none⟩)), (11, .int .u8 x567), (12, .int .i64 rounds931), (13, .int .i64 i932), (14, .int .i64 r1306), (16, .int .i64 r1338), (17, .int .u8 r1357.1), (18, .int .i64 r1357.2.1), (126, .bool ((r1357.2.1 : Int) != 14))] [] E (by kernel_rfl) trivial ?_
        clear E; intro a E
        refine wpList_nil ?_
        have hx_ := Option.some.inj hP
        exact .inl ⟨rfl, (r1357.2.1 : Int) != 14, E.pick _ ⟨rfl, rfl, rfl, rfl, rfl, rfl, rfl, rfl, rfl, rfl, rfl, rfl, trivial⟩, H.sel [0, 1, 2, 3, 4, 5, 6, 7, 8, 9, 10, 11, 12] rfl, hx_.symm⟩
       replace E := E_; clear E_
       have h1429 : x1378 = true := (not_f hb_)
       clear hb_; replace hP := ite_t h1429 hP
       refine vr tbok 4 [] [(2, .slice (some ⟨b1355, o1356, none⟩) (List.length raws) c14), (7, .bool r27), (8, .pointer (some ⟨g108, 0, none⟩)), (9, .pointer (some ⟨g523, 0, none⟩)), (11, .int .u8 x567), (12, .int .i64 rounds931), (13, .int .i64 i932), (14, .int .i64 r1306), (16, .int .i64 r1338), (17, .int .u8 r1357.1), (18, .int .i64 r1357.2.1), (126, .bool false)] [] E (by kernel_rfl) trivial ?_
       clear E; intro a E
       refine wpList_nil ?_
       have hx_ := Option.some.inj hP
       exact .inl ⟨rfl, false, E.pick _ ⟨rfl, rfl, rfl, rfl, rfl, rfl, rfl, rfl, rfl, rfl, rfl, rfl, trivial⟩, H.sel [0, 1, 2, 3, 4, 5, 6, 7, 8, 9, 10, 11, 12] rfl, hx_.symm⟩
      replace E := E_; clear E_
      have h1430 : r1322 = true := (not_f hb_)
      clear hb_; replace hP := ite_t h1430 hP
      refine vr tbok 8 [] [(2, .slice (some ⟨b1355, o1356, none⟩) (List.length raws) c14), (7, .bool r27), (8, .pointer (some ⟨g108, 0, none⟩)), (9, .pointer (some ⟨g523, 0, none⟩)), (11, .int .u8 x567), (12, .int .i64 rounds931), (13, .int .i64 i932), (14, .int .i64 r1306), (16, .int .i64 r1338), (17, .int .u8 r1357.1), (18, .int .i64 r1357.2.1), (126, .bool false)] [] E (by kernel_rfl) trivial ?_
      clear E; intro a E
      refine wpList_nil ?_
      have hx_ := Option.some.inj hP
      exact .inl ⟨rfl, false, E.pick _ ⟨rfl, rfl, rfl, rfl, rfl, rfl, rfl, rfl, rfl, rfl, rfl, rfl, trivial⟩, H.sel [0, 1, 2, 3, 4, 5, 6, 7, 8, 9, 10, 11, 12] rfl, hx_.symm⟩
     replace E := E_; clear E_
     have h1431 : ¬ (r1322 = true) := (ne_true_of_eq_false hb_)
     clear hb_; replace hP := ite_f h1431 hP
     refine vr tbok 8 [] [(2, .slice (some ⟨b1355, o1356, none⟩) (List.length raws) c14), (7, .bool r27), (8, .pointer (some ⟨g108, 0, none⟩)), (9, .pointer (some ⟨g523, 0, none⟩)), (11, .int .u8 x567), (12, .int .i64 rounds931), (13, .int .i64 i932), (14, .int .i64 r1306), (16, .int .i64 r1338), (17, .int .u8 r1357.1), (18, .int .i64 r1357.2.1), (19, .bool x1378), (115, .bool false), (118, .bool (!r1322))] [] E (by kernel_rfl) trivial ?_
     clear E; intro a E
     refine E.cases (t := 118) rfl (fun hb_ E_ => ?_) (fun hb_ E_ => ?_)
     ·
      replace E := E_; clear E_
      have h1432 : ¬ (r1322 = true) := (ne_true_of_eq_false (not_t hb_))
      clear hb_; replace hP := ite_f h1432 hP
      refine vr tbok 4 [] [(2, .slice (some ⟨b1355, o1356, none⟩) (List.length raws) c14), (7, .bool r27), (8, .pointer (some ⟨g108, 0, none⟩)), (9, .pointer (some ⟨g523, 0, none⟩)), (11, .int .u8 x567), (12, .int .i64 rounds931), (13, .int .i64 i932), (14, .int .i64 r1306), (16, .int .i64 r1338), (17, .int .u8 r1357.1), (18, .int .i64 r1357.2.1), (115, .bool false), (122, .bool (!x1378))] [] E (by kernel_rfl) trivial ?_
      clear E; intro a E
      refine E.cases (t := 122) rfl (fun hb_ E_ => ?_) (fun hb_ E_ => ?_)
      ·
       replace E := E_; clear E_
       have h1433 : ¬ (x1378 = true) := (ne_true_of_eq_false (not_t hb_))
       clear hb_; replace hP := ite_f h1433 hP
       refine vr tbok 4 [] [(2, .slice (some ⟨b1355, o1356, none⟩) (List.length raws) c14), (7, .bool r27), (8, .pointer (some ⟨g108, 0, none⟩)), (9, .pointer (some ⟨g523, 0, none⟩)), (11, .int .u8 x567), (12, .int .i64 rounds931), (13, .int .i64 i932), (14, .int .i64 r1306), (16, .int .i64 r1338), (17, .int .u8 r1357.1), (18, .int .i64 r1357.2.1), (126, .bool ((r1357.2.1 : Int) != 14))] [] E (by kernel_rfl) trivial ?_
       clear E; intro a E
       refine wpList_nil ?_
       have hx_ := Option.some.inj hP
       exact .inl ⟨rfl, (r1357.2.1 : Int) != 14, E.pick _ ⟨rfl, rfl, rfl, rfl, rfl, rfl, rfl, rfl, rfl, rfl, rfl, rfl, trivial⟩, H.sel [0, 1, 2, 3, 4, 5, 6, 7, 8, 9, 10, 11, 12] rfl, hx_.symm⟩
      replace E := E_; clear E_
      have h1434 : x1378 = true := (not_f hb_)
      clear hb_; replace hP := ite_t h1434 hP
      refine vr tbok 4 [] [(2, .slice (some ⟨b1355, o1356, none⟩) (List.length raws) c14), (7, .bool r27), (8, .pointer (some ⟨g108, 0, none⟩)), (9, .pointer (some ⟨g523, 0, none⟩)), (11, .int .u8 x567), (12, .int .i64 rounds931), (13, .int .i64 i932), (14, .int .i64 r1306), (16, .int .i64 r1338), (17, .int .u8 r1357.1), (18, .int .i64 r1357.2.1), (126, .bool false)] [] E (by kernel_rfl) trivial ?_
      clear E; intro a E
      refine wpList_nil ?_
      have hx_ := Option.some.inj hP
      exact .inl ⟨rfl, false, E.pick _ ⟨rfl, rfl, rfl, rfl, rfl, rfl, rfl, rfl, rfl, rfl, rfl, rfl, trivial⟩, H.sel [0, 1, 2, 3, 4, 5, 6, 7, 8, 9, 10, 11, 12] rfl, hx_.symm⟩
     replace E := E_; clear E_
     have h1435 : r1322 = true := (not_f hb_)
     clear hb_; replace hP := ite_t h1435 hP
     refine vr tbok 8 [] [(2, .slice (some ⟨b1355, o1356, none⟩) (List.length raws) c14), (7, .bool r27), (8, .pointer (some ⟨g108, 0, none⟩)), (9, .pointer (some ⟨g523, 0, none⟩)), (11, .int .u8 x567), (12, .int .i64 rounds931), (13, .int .i64 i932), (14, .int .i64 r1306), (16, .int .i64 r1338), (17, .int .u8 r1357.1), (18, .int .i64 r1357.2.1), (126, .bool false)] [] E (by kernel_rfl) trivial ?_
     clear E; intro a E
     refine wpList_nil ?_
     have hx_ := Option.some.inj hP
     exact .inl ⟨rfl, false, E.pick _ ⟨rfl, rfl, rfl, rfl, rfl, rfl, rfl, rfl, rfl, rfl, rfl, rfl, trivial⟩, H.sel [0, 1, 2, 3, 4, 5, 6, 7, 8, 9, 10, 11, 12] rfl, hx_.symm⟩
    replace E := E_; clear E_
    have h1436 : ¬ (x1378 = true) := (ne_true_of_eq_false hb_)
    clear hb_; replace hP := ite_f h1436 hP
    refine vr tbok 5 [] [(2, .slice (some ⟨b1355, o1356, none⟩) (List.length raws) c14), (7, .bool r27), (8, .pointer (some ⟨g108, 0, none⟩)), (9, .pointer (some ⟨g523, 0, none⟩)), (11, .int .u8 x567), (12, .int .i64 rounds931), (13, .int .i64 i932), (14, .int .i64 r1306), (15, .bool r1322), (16, .int .i64 r1338), (17, .int .u8 r1357.1), (18, .int .i64 r1357.2.1), (19, .bool x1378), (108, .bool (!(((r1357.2.1 : Int) == 0) == false)))] [] E (by kernel_rfl) trivial ?_
    clear E; intro a E
    refine E.cases (t := 108) rfl (fun hb_ E_ => ?_) (fun hb_ E_ => ?_)
    ·
     replace E := E_; clear E_
     have h1437 : ¬ (((r1357.2.1 : Int) == 0) = false) := (by simpa using hb_)
     clear hb_; replace hP := ite_f h1437 hP
     refine vr tbok 18 [] [(2, .slice (some ⟨b1355, o1356, none⟩) (List.length raws) c14), (7, .bool r27), (8, .pointer (some ⟨g108, 0, none⟩)), (9, .pointer (some ⟨g523, 0, none⟩)), (11, .int .u8 x567), (12, .int .i64 rounds931), (13, .int .i64 i932), (14, .int .i64 r1306), (16, .int .i64 r1338), (17, .int .u8 r1357.1), (18, .int .i64 r1357.2.1), (126, .bool true)] [] E (by kernel_rfl) trivial ?_
     clear E; intro a E
     refine wpList_nil ?_
     have hx_ := Option.some.inj hP
     exact .inl ⟨rfl, true, E.pick _ ⟨rfl, rfl, rfl, rfl, rfl, rfl, rfl, rfl, rfl, rfl, rfl, rfl, trivial⟩, H.sel [0, 1, 2, 3, 4, 5, 6, 7, 8, 9, 10, 11, 12] rfl, hx_.symm⟩
    replace E := E_; clear E_
    have h1438 : ((r1357.2.1 : Int) == 0) = false := (by simpa using hb_)
    clear hb_; replace hP := ite_t h1438 hP
    refine vr tbok 2 [] [(2, .slice (some ⟨b1355, o1356, none⟩) (List.length raws) c14), (7, .bool r27), (8, .pointer (some ⟨g108, 0, none⟩)), (9, .pointer (some ⟨g523, 0, none⟩)), (11, .int .u8 x567), (12, .int .i64 rounds931), (13, .int .i64 i932), (14, .int .i64 r1306), (15, .bool r1322), (16, .int .i64 r1338), (17, .int .u8 r1357.1), (18, .int .i64 r1357.2.1), (19, .bool x1378), (108, .bool false), (110, .bool r1322)] [] E (by kernel_rfl) trivial ?_
    clear E; intro a E
    refine E.cases (t := 110) rfl (fun hb_ E_ => ?_) (fun hb_ E_ => ?_)
    ·
     replace E := E_; clear E_
     have h1439 : r1322 = true := hb_
     clear hb_; replace hP := ite_t h1439 hP
     refine vr tbok 5 [] [(2, .slice (some ⟨b1355, o1356, none⟩) (List.length raws) c14), (7, .bool r27), (8, .pointer (some ⟨g108, 0, none⟩)), (9, .pointer (some ⟨g523, 0, none⟩)), (11, .int .u8 x567), (12, .int .i64 rounds931), (13, .int .i64 i932), (14, .int .i64 r1306), (15, .bool r1322), (16, .int .i64 r1338), (17, .int .u8 r1357.1), (18, .int .i64 r1357.2.1), (19, .bool x1378), (115, .bool ((r1357.2.1 : Int) != 351))] [] E (by kernel_rfl) trivial ?_
     clear E; intro a E
     refine E.cases (t := 115) rfl (fun hb_ E_ => ?_) (fun hb_ E_ => ?_)
     ·
      replace E := E_; clear E_
      have h1440 : ¬ ((r1357.2.1 : Int) = 351) := bne_iff_ne.1 hb_
      clear hb_; replace hP := ite_f h1440 hP
      refine vr tbok 11 [] [(2, .slice (some ⟨b1355, o1356, none⟩) (List.length raws) c14), (7, .bool r27), (8, .pointer (some ⟨g108, 0, none⟩)), (9, .pointer (some ⟨g523, 0, none⟩)), (11, .int .u8 x567), (12, .int .i64 rounds931), (13, .int .i64 i932), (14, .int .i64 r1306), (16, .int .i64 r1338), (17, .int .u8 r1357.1), (18, .int .i64 r1357.2.1), (126, .bool true)] [] E (by kernel_rfl) trivial ?_
      clear E; intro a E
      refine wpList_nil ?_
      have hx_ := Option.some.inj hP
      exact .inl ⟨rfl, true, E.pick _ ⟨rfl, rfl, rfl, rfl, rfl, rfl, rfl, rfl, rfl, rfl, rfl, rfl, trivial⟩, H.sel [0, 1, 2, 3, 4, 5, 6, 7, 8, 9, 10, 11, 12] rfl, hx_.symm⟩
     replace E := E_; clear E_
     have h1441 : (r1357.2.1 : Int) = 351 := bne_eq_false_iff_eq.1 hb_
     clear hb_; replace hP := ite_t h1441 hP
     refine vr tbok 3 [] [(2, .slice (some ⟨b1355, o1356, none⟩) (List.length raws) c14), (7, .bool r27), (8, .pointer (some ⟨g108, 0, none⟩)), (9, .pointer (some ⟨g523, 0, none⟩)), (11, .int .u8 x567), (12, .int .i64 rounds931), (13, .int .i64 i932), (14, .int .i64 r1306), (16, .int .i64 r1338), (17, .int .u8 r1357.1), (18, .int .i64 r1357.2.1), (19, .bool x1378), (115, .bool false), (118, .bool (!r1322))] [] E (by kernel_rfl) trivial ?_
     clear E; intro a E
     refine E.cases (t := 118) rfl (fun hb_ E_ => ?_) (fun hb_ E_ => ?_)
     ·
      replace E := E_; clear E_
      have h1442 : ¬ (r1322 = true) := (ne_true_of_eq_false (not_t hb_))
      clear hb_; replace hP := ite_f h1442 hP
      refine vr tbok 4 [] [(2, .slice (some ⟨b1355, o1356, none⟩) (List.length raws) c14), (7, .bool r27), (8, .pointer (some ⟨g108, 0, none⟩)), (9, .pointer (some ⟨g523, 0, none⟩)), (11, .int .u8 x567), (12, .int .i64 rounds931), (13, .int .i64 i932), (14, .int .i64 r1306), (16, .int .i64 r1338), (17, .int .u8 r1357.1), (18, .int .i64 r1357.2.1), (115, .bool false), (122, .bool (!x1378))] [] E (by kernel_rfl) trivial ?_
      clear E; intro a E
      refine E.cases (t := 122) rfl (fun hb_ E_ => ?_) (fun hb_ E_ => ?_)
      ·
       replace E := E_; clear E_
       have h1443 : ¬ (x1378 = true) := (ne_true_of_eq_false (not_t hb_))
       clear hb_; replace hP := ite_f h1443 hP
       refine vr tbok 4 [] [(2, .slice (some ⟨b1355, o1356, none⟩) (List.length raws) c14), (7, .bool r27), (8, .pointer (some ⟨g108, 0, none⟩)), (9, .pointer (some ⟨g523, 0, none⟩)), (11, .int .u8 x567), (12, .int .i64 rounds931), (13, .int .i64 i932), (14, .int .i64 r1306), (16, .int .i64 r1338), (17, .int .u8 r1357.1), (18, .int .i64 r1357.2.1), (126, .bool ((r1357.2.1 : Int) != 14))] [] E (by kernel_rfl) trivial ?_
       clear E; intro a E
       refine wpList_nil ?_
       have hx_ := Option.some.inj hP
       exact .inl ⟨rfl, (r1357.2.1 : Int) != 14, E.pick _ ⟨rfl, rfl, rfl, rfl, rfl, rfl, rfl, rfl, rfl, rfl, rfl, rfl, trivial⟩, H.sel [0, 1, 2, 3, 4, 5, 6, 7, 8, 9, 10, 11, 12] rfl, hx_.symm⟩
      replace E := E_; clear E_
      have h1444 : x1378 = true := (not_f hb_)
      clear hb_; replace hP := ite_t h1444 hP
      refine vr tbok 4 [] [(2, .slice (some ⟨b1355, o1356, none⟩) (List.length raws) c14), (7, .bool r27), (8, .pointer (some ⟨g108, 0, none⟩)), (9, .pointer (some ⟨g523, 0, none⟩)), (11, .int .u8 x567), (12, .int .i64 rounds931), (13, .int .i64 i932), (14, .int .i64 r1306), (16, .int .i64 r1338), (17, .int .u8 r1357.1), (18, .int .i64 r1357.2.1), (126, .bool false)] [] E (by kernel_rfl) trivial ?_
      clear E; intro a E
      refine wpList_nil ?_
      have hx_ := Option.some.inj hP
      exact .inl ⟨rfl, false, E.pick _ ⟨rfl, rfl, rfl, rfl, rfl, rfl, rfl, rfl, rfl, rfl, rfl, rfl, trivial⟩, H.sel [0, 1, 2, 3, 4, 5, 6, 7, 8, 9, 10, 11, 12] rfl, hx_.symm⟩
     replace E := E_; clear E_
     have h1445 : r1322 = true := (not_f hb_)
     clear hb_; replace hP := ite_t h1445 hP
     refine vr tbok 8 [] [(2, .slice (some ⟨b1355, o1356, none⟩) (List.length raws) c14), (7, .bool r27), (8, .pointer (some ⟨g108, 0, none⟩)), (9, .pointer (some ⟨g523, 0, none⟩)), (11, .int .u8 x567), (12, .int .i64 rounds931), (13, .int .i64 i932), (14, .int .i64 r1306), (16, .int .i64 r1338), (17, .int .u8 r1357.1), (18, .int .i64 r1357.2.1), (126, .bool false)] [] E (by kernel_rfl) trivial ?_
     clear E; intro a E
     refine wpList_nil ?_
     have hx_ := Option.some.inj hP
     exact .inl ⟨rfl, false, E.pick _ ⟨rfl, rfl, rfl, rfl, rfl, rfl, rfl, rfl, rfl, rfl, rfl, rfl, trivial⟩, H.sel [0, 1, 2, 3, 4, 5, 6, 7, 8, 9, 10, 11, 12] rfl, hx_.symm⟩
    replace E := E_; clear E_
    have h1446 : ¬ (r1322 = true) := (ne_true_of_eq_false hb_)
    clear hb_; replace hP := ite_f h1446 hP
    refine vr tbok 8 [] [(2, .slice (some ⟨b1355, o1356, none⟩) (List.length raws) c14), (7, .bool r27), (8, .pointer (some ⟨g108, 0, none⟩)), (9, .pointer (some ⟨g523, 0, none⟩)), (11, .int .u8 x567), (12, .int .i64 rounds931), (13, .int .i64 i932), (14, .int .i64 r1306), (16, .int .i64 r1338), (17, .int .u8 r1357.1), (18, .int .i64 r1357.2.1), (19, .bool x1378), (115, .bool false), (118, .bool (!r1322))] [] E (by kernel_rfl) trivial ?_
    clear E; intro a E
    refine E.cases (t := 118) rfl (fun hb_ E_ => ?_) (fun hb_ E_ => ?_)
    ·
     replace E := E_; clear E_
     have h1447 : ¬ (r1322 = true) := (ne_true_of_eq_false (not_t hb_))
     clear hb_; replace hP := ite_f h1447 hP
     refine vr tbok 4 [] [(2, .slice (some ⟨b1355, o1356, none⟩) (List.length raws) c14), (7, .bool r27), (8, .pointer (some ⟨g108, 0, none⟩)), (9, .pointer (some ⟨g523, 0, none⟩)), (11, .int .u8 x567), (12, .int .i64 rounds931), (13, .int .i64 i932), (14, .int .i64 r1306), (16, .int .i64 r1338), (17, .int .u8 r1357.1), (18, .int .i64 r1357.2.1), (115, .bool false), (122, .bool (!x1378))] [] E (by kernel_rfl) trivial ?_
     clear E; intro a E
     refine E.cases (t := 122) rfl (fun hb_ E_ => ?_) (fun hb_ E_ => ?_)
     ·
      replace E := E_; clear E_
      have h1448 : ¬ (x1378 = true) := (ne_true_of_eq_false (not_t hb_))
      clear hb_; replace hP := ite_f h1448 hP
      refine vr tbok 4 [] [(2, .slice (some ⟨b1355, o1356, none⟩) (List.length raws) c14), (7, .bool r27), (8, .pointer (some ⟨g108, 0, none⟩)), (9, .pointer (some ⟨g523, 0, none⟩)), (11, .int .u8 x567), (12, .int .i64 rounds931), (13, .int .i64 i932), (14, .int .i64 r1306), (16, .int .i64 r1338), (17, .int .u8 r1357.1), (18, .int .i64 r1357.2.1), (126, .bool ((r1357.2.1 : Int) != 14))] [] E (by kernel_rfl) trivial ?_
      clear E; intro a E
      refine wpList_nil ?_
      have hx_ := Option.some.inj hP
      exact .inl ⟨rfl, (r1357.2.1 : Int) != 14, E.pick _ ⟨rfl, rfl, rfl, rfl, rfl, rfl, rfl, rfl, rfl, rfl, rfl, rfl, trivial⟩, H.sel [0, 1, 2, 3, 4, 5, 6, 7, 8, 9, 10, 11, 12] rfl, hx_.symm⟩
     replace E := E_; clear E_
     have h1449 : x1378 = true := (not_f hb_)
     clear hb_; replace hP := ite_t h1449 hP
     refine vr tbok 4 [] [(2, .slice (some ⟨b1355, o1356, none⟩) (List.length raws) c14), (7, .bool r27), (8, .pointer (some ⟨g108, 0, none⟩)), (9, .pointer (some ⟨g523, 0, none⟩)), (11, .int .u8 x567), (12, .int .i64 rounds931), (13, .int .i64 i932), (14, .int .i64 r1306), (16, .int .i64 r1338), (17, .int .u8 r1357.1), (18, .int .i64 r1357.2.1), (126, .bool false)] [] E (by kernel_rfl) trivial ?_
     clear E; intro a E
     refine wpList_nil ?_
     have hx_ := Option.some.inj hP
     exact .inl ⟨rfl, false, E.pick _ ⟨rfl, rfl, rfl, rfl, rfl, rfl, rfl, rfl, rfl, rfl, rfl, rfl, trivial⟩, H.sel [0, 1, 2, 3, 4, 5, 6, 7, 8, 9, 10, 11, 12] rfl, hx_.symm⟩
    replace E := E_; clear E_
    have h1450 : r1322 = true := (not_f hb_)
    clear hb_; replace hP := ite_t h1450 hP
    refine vr tbok 8 [] [(2, .slice (some ⟨b1355, o1356, none⟩) (List.length raws) c14), (7, .bool r27), (8, .pointer (some ⟨g108, 0, none⟩)), (9, .pointer (some ⟨g523, 0, none⟩)), (11, .int .u8 x567), (12, .int .i64 rounds931), (13, .int .i64 i932), (14, .int .i64 r1306), (16, .int .i64 r1338), (17, .int .u8 r1357.1), (18, .int .i64 r1357.2.1), (126, .bool false)] [] E (by kernel_rfl) trivial ?_
    clear E; intro a E
    refine wpList_nil ?_
    have hx_ := Option.some.inj hP
    exact .inl ⟨rfl, false, E.pick _ ⟨rfl, rfl, rfl, rfl, rfl, rfl, rfl, rfl, rfl, rfl, rfl, rfl, trivial⟩, H.sel [0, 1, 2, 3, 4, 5, 6, 7, 8, 9, 10, 11, 12] rfl, hx_.symm⟩
   clear E H h1417; rintro a w1420 ⟨x1419, E, H, hx_⟩
   subst hx_; have hP := hK1418; clear hK1418
   refine th_n ?_
   refine E.cases (t := 126) rfl (fun hb_ E_ => ?_) (fun hb_ E_ => ?_)
   ·
    replace E := E_; clear E_
    have h1451 : x1416 = true := hb_
    clear hb_; replace hP := ite_t h1451 hP
    refine c_true E rfl ?_
    refine wp_seq ?_
    refine wp_region_lit ?_
    refine vr tbok 1 [] [(6, .bool false)] [] E (by kernel_rfl) trivial ?_
    clear E; intro a E
    refine wpList_nil ?_
    refine th_n ?_
    refine wp_ret ?_
    refine th_ret ?_
    refine bl_ret ?_
    refine th_ret ?_
    refine th_ret ?_
    refine .inr ⟨rfl, ?_⟩
    refine bl_ret ?_
    refine th_ret ?_
    have hx_ := Option.some.inj hP; subst hx_
    have hP : some (false) = some r := hK1300
    obtain rfl := Option.some.inj hP
    refine ret1 E rfl rfl ?_
    exact ⟨_, rfl, rfl, H.sel [] rfl⟩
   replace E := E_; clear E_
   have h1452 : ¬ (x1416 = true) := (ne_true_of_eq_false hb_)
   clear hb_; replace hP := ite_f h1452 hP
   refine c_false E rfl ?_
   refine wp_skip ?_
   refine th_n ?_
   refine wp_seq ?_
   refine wp_seq ?_
   refine wp_region_lit ?_
   refine vr tbok 2 [] [(2, .slice (some ⟨b1355, o1356, none⟩) (List.length raws) c14), (7, .bool r27), (8, .pointer (some ⟨g108, 0, none⟩)), (9, .pointer (some ⟨g523, 0, none⟩)), (11, .int .u8 x567), (12, .int .i64 rounds931), (13, .int .i64 i932), (14, .int .i64 r1306), (16, .int .i64 r1338), (17, .int .u8 r1357.1), (128, .bool ((r1357.2.1 : Int) != 0))] [] E (by kernel_rfl) trivial ?_
   clear E; intro a E
   refine wpList_nil ?_
   refine th_n ?_
   refine E.cases (t := 128) rfl (fun hb_ E_ => ?_) (fun hb_ E_ => ?_)
   ·
    replace E := E_; clear E_
    have h1453 : ¬ ((r1357.2.1 : Int) = 0) := bne_iff_ne.1 hb_
    clear hb_; replace hP := ite_f h1453 hP
    refine c_true E rfl ?_
    refine wp_seq ?_
    refine wp_seq ?_
    obtain ⟨x1512, h1513, hK1514⟩ := bind_inv hP
    clear hP
    refine meet_cut (fun a w1516 => ∃ (x1515 : Bool), Fr a 218 [(2, .slice (some ⟨b1355, o1356, none⟩) (List.length raws) c14), (7, .bool r27), (8, .pointer (some ⟨g108, 0, none⟩)), (9, .pointer (some ⟨g523, 0, none⟩)), (11, .int .u8 x567), (12, .int .i64 rounds931), (13, .int .i64 i932), (149, .bool x1515)] ∧ Hp S Fa w0 w1516 [.ro false (cInt .u64) (some ⟨b1355, o1356, none⟩) raws, .row true cBool 4 A109 c110 x129.1, .row true (cInt .i64) 3 A111 c112 x129.2.1, .row true cNode 90 A113 c114 x129.2.2.1, .row true (cInt .i64) 3 A115 c116 x129.2.2.2.2.1, .row true (cSl (cInt .u8)) 31 A117 c118 x129.2.2.2.2.2.1, .row true (cInt .u8) 27 A119 c120 x129.2.2.2.2.2.2.1, .row true cS98 99 A1371 c1372 r1357.2.2.2, .box g108 74 [.int .i64 aProps, .slice A109 (List.length x129.1) c110, .slice A111 (List.length x129.2.1) c112, .slice A113 (List.length x129.2.2.1) c114, .int .u8 s.1, .int .u8 s.2, .bool x129.2.2.2.1, .slice A115 (List.length x129.2.2.2.2.1) c116, .slice A117 (List.length x129.2.2.2.2.2.1) c118, .slice A119 (List.length x129.2.2.2.2.2.2.1) c120, .int .i64 r1357.2.2.1, .slice A1371 (List.length r1357.2.2.2) c1372, .bool true], .row true (cInt .i64) 3 A121 c122 x129.2.2.2.2.2.2.2.2.1, .row true (cSl (cInt .u8)) 31 A123 c124 x129.2.2.2.2.2.2.2.2.2.1, .row true (cInt .u8) 27 A125 c126 x129.2.2.2.2.2.2.2.2.2.2.1, .box g523 33 [.bool x129.2.2.2.2.2.2.2.1, .slice A121 (List.length x129.2.2.2.2.2.2.2.2.1) c122, .slice A123 (List.length x129.2.2.2.2.2.2.2.2.2.1) c124, .slice A125 (List.length x129.2.2.2.2.2.2.2.2.2.2.1) c126]] ∧ x1512 = x1515) ?_ ?_
    ·
     have hP := h1513; clear h1513; rw [law25_PlayWins_j27] at hP
     refine wp_region_lit ?_
     refine vr tbok 3 [] [(2, .slice (some ⟨b1355, o1356, none⟩) (List.length raws) c14), (7, .bool r27), (8, .pointer (some ⟨g108, 0, none⟩)), (9, .pointer (some ⟨g523, 0, none⟩)), (11, .int .u8 x567), (12, .int .i64 rounds931), (13, .int .i64 i932), (14, .int .i64 r1306), (16, .int .i64 r1338), (131, .bool ((r1357.1 : Int) != 0))] [] E (by kernel_rfl) trivial ?_
     clear E; intro a E
     refine E.cases (t := 131) rfl (fun hb_ E_ => ?_) (fun hb_ E_ => ?_)
     ·
      replace E := E_; clear E_
      have h1517 : ¬ ((r1357.1 : Int) = 0) := bne_iff_ne.1 hb_
      clear hb_; replace hP := ite_f h1517 hP
      refine vr tbok 18 [] [(2, .slice (some ⟨b1355, o1356, none⟩) (List.length raws) c14), (7, .bool r27), (8, .pointer (some ⟨g108, 0, none⟩)), (9, .pointer (some ⟨g523, 0, none⟩)), (11, .int .u8 x567), (12, .int .i64 rounds931), (13, .int .i64 i932), (149, .bool true)] [] E (by kernel_rfl) trivial ?_
      clear E; intro a E
      refine wpList_nil ?_
      have hx_ := Option.some.inj hP
      exact .inl ⟨rfl, true, E.pick _ ⟨rfl, rfl, rfl, rfl, rfl, rfl, rfl, rfl, trivial⟩, H.sel [0, 1, 2, 3, 4, 5, 6, 7, 8, 9, 10, 11, 12] rfl, hx_.symm⟩
     replace E := E_; clear E_
     have h1518 : (r1357.1 : Int) = 0 := bne_eq_false_iff_eq.1 hb_
     clear hb_; replace hP := ite_t h1518 hP
     refine vr tbok 1 [] [(2, .slice (some ⟨b1355, o1356, none⟩) (List.length raws) c14), (7, .bool r27), (8, .pointer (some ⟨g108, 0, none⟩)), (9, .pointer (some ⟨g523, 0, none⟩)), (11, .int .u8 x567), (12, .int .i64 rounds931), (13, .int .i64 i932), (14, .int .i64 r1306), (16, .int .i64 r1338), (131, .bool false), (132, .pointer (some ⟨g108, 0, none⟩))] [] E (by kernel_rfl) trivial ?_
     clear E; intro a E
     obtain ⟨r1519, h1520, hP⟩ := bind_inv hP
     obtain ⟨Fa1521, Hc1522, hb1523⟩ := H.call [8, 7] [(1, false), (2, false), (3, false), (4, false), (5, false), (6, false)] rfl rfl ⟨flat_plain, trivial⟩
     refine e_call E rfl rfl Try.func26 rfl rfl rfl (play_Referee_Rank_calls g108 A109 c110 A111 c112 A113 c114 A115 c116 A117 c118 A119 c120 A1371 c1372 aProps x129.1 x129.2.1 x129.2.2.1 (s.1, s.2) x129.2.2.2.1 x129.2.2.2.2.1 x129.2.2.2.2.2.1 x129.2.2.2.2.2.2.1 r1357.2.2.1 r1357.2.2.2 true (H.rcap 1 rfl) (H.rcap 2 rfl) (H.rcap 3 rfl) (H.rcap 4 rfl) (H.rcap 5 rfl) (H.rcap 6 rfl) Hc1522 h1520) ?_
     intro v1529 w1528 a hR1530 E_
     obtain ⟨x_, hr_, rfl, HR1532⟩ := hR1530
     subst hr_
     replace E := E_ _ rfl; clear E_
     obtain ⟨H_, hc1531⟩ := hb1523 _ _ HR1532 rfl
     replace H := H_; clear H_; try dsimp only [setn, addE, goneL] at H
     refine vr tbok 4 [] [(2, .slice (some ⟨b1355, o1356, none⟩) (List.length raws) c14), (7, .bool r27), (8, .pointer (some ⟨g108, 0, none⟩)), (9, .pointer (some ⟨g523, 0, none⟩)), (11, .int .u8 x567), (12, .int .i64 rounds931), (13, .int .i64 i932), (16, .int .i64 r1338), (137, .bool ((r1519 : Int) != r1306))] [] E (by kernel_rfl) trivial ?_
     clear E; intro a E
     refine E.cases (t := 137) rfl (fun hb_ E_ => ?_) (fun hb_ E_ => ?_)
     ·
      replace E := E_; clear E_
      have h1535 : ¬ ((r1519 : Int) = r1306) := bne_iff_ne.1 hb_
      clear hb_; replace hP := ite_f h1535 hP
      refine vr tbok 12 [] [(2, .slice (some ⟨b1355, o1356, none⟩) (List.length raws) c14), (7, .bool r27), (8, .pointer (some ⟨g108, 0, none⟩)), (9, .pointer (some ⟨g523, 0, none⟩)), (11, .int .u8 x567), (12, .int .i64 rounds931), (13, .int .i64 i932), (149, .bool true)] [] E (by kernel_rfl) trivial ?_
      clear E; intro a E
      refine wpList_nil ?_
      have hx_ := Option.some.inj hP
      exact .inl ⟨rfl, true, E.pick _ ⟨rfl, rfl, rfl, rfl, rfl, rfl, rfl, rfl, trivial⟩, H.sel [0, 1, 2, 3, 4, 5, 6, 13, 14, 9, 10, 11, 12] rfl, hx_.symm⟩
     replace E := E_; clear E_
     have h1536 : (r1519 : Int) = r1306 := bne_eq_false_iff_eq.1 hb_
     clear hb_; replace hP := ite_t h1536 hP
     refine vr tbok 1 [] [(2, .slice (some ⟨b1355, o1356, none⟩) (List.length raws) c14), (7, .bool r27), (8, .pointer (some ⟨g108, 0, none⟩)), (9, .pointer (some ⟨g523, 0, none⟩)), (11, .int .u8 x567), (12, .int .i64 rounds931), (13, .int .i64 i932), (16, .int .i64 r1338), (137, .bool false), (138, .pointer (some ⟨g108, 0, none⟩))] [] E (by kernel_rfl) trivial ?_
     clear E; intro a E
     obtain ⟨r1537, h1538, hP⟩ := bind_inv hP
     obtain ⟨Fa1539, Hc1540, hb1541⟩ := H.call [14, 13] [(1, false), (2, false), (3, false), (4, false), (5, false), (6, false)] rfl rfl ⟨flat_plain, trivial⟩
     refine e_call E rfl rfl Try.func28 rfl rfl rfl (play_Referee_State_calls g108 A109 c110 A111 c112 A113 c114 A115 c116 A117 c118 A119 c120 A1371 c1372 aProps x129.1 x129.2.1 x129.2.2.1 (s.1, s.2) x129.2.2.2.1 x129.2.2.2.2.1 x129.2.2.2.2.2.1 x129.2.2.2.2.2.2.1 r1357.2.2.1 r1357.2.2.2 true (H.rcap 1 rfl) (H.rcap 2 rfl) (H.rcap 3 rfl) (H.rcap 4 rfl) (H.rcap 5 rfl) (H.rcap 6 rfl) Hc1540 h1538) ?_
     intro v1547 w1546 a hR1548 E_
     obtain ⟨x_, hr_, rfl, HR1550⟩ := hR1548
     subst hr_
     replace E := E_ _ rfl; clear E_
     obtain ⟨H_, hc1549⟩ := hb1541 _ _ HR1550 rfl
     replace H := H_; clear H_; try dsimp only [setn, addE, goneL] at H
     refine vr tbok 4 [] [(2, .slice (some ⟨b1355, o1356, none⟩) (List.length raws) c14), (7, .bool r27), (8, .pointer (some ⟨g108, 0, none⟩)), (9, .pointer (some ⟨g523, 0, none⟩)), (11, .int .u8 x567), (12, .int .i64 rounds931), (13, .int .i64 i932), (143, .bool ((r1537 : Int) != r1338))] [] E (by kernel_rfl) trivial ?_
     clear E; intro a E
     refine E.cases (t := 143) rfl (fun hb_ E_ => ?_) (fun hb_ E_ => ?_)
     ·
      replace E := E_; clear E_
      have h1553 : ¬ ((r1537 : Int) = r1338) := bne_iff_ne.1 hb_
      clear hb_; replace hP := ite_f h1553 hP
      refine vr tbok 6 [] [(2, .slice (some ⟨b1355, o1356, none⟩) (List.length raws) c14), (7, .bool r27), (8, .pointer (some ⟨g108, 0, none⟩)), (9, .pointer (some ⟨g523, 0, none⟩)), (11, .int .u8 x567), (12, .int .i64 rounds931), (13, .int .i64 i932), (149, .bool true)] [] E (by kernel_rfl) trivial ?_
      clear E; intro a E
      refine wpList_nil ?_
      have hx_ := Option.some.inj hP
      exact .inl ⟨rfl, true, E.pick _ ⟨rfl, rfl, rfl, rfl, rfl, rfl, rfl, rfl, trivial⟩, H.sel [0, 1, 2, 3, 4, 5, 6, 15, 16, 9, 10, 11, 12] rfl, hx_.symm⟩
     replace E := E_; clear E_
     have h1554 : (r1537 : Int) = r1338 := bne_eq_false_iff_eq.1 hb_
     clear hb_; replace hP := ite_t h1554 hP
     refine vr tbok 1 [] [(2, .slice (some ⟨b1355, o1356, none⟩) (List.length raws) c14), (7, .bool r27), (8, .pointer (some ⟨g108, 0, none⟩)), (9, .pointer (some ⟨g523, 0, none⟩)), (11, .int .u8 x567), (12, .int .i64 rounds931), (13, .int .i64 i932), (143, .bool false), (144, .pointer (some ⟨g108, 0, none⟩))] [] E (by kernel_rfl) trivial ?_
     clear E; intro a E
     obtain ⟨r1555, h1556, hP⟩ := bind_inv hP
     obtain ⟨Fa1557, Hc1558, hb1559⟩ := H.call [16, 15] [(1, false), (2, false), (3, false), (4, false), (5, false), (6, false)] rfl rfl ⟨flat_plain, trivial⟩
     refine e_call E rfl rfl Try.func30 rfl rfl rfl (play_Referee_Trace_calls g108 A109 c110 A111 c112 A113 c114 A115 c116 A117 c118 A119 c120 A1371 c1372 aProps x129.1 x129.2.1 x129.2.2.1 (s.1, s.2) x129.2.2.2.1 x129.2.2.2.2.1 x129.2.2.2.2.2.1 x129.2.2.2.2.2.2.1 r1357.2.2.1 r1357.2.2.2 true (H.rcap 1 rfl) (H.rcap 2 rfl) (H.rcap 3 rfl) (H.rcap 4 rfl) (H.rcap 5 rfl) (H.rcap 6 rfl) Hc1558 h1556) ?_
     intro v1565 w1564 a hR1566 E_
     obtain ⟨x_, A1569, c1570, hr_, rfl, HR1568⟩ := hR1566
     subst hr_
     replace E := E_ _ rfl; clear E_
     obtain ⟨H_, hc1567⟩ := hb1559 _ _ HR1568 rfl
     replace H := H_; clear H_; try dsimp only [setn, addE, goneL] at H
     refine vr tbok 4 [] [(2, .slice (some ⟨b1355, o1356, none⟩) (List.length raws) c14), (7, .bool r27), (8, .pointer (some ⟨g108, 0, none⟩)), (9, .pointer (some ⟨g523, 0, none⟩)), (11, .int .u8 x567), (12, .int .i64 rounds931), (13, .int .i64 i932), (149, .bool (((((List.length r1555) : Nat) : Int) : Int) != rounds931))] [] E (by kernel_rfl) trivial ?_
     clear E; intro a E
     refine wpList_nil ?_
     have hx_ := Option.some.inj hP
     exact .inl ⟨rfl, ((((List.length r1555) : Nat) : Int) : Int) != rounds931, E.pick _ ⟨rfl, rfl, rfl, rfl, rfl, rfl, rfl, rfl, trivial⟩, H.sel [0, 1, 2, 3, 4, 5, 6, 18, 19, 9, 10, 11, 12] rfl, hx_.symm⟩
    clear E H h1513; rintro a w1516 ⟨x1515, E, H, hx_⟩
    subst hx_; have hP := hK1514; clear hK1514
    refine th_n ?_
    refine E.cases (t := 149) rfl (fun hb_ E_ => ?_) (fun hb_ E_ => ?_)
    ·
     replace E := E_; clear E_
     have h1574 : x1512 = true := hb_
     clear hb_; replace hP := ite_t h1574 hP
     refine c_true E rfl ?_
     refine wp_seq ?_
     refine wp_region_lit ?_
     refine vr tbok 1 [] [(6, .bool false)] [] E (by kernel_rfl) trivial ?_
     clear E; intro a E
     refine wpList_nil ?_
     refine th_n ?_
     refine wp_ret ?_
     refine th_ret ?_
     refine th_ret ?_
     refine bl_ret ?_
     refine th_ret ?_
     refine th_ret ?_
     refine .inr ⟨rfl, ?_⟩
     refine bl_ret ?_
     refine th_ret ?_
     have hx_ := Option.some.inj hP; subst hx_
     have hP : some (false) = some r := hK1300
     obtain rfl := Option.some.inj hP
     refine ret1 E rfl rfl ?_
     exact ⟨_, rfl, rfl, H.sel [] rfl⟩
    replace E := E_; clear E_
    have h1575 : ¬ (x1512 = true) := (ne_true_of_eq_false hb_)
    clear hb_; replace hP := ite_f h1575 hP
    refine c_false E rfl ?_
    refine wp_skip ?_
    refine th_n ?_
    refine wp_exit ?_
    refine th_exit ?_
    refine bl_hit ?_
    refine th_n ?_
    refine wp_region_lit ?_
    obtain ⟨g1576, hP⟩ := ask_inv hP
    refine vr tbok 3 [.int .i64 (i932 + 1)] [(2, .slice (some ⟨b1355, o1356, none⟩) (List.length raws) c14), (7, .bool r27), (8, .pointer (some ⟨g108, 0, none⟩)), (9, .pointer (some ⟨g523, 0, none⟩)), (11, .int .u8 x567), (12, .int .i64 rounds931), (13, .int .i64 (i932 + 1))] [IntKind.i64.wrap (i932 + 1) = i932 + 1] E (by kernel_rfl) (wrap_in g1576) ?_
    clear E; intro a E
    refine wpList_nil ?_
    exact th_n ⟨m1297, Nat.lt_succ_self _, r1357.2.2.1, r1357.2.2.2, rounds931, i932 + 1, A1371, c1372, E.pick _ ⟨rfl, rfl, rfl, rfl, rfl, rfl, rfl, trivial⟩, H.sel [0, 8, 1, 2, 3, 4, 5, 6, 7, 9, 10, 11, 12] rfl, hP⟩
   replace E := E_; clear E_
   have h1577 : (r1357.2.1 : Int) = 0 := bne_eq_false_iff_eq.1 hb_
   clear hb_; replace hP := ite_t h1577 hP
   refine c_false E rfl ?_
   refine wp_skip ?_
   refine th_n ?_
   refine wp_seq ?_
   refine wp_region_lit ?_
   obtain ⟨g1578, hP⟩ := ask_inv hP
   refine vr tbok 3 [.int .i64 (rounds931 + 1)] [(2, .slice (some ⟨b1355, o1356, none⟩) (List.length raws) c14), (7, .bool r27), (8, .pointer (some ⟨g108, 0, none⟩)), (9, .pointer (some ⟨g523, 0, none⟩)), (11, .int .u8 x567), (12, .int .i64 (rounds931 + 1)), (13, .int .i64 i932), (14, .int .i64 r1306), (17, .int .u8 r1357.1)] [IntKind.i64.wrap (rounds931 + 1) = rounds931 + 1] E (by kernel_rfl) (wrap_in g1578) ?_
   clear E; intro a E
   refine wpList_nil ?_
   refine th_n ?_
   refine wp_seq ?_
   refine wp_region_lit ?_
   refine vr tbok 10 [.int .u8 (andV .u8 r1357.1 x567), .int .u64 (List.getD raws (Int.toNat i932) 0), .int .u8 (IntKind.u8.wrap (List.getD raws (Int.toNat i932) 0))] [(2, .slice (some ⟨b1355, o1356, none⟩) (List.length raws) c14), (7, .bool r27), (8, .pointer (some ⟨g108, 0, none⟩)), (9, .pointer (some ⟨g523, 0, none⟩)), (11, .int .u8 x567), (12, .int .i64 (rounds931 + 1)), (13, .int .i64 i932), (14, .int .i64 r1306), (161, .bool ((andV .u8 r1357.1 x567 : Int) != (IntKind.u8.wrap (List.getD raws (Int.toNat i932) 0))))] [IntKind.u8.wrap (BitVec.ofInt (IntKind.bits .u8) r1357.1 &&& BitVec.ofInt (IntKind.bits .u8) x567).toNat = andV .u8 r1357.1 x567, 0 ≤ i932 ∧ i932 < (((List.length raws) : Nat) : Int), World.cell? w1420 ⟨b1355, o1356 + (Int.toNat i932) * 1, none⟩ = some (.int .u64 (List.getD raws (Int.toNat i932) 0)), IntKind.u8.wrap (List.getD raws (Int.toNat i932) 0) = (IntKind.u8.wrap (List.getD raws (Int.toNat i932) 0))] E (by kernel_rfl) ⟨rfl, g1354, Rds.at1 (H.rd 0 rds_ro) 0 g1354, rfl⟩ ?_
   clear E; intro a E
   refine E.cases (t := 161) rfl (fun hb_ E_ => ?_) (fun hb_ E_ => ?_)
   ·
    replace E := E_; clear E_
    have h1579 : ¬ ((andV .u8 r1357.1 x567 : Int) = IntKind.u8.wrap (List.getD raws (Int.toNat i932) 0)) := bne_iff_ne.1 hb_
    clear hb_; replace hP := ite_f h1579 hP
    refine vr tbok 30 [] [(2, .slice (some ⟨b1355, o1356, none⟩) (List.length raws) c14), (7, .bool r27), (8, .pointer (some ⟨g108, 0, none⟩)), (9, .pointer (some ⟨g523, 0, none⟩)), (11, .int .u8 x567), (12, .int .i64 (rounds931 + 1)), (13, .int .i64 i932), (191, .bool true)] [] E (by kernel_rfl) trivial ?_
    clear E; intro a E
    refine wpList_nil ?_
    refine th_n ?_
    refine c_true E rfl ?_
    refine wp_seq ?_
    refine wp_region_lit ?_
    refine vr tbok 1 [] [(6, .bool false)] [] E (by kernel_rfl) trivial ?_
    clear E; intro a E
    refine wpList_nil ?_
    refine th_n ?_
    refine wp_ret ?_
    refine bl_ret ?_
    refine th_ret ?_
    refine th_ret ?_
    refine .inr ⟨rfl, ?_⟩
    refine bl_ret ?_
    refine th_ret ?_
    have hx_ := Option.some.inj hP; subst hx_
    have hP : some (false) = some r := hK1300
    obtain rfl := Option.some.inj hP
    refine ret1 E rfl rfl ?_
    exact ⟨_, rfl, rfl, H.sel [] rfl⟩
   replace E := E_; clear E_
   have h1580 : (andV .u8 r1357.1 x567 : Int) = IntKind.u8.wrap (List.getD raws (Int.toNat i932) 0) := bne_eq_false_iff_eq.1 hb_
   clear hb_; replace hP := ite_t h1580 hP
   refine vr tbok 3 [.bool x129.2.2.2.2.2.2.2.1] [(2, .slice (some ⟨b1355, o1356, none⟩) (List.length raws) c14), (7, .bool r27), (8, .pointer (some ⟨g108, 0, none⟩)), (9, .pointer (some ⟨g523, 0, none⟩)), (11, .int .u8 x567), (12, .int .i64 (rounds931 + 1)), (13, .int .i64 i932), (14, .int .i64 r1306), (161, .bool false), (164, .bool x129.2.2.2.2.2.2.2.1)] [World.cell? w1420 ⟨g523, 0, none⟩ = some (.bool x129.2.2.2.2.2.2.2.1)] E (by kernel_rfl) ((H.box 12 rfl).cell (j := 0) rfl) ?_
   clear E; intro a E
   refine E.cases (t := 164) rfl (fun hb_ E_ => ?_) (fun hb_ E_ => ?_)
   ·
    replace E := E_; clear E_
    have h1581 : x129.2.2.2.2.2.2.2.1 = true := hb_
    clear hb_; replace hP := ite_t h1581 hP
    refine vr tbok 1 [] [(2, .slice (some ⟨b1355, o1356, none⟩) (List.length raws) c14), (7, .bool r27), (8, .pointer (some ⟨g108, 0, none⟩)), (9, .pointer (some ⟨g523, 0, none⟩)), (11, .int .u8 x567), (12, .int .i64 (rounds931 + 1)), (13, .int .i64 i932), (14, .int .i64 r1306), (161, .bool false), (164, .bool true), (165, .pointer (some ⟨g108, 0, none⟩))] [] E (by kernel_rfl) trivial ?_
    clear E; intro a E
    obtain ⟨r1582, h1583, hP⟩ := bind_inv hP
    obtain ⟨Fa1584, Hc1585, hb1586⟩ := H.call [8, 7] [(1, false), (2, false), (3, false), (4, false), (5, false), (6, false)] rfl rfl ⟨flat_plain, trivial⟩
    refine e_call E rfl rfl Try.func26 rfl rfl rfl (play_Referee_Rank_calls g108 A109 c110 A111 c112 A113 c114 A115 c116 A117 c118 A119 c120 A1371 c1372 aProps x129.1 x129.2.1 x129.2.2.1 (s.1, s.2) x129.2.2.2.1 x129.2.2.2.2.1 x129.2.2.2.2.2.1 x129.2.2.2.2.2.2.1 r1357.2.2.1 r1357.2.2.2 true (H.rcap 1 rfl) (H.rcap 2 rfl) (H.rcap 3 rfl) (H.rcap 4 rfl) (H.rcap 5 rfl) (H.rcap 6 rfl) Hc1585 h1583) ?_
    intro v1592 w1591 a hR1593 E_
    obtain ⟨x_, hr_, rfl, HR1595⟩ := hR1593
    subst hr_
    replace E := E_ _ rfl; clear E_
    obtain ⟨H_, hc1594⟩ := hb1586 _ _ HR1595 rfl
    replace H := H_; clear H_; try dsimp only [setn, addE, goneL] at H
    refine vr tbok 5 [] [(2, .slice (some ⟨b1355, o1356, none⟩) (List.length raws) c14), (7, .bool r27), (8, .pointer (some ⟨g108, 0, none⟩)), (9, .pointer (some ⟨g523, 0, none⟩)), (11, .int .u8 x567), (12, .int .i64 (rounds931 + 1)), (13, .int .i64 i932), (171, .bool (decide (r1306 ≤ r1582)))] [] E (by kernel_rfl) trivial ?_
    clear E; intro a E
    refine E.cases (t := 171) rfl (fun hb_ E_ => ?_) (fun hb_ E_ => ?_)
    ·
     replace E := E_; clear E_
     have h1598 : r1306 ≤ r1582 := of_decide_eq_true hb_
     clear hb_; replace hP := ite_t h1598 hP
     refine vr tbok 20 [] [(2, .slice (some ⟨b1355, o1356, none⟩) (List.length raws) c14), (7, .bool r27), (8, .pointer (some ⟨g108, 0, none⟩)), (9, .pointer (some ⟨g523, 0, none⟩)), (11, .int .u8 x567), (12, .int .i64 (rounds931 + 1)), (13, .int .i64 i932), (191, .bool true)] [] E (by kernel_rfl) trivial ?_
     clear E; intro a E
     refine wpList_nil ?_
     refine th_n ?_
     refine c_true E rfl ?_
     refine wp_seq ?_
     refine wp_region_lit ?_
     refine vr tbok 1 [] [(6, .bool false)] [] E (by kernel_rfl) trivial ?_
     clear E; intro a E
     refine wpList_nil ?_
     refine th_n ?_
     refine wp_ret ?_
     refine bl_ret ?_
     refine th_ret ?_
     refine th_ret ?_
     refine .inr ⟨rfl, ?_⟩
     refine bl_ret ?_
     refine th_ret ?_
     have hx_ := Option.some.inj hP; subst hx_
     have hP : some (false) = some r := hK1300
     obtain rfl := Option.some.inj hP
     refine ret1 E rfl rfl ?_
     exact ⟨_, rfl, rfl, H.sel [] rfl⟩
    replace E := E_; clear E_
    have h1599 : ¬ (r1306 ≤ r1582) := of_decide_eq_false hb_
    clear hb_; replace hP := ite_f h1599 hP
    refine vr tbok 4 [.bool x129.2.2.2.2.2.2.2.1] [(2, .slice (some ⟨b1355, o1356, none⟩) (List.length raws) c14), (7, .bool r27), (8, .pointer (some ⟨g108, 0, none⟩)), (9, .pointer (some ⟨g523, 0, none⟩)), (11, .int .u8 x567), (12, .int .i64 (rounds931 + 1)), (13, .int .i64 i932), (171, .bool false), (175, .bool (!x129.2.2.2.2.2.2.2.1))] [World.cell? w1591 ⟨g523, 0, none⟩ = some (.bool x129.2.2.2.2.2.2.2.1)] E (by kernel_rfl) ((H.box 12 rfl).cell (j := 0) rfl) ?_
    clear E; intro a E
    refine E.cases (t := 175) rfl (fun hb_ E_ => ?_) (fun hb_ E_ => ?_)
    ·
     replace E := E_; clear E_
     have h1600 : ¬ (x129.2.2.2.2.2.2.2.1 = true) := (ne_true_of_eq_false (not_t hb_))
     clear hb_; replace hP := ite_f h1600 hP
     refine vr tbok 1 [] [(2, .slice (some ⟨b1355, o1356, none⟩) (List.length raws) c14), (7, .bool r27), (8, .pointer (some ⟨g108, 0, none⟩)), (9, .pointer (some ⟨g523, 0, none⟩)), (11, .int .u8 x567), (12, .int .i64 (rounds931 + 1)), (13, .int .i64 i932), (171, .bool false), (175, .bool true), (176, .pointer (some ⟨g108, 0, none⟩))] [] E (by kernel_rfl) trivial ?_
     clear E; intro a E
     obtain ⟨r1601, h1602, hP⟩ := bind_inv hP
     obtain ⟨Fa1603, Hc1604, hb1605⟩ := H.call [14, 13] [(1, false), (2, false), (3, false), (4, false), (5, false), (6, false)] rfl rfl ⟨flat_plain, trivial⟩
     refine e_call E rfl rfl Try.func26 rfl rfl rfl (play_Referee_Rank_calls g108 A109 c110 A111 c112 A113 c114 A115 c116 A117 c118 A119 c120 A1371 c1372 aProps x129.1 x129.2.1 x129.2.2.1 (s.1, s.2) x129.2.2.2.1 x129.2.2.2.2.1 x129.2.2.2.2.2.1 x129.2.2.2.2.2.2.1 r1357.2.2.1 r1357.2.2.2 true (H.rcap 1 rfl) (H.rcap 2 rfl) (H.rcap 3 rfl) (H.rcap 4 rfl) (H.rcap 5 rfl) (H.rcap 6 rfl) Hc1604 h1602) ?_
     intro v1611 w1610 a hR1612 E_
     obtain ⟨x_, hr_, rfl, HR1614⟩ := hR1612
     subst hr_
     replace E := E_ _ rfl; clear E_
     obtain ⟨H_, hc1613⟩ := hb1605 _ _ HR1614 rfl
     replace H := H_; clear H_; try dsimp only [setn, addE, goneL] at H
     refine vr tbok 2 [] [(2, .slice (some ⟨b1355, o1356, none⟩) (List.length raws) c14), (7, .bool r27), (8, .pointer (some ⟨g108, 0, none⟩)), (9, .pointer (some ⟨g523, 0, none⟩)), (11, .int .u8 x567), (12, .int .i64 (rounds931 + 1)), (13, .int .i64 i932), (171, .bool false), (175, .bool true), (179, .bool ((r1601 : Int) != (-1)))] [] E (by kernel_rfl) trivial ?_
     clear E; intro a E
     refine E.cases (t := 179) rfl (fun hb_ E_ => ?_) (fun hb_ E_ => ?_)
     ·
      replace E := E_; clear E_
      have h1617 : ¬ ((r1601 : Int) = -1) := bne_iff_ne.1 hb_
      clear hb_; replace hP := ite_f h1617 hP
      refine vr tbok 12 [] [(2, .slice (some ⟨b1355, o1356, none⟩) (List.length raws) c14), (7, .bool r27), (8, .pointer (some ⟨g108, 0, none⟩)), (9, .pointer (some ⟨g523, 0, none⟩)), (11, .int .u8 x567), (12, .int .i64 (rounds931 + 1)), (13, .int .i64 i932), (191, .bool true)] [] E (by kernel_rfl) trivial ?_
      clear E; intro a E
      refine wpList_nil ?_
      refine th_n ?_
      refine c_true E rfl ?_
      refine wp_seq ?_
      refine wp_region_lit ?_
      refine vr tbok 1 [] [(6, .bool false)] [] E (by kernel_rfl) trivial ?_
      clear E; intro a E
      refine wpList_nil ?_
      refine th_n ?_
      refine wp_ret ?_
      refine bl_ret ?_
      refine th_ret ?_
      refine th_ret ?_
      refine .inr ⟨rfl, ?_⟩
      refine bl_ret ?_
      refine th_ret ?_
      have hx_ := Option.some.inj hP; subst hx_
      have hP : some (false) = some r := hK1300
      obtain rfl := Option.some.inj hP
      refine ret1 E rfl rfl ?_
      exact ⟨_, rfl, rfl, H.sel [] rfl⟩
     replace E := E_; clear E_
     have h1618 : (r1601 : Int) = -1 := bne_eq_false_iff_eq.1 hb_
     clear hb_; replace hP := ite_t h1618 hP
     refine vr tbok 1 [] [(2, .slice (some ⟨b1355, o1356, none⟩) (List.length raws) c14), (7, .bool r27), (8, .pointer (some ⟨g108, 0, none⟩)), (9, .pointer (some ⟨g523, 0, none⟩)), (11, .int .u8 x567), (12, .int .i64 (rounds931 + 1)), (13, .int .i64 i932), (171, .bool false), (175, .bool true), (179, .bool false), (180, .pointer (some ⟨g108, 0, none⟩))] [] E (by kernel_rfl) trivial ?_
     clear E; intro a E
     obtain ⟨r1619, h1620, hP⟩ := bind_inv hP
     obtain ⟨Fa1621, Hc1622, hb1623⟩ := H.call [16, 15] [(1, false), (2, false), (3, false), (4, false), (5, false), (6, false)] rfl rfl ⟨flat_plain, trivial⟩
     refine e_call E rfl rfl Try.func27 rfl rfl rfl (play_Referee_Over_calls g108 A109 c110 A111 c112 A113 c114 A115 c116 A117 c118 A119 c120 A1371 c1372 aProps x129.1 x129.2.1 x129.2.2.1 (s.1, s.2) x129.2.2.2.1 x129.2.2.2.2.1 x129.2.2.2.2.2.1 x129.2.2.2.2.2.2.1 r1357.2.2.1 r1357.2.2.2 true (H.rcap 1 rfl) (H.rcap 2 rfl) (H.rcap 3 rfl) (H.rcap 4 rfl) (H.rcap 5 rfl) (H.rcap 6 rfl) Hc1622 h1620) ?_
     intro v1629 w1628 a hR1630 E_
     obtain ⟨x_, hr_, rfl, HR1632⟩ := hR1630
     subst hr_
     replace E := E_ _ rfl; clear E_
     obtain ⟨H_, hc1631⟩ := hb1623 _ _ HR1632 rfl
     replace H := H_; clear H_; try dsimp only [setn, addE, goneL] at H
     refine vr tbok 4 [] [(2, .slice (some ⟨b1355, o1356, none⟩) (List.length raws) c14), (7, .bool r27), (8, .pointer (some ⟨g108, 0, none⟩)), (9, .pointer (some ⟨g523, 0, none⟩)), (11, .int .u8 x567), (12, .int .i64 (rounds931 + 1)), (13, .int .i64 i932), (185, .bool r1619)] [] E (by kernel_rfl) trivial ?_
     clear E; intro a E
     refine E.cases (t := 185) rfl (fun hb_ E_ => ?_) (fun hb_ E_ => ?_)
     ·
      replace E := E_; clear E_
      have h1635 : r1619 = true := hb_
      clear hb_; replace hP := ite_t h1635 hP
      refine vr tbok 6 [] [(2, .slice (some ⟨b1355, o1356, none⟩) (List.length raws) c14), (7, .bool r27), (8, .pointer (some ⟨g108, 0, none⟩)), (9, .pointer (some ⟨g523, 0, none⟩)), (11, .int .u8 x567), (12, .int .i64 (rounds931 + 1)), (13, .int .i64 i932), (191, .bool true)] [] E (by kernel_rfl) trivial ?_
      clear E; intro a E
      refine wpList_nil ?_
      refine th_n ?_
      refine c_true E rfl ?_
      refine wp_seq ?_
      refine wp_region_lit ?_
      refine vr tbok 1 [] [(6, .bool false)] [] E (by kernel_rfl) trivial ?_
      clear E; intro a E
      refine wpList_nil ?_
      refine th_n ?_
      refine wp_ret ?_
      refine bl_ret ?_
      refine th_ret ?_
      refine th_ret ?_
      refine .inr ⟨rfl, ?_⟩
      refine bl_ret ?_
      refine th_ret ?_
      have hx_ := Option.some.inj hP; subst hx_
      have hP : some (false) = some r := hK1300
      obtain rfl := Option.some.inj hP
      refine ret1 E rfl rfl ?_
      exact ⟨_, rfl, rfl, H.sel [] rfl⟩
     replace E := E_; clear E_
     have h1636 : ¬ (r1619 = true) := (ne_true_of_eq_false hb_)
     clear hb_; replace hP := ite_f h1636 hP
     refine vr tbok 1 [] [(2, .slice (some ⟨b1355, o1356, none⟩) (List.length raws) c14), (7, .bool r27), (8, .pointer (some ⟨g108, 0, none⟩)), (9, .pointer (some ⟨g523, 0, none⟩)), (11, .int .u8 x567), (12, .int .i64 (rounds931 + 1)), (13, .int .i64 i932), (185, .bool false), (186, .pointer (some ⟨g108, 0, none⟩))] [] E (by kernel_rfl) trivial ?_
     clear E; intro a E
     obtain ⟨r1637, h1638, hP⟩ := bind_inv hP
     obtain ⟨Fa1639, Hc1640, hb1641⟩ := H.call [18, 17] [(1, false), (2, false), (3, false), (4, false), (5, false), (6, false)] rfl rfl ⟨flat_plain, trivial⟩
     refine e_call E rfl rfl Try.func30 rfl rfl rfl (play_Referee_Trace_calls g108 A109 c110 A111 c112 A113 c114 A115 c116 A117 c118 A119 c120 A1371 c1372 aProps x129.1 x129.2.1 x129.2.2.1 (s.1, s.2) x129.2.2.2.1 x129.2.2.2.2.1 x129.2.2.2.2.2.1 x129.2.2.2.2.2.2.1 r1357.2.2.1 r1357.2.2.2 true (H.rcap 1 rfl) (H.rcap 2 rfl) (H.rcap 3 rfl) (H.rcap 4 rfl) (H.rcap 5 rfl) (H.rcap 6 rfl) Hc1640 h1638) ?_
     intro v1647 w1646 a hR1648 E_
     obtain ⟨x_, A1651, c1652, hr_, rfl, HR1650⟩ := hR1648
     subst hr_
     replace E := E_ _ rfl; clear E_
     obtain ⟨H_, hc1649⟩ := hb1641 _ _ HR1650 rfl
     replace H := H_; clear H_; try dsimp only [setn, addE, goneL] at H
     refine vr tbok 4 [] [(2, .slice (some ⟨b1355, o1356, none⟩) (List.length raws) c14), (7, .bool r27), (8, .pointer (some ⟨g108, 0, none⟩)), (9, .pointer (some ⟨g523, 0, none⟩)), (11, .int .u8 x567), (12, .int .i64 (rounds931 + 1)), (13, .int .i64 i932), (191, .bool (((((List.length r1637) : Nat) : Int) : Int) != (rounds931 + 1)))] [] E (by kernel_rfl) trivial ?_
     clear E; intro a E
     refine wpList_nil ?_
     refine th_n ?_
     refine E.cases (t := 191) rfl (fun hb_ E_ => ?_) (fun hb_ E_ => ?_)
     ·
      replace E := E_; clear E_
      have h1656 : ¬ (((((List.length r1637) : Nat) : Int) : Int) = rounds931 + 1) := bne_iff_ne.1 hb_
      clear hb_; replace hP := ite_f h1656 hP
      refine c_true E rfl ?_
      refine wp_seq ?_
      refine wp_region_lit ?_
      refine vr tbok 1 [] [(6, .bool false)] [] E (by kernel_rfl) trivial ?_
      clear E; intro a E
      refine wpList_nil ?_
      refine th_n ?_
      refine wp_ret ?_
      refine bl_ret ?_
      refine th_ret ?_
      refine th_ret ?_
      refine .inr ⟨rfl, ?_⟩
      refine bl_ret ?_
      refine th_ret ?_
      have hx_ := Option.some.inj hP; subst hx_
      have hP : some (false) = some r := hK1300
      obtain rfl := Option.some.inj hP
      refine ret1 E rfl rfl ?_
      exact ⟨_, rfl, rfl, H.sel [] rfl⟩
     replace E := E_; clear E_
     have h1657 : ((((List.length r1637) : Nat) : Int) : Int) = rounds931 + 1 := bne_eq_false_iff_eq.1 hb_
     clear hb_; replace hP := ite_t h1657 hP
     refine c_false E rfl ?_
     refine wp_skip ?_
     refine bl_n ?_
     refine th_n ?_
     refine wp_region_lit ?_
     obtain ⟨g1658, hP⟩ := ask_inv hP
     refine vr tbok 3 [.int .i64 (i932 + 1)] [(2, .slice (some ⟨b1355, o1356, none⟩) (List.length raws) c14), (7, .bool r27), (8, .pointer (some ⟨g108, 0, none⟩)), (9, .pointer (some ⟨g523, 0, none⟩)), (11, .int .u8 x567), (12, .int .i64 (rounds931 + 1)), (13, .int .i64 (i932 + 1))] [IntKind.i64.wrap (i932 + 1) = i932 + 1] E (by kernel_rfl) (wrap_in g1658) ?_
     clear E; intro a E
     refine wpList_nil ?_
     exact th_n ⟨m1297, Nat.lt_succ_self _, r1357.2.2.1, r1357.2.2.2, rounds931 + 1, i932 + 1, A1371, c1372, E.pick _ ⟨rfl, rfl, rfl, rfl, rfl, rfl, rfl, trivial⟩, H.sel [0, 21, 1, 2, 3, 4, 5, 6, 20, 9, 10, 11, 12] rfl, hP⟩
    replace E := E_; clear E_
    have h1659 : x129.2.2.2.2.2.2.2.1 = true := (not_f hb_)
    clear hb_; replace hP := ite_t h1659 hP
    refine vr tbok 11 [] [(2, .slice (some ⟨b1355, o1356, none⟩) (List.length raws) c14), (7, .bool r27), (8, .pointer (some ⟨g108, 0, none⟩)), (9, .pointer (some ⟨g523, 0, none⟩)), (11, .int .u8 x567), (12, .int .i64 (rounds931 + 1)), (13, .int .i64 i932), (185, .bool false), (186, .pointer (some ⟨g108, 0, none⟩))] [] E (by kernel_rfl) trivial ?_
    clear E; intro a E
    obtain ⟨r1660, h1661, hP⟩ := bind_inv hP
    obtain ⟨Fa1662, Hc1663, hb1664⟩ := H.call [14, 13] [(1, false), (2, false), (3, false), (4, false), (5, false), (6, false)] rfl rfl ⟨flat_plain, trivial⟩
    refine e_call E rfl rfl Try.func30 rfl rfl rfl (play_Referee_Trace_calls g108 A109 c110 A111 c112 A113 c114 A115 c116 A117 c118 A119 c120 A1371 c1372 aProps x129.1 x129.2.1 x129.2.2.1 (s.1, s.2) x129.2.2.2.1 x129.2.2.2.2.1 x129.2.2.2.2.2.1 x129.2.2.2.2.2.2.1 r1357.2.2.1 r1357.2.2.2 true (H.rcap 1 rfl) (H.rcap 2 rfl) (H.rcap 3 rfl) (H.rcap 4 rfl) (H.rcap 5 rfl) (H.rcap 6 rfl) Hc1663 h1661) ?_
    intro v1670 w1669 a hR1671 E_
    obtain ⟨x_, A1674, c1675, hr_, rfl, HR1673⟩ := hR1671
    subst hr_
    replace E := E_ _ rfl; clear E_
    obtain ⟨H_, hc1672⟩ := hb1664 _ _ HR1673 rfl
    replace H := H_; clear H_; try dsimp only [setn, addE, goneL] at H
    refine vr tbok 4 [] [(2, .slice (some ⟨b1355, o1356, none⟩) (List.length raws) c14), (7, .bool r27), (8, .pointer (some ⟨g108, 0, none⟩)), (9, .pointer (some ⟨g523, 0, none⟩)), (11, .int .u8 x567), (12, .int .i64 (rounds931 + 1)), (13, .int .i64 i932), (191, .bool (((((List.length r1660) : Nat) : Int) : Int) != (rounds931 + 1)))] [] E (by kernel_rfl) trivial ?_
    clear E; intro a E
    refine wpList_nil ?_
    refine th_n ?_
    refine E.cases (t := 191) rfl (fun hb_ E_ => ?_) (fun hb_ E_ => ?_)
    ·
     replace E := E_; clear E_
     have h1679 : ¬ (((((List.length r1660) : Nat) : Int) : Int) = rounds931 + 1) := bne_iff_ne.1 hb_
     clear hb_; replace hP := ite_f h1679 hP
     refine c_true E rfl ?_
     refine wp_seq ?_
     refine wp_region_lit ?_
     refine vr tbok 1 [] [(6, .bool false)] [] E (by kernel_rfl) trivial ?_
     clear E; intro a E
     refine wpList_nil ?_
     refine th_n ?_
     refine wp_ret ?_
     refine bl_ret ?_
     refine th_ret ?_
     refine th_ret ?_
     refine .inr ⟨rfl, ?_⟩
     refine bl_ret ?_
     refine th_ret ?_
     have hx_ := Option.some.inj hP; subst hx_
     have hP : some (false) = some r := hK1300
     obtain rfl := Option.some.inj hP
     refine ret1 E rfl rfl ?_
     exact ⟨_, rfl, rfl, H.sel [] rfl⟩
    replace E := E_; clear E_
    have h1680 : ((((List.length r1660) : Nat) : Int) : Int) = rounds931 + 1 := bne_eq_false_iff_eq.1 hb_
    clear hb_; replace hP := ite_t h1680 hP
    refine c_false E rfl ?_
    refine wp_skip ?_
    refine bl_n ?_
    refine th_n ?_
    refine wp_region_lit ?_
    obtain ⟨g1681, hP⟩ := ask_inv hP
    refine vr tbok 3 [.int .i64 (i932 + 1)] [(2, .slice (some ⟨b1355, o1356, none⟩) (List.length raws) c14), (7, .bool r27), (8, .pointer (some ⟨g108, 0, none⟩)), (9, .pointer (some ⟨g523, 0, none⟩)), (11, .int .u8 x567), (12, .int .i64 (rounds931 + 1)), (13, .int .i64 (i932 + 1))] [IntKind.i64.wrap (i932 + 1) = i932 + 1] E (by kernel_rfl) (wrap_in g1681) ?_
    clear E; intro a E
    refine wpList_nil ?_
    exact th_n ⟨m1297, Nat.lt_succ_self _, r1357.2.2.1, r1357.2.2.2, rounds931 + 1, i932 + 1, A1371, c1372, E.pick _ ⟨rfl, rfl, rfl, rfl, rfl, rfl, rfl, trivial⟩, H.sel [0, 17, 1, 2, 3, 4, 5, 6, 16, 9, 10, 11, 12] rfl, hP⟩
   replace E := E_; clear E_
   have h1682 : ¬ (x129.2.2.2.2.2.2.2.1 = true) := (ne_true_of_eq_false hb_)
   clear hb_; replace hP := ite_f h1682 hP
   refine vr tbok 11 [.bool x129.2.2.2.2.2.2.2.1] [(2, .slice (some ⟨b1355, o1356, none⟩) (List.length raws) c14), (7, .bool r27), (8, .pointer (some ⟨g108, 0, none⟩)), (9, .pointer (some ⟨g523, 0, none⟩)), (11, .int .u8 x567), (12, .int .i64 (rounds931 + 1)), (13, .int .i64 i932), (171, .bool false), (175, .bool (!x129.2.2.2.2.2.2.2.1))] [World.cell? w1420 ⟨g523, 0, none⟩ = some (.bool x129.2.2.2.2.2.2.2.1)] E (by kernel_rfl) ((H.box 12 rfl).cell (j := 0) rfl) ?_
   clear E; intro a E
   refine E.cases (t := 175) rfl (fun hb_ E_ => ?_) (fun hb_ E_ => ?_)
   ·
    replace E := E_; clear E_
    have h1683 : ¬ (x129.2.2.2.2.2.2.2.1 = true) := (ne_true_of_eq_false (not_t hb_))
    clear hb_; replace hP := ite_f h1683 hP
    refine vr tbok 1 [] [(2, .slice (some ⟨b1355, o1356, none⟩) (List.length raws) c14), (7, .bool r27), (8, .pointer (some ⟨g108, 0, none⟩)), (9, .pointer (some ⟨g523, 0, none⟩)), (11, .int .u8 x567), (12, .int .i64 (rounds931 + 1)), (13, .int .i64 i932), (171, .bool false), (175, .bool true), (176, .pointer (some ⟨g108, 0, none⟩))] [] E (by kernel_rfl) trivial ?_
    clear E; intro a E
    obtain ⟨r1684, h1685, hP⟩ := bind_inv hP
    obtain ⟨Fa1686, Hc1687, hb1688⟩ := H.call [8, 7] [(1, false), (2, false), (3, false), (4, false), (5, false), (6, false)] rfl rfl ⟨flat_plain, trivial⟩
    refine e_call E rfl rfl Try.func26 rfl rfl rfl (play_Referee_Rank_calls g108 A109 c110 A111 c112 A113 c114 A115 c116 A117 c118 A119 c120 A1371 c1372 aProps x129.1 x129.2.1 x129.2.2.1 (s.1, s.2) x129.2.2.2.1 x129.2.2.2.2.1 x129.2.2.2.2.2.1 x129.2.2.2.2.2.2.1 r1357.2.2.1 r1357.2.2.2 true (H.rcap 1 rfl) (H.rcap 2 rfl) (H.rcap 3 rfl) (H.rcap 4 rfl) (H.rcap 5 rfl) (H.rcap 6 rfl) Hc1687 h1685) ?_
    intro v1694 w1693 a hR1695 E_
    obtain ⟨x_, hr_, rfl, HR1697⟩ := hR1695
    subst hr_
    replace E := E_ _ rfl; clear E_
    obtain ⟨H_, hc1696⟩ := hb1688 _ _ HR1697 rfl
    replace H := H_; clear H_; try dsimp only [setn, addE, goneL] at H
    refine vr tbok 2 [] [(2, .slice (some ⟨b1355, o1356, none⟩) (List.length raws) c14), (7, .bool r27), (8, .pointer (some ⟨g108, 0, none⟩)), (9, .pointer (some ⟨g523, 0, none⟩)), (11, .int .u8 x567), (12, .int .i64 (rounds931 + 1)), (13, .int .i64 i932), (171, .bool false), (175, .bool true), (179, .bool ((r1684 : Int) != (-1)))] [] E (by kernel_rfl) trivial ?_
    clear E; intro a E
    refine E.cases (t := 179) rfl (fun hb_ E_ => ?_) (fun hb_ E_ => ?_)
    ·
     replace E := E_; clear E_
     have h1700 : ¬ ((r1684 : Int) = -1) := bne_iff_ne.1 hb_
     clear hb_; replace hP := ite_f h1700 hP
     refine vr tbok 12 [] [(2, .slice (some ⟨b1355, o1356, none⟩) (List.length raws) c14), (7, .bool r27), (8, .pointer (some ⟨g108, 0, none⟩)), (9, .pointer (some ⟨g523, 0, none⟩)), (11, .int .u8 x567), (12, .int .i64 (rounds931 + 1)), (13, .int .i64 i932), (191, .bool true)] [] E (by kernel_rfl) trivial ?_
     clear E; intro a E
     refine wpList_nil ?_
     refine th_n ?_
     refine c_true E rfl ?_
     refine wp_seq ?_
     refine wp_region_lit ?_
     refine vr tbok 1 [] [(6, .bool false)] [] E (by kernel_rfl) trivial ?_
     clear E; intro a E
     refine wpList_nil ?_
     refine th_n ?_
     refine wp_ret ?_
     refine bl_ret ?_
     refine th_ret ?_
     refine th_ret ?_
     refine .inr ⟨rfl, ?_⟩
     refine bl_ret ?_
     refine th_ret ?_
     have hx_ := Option.some.inj hP; subst hx_
     have hP : some (false) = some r := hK1300
     obtain rfl := Option.some.inj hP
     refine ret1 E rfl rfl ?_
     exact ⟨_, rfl, rfl, H.sel [] rfl⟩
    replace E := E_; clear E_
    have h1701 : (r1684 : Int) = -1 := bne_eq_false_iff_eq.1 hb_
    clear hb_; replace hP := ite_t h1701 hP
    refine vr tbok 1 [] [(2, .slice (some ⟨b1355, o1356, none⟩) (List.length raws) c14), (7, .bool r27), (8, .pointer (some ⟨g108, 0, none⟩)), (9, .pointer (some ⟨g523, 0, none⟩)), (11, .int .u8 x567), (12, .int .i64 (rounds931 + 1)), (13, .int .i64 i932), (171, .bool false), (175, .bool true), (179, .bool false), (180, .pointer (some ⟨g108, 0, none⟩))] [] E (by kernel_rfl) trivial ?_
    clear E; intro a E
    obtain ⟨r1702, h1703, hP⟩ := bind_inv hP
    obtain ⟨Fa1704, Hc1705, hb1706⟩ := H.call [14, 13] [(1, false), (2, false), (3, false), (4, false), (5, false), (6, false)] rfl rfl ⟨flat_plain, trivial⟩
    refine e_call E rfl rfl Try.func27 rfl rfl rfl (play_Referee_Over_calls g108 A109 c110 A111 c112 A113 c114 A115 c116 A117 c118 A119 c120 A1371 c1372 aProps x129.1 x129.2.1 x129.2.2.1 (s.1, s.2) x129.2.2.2.1 x129.2.2.2.2.1 x129.2.2.2.2.2.1 x129.2.2.2.2.2.2.1 r1357.2.2.1 r1357.2.2.2 true (H.rcap 1 rfl) (H.rcap 2 rfl) (H.rcap 3 rfl) (H.rcap 4 rfl) (H.rcap 5 rfl) (H.rcap 6 rfl) Hc1705 h1703) ?_
    intro v1712 w1711 a hR1713 E_
    obtain ⟨x_, hr_, rfl, HR1715⟩ := hR1713
    subst hr_
    replace E := E_ _ rfl; clear E_
    obtain ⟨H_, hc1714⟩ := hb1706 _ _ HR1715 rfl
    replace H := H_; clear H_; try dsimp only [setn, addE, goneL] at H
    refine vr tbok 4 [] [(2, .slice (some ⟨b1355, o1356, none⟩) (List.length raws) c14), (7, .bool r27), (8, .pointer (some ⟨g108, 0, none⟩)), (9, .pointer (some ⟨g523, 0, none⟩)), (11, .int .u8 x567), (12, .int .i64 (rounds931 + 1)), (13, .int .i64 i932), (185, .bool r1702)] [] E (by kernel_rfl) trivial ?_
    clear E; intro a E
    refine E.cases (t := 185) rfl (fun hb_ E_ => ?_) (fun hb_ E_ => ?_)
    ·
     replace E := E_; clear E_
     have h1718 : r1702 = true := hb_
     clear hb_; replace hP := ite_t h1718 hP
     refine vr tbok 6 [] [(2, .slice (some ⟨b1355, o1356, none⟩) (List.length raws) c14), (7, .bool r27), (8, .pointer (some ⟨g108, 0, none⟩)), (9, .pointer (some ⟨g523, 0, none⟩)), (11, .int .u8 x567), (12, .int .i64 (rounds931 + 1)), (13, .int .i64 i932), (191, .bool true)] [] E (by kernel_rfl) trivial ?_
     clear E; intro a E
     refine wpList_nil ?_
     refine th_n ?_
     refine c_true E rfl ?_
     refine wp_seq ?_
     refine wp_region_lit ?_
     refine vr tbok 1 [] [(6, .bool false)] [] E (by kernel_rfl) trivial ?_
     clear E; intro a E
     refine wpList_nil ?_
     refine th_n ?_
     refine wp_ret ?_
     refine bl_ret ?_
     refine th_ret ?_
     refine th_ret ?_
     refine .inr ⟨rfl, ?_⟩
     refine bl_ret ?_
     refine th_ret ?_
     have hx_ := Option.some.inj hP; subst hx_
     have hP : some (false) = some r := hK1300
     obtain rfl := Option.some.inj hP
     refine ret1 E rfl rfl ?_
     exact ⟨_, rfl, rfl, H.sel [] rfl⟩
    replace E := E_; clear E_
    have h1719 : ¬ (r1702 = true) := (ne_true_of_eq_false hb_)
    clear hb_; replace hP := ite_f h1719 hP
    refine vr tbok 1 [] [(2, .slice (some ⟨b1355, o1356, none⟩) (List.length raws) c14), (7, .bool r27), (8, .pointer (some ⟨g108, 0, none⟩)), (9, .pointer (some ⟨g523, 0, none⟩)), (11, .int .u8 x567), (12, .int .i64 (rounds931 + 1)), (13, .int .i64 i932), (185, .bool false), (186, .pointer (some ⟨g108, 0, none⟩))] [] E (by kernel_rfl) trivial ?_
    clear E; intro a E
    obtain ⟨r1720, h1721, hP⟩ := bind_inv hP
    obtain ⟨Fa1722, Hc1723, hb1724⟩ := H.call [16, 15] [(1, false), (2, false), (3, false), (4, false), (5, false), (6, false)] rfl rfl ⟨flat_plain, trivial⟩
    refine e_call E rfl rfl Try.func30 rfl rfl rfl (play_Referee_Trace_calls g108 A109 c110 A111 c112 A113 c114 A115 c116 A117 c118 A119 c120 A1371 c1372 aProps x129.1 x129.2.1 x129.2.2.1 (s.1, s.2) x129.2.2.2.1 x129.2.2.2.2.1 x129.2.2.2.2.2.1 x129.2.2.2.2.2.2.1 r1357.2.2.1 r1357.2.2.2 true (H.rcap 1 rfl) (H.rcap 2 rfl) (H.rcap 3 rfl) (H.rcap 4 rfl) (H.rcap 5 rfl) (H.rcap 6 rfl) Hc1723 h1721) ?_
    intro v1730 w1729 a hR1731 E_
    obtain ⟨x_, A1734, c1735, hr_, rfl, HR1733⟩ := hR1731
    subst hr_
    replace E := E_ _ rfl; clear E_
    obtain ⟨H_, hc1732⟩ := hb1724 _ _ HR1733 rfl
    replace H := H_; clear H_; try dsimp only [setn, addE, goneL] at H
    refine vr tbok 4 [] [(2, .slice (some ⟨b1355, o1356, none⟩) (List.length raws) c14), (7, .bool r27), (8, .pointer (some ⟨g108, 0, none⟩)), (9, .pointer (some ⟨g523, 0, none⟩)), (11, .int .u8 x567), (12, .int .i64 (rounds931 + 1)), (13, .int .i64 i932), (191, .bool (((((List.length r1720) : Nat) : Int) : Int) != (rounds931 + 1)))] [] E (by kernel_rfl) trivial ?_
    clear E; intro a E
    refine wpList_nil ?_
    refine th_n ?_
    refine E.cases (t := 191) rfl (fun hb_ E_ => ?_) (fun hb_ E_ => ?_)
    ·
     replace E := E_; clear E_
     have h1739 : ¬ (((((List.length r1720) : Nat) : Int) : Int) = rounds931 + 1) := bne_iff_ne.1 hb_
     clear hb_; replace hP := ite_f h1739 hP
     refine c_true E rfl ?_
     refine wp_seq ?_
     refine wp_region_lit ?_
     refine vr tbok 1 [] [(6, .bool false)] [] E (by kernel_rfl) trivial ?_
     clear E; intro a E
     refine wpList_nil ?_
     refine th_n ?_
     refine wp_ret ?_
     refine bl_ret ?_
     refine th_ret ?_
     refine th_ret ?_
     refine .inr ⟨rfl, ?_⟩
     refine bl_ret ?_
     refine th_ret ?_
     have hx_ := Option.some.inj hP; subst hx_
     have hP : some (false) = some r := hK1300
     obtain rfl := Option.some.inj hP
     refine ret1 E rfl rfl ?_
     exact ⟨_, rfl, rfl, H.sel [] rfl⟩
    replace E := E_; clear E_
    have h1740 : ((((List.length r1720) : Nat) : Int) : Int) = rounds931 + 1 := bne_eq_false_iff_eq.1 hb_
    clear hb_; replace hP := ite_t h1740 hP
    refine c_false E rfl ?_
    refine wp_skip ?_
    refine bl_n ?_
    refine th_n ?_
    refine wp_region_lit ?_
    obtain ⟨g1741, hP⟩ := ask_inv hP
    refine vr tbok 3 [.int .i64 (i932 + 1)] [(2, .slice (some ⟨b1355, o1356, none⟩) (List.length raws) c14), (7, .bool r27), (8, .pointer (some ⟨g108, 0, none⟩)), (9, .pointer (some ⟨g523, 0, none⟩)), (11, .int .u8 x567), (12, .int .i64 (rounds931 + 1)), (13, .int .i64 (i932 + 1))] [IntKind.i64.wrap (i932 + 1) = i932 + 1] E (by kernel_rfl) (wrap_in g1741) ?_
    clear E; intro a E
    refine wpList_nil ?_
    exact th_n ⟨m1297, Nat.lt_succ_self _, r1357.2.2.1, r1357.2.2.2, rounds931 + 1, i932 + 1, A1371, c1372, E.pick _ ⟨rfl, rfl, rfl, rfl, rfl, rfl, rfl, trivial⟩, H.sel [0, 19, 1, 2, 3, 4, 5, 6, 18, 9, 10, 11, 12] rfl, hP⟩
   replace E := E_; clear E_
   have h1742 : x129.2.2.2.2.2.2.2.1 = true := (not_f hb_)
   clear hb_; replace hP := ite_t h1742 hP
   refine vr tbok 11 [] [(2, .slice (some ⟨b1355, o1356, none⟩) (List.length raws) c14), (7, .bool r27), (8, .pointer (some ⟨g108, 0, none⟩)), (9, .pointer (some ⟨g523, 0, none⟩)), (11, .int .u8 x567), (12, .int .i64 (rounds931 + 1)), (13, .int .i64 i932), (185, .bool false), (186, .pointer (some ⟨g108, 0, none⟩))] [] E (by kernel_rfl) trivial ?_
   clear E; intro a E
   obtain ⟨r1743, h1744, hP⟩ := bind_inv hP
   obtain ⟨Fa1745, Hc1746, hb1747⟩ := H.call [8, 7] [(1, false), (2, false), (3, false), (4, false), (5, false), (6, false)] rfl rfl ⟨flat_plain, trivial⟩
   refine e_call E rfl rfl Try.func30 rfl rfl rfl (play_Referee_Trace_calls g108 A109 c110 A111 c112 A113 c114 A115 c116 A117 c118 A119 c120 A1371 c1372 aProps x129.1 x129.2.1 x129.2.2.1 (s.1, s.2) x129.2.2.2.1 x129.2.2.2.2.1 x129.2.2.2.2.2.1 x129.2.2.2.2.2.2.1 r1357.2.2.1 r1357.2.2.2 true (H.rcap 1 rfl) (H.rcap 2 rfl) (H.rcap 3 rfl) (H.rcap 4 rfl) (H.rcap 5 rfl) (H.rcap 6 rfl) Hc1746 h1744) ?_
   intro v1753 w1752 a hR1754 E_
   obtain ⟨x_, A1757, c1758, hr_, rfl, HR1756⟩ := hR1754
   subst hr_
   replace E := E_ _ rfl; clear E_
   obtain ⟨H_, hc1755⟩ := hb1747 _ _ HR1756 rfl
   replace H := H_; clear H_; try dsimp only [setn, addE, goneL] at H
   refine vr tbok 4 [] [(2, .slice (some ⟨b1355, o1356, none⟩) (List.length raws) c14), (7, .bool r27), (8, .pointer (some ⟨g108, 0, none⟩)), (9, .pointer (some ⟨g523, 0, none⟩)), (11, .int .u8 x567), (12, .int .i64 (rounds931 + 1)), (13, .int .i64 i932), (191, .bool (((((List.length r1743) : Nat) : Int) : Int) != (rounds931 + 1)))] [] E (by kernel_rfl) trivial ?_
   clear E; intro a E
   refine wpList_nil ?_
   refine th_n ?_
   refine E.cases (t := 191) rfl (fun hb_ E_ => ?_) (fun hb_ E_ => ?_)
   ·
    replace E := E_; clear E_
    have h1762 : ¬ (((((List.length r1743) : Nat) : Int) : Int) = rounds931 + 1) := bne_iff_ne.1 hb_
    clear hb_; replace hP := ite_f h1762 hP
    refine c_true E rfl ?_
    refine wp_seq ?_
    refine wp_region_lit ?_
    refine vr tbok 1 [] [(6, .bool false)] [] E (by kernel_rfl) trivial ?_
    clear E; intro a E
    refine wpList_nil ?_
    refine th_n ?_
    refine wp_ret ?_
    refine bl_ret ?_
    refine th_ret ?_
    refine th_ret ?_
    refine .inr ⟨rfl, ?_⟩
    refine bl_ret ?_
    refine th_ret ?_
    have hx_ := Option.some.inj hP; subst hx_
    have hP : some (false) = some r := hK1300
    obtain rfl := Option.some.inj hP
    refine ret1 E rfl rfl ?_
    exact ⟨_, rfl, rfl, H.sel [] rfl⟩
   replace E := E_; clear E_
   have h1763 : ((((List.length r1743) : Nat) : Int) : Int) = rounds931 + 1 := bne_eq_false_iff_eq.1 hb_
   clear hb_; replace hP := ite_t h1763 hP
   refine c_false E rfl ?_
   refine wp_skip ?_
   refine bl_n ?_
   refine th_n ?_
   refine wp_region_lit ?_
   obtain ⟨g1764, hP⟩ := ask_inv hP
   refine vr tbok 3 [.int .i64 (i932 + 1)] [(2, .slice (some ⟨b1355, o1356, none⟩) (List.length raws) c14), (7, .bool r27), (8, .pointer (some ⟨g108, 0, none⟩)), (9, .pointer (some ⟨g523, 0, none⟩)), (11, .int .u8 x567), (12, .int .i64 (rounds931 + 1)), (13, .int .i64 (i932 + 1))] [IntKind.i64.wrap (i932 + 1) = i932 + 1] E (by kernel_rfl) (wrap_in g1764) ?_
   clear E; intro a E
   refine wpList_nil ?_
   exact th_n ⟨m1297, Nat.lt_succ_self _, r1357.2.2.1, r1357.2.2.2, rounds931 + 1, i932 + 1, A1371, c1372, E.pick _ ⟨rfl, rfl, rfl, rfl, rfl, rfl, rfl, trivial⟩, H.sel [0, 15, 1, 2, 3, 4, 5, 6, 14, 9, 10, 11, 12] rfl, hP⟩
  replace E := E_; clear E_
  have h1765 : ¬ (i932 < (((List.length raws) : Nat) : Int)) := of_decide_eq_false hb_
  clear hb_; replace hP := ite_f h1765 hP
  refine c_false E rfl ?_
  refine wp_exit ?_
  refine th_exit ?_
  have hx_ := Option.some.inj hP
  refine th_exit (.inl ⟨0, rfl, ?_⟩)
  exact ⟨rfl, (r926, r928, rounds931), A929, c930, E.pick _ ⟨rfl, rfl, rfl, rfl, trivial⟩, H.sel [1, 2, 3, 4, 5, 6, 7, 8, 9, 10, 11, 12] rfl, hx_.symm⟩
 clear E H hL1299; intro i_ a w1302 hM_
 obtain ⟨rfl, x1304, A1294, c1295, E, H, hx_⟩ := hM_
 subst hx_; have hP := elim_l hK1300
 clear hK1300
 refine bl_hit ?_
 refine th_n ?_
 refine wp_seq ?_
 refine wp_region_lit ?_
 refine vr tbok 2 [] [(8, .pointer (some ⟨g108, 0, none⟩)), (9, .pointer (some ⟨g523, 0, none⟩)), (12, .int .i64 x1304.2.2), (193, .bool r27)] [] E (by kernel_rfl) trivial ?_
 clear E; intro a E
 refine E.cases (t := 193) rfl (fun hb_ E_ => ?_) (fun hb_ E_ => ?_)
 ·
  replace E := E_; clear E_
  have h1767 : r27 = true := hb_
  clear hb_; replace hP := ite_t h1767 hP
  refine vr tbok 4 [.bool x129.2.2.2.2.2.2.2.1] [(8, .pointer (some ⟨g108, 0, none⟩)), (9, .pointer (some ⟨g523, 0, none⟩)), (12, .int .i64 x1304.2.2), (193, .bool true), (197, .bool (!x129.2.2.2.2.2.2.2.1))] [World.cell? w1302 ⟨g523, 0, none⟩ = some (.bool x129.2.2.2.2.2.2.2.1)] E (by kernel_rfl) ((H.box 11 rfl).cell (j := 0) rfl) ?_
  clear E; intro a E
  refine E.cases (t := 197) rfl (fun hb_ E_ => ?_) (fun hb_ E_ => ?_)
  ·
   replace E := E_; clear E_
   have h1768 : ¬ (x129.2.2.2.2.2.2.2.1 = true) := (ne_true_of_eq_false (not_t hb_))
   clear hb_; replace hP := ite_f h1768 hP
   refine vr tbok 21 [] [(6, .bool true)] [] E (by kernel_rfl) trivial ?_
   clear E; intro a E
   refine wpList_nil ?_
   refine th_n ?_
   refine wp_ret ?_
   obtain rfl := Option.some.inj hP
   refine ret1 E rfl rfl ?_
   exact ⟨_, rfl, rfl, H.sel [] rfl⟩
  replace E := E_; clear E_
  have h1769 : x129.2.2.2.2.2.2.2.1 = true := (not_f hb_)
  clear hb_; replace hP := ite_t h1769 hP
  obtain ⟨g1770, hP⟩ := ask_inv hP
  obtain ⟨b1771, e_b1771⟩ := H.raddr 8 rfl (idx_pos g1770)
  subst e_b1771
  refine vr tbok 7 [.slice (some ⟨b1771, 0, none⟩) (List.length x129.2.2.2.2.2.2.2.2.1) c122, .int .i64 (List.getD x129.2.2.2.2.2.2.2.2.1 (Int.toNat (0 : Int)) 0)] [(8, .pointer (some ⟨g108, 0, none⟩)), (9, .pointer (some ⟨g523, 0, none⟩)), (12, .int .i64 x1304.2.2), (193, .bool true), (197, .bool false), (204, .bool (decide (x1304.2.2 ≤ (List.getD x129.2.2.2.2.2.2.2.2.1 (Int.toNat (0 : Int)) 0))))] [World.cell? w1302 ⟨g523, 1, none⟩ = some (.slice (some ⟨b1771, 0, none⟩) (List.length x129.2.2.2.2.2.2.2.2.1) c122), 0 ≤ (0 : Int) ∧ (0 : Int) < (((List.length x129.2.2.2.2.2.2.2.2.1) : Nat) : Int), World.cell? w1302 ⟨b1771, 0 + (Int.toNat (0 : Int)) * 1, none⟩ = some (.int .i64 (List.getD x129.2.2.2.2.2.2.2.2.1 (Int.toNat (0 : Int)) 0))] E (by kernel_rfl) ⟨(H.box 11 rfl).cell (j := 1) rfl, g1770, Rds.at1 (H.rd 8 rds_row) 0 g1770⟩ ?_
  clear E; intro a E
  refine E.cases (t := 204) rfl (fun hb_ E_ => ?_) (fun hb_ E_ => ?_)
  ·
   replace E := E_; clear E_
   have h1773 : x1304.2.2 ≤ (List.getD x129.2.2.2.2.2.2.2.2.1 (Int.toNat (0 : Int)) 0) := of_decide_eq_true hb_
   clear hb_; replace hP := ite_t h1773 hP
   refine vr tbok 7 [.slice (some ⟨b1771, 0, none⟩) (List.length x129.2.2.2.2.2.2.2.2.1) c122, .int .i64 (List.getD x129.2.2.2.2.2.2.2.2.1 (Int.toNat (0 : Int)) 0)] [(8, .pointer (some ⟨g108, 0, none⟩)), (193, .bool true), (197, .bool false), (204, .bool true), (211, .bool (decide (x1304.2.2 < (List.getD x129.2.2.2.2.2.2.2.2.1 (Int.toNat (0 : Int)) 0))))] [World.cell? w1302 ⟨g523, 1, none⟩ = some (.slice (some ⟨b1771, 0, none⟩) (List.length x129.2.2.2.2.2.2.2.2.1) c122), 0 ≤ (0 : Int) ∧ (0 : Int) < (((List.length x129.2.2.2.2.2.2.2.2.1) : Nat) : Int), World.cell? w1302 ⟨b1771, 0 + (Int.toNat (0 : Int)) * 1, none⟩ = some (.int .i64 (List.getD x129.2.2.2.2.2.2.2.2.1 (Int.toNat (0 : Int)) 0))] E (by kernel_rfl) ⟨(H.box 11 rfl).cell (j := 1) rfl, g1770, Rds.at1 (H.rd 8 rds_row) 0 g1770⟩ ?_
   clear E; intro a E
   refine E.cases (t := 211) rfl (fun hb_ E_ => ?_) (fun hb_ E_ => ?_)
   ·
    replace E := E_; clear E_
    have h1774 : x1304.2.2 < (List.getD x129.2.2.2.2.2.2.2.2.1 (Int.toNat (0 : Int)) 0) := of_decide_eq_true hb_
    clear hb_; replace hP := ite_t h1774 hP
    refine vr tbok 7 [] [(6, .bool true)] [] E (by kernel_rfl) trivial ?_
    clear E; intro a E
    refine wpList_nil ?_
    refine th_n ?_
    refine wp_ret ?_
    obtain rfl := Option.some.inj hP
    refine ret1 E rfl rfl ?_
    exact ⟨_, rfl, rfl, H.sel [] rfl⟩
   replace E := E_; clear E_
   have h1775 : ¬ (x1304.2.2 < (List.getD x129.2.2.2.2.2.2.2.2.1 (Int.toNat (0 : Int)) 0)) := of_decide_eq_false hb_
   clear hb_; replace hP := ite_f h1775 hP
   refine vr tbok 1 [] [(193, .bool true), (197, .bool false), (204, .bool true), (211, .bool false), (212, .pointer (some ⟨g108, 0, none⟩))] [] E (by kernel_rfl) trivial ?_
   clear E; intro a E
   obtain ⟨r1776, h1777, hP⟩ := bind_inv hP
   obtain ⟨Fa1778, Hc1779, hb1780⟩ := H.call [0, 7] [(1, false), (2, false), (3, false), (4, false), (5, false), (6, false)] rfl rfl ⟨flat_plain, trivial⟩
   refine e_call E rfl rfl Try.func27 rfl rfl rfl (play_Referee_Over_calls g108 A109 c110 A111 c112 A113 c114 A115 c116 A117 c118 A119 c120 A1294 c1295 aProps x129.1 x129.2.1 x129.2.2.1 (s.1, s.2) x129.2.2.2.1 x129.2.2.2.2.1 x129.2.2.2.2.2.1 x129.2.2.2.2.2.2.1 x1304.1 x1304.2.1 true (H.rcap 1 rfl) (H.rcap 2 rfl) (H.rcap 3 rfl) (H.rcap 4 rfl) (H.rcap 5 rfl) (H.rcap 6 rfl) Hc1779 h1777) ?_
   intro v1786 w1785 a hR1787 E_
   obtain ⟨x_, hr_, rfl, HR1789⟩ := hR1787
   subst hr_
   replace E := E_ _ rfl; clear E_
   obtain ⟨H_, hc1788⟩ := hb1780 _ _ HR1789 rfl
   replace H := H_; clear H_; try dsimp only [setn, addE, goneL] at H
   refine vr tbok 5 [] [(6, .bool r1776)] [] E (by kernel_rfl) trivial ?_
   clear E; intro a E
   refine wpList_nil ?_
   refine th_n ?_
   refine wp_ret ?_
   obtain rfl := Option.some.inj hP
   refine ret1 E rfl rfl ?_
   exact ⟨_, rfl, rfl, H.sel [] rfl⟩
  replace E := E_; clear E_
  have h1792 : ¬ (x1304.2.2 ≤ (List.getD x129.2.2.2.2.2.2.2.2.1 (Int.toNat (0 : Int)) 0)) := of_decide_eq_false hb_
  clear hb_; replace hP := ite_f h1792 hP
  refine vr tbok 14 [] [(6, .bool false)] [] E (by kernel_rfl) trivial ?_
  clear E; intro a E
  refine wpList_nil ?_
  refine th_n ?_
  refine wp_ret ?_
  obtain rfl := Option.some.inj hP
  refine ret1 E rfl rfl ?_
  exact ⟨_, rfl, rfl, H.sel [] rfl⟩
 replace E := E_; clear E_
 have h1793 : ¬ (r27 = true) := (ne_true_of_eq_false hb_)
 clear hb_; replace hP := ite_f h1793 hP
 refine vr tbok 25 [] [(6, .bool false)] [] E (by kernel_rfl) trivial ?_
 clear E; intro a E
 refine wpList_nil ?_
 refine th_n ?_
 refine wp_ret ?_
 obtain rfl := Option.some.inj hP
 refine ret1 E rfl rfl ?_
 exact ⟨_, rfl, rfl, H.sel [] rfl⟩

end Go.V
