/- Plain functions, and the calls that give them. -/
import Derived.Test.YtckpjnoajnbmdaaA11
set_option linter.all false
set_option linter.unusedVariables false
set_option linter.unnecessarySimpa false
set_option linter.unusedSimpArgs false
namespace Go.V
open Go Go.Proofs
/-! rejoinder/rejoinderlaw25.PlayBack -/
def law25_PlayBack_f2 (N : Nat) : Option Unit :=
    some ()
def law25_PlayBack_f1 (N : Nat) : Option Unit :=
    Option.bind (law25_PlayBack_f2 N) fun x150 =>
    some ()
def law25_PlayBack_l0 (N : Nat) (raws : List Int) : Nat → Int → Option Unit
  | 0, _ => none
  | m134 + 1, i123 =>
    if i123 < (((List.length raws) : Nat) : Int) then
      ask (idx i123 (List.length raws)) <|
      Option.bind (law25_PlayBack_f1 N) fun x147 =>
      ask (in64 (i123 + 1)) <|
      law25_PlayBack_l0 N raws m134 (i123 + 1)
    else
      some ()
def law25_PlayBack_f4 (N : Nat) : Option Unit :=
    some ()
def law25_PlayBack_f3 (N : Nat) : Option Unit :=
    Option.bind (law25_PlayBack_f4 N) fun x164 =>
    some ()
def law25_PlayBack_f6 (N : Nat) : Option Unit :=
    some ()
def law25_PlayBack_f5 (N : Nat) : Option Unit :=
    Option.bind (law25_PlayBack_f6 N) fun x181 =>
    some ()
def law25_PlayBack_f8 (N : Nat) : Option Unit :=
    some ()
def law25_PlayBack_f7 (N : Nat) : Option Unit :=
    Option.bind (law25_PlayBack_f8 N) fun x200 =>
    some ()
def law25_PlayBack_f10 (N : Nat) : Option Unit :=
    some ()
def law25_PlayBack_f9 (N : Nat) : Option Unit :=
    Option.bind (law25_PlayBack_f10 N) fun x212 =>
    some ()
def law25_PlayBack_f12 (N : Nat) : Option Unit :=
    some ()
def law25_PlayBack_f11 (N : Nat) : Option Unit :=
    Option.bind (law25_PlayBack_f12 N) fun x224 =>
    some ()
def law25_PlayBack_f14 (N : Nat) : Option Unit :=
    some ()
def law25_PlayBack_f13 (N : Nat) : Option Unit :=
    Option.bind (law25_PlayBack_f14 N) fun x236 =>
    some ()
def law25_PlayBack_f16 (N : Nat) : Option Unit :=
    some ()
def law25_PlayBack_f15 (N : Nat) : Option Unit :=
    Option.bind (law25_PlayBack_f16 N) fun x253 =>
    some ()
def law25_PlayBack_f18 (N : Nat) : Option Unit :=
    some ()
def law25_PlayBack_f17 (N : Nat) : Option Unit :=
    Option.bind (law25_PlayBack_f18 N) fun x274 =>
    some ()
def law25_PlayBack_f20 (N : Nat) : Option Unit :=
    some ()
def law25_PlayBack_f19 (N : Nat) : Option Unit :=
    Option.bind (law25_PlayBack_f20 N) fun x286 =>
    some ()
def law25_PlayBack_l21 (N : Nat) : Nat → Option Unit
  | 0 => none
  | m306 + 1 =>
    some ()
def law25_PlayBack_f23 (N : Nat) : Option Unit :=
    some ()
def law25_PlayBack_f22 (N : Nat) : Option Unit :=
    Option.bind (law25_PlayBack_f23 N) fun x319 =>
    some ()
def law25_PlayBack_l24 (N : Nat) (aProps : Int) (s : Int × Int) (raws : List Int) (x101 : (List Bool) × (List Int) × (List Nd) × Bool × (List Int) × (List (List Int)) × (List Int) × Bool × (List Int) × (List (List Int)) × (List Int) × Bool) : Nat → Int → (List (Int × Int)) → Int → Option (Int × (List (Int × Int)))
  | 0, _, _, _ => none
  | m406 + 1, r370, r372, i375 =>
    if i375 < (((List.length raws) : Nat) : Int) then
      ask (idx i375 (List.length raws)) <|
      Option.bind (play_Referee_Move N aProps x101.1 x101.2.1 x101.2.2.1 (s.1, s.2) x101.2.2.2.1 x101.2.2.2.2.1 x101.2.2.2.2.2.1 x101.2.2.2.2.2.2.1 r370 r372 true (List.getD raws (Int.toNat i375) 0)) fun r418 =>
      ask (in64 (i375 + 1)) <|
      law25_PlayBack_l24 N aProps s raws x101 m406 r418.2.2.1 r418.2.2.2 (i375 + 1)
    else
      some (r370, r372)
def law25_PlayBack_l25 (N : Nat) (aProps : Int) (s : Int × Int) (x101 : (List Bool) × (List Int) × (List Nd) × Bool × (List Int) × (List (List Int)) × (List Int) × Bool × (List Int) × (List (List Int)) × (List Int) × Bool) (r486 : List Int) : Nat → Int → (List (Int × Int)) → Int → Option ((Int × (List (Int × Int))) ⊕ Bool)
  | 0, _, _, _ => none
  | m682 + 1, r650, r651, i654 =>
    if i654 < (((List.length r486) : Nat) : Int) then
      Option.bind (play_Referee_Back N aProps x101.1 x101.2.1 x101.2.2.1 (s.1, s.2) x101.2.2.2.1 x101.2.2.2.2.1 x101.2.2.2.2.2.1 x101.2.2.2.2.2.2.1 r650 r651 true) fun r690 =>
      if (r690.1 : Int) = 0 then
        ask (in64 (i654 + 1)) <|
        law25_PlayBack_l25 N aProps s x101 r486 m682 r690.2.1 r690.2.2 (i654 + 1)
      else
        some (Sum.inr false)
    else
      some (Sum.inl (r650, r651))
def law25_PlayBack_l26 (N : Nat) (aProps : Int) (s : Int × Int) (x101 : (List Bool) × (List Int) × (List Nd) × Bool × (List Int) × (List (List Int)) × (List Int) × Bool × (List Int) × (List (List Int)) × (List Int) × Bool) (r486 : List Int) : Nat → Int → (List (Int × Int)) → Int → Option ((Int × (List (Int × Int))) ⊕ Bool)
  | 0, _, _, _ => none
  | m911 + 1, r879, r880, i883 =>
    if i883 < (((List.length r486) : Nat) : Int) then
      Option.bind (play_Referee_Back N aProps x101.1 x101.2.1 x101.2.2.1 (s.1, s.2) x101.2.2.2.1 x101.2.2.2.2.1 x101.2.2.2.2.2.1 x101.2.2.2.2.2.2.1 r879 r880 true) fun r919 =>
      if (r919.1 : Int) = 0 then
        ask (in64 (i883 + 1)) <|
        law25_PlayBack_l26 N aProps s x101 r486 m911 r919.2.1 r919.2.2 (i883 + 1)
      else
        some (Sum.inr false)
    else
      some (Sum.inl (r879, r880))
def law25_PlayBack (N : Nat) (aProps : Int) (aAccept : List Bool) (aGuard : List Int) (aNodes : List Nd) (s : Int × Int) (raws : List Int) (raw : Int) : Option Bool :=
  Option.bind (law25_awake N) fun r27 =>
  Option.bind (law19_Large N aProps aAccept aGuard aNodes) fun r36 =>
  if r36 = true then
    some r27
  else
    if 20 < (((List.length raws) : Nat) : Int) then
      some r27
    else
      Option.bind (board_Check N aProps aAccept aGuard aNodes (s.1, s.2)) fun r49 =>
      if (r49 : Int) = 0 then
        Option.bind (law25_begun N aProps aAccept aGuard aNodes (s.1, s.2)) fun r60 =>
        Sum.elim (fun x100 =>
          if x100.2.2.2.2 = true then
            Option.bind (law25_PlayBack_l0 N raws N 0) fun x135 =>
            Option.bind (law25_PlayBack_f3 N) fun x161 =>
            Option.bind (law25_PlayBack_f5 N) fun x178 =>
            Option.bind (law25_PlayBack_f7 N) fun x197 =>
            Option.bind (law25_PlayBack_f9 N) fun x209 =>
            Option.bind (law25_PlayBack_f11 N) fun x221 =>
            Option.bind (law25_PlayBack_f13 N) fun x233 =>
            Option.bind (law25_PlayBack_f15 N) fun x250 =>
            if false = false then
              Option.bind (law25_PlayBack_f17 N) fun x271 =>
              Option.bind (law25_PlayBack_f19 N) fun x283 =>
              Option.bind (kit_SameLetters N [] []) fun r295 =>
              if r295 = true then
                Option.bind (law25_PlayBack_l21 N N ) fun x307 =>
                if r27 = true then
                  Option.bind (law25_PlayBack_f22 N) fun x316 =>
                  some false
                else
                  some false
              else
                some false
            else
              some false
          else
            some false)
         (fun x101 =>
          if x101.2.2.2.2.2.2.2.2.2.2.2 = true then
            Option.bind (law25_PlayBack_l24 N aProps s raws x101 N 0 [] 0) fun x407 =>
            Option.bind (play_Referee_Rank N aProps x101.1 x101.2.1 x101.2.2.1 (s.1, s.2) x101.2.2.2.1 x101.2.2.2.2.1 x101.2.2.2.2.2.1 x101.2.2.2.2.2.2.1 x407.1 x407.2 true) fun r438 =>
            Option.bind (play_Referee_Over N aProps x101.1 x101.2.1 x101.2.2.1 (s.1, s.2) x101.2.2.2.1 x101.2.2.2.2.1 x101.2.2.2.2.2.1 x101.2.2.2.2.2.2.1 x407.1 x407.2 true) fun r454 =>
            Option.bind (play_Referee_State N aProps x101.1 x101.2.1 x101.2.2.1 (s.1, s.2) x101.2.2.2.1 x101.2.2.2.2.1 x101.2.2.2.2.2.1 x101.2.2.2.2.2.2.1 x407.1 x407.2 true) fun r470 =>
            Option.bind (play_Referee_Trace N aProps x101.1 x101.2.1 x101.2.2.1 (s.1, s.2) x101.2.2.2.1 x101.2.2.2.2.1 x101.2.2.2.2.2.1 x101.2.2.2.2.2.2.1 x407.1 x407.2 true) fun r486 =>
            Option.bind (play_Referee_Move N aProps x101.1 x101.2.1 x101.2.2.1 (s.1, s.2) x101.2.2.2.1 x101.2.2.2.2.1 x101.2.2.2.2.2.1 x101.2.2.2.2.2.2.1 x407.1 x407.2 true raw) fun r505 =>
            if (r505.2.1 : Int) = 0 then
              Option.bind (play_Referee_Back N aProps x101.1 x101.2.1 x101.2.2.1 (s.1, s.2) x101.2.2.2.1 x101.2.2.2.2.1 x101.2.2.2.2.2.1 x101.2.2.2.2.2.2.1 r505.2.2.1 r505.2.2.2 true) fun r524 =>
              if (r524.1 : Int) = 0 then
                Option.bind (play_Referee_Rank N aProps x101.1 x101.2.1 x101.2.2.1 (s.1, s.2) x101.2.2.2.1 x101.2.2.2.2.1 x101.2.2.2.2.2.1 x101.2.2.2.2.2.2.1 r524.2.1 r524.2.2 true) fun r544 =>
                if (r544 : Int) = r438 then
                  Option.bind (play_Referee_Over N aProps x101.1 x101.2.1 x101.2.2.1 (s.1, s.2) x101.2.2.2.1 x101.2.2.2.2.1 x101.2.2.2.2.2.1 x101.2.2.2.2.2.2.1 r524.2.1 r524.2.2 true) fun r562 =>
                  if r562 = r454 then
                    Option.bind (play_Referee_State N aProps x101.1 x101.2.1 x101.2.2.1 (s.1, s.2) x101.2.2.2.1 x101.2.2.2.2.1 x101.2.2.2.2.2.1 x101.2.2.2.2.2.2.1 r524.2.1 r524.2.2 true) fun r580 =>
                    if (r580 : Int) = r470 then
                      Option.bind (play_Referee_Trace N aProps x101.1 x101.2.1 x101.2.2.1 (s.1, s.2) x101.2.2.2.1 x101.2.2.2.2.1 x101.2.2.2.2.2.1 x101.2.2.2.2.2.2.1 r524.2.1 r524.2.2 true) fun r598 =>
                      Option.bind (kit_SameLetters N r598 r486) fun r617 =>
                      if r617 = true then
                        Option.bind (law25_PlayBack_l25 N aProps s x101 r486 N r524.2.1 r524.2.2 0) fun x683 =>
                        Sum.elim (fun x688 =>
                          if r27 = true then
                            Option.bind (play_Referee_Back N aProps x101.1 x101.2.1 x101.2.2.1 (s.1, s.2) x101.2.2.2.1 x101.2.2.2.2.1 x101.2.2.2.2.2.1 x101.2.2.2.2.2.2.1 x688.1 x688.2 true) fun r714 =>
                            if (r714.1 : Int) = 6 then
                              Option.bind (play_Referee_State N aProps x101.1 x101.2.1 x101.2.2.1 (s.1, s.2) x101.2.2.2.1 x101.2.2.2.2.1 x101.2.2.2.2.2.1 x101.2.2.2.2.2.2.1 r714.2.1 r714.2.2 true) fun r733 =>
                              if (r733 : Int) = 0 then
                                Option.bind (play_Referee_Trace N aProps x101.1 x101.2.1 x101.2.2.1 (s.1, s.2) x101.2.2.2.1 x101.2.2.2.2.1 x101.2.2.2.2.2.1 x101.2.2.2.2.2.2.1 r714.2.1 r714.2.2 true) fun r750 =>
                                some (((((List.length r750) : Nat) : Int) : Int) == 0)
                              else
                                some false
                            else
                              some false
                          else
                            some false)
                         (fun x712 =>
                          some x712) x683
                      else
                        some false
                    else
                      some false
                  else
                    some false
                else
                  some false
              else
                some false
            else
              Option.bind (play_Referee_Rank N aProps x101.1 x101.2.1 x101.2.2.1 (s.1, s.2) x101.2.2.2.1 x101.2.2.2.2.1 x101.2.2.2.2.2.1 x101.2.2.2.2.2.2.1 r505.2.2.1 r505.2.2.2 true) fun r773 =>
              if (r773 : Int) = r438 then
                Option.bind (play_Referee_Over N aProps x101.1 x101.2.1 x101.2.2.1 (s.1, s.2) x101.2.2.2.1 x101.2.2.2.2.1 x101.2.2.2.2.2.1 x101.2.2.2.2.2.2.1 r505.2.2.1 r505.2.2.2 true) fun r791 =>
                if r791 = r454 then
                  Option.bind (play_Referee_State N aProps x101.1 x101.2.1 x101.2.2.1 (s.1, s.2) x101.2.2.2.1 x101.2.2.2.2.1 x101.2.2.2.2.2.1 x101.2.2.2.2.2.2.1 r505.2.2.1 r505.2.2.2 true) fun r809 =>
                  if (r809 : Int) = r470 then
                    Option.bind (play_Referee_Trace N aProps x101.1 x101.2.1 x101.2.2.1 (s.1, s.2) x101.2.2.2.1 x101.2.2.2.2.1 x101.2.2.2.2.2.1 x101.2.2.2.2.2.2.1 r505.2.2.1 r505.2.2.2 true) fun r827 =>
                    Option.bind (kit_SameLetters N r827 r486) fun r846 =>
                    if r846 = true then
                      Option.bind (law25_PlayBack_l26 N aProps s x101 r486 N r505.2.2.1 r505.2.2.2 0) fun x912 =>
                      Sum.elim (fun x917 =>
                        if r27 = true then
                          Option.bind (play_Referee_Back N aProps x101.1 x101.2.1 x101.2.2.1 (s.1, s.2) x101.2.2.2.1 x101.2.2.2.2.1 x101.2.2.2.2.2.1 x101.2.2.2.2.2.2.1 x917.1 x917.2 true) fun r943 =>
                          if (r943.1 : Int) = 6 then
                            Option.bind (play_Referee_State N aProps x101.1 x101.2.1 x101.2.2.1 (s.1, s.2) x101.2.2.2.1 x101.2.2.2.2.1 x101.2.2.2.2.2.1 x101.2.2.2.2.2.2.1 r943.2.1 r943.2.2 true) fun r962 =>
                            if (r962 : Int) = 0 then
                              Option.bind (play_Referee_Trace N aProps x101.1 x101.2.1 x101.2.2.1 (s.1, s.2) x101.2.2.2.1 x101.2.2.2.2.1 x101.2.2.2.2.2.1 x101.2.2.2.2.2.2.1 r943.2.1 r943.2.2 true) fun r979 =>
                              some (((((List.length r979) : Nat) : Int) : Int) == 0)
                            else
                              some false
                          else
                            some false
                        else
                          some false)
                       (fun x941 =>
                        some x941) x912
                    else
                      some false
                  else
                    some false
                else
                  some false
              else
                some false
          else
            some false) r60
      else
        some r27
set_option maxRecDepth 100000 in
set_option maxHeartbeats 4000000 in
theorem law25_PlayBack_calls {N : Nat} {S Fa : Nat → Prop} {w0 : World} {r : Bool} (A1 : Option Addr) (c2 : Nat) (A5 : Option Addr) (c6 : Nat) (A9 : Option Addr) (c10 : Nat) (A13 : Option Addr) (c14 : Nat) (aProps : Int) (aAccept : List Bool) (aGuard : List Int) (aNodes : List Nd) (s : Int × Int) (raws : List Int) (raw : Int) (hk3 : List.length aAccept ≤ c2) (hk7 : List.length aGuard ≤ c6) (hk11 : List.length aNodes ≤ c10) (hk15 : List.length raws ≤ c14) (H : Hp S Fa w0 w0 [.ro false cBool A1 aAccept, .ro false (cInt .i64) A5 aGuard, .ro false cNode A9 aNodes, .ro false (cInt .u64) A13 raws]) (hP : law25_PlayBack N aProps aAccept aGuard aNodes s raws raw = some r) :
    Calls Try.prog 5 #[.agg #[.int .i64 aProps, .slice A1 (List.length aAccept) c2, .slice A5 (List.length aGuard) c6, .slice A9 (List.length aNodes) c10], .agg #[.int .u8 s.1, .int .u8 s.2], .slice A13 (List.length raws) c14, .int .u64 raw] w0 fun e w' => ∃ v, e = .returned v ∧ v = .bool r ∧ Hp S Fa w0 w' [] := by
 refine enterV (n := 127) Try.func5 rfl rfl rfl ?_
 intro a E
 replace E := E.pick [(0, .agg #[.int .i64 aProps, .slice A1 (List.length aAccept) c2, .slice A5 (List.length aGuard) c6, .slice A9 (List.length aNodes) c10]), (1, .agg #[.int .u8 s.1, .int .u8 s.2]), (2, .slice A13 (List.length raws) c14), (3, .int .u64 raw)] ⟨rfl, rfl, rfl, rfl, trivial⟩
 rw [law25_PlayBack] at hP
 refine wp_seq ?_
 refine wp_region_lit ?_
 refine h_box H E rfl rfl rfl ?_
 intro w18 g17 a hc19 hg21 H_ E_
 replace E := E_ _ rfl; clear E_
 replace H := H_; clear H_; try dsimp only [setn, addE, goneL] at H
 refine h_box H E rfl rfl rfl ?_
 intro w23 g22 a hc24 hg26 H_ E_
 replace E := E_ _ rfl; clear E_
 replace H := H_; clear H_; try dsimp only [setn, addE, goneL] at H
 refine vr tbok 1 [] [(2, .slice A13 (List.length raws) c14), (3, .int .u64 raw), (4, .pointer (some ⟨g17, 0, none⟩)), (5, .pointer (some ⟨g22, 0, none⟩))] [] E (by kernel_rfl) trivial ?_
 clear E; intro a E
 refine wpList_nil ?_
 refine th_n ?_
 refine wp_seq ?_
 refine wp_region_lit ?_
 obtain ⟨r27, h28, hP⟩ := bind_inv hP
 obtain ⟨Fa29, Hc30, hb31⟩ := H.call [] [] rfl rfl trivial
 refine e_call E rfl rfl Try.func22 rfl rfl rfl (law25_awake_calls    Hc30 h28) ?_
 rintro v32 w33 a ⟨rfl, HR34⟩ E_
 replace E := E_ _ rfl; clear E_
 obtain ⟨H_, hc35⟩ := hb31 _ _ HR34 rfl
 replace H := H_; clear H_; try dsimp only [setn, addE, goneL] at H
 refine vr tbok 1 [] [(2, .slice A13 (List.length raws) c14), (3, .int .u64 raw), (4, .pointer (some ⟨g17, 0, none⟩)), (5, .pointer (some ⟨g22, 0, none⟩)), (9, .bool r27)] [] E (by kernel_rfl) trivial ?_
 clear E; intro a E
 refine wpList_nil ?_
 refine th_n ?_
 refine wp_seq ?_
 refine wp_seq ?_
 refine wp_region_lit ?_
 refine vr tbok 1 [.agg #[.int .i64 aProps, .slice A1 (List.length aAccept) c2, .slice A5 (List.length aGuard) c6, .slice A9 (List.length aNodes) c10]] [(2, .slice A13 (List.length raws) c14), (3, .int .u64 raw), (4, .pointer (some ⟨g17, 0, none⟩)), (5, .pointer (some ⟨g22, 0, none⟩)), (9, .bool r27), (22, .agg #[.int .i64 aProps, .slice A1 (List.length aAccept) c2, .slice A5 (List.length aGuard) c6, .slice A9 (List.length aNodes) c10])] [cellsAt w33 g17 (0) [.int .i64 aProps, .slice A1 (List.length aAccept) c2, .slice A5 (List.length aGuard) c6, .slice A9 (List.length aNodes) c10]] E (by kernel_rfl) ((H.box 4 rfl).sub 0 _ rfl) ?_
 clear E; intro a E
 obtain ⟨r36, h37, hP⟩ := bind_inv hP
 obtain ⟨Fa38, Hc39, hb40⟩ := H.call [] [(0, false), (1, false), (2, false)] rfl rfl trivial
 refine e_call E rfl rfl Try.func8 rfl rfl rfl (law19_Large_calls A1 c2 A5 c6 A9 c10 aProps aAccept aGuard aNodes hk3 hk7 hk11 Hc39 h37) ?_
 rintro v41 w42 a ⟨rfl, HR43⟩ E_
 replace E := E_ _ rfl; clear E_
 obtain ⟨H_, hc44⟩ := hb40 _ _ HR43 rfl
 replace H := H_; clear H_; try dsimp only [setn, addE, goneL] at H
 refine vr tbok 1 [] [(2, .slice A13 (List.length raws) c14), (3, .int .u64 raw), (4, .pointer (some ⟨g17, 0, none⟩)), (5, .pointer (some ⟨g22, 0, none⟩)), (9, .bool r27), (24, .bool r36)] [] E (by kernel_rfl) trivial ?_
 clear E; intro a E
 refine E.cases (t := 24) rfl (fun hb_ E_ => ?_) (fun hb_ E_ => ?_)
 ·
  replace E := E_; clear E_
  have h45 : r36 = true := hb_
  clear hb_; replace hP := ite_t h45 hP
  refine vr tbok 10 [] [(2, .slice A13 (List.length raws) c14), (3, .int .u64 raw), (4, .pointer (some ⟨g17, 0, none⟩)), (5, .pointer (some ⟨g22, 0, none⟩)), (9, .bool r27), (34, .bool true)] [] E (by kernel_rfl) trivial ?_
  clear E; intro a E
  refine wpList_nil ?_
  refine th_n ?_
  refine c_true E rfl ?_
  refine wp_seq ?_
  refine wp_region_lit ?_
  refine vr tbok 2 [] [(8, .bool r27)] [] E (by kernel_rfl) trivial ?_
  clear E; intro a E
  refine wpList_nil ?_
  refine th_n ?_
  refine wp_ret ?_
  refine th_ret ?_
  obtain rfl := Option.some.inj hP
  refine ret1 E rfl rfl ?_
  exact ⟨_, rfl, rfl, H.sel [] rfl⟩
 replace E := E_; clear E_
 have h46 : ¬ (r36 = true) := (ne_true_of_eq_false hb_)
 clear hb_; replace hP := ite_f h46 hP
 refine vr tbok 5 [] [(2, .slice A13 (List.length raws) c14), (3, .int .u64 raw), (4, .pointer (some ⟨g17, 0, none⟩)), (5, .pointer (some ⟨g22, 0, none⟩)), (9, .bool r27), (29, .bool (decide (20 < (((List.length raws) : Nat) : Int))))] [] E (by kernel_rfl) trivial ?_
 clear E; intro a E
 refine E.cases (t := 29) rfl (fun hb_ E_ => ?_) (fun hb_ E_ => ?_)
 ·
  replace E := E_; clear E_
  have h47 : 20 < (((List.length raws) : Nat) : Int) := of_decide_eq_true hb_
  clear hb_; replace hP := ite_t h47 hP
  refine vr tbok 5 [] [(2, .slice A13 (List.length raws) c14), (3, .int .u64 raw), (4, .pointer (some ⟨g17, 0, none⟩)), (5, .pointer (some ⟨g22, 0, none⟩)), (9, .bool r27), (34, .bool true)] [] E (by kernel_rfl) trivial ?_
  clear E; intro a E
  refine wpList_nil ?_
  refine th_n ?_
  refine c_true E rfl ?_
  refine wp_seq ?_
  refine wp_region_lit ?_
  refine vr tbok 2 [] [(8, .bool r27)] [] E (by kernel_rfl) trivial ?_
  clear E; intro a E
  refine wpList_nil ?_
  refine th_n ?_
  refine wp_ret ?_
  refine th_ret ?_
  obtain rfl := Option.some.inj hP
  refine ret1 E rfl rfl ?_
  exact ⟨_, rfl, rfl, H.sel [] rfl⟩
 replace E := E_; clear E_
 have h48 : ¬ (20 < (((List.length raws) : Nat) : Int)) := of_decide_eq_false hb_
 clear hb_; replace hP := ite_f h48 hP
 refine vr tbok 2 [.agg #[.int .i64 aProps, .slice A1 (List.length aAccept) c2, .slice A5 (List.length aGuard) c6, .slice A9 (List.length aNodes) c10], .agg #[.int .u8 s.1, .int .u8 s.2]] [(2, .slice A13 (List.length raws) c14), (3, .int .u64 raw), (4, .pointer (some ⟨g17, 0, none⟩)), (5, .pointer (some ⟨g22, 0, none⟩)), (9, .bool r27), (29, .bool false), (30, .agg #[.int .i64 aProps, .slice A1 (List.length aAccept) c2, .slice A5 (List.length aGuard) c6, .slice A9 (List.length aNodes) c10]), (31, .agg #[.int .u8 s.1, .int .u8 s.2])] [cellsAt w42 g17 (0) [.int .i64 aProps, .slice A1 (List.length aAccept) c2, .slice A5 (List.length aGuard) c6, .slice A9 (List.length aNodes) c10], cellsAt w42 g22 (0) [.int .u8 s.1, .int .u8 s.2]] E (by kernel_rfl) ⟨(H.box 4 rfl).sub 0 _ rfl, (H.box 5 rfl).sub 0 _ rfl⟩ ?_
 clear E; intro a E
 obtain ⟨r49, h50, hP⟩ := bind_inv hP
 obtain ⟨Fa51, Hc52, hb53⟩ := H.call [] [(0, false), (1, false), (2, false)] rfl rfl trivial
 refine e_call E rfl rfl Try.func23 rfl rfl rfl (board_Check_calls A1 c2 A5 c6 A9 c10 aProps aAccept aGuard aNodes (s.1, s.2) hk3 hk7 hk11 Hc52 h50) ?_
 rintro v54 w55 a ⟨rfl, HR56⟩ E_
 replace E := E_ _ rfl; clear E_
 obtain ⟨H_, hc57⟩ := hb53 _ _ HR56 rfl
 replace H := H_; clear H_; try dsimp only [setn, addE, goneL] at H
 refine vr tbok 2 [] [(2, .slice A13 (List.length raws) c14), (3, .int .u64 raw), (4, .pointer (some ⟨g17, 0, none⟩)), (5, .pointer (some ⟨g22, 0, none⟩)), (9, .bool r27), (34, .bool ((r49 : Int) != 0))] [] E (by kernel_rfl) trivial ?_
 clear E; intro a E
 refine wpList_nil ?_
 refine th_n ?_
 refine E.cases (t := 34) rfl (fun hb_ E_ => ?_) (fun hb_ E_ => ?_)
 ·
  replace E := E_; clear E_
  have h58 : ¬ ((r49 : Int) = 0) := bne_iff_ne.1 hb_
  clear hb_; replace hP := ite_f h58 hP
  refine c_true E rfl ?_
  refine wp_seq ?_
  refine wp_region_lit ?_
  refine vr tbok 2 [] [(8, .bool r27)] [] E (by kernel_rfl) trivial ?_
  clear E; intro a E
  refine wpList_nil ?_
  refine th_n ?_
  refine wp_ret ?_
  refine th_ret ?_
  obtain rfl := Option.some.inj hP
  refine ret1 E rfl rfl ?_
  exact ⟨_, rfl, rfl, H.sel [] rfl⟩
 replace E := E_; clear E_
 have h59 : (r49 : Int) = 0 := bne_eq_false_iff_eq.1 hb_
 clear hb_; replace hP := ite_t h59 hP
 refine c_false E rfl ?_
 refine wp_skip ?_
 refine th_n ?_
 refine wp_seq ?_
 refine wp_region_lit ?_
 refine vr tbok 2 [.agg #[.int .i64 aProps, .slice A1 (List.length aAccept) c2, .slice A5 (List.length aGuard) c6, .slice A9 (List.length aNodes) c10], .agg #[.int .u8 s.1, .int .u8 s.2]] [(2, .slice A13 (List.length raws) c14), (3, .int .u64 raw), (9, .bool r27), (37, .agg #[.int .i64 aProps, .slice A1 (List.length aAccept) c2, .slice A5 (List.length aGuard) c6, .slice A9 (List.length aNodes) c10]), (38, .agg #[.int .u8 s.1, .int .u8 s.2])] [cellsAt w55 g17 (0) [.int .i64 aProps, .slice A1 (List.length aAccept) c2, .slice A5 (List.length aGuard) c6, .slice A9 (List.length aNodes) c10], cellsAt w55 g22 (0) [.int .u8 s.1, .int .u8 s.2]] E (by kernel_rfl) ⟨(H.box 4 rfl).sub 0 _ rfl, (H.box 5 rfl).sub 0 _ rfl⟩ ?_
 clear E; intro a E
 obtain ⟨r60, h61, hP⟩ := bind_inv hP
 obtain ⟨Fa62, Hc63, hb64⟩ := H.call [] [(0, false), (1, false), (2, false)] rfl rfl trivial
 refine e_call E rfl rfl Try.func24 rfl rfl rfl (law25_begun_calls A1 c2 A5 c6 A9 c10 aProps aAccept aGuard aNodes (s.1, s.2) hk3 hk7 hk11 Hc63 h61) ?_
 intro v70 w69 a hR71 E_
 rcases hR71 with ⟨x_, A73, c74, A75, c76, A77, c78, hr_, rfl, HR79⟩ | ⟨x_, g80, A81, c82, A83, c84, A85, c86, A87, c88, A89, c90, A91, c92, A93, c94, A95, c96, A97, c98, hr_, rfl, HR99⟩
 ·
  subst hr_; have hP := elim_l hP
  obtain ⟨x100, hxx_⟩ : ∃ y_, y_ = x_ := ⟨_, rfl⟩; subst hxx_
  replace E := E_ _ rfl; clear E_
  obtain ⟨H_, hc72⟩ := hb64 _ _ HR79 rfl
  replace H := H_; clear H_; try dsimp only [setn, addE, goneL] at H
  refine vr tbok 4 [] [(2, .slice A13 (List.length raws) c14), (3, .int .u64 raw), (9, .bool r27), (40, .pointer none), (41, .agg #[.bool x100.1, .slice A73 (List.length x100.2.1) c74, .slice A75 (List.length x100.2.2.1) c76, .slice A77 (List.length x100.2.2.2.1) c78]), (42, .bool x100.2.2.2.2)] [] E (by kernel_rfl) trivial ?_
  clear E; intro a E
  refine h_alloc H E rfl rfl tbok rfl ?_
  intro w106 g105 a hc107 hg109 H_ E_
  replace E := E_ _ rfl; clear E_
  replace H := H_; clear H_; try dsimp only [setn, addE, goneL] at H
  refine vr tbok 1 [] [(2, .slice A13 (List.length raws) c14), (3, .int .u64 raw), (9, .bool r27), (10, .pointer none), (11, .pointer (some ⟨g105, 0, none⟩)), (41, .agg #[.bool x100.1, .slice A73 (List.length x100.2.1) c74, .slice A75 (List.length x100.2.2.1) c76, .slice A77 (List.length x100.2.2.2.1) c78]), (42, .bool x100.2.2.2.2)] [] E (by kernel_rfl) trivial ?_
  clear E; intro a E
  refine h_store (g := g105) (off := 0) H 9 rfl E rfl rfl rfl rfl tbok rfl rfl rfl rfl rfl ?_
  clear E; intro w110 a hc111 H_ E
  replace H := H_; clear H_; try dsimp only [setn, addE, goneL] at H
  refine vr tbok 1 [] [(2, .slice A13 (List.length raws) c14), (3, .int .u64 raw), (9, .bool r27), (10, .pointer none), (12, .bool x100.2.2.2.2)] [] E (by kernel_rfl) trivial ?_
  clear E; intro a E
  refine wpList_nil ?_
  refine th_n ?_
  refine wp_seq ?_
  refine wp_seq ?_
  refine wp_region_lit ?_
  refine vr tbok 2 [] [(2, .slice A13 (List.length raws) c14), (3, .int .u64 raw), (9, .bool r27), (10, .pointer none), (44, .bool (!x100.2.2.2.2))] [] E (by kernel_rfl) trivial ?_
  clear E; intro a E
  refine wpList_nil ?_
  refine th_n ?_
  refine E.cases (t := 44) rfl (fun hb_ E_ => ?_) (fun hb_ E_ => ?_)
  ·
   replace E := E_; clear E_
   have h112 : ¬ (x100.2.2.2.2 = true) := (ne_true_of_eq_false (not_t hb_))
   clear hb_; replace hP := ite_f h112 hP
   refine c_true E rfl ?_
   refine wp_seq ?_
   refine wp_region_lit ?_
   refine vr tbok 1 [] [(8, .bool false)] [] E (by kernel_rfl) trivial ?_
   clear E; intro a E
   refine wpList_nil ?_
   refine th_n ?_
   refine wp_ret ?_
   refine th_ret ?_
   obtain rfl := Option.some.inj hP
   refine ret1 E rfl rfl ?_
   exact ⟨_, rfl, rfl, H.sel [] rfl⟩
  replace E := E_; clear E_
  have h113 : x100.2.2.2.2 = true := (not_f hb_)
  clear hb_; replace hP := ite_t h113 hP
  refine c_false E rfl ?_
  refine wp_skip ?_
  refine th_n ?_
  refine wp_seq ?_
  refine wp_seq ?_
  refine wp_region_lit ?_
  refine vr tbok 1 [] [(2, .slice A13 (List.length raws) c14), (3, .int .u64 raw), (9, .bool r27), (10, .pointer none), (13, .int .i64 0)] [] E (by kernel_rfl) trivial ?_
  clear E; intro a E
  refine wpList_nil ?_
  refine th_n ?_
  refine wp_block ?_
  obtain ⟨x135, hL136, hK137⟩ := bind_inv hP
  clear hP
  refine loop_cut (fun i_ a w_ => (i_ = 0 ∧ ∃ (x140 : Unit), Fr a 127 [(3, .int .u64 raw), (9, .bool r27), (10, .pointer none)] ∧ Hp S Fa w0 w_ [] ∧ x135 = x140)) ?_ ?_
  ·
   refine loopV (fun m139 a w138 => ∃ (i123 : Int), Fr a 127 [(2, .slice A13 (List.length raws) c14), (3, .int .u64 raw), (9, .bool r27), (10, .pointer none), (13, .int .i64 i123)] ∧ Hp S Fa w0 w138 [.ro false (cInt .u64) A13 raws] ∧ law25_PlayBack_l0 N raws m139 i123 = some x135) N ?_ ?_
   ·
    exact ⟨0, E.pick _ ⟨rfl, rfl, rfl, rfl, rfl, trivial⟩, H.sel [3] rfl, hL136⟩
   clear E H hL136; intro m139 a w138 hI_
   obtain ⟨i123, E, H, hP⟩ := hI_
   obtain ⟨m134, rfl⟩ : ∃ q_, m139 = q_ + 1 := by cases m139 with | zero => rw [law25_PlayBack_l0] at hP; cases hP | succ q_ => exact ⟨q_, rfl⟩
   rw [law25_PlayBack_l0] at hP
   refine wp_seq ?_
   refine wp_seq ?_
   refine wp_region_lit ?_
   refine vr tbok 4 [] [(2, .slice A13 (List.length raws) c14), (3, .int .u64 raw), (9, .bool r27), (10, .pointer none), (13, .int .i64 i123), (48, .bool (decide (i123 < (((List.length raws) : Nat) : Int))))] [] E (by kernel_rfl) trivial ?_
   clear E; intro a E
   refine wpList_nil ?_
   refine th_n ?_
   refine E.cases (t := 48) rfl (fun hb_ E_ => ?_) (fun hb_ E_ => ?_)
   ·
    replace E := E_; clear E_
    have h141 : i123 < (((List.length raws) : Nat) : Int) := of_decide_eq_true hb_
    clear hb_; replace hP := ite_t h141 hP
    refine c_true E rfl ?_
    refine wp_skip ?_
    refine th_n ?_
    refine wp_seq ?_
    refine wp_block ?_
    refine wp_region_lit ?_
    obtain ⟨g142, hP⟩ := ask_inv hP
    obtain ⟨b143, o144, e_b143⟩ := (H.rd 0 rds_ro).addr (idx_pos g142)
    subst e_b143
    refine vr tbok 5 [.int .u64 (List.getD raws (Int.toNat i123) 0)] [(2, .slice (some ⟨b143, o144, none⟩) (List.length raws) c14), (3, .int .u64 raw), (9, .bool r27), (10, .pointer none), (13, .int .i64 i123), (51, .pointer none), (55, .int .u64 (List.getD raws (Int.toNat i123) 0))] [0 ≤ i123 ∧ i123 < (((List.length raws) : Nat) : Int), World.cell? w138 ⟨b143, o144 + (Int.toNat i123) * 1, none⟩ = some (.int .u64 (List.getD raws (Int.toNat i123) 0))] E (by kernel_rfl) ⟨g142, Rds.at1 (H.rd 0 rds_ro) 0 g142⟩ ?_
    clear E; intro a E
    obtain ⟨x147, h148, hP⟩ := bind_inv hP
    refine e_call (R := fun v_ w_ => ∃ (x149 : Unit), v_ = .tuple #[.int .u8 0, .int .i64 1] ∧ Hp S Fa w0 w_ [.ro false (cInt .u64) (some ⟨b143, o144, none⟩) raws] ∧ x147 = x149) E rfl rfl Try.func29 rfl rfl rfl ?_ ?_
    ·
     clear E hP; have hP := h148; clear h148; rw [law25_PlayBack_f1] at hP
     refine enterV (n := 85) Try.func29 rfl rfl rfl ?_
     intro a E
     replace E := E.pick [(0, .pointer none), (1, .int .u64 (List.getD raws (Int.toNat i123) 0))] ⟨rfl, rfl, trivial⟩
     refine wp_seq ?_
     refine wp_region_lit ?_
     refine vr tbok 2 [] [(0, .pointer none), (1, .int .u64 (List.getD raws (Int.toNat i123) 0))] [] E (by kernel_rfl) trivial ?_
     clear E; intro a E
     refine wpList_nil ?_
     refine th_n ?_
     refine wp_seq ?_
     refine wp_seq ?_
     refine wp_region_lit ?_
     refine vr tbok 1 [] [(0, .pointer none), (1, .int .u64 (List.getD raws (Int.toNat i123) 0)), (8, .pointer none)] [] E (by kernel_rfl) trivial ?_
     clear E; intro a E
     obtain ⟨x150, h151, hP⟩ := bind_inv hP
     refine e_call (R := fun v_ w_ => ∃ (x152 : Unit), v_ = .bool true ∧ Hp S Fa w0 w_ [.ro false (cInt .u64) (some ⟨b143, o144, none⟩) raws] ∧ x150 = x152) E rfl rfl Try.func60 rfl rfl rfl ?_ ?_
     ·
      clear E hP; have hP := h151; clear h151; rw [law25_PlayBack_f2] at hP
      refine enterV (n := 12) Try.func60 rfl rfl rfl ?_
      intro a E
      replace E := E.pick [(0, .pointer none)] ⟨rfl, trivial⟩
      refine wp_seq ?_
      refine wp_region_lit ?_
      refine vr tbok 1 [] [(0, .pointer none)] [] E (by kernel_rfl) trivial ?_
      clear E; intro a E
      refine wpList_nil ?_
      refine th_n ?_
      refine wp_seq ?_
      refine wp_region_lit ?_
      refine vr tbok 10 [] [(2, .bool true)] [] E (by kernel_rfl) trivial ?_
      clear E; intro a E
      refine wpList_nil ?_
      refine th_n ?_
      refine wp_ret ?_
      have hx_ := Option.some.inj hP
      refine ret1 E rfl rfl ?_
      exact ⟨_, rfl, (), rfl, H.sel [0] rfl, hx_.symm⟩
     clear H
     rintro v154 w153 a ⟨x152, rfl, H, hx_⟩ E_
     subst hx_
     replace E := E_ _ rfl; clear E_
     refine wpList_nil ?_
     refine th_n ?_
     refine c_true E rfl ?_
     refine wp_seq ?_
     refine wp_region_lit ?_
     refine vr tbok 2 [] [(4, .int .u8 0), (5, .int .i64 1)] [] E (by kernel_rfl) trivial ?_
     clear E; intro a E
     refine wpList_nil ?_
     refine th_n ?_
     refine wp_ret ?_
     refine th_ret ?_
     have hx_ := Option.some.inj hP
     refine ret2 E rfl rfl rfl ?_
     exact ⟨_, rfl, (), rfl, H.sel [0] rfl, hx_.symm⟩
    clear H
    rintro v156 w155 a ⟨x149, rfl, H, hx_⟩ E_
    subst hx_
    replace E := E_ _ rfl; clear E_
    refine wpList_nil ?_
    refine bl_n ?_
    refine th_n ?_
    refine wp_region_lit ?_
    obtain ⟨g157, hP⟩ := ask_inv hP
    refine vr tbok 3 [.int .i64 (i123 + 1)] [(2, .slice (some ⟨b143, o144, none⟩) (List.length raws) c14), (3, .int .u64 raw), (9, .bool r27), (10, .pointer none), (13, .int .i64 (i123 + 1))] [IntKind.i64.wrap (i123 + 1) = i123 + 1] E (by kernel_rfl) (wrap_in g157) ?_
    clear E; intro a E
    refine wpList_nil ?_
    exact th_n ⟨m134, Nat.lt_succ_self _, i123 + 1, E.pick _ ⟨rfl, rfl, rfl, rfl, rfl, trivial⟩, H.sel [0] rfl, hP⟩
   replace E := E_; clear E_
   have h158 : ¬ (i123 < (((List.length raws) : Nat) : Int)) := of_decide_eq_false hb_
   clear hb_; replace hP := ite_f h158 hP
   refine c_false E rfl ?_
   refine wp_exit ?_
   refine th_exit ?_
   have hx_ := Option.some.inj hP
   refine th_exit (.inl ⟨0, rfl, ?_⟩)
   exact ⟨rfl, (), E.pick _ ⟨rfl, rfl, rfl, trivial⟩, H.sel [] rfl, hx_.symm⟩
  clear E H hL136; intro i_ a w138 hM_
  obtain ⟨rfl, x140, E, H, hx_⟩ := hM_
  subst hx_; have hP := hK137; clear hK137
  refine bl_hit ?_
  refine th_n ?_
  refine wp_seq ?_
  refine wp_region_lit ?_
  refine vr tbok 1 [] [(3, .int .u64 raw), (9, .bool r27), (10, .pointer none), (57, .pointer none)] [] E (by kernel_rfl) trivial ?_
  clear E; intro a E
  obtain ⟨x161, h162, hP⟩ := bind_inv hP
  refine e_call (R := fun v_ w_ => ∃ (x163 : Unit), v_ = .int .i64 0 ∧ Hp S Fa w0 w_ [] ∧ x161 = x163) E rfl rfl Try.func26 rfl rfl rfl ?_ ?_
  ·
   clear E hP; have hP := h162; clear h162; rw [law25_PlayBack_f3] at hP
   refine enterV (n := 16) Try.func26 rfl rfl rfl ?_
   intro a E
   replace E := E.pick [(0, .pointer none)] ⟨rfl, trivial⟩
   refine wp_seq ?_
   refine wp_region_lit ?_
   refine vr tbok 1 [] [(0, .pointer none)] [] E (by kernel_rfl) trivial ?_
   clear E; intro a E
   refine wpList_nil ?_
   refine th_n ?_
   refine wp_seq ?_
   refine wp_seq ?_
   refine wp_region_lit ?_
   refine vr tbok 1 [] [(0, .pointer none), (3, .pointer none)] [] E (by kernel_rfl) trivial ?_
   clear E; intro a E
   obtain ⟨x164, h165, hP⟩ := bind_inv hP
   refine e_call (R := fun v_ w_ => ∃ (x166 : Unit), v_ = .bool true ∧ Hp S Fa w0 w_ [] ∧ x164 = x166) E rfl rfl Try.func60 rfl rfl rfl ?_ ?_
   ·
    clear E hP; have hP := h165; clear h165; rw [law25_PlayBack_f4] at hP
    refine enterV (n := 12) Try.func60 rfl rfl rfl ?_
    intro a E
    replace E := E.pick [(0, .pointer none)] ⟨rfl, trivial⟩
    refine wp_seq ?_
    refine wp_region_lit ?_
    refine vr tbok 1 [] [(0, .pointer none)] [] E (by kernel_rfl) trivial ?_
    clear E; intro a E
    refine wpList_nil ?_
    refine th_n ?_
    refine wp_seq ?_
    refine wp_region_lit ?_
    refine vr tbok 10 [] [(2, .bool true)] [] E (by kernel_rfl) trivial ?_
    clear E; intro a E
    refine wpList_nil ?_
    refine th_n ?_
    refine wp_ret ?_
    have hx_ := Option.some.inj hP
    refine ret1 E rfl rfl ?_
    exact ⟨_, rfl, (), rfl, H.sel [] rfl, hx_.symm⟩
   clear H
   rintro v168 w167 a ⟨x166, rfl, H, hx_⟩ E_
   subst hx_
   replace E := E_ _ rfl; clear E_
   refine wpList_nil ?_
   refine th_n ?_
   refine c_true E rfl ?_
   refine wp_seq ?_
   refine wp_region_lit ?_
   refine vr tbok 1 [] [(2, .int .i64 0)] [] E (by kernel_rfl) trivial ?_
   clear E; intro a E
   refine wpList_nil ?_
   refine th_n ?_
   refine wp_ret ?_
   refine th_ret ?_
   have hx_ := Option.some.inj hP
   refine ret1 E rfl rfl ?_
   exact ⟨_, rfl, (), rfl, H.sel [] rfl, hx_.symm⟩
  clear H
  rintro v170 w169 a ⟨x163, rfl, H, hx_⟩ E_
  subst hx_
  replace E := E_ _ rfl; clear E_
  refine vr tbok 1 [] [(3, .int .u64 raw), (9, .bool r27), (10, .pointer none), (58, .int .i64 0), (59, .pointer none)] [] E (by kernel_rfl) trivial ?_
  clear E; intro a E
  obtain ⟨x178, h179, hP⟩ := bind_inv hP
  refine e_call (R := fun v_ w_ => ∃ (x180 : Unit), v_ = .bool false ∧ Hp S Fa w0 w_ [] ∧ x178 = x180) E rfl rfl Try.func27 rfl rfl rfl ?_ ?_
  ·
   clear E hP; have hP := h179; clear h179; rw [law25_PlayBack_f5] at hP
   refine enterV (n := 19) Try.func27 rfl rfl rfl ?_
   intro a E
   replace E := E.pick [(0, .pointer none)] ⟨rfl, trivial⟩
   refine wp_seq ?_
   refine wp_region_lit ?_
   refine vr tbok 1 [] [(0, .pointer none)] [] E (by kernel_rfl) trivial ?_
   clear E; intro a E
   refine wpList_nil ?_
   refine th_n ?_
   refine wp_seq ?_
   obtain ⟨x181, h182, hP⟩ := bind_inv hP
   have HR189 := H
   refine dr_start (S := fun w_ => Chg (atL []) w169 w_) (by kernel_rfl) ?_
   intro w186 hc187
   have HS188 : Chg (atL []) w169 w186 := hc187.mono (fun _ _ h_ => h_.elim)
   replace H := H.ext hc187
   refine dr tbok (by kernel_rfl) [0] [] [(0, .pointer none), (3, .pointer none)] (fun w_ => []) 16 E (fun _ _ => by kernel_rfl) (fun w_ hS_ => trivial) (by kernel_rfl) HS188 ?_
   clear E; intro a E
   refine wpAnyH_all (rs := [1]) (by kernel_rfl) (by simp) ?_
   refine all1 ?_
   refine wpOp_of_list rfl ?_
   refine e_call (R := fun v_ w_ => ∃ (x190 : Unit), v_ = .bool true ∧ Hp S Fa w0 w_ [] ∧ Chg (atL []) w169 w_ ∧ x181 = x190) E rfl rfl Try.func60 rfl rfl rfl ?_ ?_
   ·
    clear E hP; have hP := h182; clear h182; rw [law25_PlayBack_f6] at hP
    refine enterV (n := 12) Try.func60 rfl rfl rfl ?_
    intro a E
    replace E := E.pick [(0, .pointer none)] ⟨rfl, trivial⟩
    refine wp_seq ?_
    refine wp_region_lit ?_
    refine vr tbok 1 [] [(0, .pointer none)] [] E (by kernel_rfl) trivial ?_
    clear E; intro a E
    refine wpList_nil ?_
    refine th_n ?_
    refine wp_seq ?_
    refine wp_region_lit ?_
    refine vr tbok 10 [] [(2, .bool true)] [] E (by kernel_rfl) trivial ?_
    clear E; intro a E
    refine wpList_nil ?_
    refine th_n ?_
    refine wp_ret ?_
    have hx_ := Option.some.inj hP
    refine ret1 E rfl rfl ?_
    exact ⟨_, rfl, (), rfl, H.sel [] rfl, HS188, hx_.symm⟩
   clear H HS188
   rintro v192 w191 a ⟨x190, rfl, H, HS188, hx_⟩ E_
   subst hx_
   replace E := E_ _ rfl; clear E_
   refine wpList_nil ?_
   refine th_n ⟨HS188, ?_⟩
   refine dr tbok (by kernel_rfl) [2, 3, 4, 5, 6, 7, 8, 9, 10, 11, 12, 13, 14, 15, 16] [] [(2, .bool false)] (fun w_ => []) 0 E (fun _ _ => by kernel_rfl) (fun w_ hS_ => trivial) (by kernel_rfl) HS188 ?_
   clear E; intro a E
   refine dr_done (by kernel_rfl) ?_
   clear HS188 HR189
   refine th_n ?_
   refine wp_ret ?_
   have hx_ := Option.some.inj hP
   refine ret1 E rfl rfl ?_
   exact ⟨_, rfl, (), rfl, H.sel [] rfl, hx_.symm⟩
  clear H
  rintro v194 w193 a ⟨x180, rfl, H, hx_⟩ E_
  subst hx_
  replace E := E_ _ rfl; clear E_
  refine vr tbok 1 [] [(3, .int .u64 raw), (9, .bool r27), (10, .pointer none), (58, .int .i64 0), (60, .bool false), (61, .pointer none)] [] E (by kernel_rfl) trivial ?_
  clear E; intro a E
  obtain ⟨x197, h198, hP⟩ := bind_inv hP
  refine e_call (R := fun v_ w_ => ∃ (x199 : Unit), v_ = .int .i64 0 ∧ Hp S Fa w0 w_ [] ∧ x197 = x199) E rfl rfl Try.func28 rfl rfl rfl ?_ ?_
  ·
   clear E hP; have hP := h198; clear h198; rw [law25_PlayBack_f7] at hP
   refine enterV (n := 9) Try.func28 rfl rfl rfl ?_
   intro a E
   replace E := E.pick [(0, .pointer none)] ⟨rfl, trivial⟩
   refine wp_seq ?_
   refine wp_region_lit ?_
   refine vr tbok 1 [] [(0, .pointer none)] [] E (by kernel_rfl) trivial ?_
   clear E; intro a E
   refine wpList_nil ?_
   refine th_n ?_
   refine wp_seq ?_
   refine wp_seq ?_
   refine wp_region_lit ?_
   refine vr tbok 1 [] [(0, .pointer none), (3, .pointer none)] [] E (by kernel_rfl) trivial ?_
   clear E; intro a E
   obtain ⟨x200, h201, hP⟩ := bind_inv hP
   refine e_call (R := fun v_ w_ => ∃ (x202 : Unit), v_ = .bool true ∧ Hp S Fa w0 w_ [] ∧ x200 = x202) E rfl rfl Try.func60 rfl rfl rfl ?_ ?_
   ·
    clear E hP; have hP := h201; clear h201; rw [law25_PlayBack_f8] at hP
    refine enterV (n := 12) Try.func60 rfl rfl rfl ?_
    intro a E
    replace E := E.pick [(0, .pointer none)] ⟨rfl, trivial⟩
    refine wp_seq ?_
    refine wp_region_lit ?_
    refine vr tbok 1 [] [(0, .pointer none)] [] E (by kernel_rfl) trivial ?_
    clear E; intro a E
    refine wpList_nil ?_
    refine th_n ?_
    refine wp_seq ?_
    refine wp_region_lit ?_
    refine vr tbok 10 [] [(2, .bool true)] [] E (by kernel_rfl) trivial ?_
    clear E; intro a E
    refine wpList_nil ?_
    refine th_n ?_
    refine wp_ret ?_
    have hx_ := Option.some.inj hP
    refine ret1 E rfl rfl ?_
    exact ⟨_, rfl, (), rfl, H.sel [] rfl, hx_.symm⟩
   clear H
   rintro v204 w203 a ⟨x202, rfl, H, hx_⟩ E_
   subst hx_
   replace E := E_ _ rfl; clear E_
   refine wpList_nil ?_
   refine th_n ?_
   refine c_true E rfl ?_
   refine wp_seq ?_
   refine wp_region_lit ?_
   refine vr tbok 1 [] [(2, .int .i64 0)] [] E (by kernel_rfl) trivial ?_
   clear E; intro a E
   refine wpList_nil ?_
   refine th_n ?_
   refine wp_ret ?_
   refine th_ret ?_
   have hx_ := Option.some.inj hP
   refine ret1 E rfl rfl ?_
   exact ⟨_, rfl, (), rfl, H.sel [] rfl, hx_.symm⟩
  clear H
  rintro v206 w205 a ⟨x199, rfl, H, hx_⟩ E_
  subst hx_
  replace E := E_ _ rfl; clear E_
  refine vr tbok 1 [] [(3, .int .u64 raw), (9, .bool r27), (10, .pointer none), (58, .int .i64 0), (60, .bool false), (62, .int .i64 0), (63, .pointer none)] [] E (by kernel_rfl) trivial ?_
  clear E; intro a E
  obtain ⟨x209, h210, hP⟩ := bind_inv hP
  refine e_call (R := fun v_ w_ => ∃ (x211 : Unit), v_ = .slice none 0 0 ∧ Hp S Fa w0 w_ [] ∧ x209 = x211) E rfl rfl Try.func30 rfl rfl rfl ?_ ?_
  ·
   clear E hP; have hP := h210; clear h210; rw [law25_PlayBack_f9] at hP
   refine enterV (n := 25) Try.func30 rfl rfl rfl ?_
   intro a E
   replace E := E.pick [(0, .pointer none)] ⟨rfl, trivial⟩
   refine wp_seq ?_
   refine wp_region_lit ?_
   refine vr tbok 1 [] [(0, .pointer none)] [] E (by kernel_rfl) trivial ?_
   clear E; intro a E
   refine wpList_nil ?_
   refine th_n ?_
   refine wp_seq ?_
   refine wp_region_lit ?_
   refine vr tbok 1 [] [(0, .pointer none), (3, .slice none 0 0)] [] E (by kernel_rfl) trivial ?_
   clear E; intro a E
   refine wpList_nil ?_
   refine th_n ?_
   refine wp_seq ?_
   refine wp_seq ?_
   refine wp_region_lit ?_
   refine vr tbok 1 [] [(0, .pointer none), (3, .slice none 0 0), (6, .pointer none)] [] E (by kernel_rfl) trivial ?_
   clear E; intro a E
   obtain ⟨x212, h213, hP⟩ := bind_inv hP
   refine e_call (R := fun v_ w_ => ∃ (x214 : Unit), v_ = .bool true ∧ Hp S Fa w0 w_ [] ∧ x212 = x214) E rfl rfl Try.func60 rfl rfl rfl ?_ ?_
   ·
    clear E hP; have hP := h213; clear h213; rw [law25_PlayBack_f10] at hP
    refine enterV (n := 12) Try.func60 rfl rfl rfl ?_
    intro a E
    replace E := E.pick [(0, .pointer none)] ⟨rfl, trivial⟩
    refine wp_seq ?_
    refine wp_region_lit ?_
    refine vr tbok 1 [] [(0, .pointer none)] [] E (by kernel_rfl) trivial ?_
    clear E; intro a E
    refine wpList_nil ?_
    refine th_n ?_
    refine wp_seq ?_
    refine wp_region_lit ?_
    refine vr tbok 10 [] [(2, .bool true)] [] E (by kernel_rfl) trivial ?_
    clear E; intro a E
    refine wpList_nil ?_
    refine th_n ?_
    refine wp_ret ?_
    have hx_ := Option.some.inj hP
    refine ret1 E rfl rfl ?_
    exact ⟨_, rfl, (), rfl, H.sel [] rfl, hx_.symm⟩
   clear H
   rintro v216 w215 a ⟨x214, rfl, H, hx_⟩ E_
   subst hx_
   replace E := E_ _ rfl; clear E_
   refine wpList_nil ?_
   refine th_n ?_
   refine c_true E rfl ?_
   refine wp_seq ?_
   refine wp_region_lit ?_
   refine vr tbok 2 [] [(2, .slice none 0 0)] [] E (by kernel_rfl) trivial ?_
   clear E; intro a E
   refine wpList_nil ?_
   refine th_n ?_
   refine wp_ret ?_
   refine th_ret ?_
   have hx_ := Option.some.inj hP
   refine ret1 E rfl rfl ?_
   exact ⟨_, rfl, (), rfl, H.sel [] rfl, hx_.symm⟩
  clear H
  rintro v218 w217 a ⟨x211, rfl, H, hx_⟩ E_
  subst hx_
  replace E := E_ _ rfl; clear E_
  refine vr tbok 4 [] [(3, .int .u64 raw), (9, .bool r27), (10, .pointer none), (14, .int .i64 0), (15, .bool false), (16, .int .i64 0), (17, .slice none 0 0)] [] E (by kernel_rfl) trivial ?_
  clear E; intro a E
  refine wpList_nil ?_
  refine th_n ?_
  refine wp_seq ?_
  refine wp_seq ?_
  refine wp_region_lit ?_
  refine vr tbok 2 [] [(9, .bool r27), (10, .pointer none), (14, .int .i64 0), (15, .bool false), (16, .int .i64 0), (17, .slice none 0 0), (66, .pointer none), (67, .int .u64 raw)] [] E (by kernel_rfl) trivial ?_
  clear E; intro a E
  obtain ⟨x221, h222, hP⟩ := bind_inv hP
  refine e_call (R := fun v_ w_ => ∃ (x223 : Unit), v_ = .tuple #[.int .u8 0, .int .i64 1] ∧ Hp S Fa w0 w_ [] ∧ x221 = x223) E rfl rfl Try.func29 rfl rfl rfl ?_ ?_
  ·
   clear E hP; have hP := h222; clear h222; rw [law25_PlayBack_f11] at hP
   refine enterV (n := 85) Try.func29 rfl rfl rfl ?_
   intro a E
   replace E := E.pick [(0, .pointer none), (1, .int .u64 raw)] ⟨rfl, rfl, trivial⟩
   refine wp_seq ?_
   refine wp_region_lit ?_
   refine vr tbok 2 [] [(0, .pointer none), (1, .int .u64 raw)] [] E (by kernel_rfl) trivial ?_
   clear E; intro a E
   refine wpList_nil ?_
   refine th_n ?_
   refine wp_seq ?_
   refine wp_seq ?_
   refine wp_region_lit ?_
   refine vr tbok 1 [] [(0, .pointer none), (1, .int .u64 raw), (8, .pointer none)] [] E (by kernel_rfl) trivial ?_
   clear E; intro a E
   obtain ⟨x224, h225, hP⟩ := bind_inv hP
   refine e_call (R := fun v_ w_ => ∃ (x226 : Unit), v_ = .bool true ∧ Hp S Fa w0 w_ [] ∧ x224 = x226) E rfl rfl Try.func60 rfl rfl rfl ?_ ?_
   ·
    clear E hP; have hP := h225; clear h225; rw [law25_PlayBack_f12] at hP
    refine enterV (n := 12) Try.func60 rfl rfl rfl ?_
    intro a E
    replace E := E.pick [(0, .pointer none)] ⟨rfl, trivial⟩
    refine wp_seq ?_
    refine wp_region_lit ?_
    refine vr tbok 1 [] [(0, .pointer none)] [] E (by kernel_rfl) trivial ?_
    clear E; intro a E
    refine wpList_nil ?_
    refine th_n ?_
    refine wp_seq ?_
    refine wp_region_lit ?_
    refine vr tbok 10 [] [(2, .bool true)] [] E (by kernel_rfl) trivial ?_
    clear E; intro a E
    refine wpList_nil ?_
    refine th_n ?_
    refine wp_ret ?_
    have hx_ := Option.some.inj hP
    refine ret1 E rfl rfl ?_
    exact ⟨_, rfl, (), rfl, H.sel [] rfl, hx_.symm⟩
   clear H
   rintro v228 w227 a ⟨x226, rfl, H, hx_⟩ E_
   subst hx_
   replace E := E_ _ rfl; clear E_
   refine wpList_nil ?_
   refine th_n ?_
   refine c_true E rfl ?_
   refine wp_seq ?_
   refine wp_region_lit ?_
   refine vr tbok 2 [] [(4, .int .u8 0), (5, .int .i64 1)] [] E (by kernel_rfl) trivial ?_
   clear E; intro a E
   refine wpList_nil ?_
   refine th_n ?_
   refine wp_ret ?_
   refine th_ret ?_
   have hx_ := Option.some.inj hP
   refine ret2 E rfl rfl rfl ?_
   exact ⟨_, rfl, (), rfl, H.sel [] rfl, hx_.symm⟩
  clear H
  rintro v230 w229 a ⟨x223, rfl, H, hx_⟩ E_
  subst hx_
  replace E := E_ _ rfl; clear E_
  refine vr tbok 5 [] [(9, .bool r27), (10, .pointer none), (14, .int .i64 0), (15, .bool false), (16, .int .i64 0), (17, .slice none 0 0), (19, .int .i64 1)] [] E (by kernel_rfl) trivial ?_
  clear E; intro a E
  refine wpList_nil ?_
  refine th_n ?_
  refine wp_seq ?_
  refine wp_region_lit ?_
  refine vr tbok 7 [] [(9, .bool r27), (10, .pointer none), (14, .int .i64 0), (15, .bool false), (16, .int .i64 0), (17, .slice none 0 0), (77, .bool false)] [] E (by kernel_rfl) trivial ?_
  clear E; intro a E
  refine wpList_nil ?_
  refine th_n ?_
  refine c_false E rfl ?_
  refine wp_skip ?_
  refine th_n ?_
  refine wp_seq ?_
  refine wp_seq ?_
  refine wp_region_lit ?_
  refine vr tbok 1 [] [(9, .bool r27), (10, .pointer none), (14, .int .i64 0), (15, .bool false), (16, .int .i64 0), (17, .slice none 0 0), (78, .pointer none)] [] E (by kernel_rfl) trivial ?_
  clear E; intro a E
  obtain ⟨x233, h234, hP⟩ := bind_inv hP
  refine e_call (R := fun v_ w_ => ∃ (x235 : Unit), v_ = .int .i64 0 ∧ Hp S Fa w0 w_ [] ∧ x233 = x235) E rfl rfl Try.func26 rfl rfl rfl ?_ ?_
  ·
   clear E hP; have hP := h234; clear h234; rw [law25_PlayBack_f13] at hP
   refine enterV (n := 16) Try.func26 rfl rfl rfl ?_
   intro a E
   replace E := E.pick [(0, .pointer none)] ⟨rfl, trivial⟩
   refine wp_seq ?_
   refine wp_region_lit ?_
   refine vr tbok 1 [] [(0, .pointer none)] [] E (by kernel_rfl) trivial ?_
   clear E; intro a E
   refine wpList_nil ?_
   refine th_n ?_
   refine wp_seq ?_
   refine wp_seq ?_
   refine wp_region_lit ?_
   refine vr tbok 1 [] [(0, .pointer none), (3, .pointer none)] [] E (by kernel_rfl) trivial ?_
   clear E; intro a E
   obtain ⟨x236, h237, hP⟩ := bind_inv hP
   refine e_call (R := fun v_ w_ => ∃ (x238 : Unit), v_ = .bool true ∧ Hp S Fa w0 w_ [] ∧ x236 = x238) E rfl rfl Try.func60 rfl rfl rfl ?_ ?_
   ·
    clear E hP; have hP := h237; clear h237; rw [law25_PlayBack_f14] at hP
    refine enterV (n := 12) Try.func60 rfl rfl rfl ?_
    intro a E
    replace E := E.pick [(0, .pointer none)] ⟨rfl, trivial⟩
    refine wp_seq ?_
    refine wp_region_lit ?_
    refine vr tbok 1 [] [(0, .pointer none)] [] E (by kernel_rfl) trivial ?_
    clear E; intro a E
    refine wpList_nil ?_
    refine th_n ?_
    refine wp_seq ?_
    refine wp_region_lit ?_
    refine vr tbok 10 [] [(2, .bool true)] [] E (by kernel_rfl) trivial ?_
    clear E; intro a E
    refine wpList_nil ?_
    refine th_n ?_
    refine wp_ret ?_
    have hx_ := Option.some.inj hP
    refine ret1 E rfl rfl ?_
    exact ⟨_, rfl, (), rfl, H.sel [] rfl, hx_.symm⟩
   clear H
   rintro v240 w239 a ⟨x238, rfl, H, hx_⟩ E_
   subst hx_
   replace E := E_ _ rfl; clear E_
   refine wpList_nil ?_
   refine th_n ?_
   refine c_true E rfl ?_
   refine wp_seq ?_
   refine wp_region_lit ?_
   refine vr tbok 1 [] [(2, .int .i64 0)] [] E (by kernel_rfl) trivial ?_
   clear E; intro a E
   refine wpList_nil ?_
   refine th_n ?_
   refine wp_ret ?_
   refine th_ret ?_
   have hx_ := Option.some.inj hP
   refine ret1 E rfl rfl ?_
   exact ⟨_, rfl, (), rfl, H.sel [] rfl, hx_.symm⟩
  clear H
  rintro v242 w241 a ⟨x235, rfl, H, hx_⟩ E_
  subst hx_
  replace E := E_ _ rfl; clear E_
  refine vr tbok 4 [] [(9, .bool r27), (10, .pointer none), (15, .bool false), (16, .int .i64 0), (17, .slice none 0 0), (82, .bool false), (83, .pointer none)] [] E (by kernel_rfl) trivial ?_
  clear E; intro a E
  obtain ⟨x250, h251, hP⟩ := bind_inv hP
  refine e_call (R := fun v_ w_ => ∃ (x252 : Unit), v_ = .bool false ∧ Hp S Fa w0 w_ [] ∧ x250 = x252) E rfl rfl Try.func27 rfl rfl rfl ?_ ?_
  ·
   clear E hP; have hP := h251; clear h251; rw [law25_PlayBack_f15] at hP
   refine enterV (n := 19) Try.func27 rfl rfl rfl ?_
   intro a E
   replace E := E.pick [(0, .pointer none)] ⟨rfl, trivial⟩
   refine wp_seq ?_
   refine wp_region_lit ?_
   refine vr tbok 1 [] [(0, .pointer none)] [] E (by kernel_rfl) trivial ?_
   clear E; intro a E
   refine wpList_nil ?_
   refine th_n ?_
   refine wp_seq ?_
   obtain ⟨x253, h254, hP⟩ := bind_inv hP
   have HR261 := H
   refine dr_start (S := fun w_ => Chg (atL []) w241 w_) (by kernel_rfl) ?_
   intro w258 hc259
   have HS260 : Chg (atL []) w241 w258 := hc259.mono (fun _ _ h_ => h_.elim)
   replace H := H.ext hc259
   refine dr tbok (by kernel_rfl) [0] [] [(0, .pointer none), (3, .pointer none)] (fun w_ => []) 16 E (fun _ _ => by kernel_rfl) (fun w_ hS_ => trivial) (by kernel_rfl) HS260 ?_
   clear E; intro a E
   refine wpAnyH_all (rs := [1]) (by kernel_rfl) (by simp) ?_
   refine all1 ?_
   refine wpOp_of_list rfl ?_
   refine e_call (R := fun v_ w_ => ∃ (x262 : Unit), v_ = .bool true ∧ Hp S Fa w0 w_ [] ∧ Chg (atL []) w241 w_ ∧ x253 = x262) E rfl rfl Try.func60 rfl rfl rfl ?_ ?_
   ·
    clear E hP; have hP := h254; clear h254; rw [law25_PlayBack_f16] at hP
    refine enterV (n := 12) Try.func60 rfl rfl rfl ?_
    intro a E
    replace E := E.pick [(0, .pointer none)] ⟨rfl, trivial⟩
    refine wp_seq ?_
    refine wp_region_lit ?_
    refine vr tbok 1 [] [(0, .pointer none)] [] E (by kernel_rfl) trivial ?_
    clear E; intro a E
    refine wpList_nil ?_
    refine th_n ?_
    refine wp_seq ?_
    refine wp_region_lit ?_
    refine vr tbok 10 [] [(2, .bool true)] [] E (by kernel_rfl) trivial ?_
    clear E; intro a E
    refine wpList_nil ?_
    refine th_n ?_
    refine wp_ret ?_
    have hx_ := Option.some.inj hP
    refine ret1 E rfl rfl ?_
    exact ⟨_, rfl, (), rfl, H.sel [] rfl, HS260, hx_.symm⟩
   clear H HS260
   rintro v264 w263 a ⟨x262, rfl, H, HS260, hx_⟩ E_
   subst hx_
   replace E := E_ _ rfl; clear E_
   refine wpList_nil ?_
   refine th_n ⟨HS260, ?_⟩
   refine dr tbok (by kernel_rfl) [2, 3, 4, 5, 6, 7, 8, 9, 10, 11, 12, 13, 14, 15, 16] [] [(2, .bool false)] (fun w_ => []) 0 E (fun _ _ => by kernel_rfl) (fun w_ hS_ => trivial) (by kernel_rfl) HS260 ?_
   clear E; intro a E
   refine dr_done (by kernel_rfl) ?_
   clear HS260 HR261
   refine th_n ?_
   refine wp_ret ?_
   have hx_ := Option.some.inj hP
   refine ret1 E rfl rfl ?_
   exact ⟨_, rfl, (), rfl, H.sel [] rfl, hx_.symm⟩
  clear H
  rintro v266 w265 a ⟨x252, rfl, H, hx_⟩ E_
  subst hx_
  replace E := E_ _ rfl; clear E_
  refine vr tbok 4 [] [(9, .bool r27), (10, .pointer none), (16, .int .i64 0), (17, .slice none 0 0), (88, .bool (!(false == false)))] [] E (by kernel_rfl) trivial ?_
  clear E; intro a E
  refine E.cases (t := 88) rfl (fun hb_ E_ => ?_) (fun hb_ E_ => ?_)
  ·
   replace E := E_; clear E_
   have h267 : ¬ (false = false) := (by simpa using hb_)
   clear hb_; replace hP := ite_f h267 hP
   refine vr tbok 12 [] [(9, .bool r27), (10, .pointer none), (17, .slice none 0 0), (100, .bool true)] [] E (by kernel_rfl) trivial ?_
   clear E; intro a E
   refine wpList_nil ?_
   refine th_n ?_
   refine c_true E rfl ?_
   refine wp_seq ?_
   refine wp_region_lit ?_
   refine vr tbok 1 [] [(8, .bool false)] [] E (by kernel_rfl) trivial ?_
   clear E; intro a E
   refine wpList_nil ?_
   refine th_n ?_
   refine wp_ret ?_
   refine th_ret ?_
   obtain rfl := Option.some.inj hP
   refine ret1 E rfl rfl ?_
   exact ⟨_, rfl, rfl, H.sel [] rfl⟩
  replace E := E_; clear E_
  have h268 : false = false := (by simpa using hb_)
  clear hb_; replace hP := ite_t h268 hP
  refine vr tbok 1 [] [(9, .bool r27), (10, .pointer none), (16, .int .i64 0), (17, .slice none 0 0), (88, .bool false), (89, .pointer none)] [] E (by kernel_rfl) trivial ?_
  clear E; intro a E
  obtain ⟨x271, h272, hP⟩ := bind_inv hP
  refine e_call (R := fun v_ w_ => ∃ (x273 : Unit), v_ = .int .i64 0 ∧ Hp S Fa w0 w_ [] ∧ x271 = x273) E rfl rfl Try.func28 rfl rfl rfl ?_ ?_
  ·
   clear E hP; have hP := h272; clear h272; rw [law25_PlayBack_f17] at hP
   refine enterV (n := 9) Try.func28 rfl rfl rfl ?_
   intro a E
   replace E := E.pick [(0, .pointer none)] ⟨rfl, trivial⟩
   refine wp_seq ?_
   refine wp_region_lit ?_
   refine vr tbok 1 [] [(0, .pointer none)] [] E (by kernel_rfl) trivial ?_
   clear E; intro a E
   refine wpList_nil ?_
   refine th_n ?_
   refine wp_seq ?_
   refine wp_seq ?_
   refine wp_region_lit ?_
   refine vr tbok 1 [] [(0, .pointer none), (3, .pointer none)] [] E (by kernel_rfl) trivial ?_
   clear E; intro a E
   obtain ⟨x274, h275, hP⟩ := bind_inv hP
   refine e_call (R := fun v_ w_ => ∃ (x276 : Unit), v_ = .bool true ∧ Hp S Fa w0 w_ [] ∧ x274 = x276) E rfl rfl Try.func60 rfl rfl rfl ?_ ?_
   ·
    clear E hP; have hP := h275; clear h275; rw [law25_PlayBack_f18] at hP
    refine enterV (n := 12) Try.func60 rfl rfl rfl ?_
    intro a E
    replace E := E.pick [(0, .pointer none)] ⟨rfl, trivial⟩
    refine wp_seq ?_
    refine wp_region_lit ?_
    refine vr tbok 1 [] [(0, .pointer none)] [] E (by kernel_rfl) trivial ?_
    clear E; intro a E
    refine wpList_nil ?_
    refine th_n ?_
    refine wp_seq ?_
    refine wp_region_lit ?_
    refine vr tbok 10 [] [(2, .bool true)] [] E (by kernel_rfl) trivial ?_
    clear E; intro a E
    refine wpList_nil ?_
    refine th_n ?_
    refine wp_ret ?_
    have hx_ := Option.some.inj hP
    refine ret1 E rfl rfl ?_
    exact ⟨_, rfl, (), rfl, H.sel [] rfl, hx_.symm⟩
   clear H
   rintro v278 w277 a ⟨x276, rfl, H, hx_⟩ E_
   subst hx_
   replace E := E_ _ rfl; clear E_
   refine wpList_nil ?_
   refine th_n ?_
   refine c_true E rfl ?_
   refine wp_seq ?_
   refine wp_region_lit ?_
   refine vr tbok 1 [] [(2, .int .i64 0)] [] E (by kernel_rfl) trivial ?_
   clear E; intro a E
   refine wpList_nil ?_
   refine th_n ?_
   refine wp_ret ?_
   refine th_ret ?_
   have hx_ := Option.some.inj hP
   refine ret1 E rfl rfl ?_
   exact ⟨_, rfl, (), rfl, H.sel [] rfl, hx_.symm⟩
  clear H
  rintro v280 w279 a ⟨x273, rfl, H, hx_⟩ E_
  subst hx_
  replace E := E_ _ rfl; clear E_
  refine vr tbok 5 [] [(9, .bool r27), (10, .pointer none), (17, .slice none 0 0), (94, .bool false), (95, .pointer none)] [] E (by kernel_rfl) trivial ?_
  clear E; intro a E
  obtain ⟨x283, h284, hP⟩ := bind_inv hP
  refine e_call (R := fun v_ w_ => ∃ (x285 : Unit), v_ = .slice none 0 0 ∧ Hp S Fa w0 w_ [] ∧ x283 = x285) E rfl rfl Try.func30 rfl rfl rfl ?_ ?_
  ·
   clear E hP; have hP := h284; clear h284; rw [law25_PlayBack_f19] at hP
   refine enterV (n := 25) Try.func30 rfl rfl rfl ?_
   intro a E
   replace E := E.pick [(0, .pointer none)] ⟨rfl, trivial⟩
   refine wp_seq ?_
   refine wp_region_lit ?_
   refine vr tbok 1 [] [(0, .pointer none)] [] E (by kernel_rfl) trivial ?_
   clear E; intro a E
   refine wpList_nil ?_
   refine th_n ?_
   refine wp_seq ?_
   refine wp_region_lit ?_
   refine vr tbok 1 [] [(0, .pointer none), (3, .slice none 0 0)] [] E (by kernel_rfl) trivial ?_
   clear E; intro a E
   refine wpList_nil ?_
   refine th_n ?_
   refine wp_seq ?_
   refine wp_seq ?_
   refine wp_region_lit ?_
   refine vr tbok 1 [] [(0, .pointer none), (3, .slice none 0 0), (6, .pointer none)] [] E (by kernel_rfl) trivial ?_
   clear E; intro a E
   obtain ⟨x286, h287, hP⟩ := bind_inv hP
   refine e_call (R := fun v_ w_ => ∃ (x288 : Unit), v_ = .bool true ∧ Hp S Fa w0 w_ [] ∧ x286 = x288) E rfl rfl Try.func60 rfl rfl rfl ?_ ?_
   ·
    clear E hP; have hP := h287; clear h287; rw [law25_PlayBack_f20] at hP
    refine enterV (n := 12) Try.func60 rfl rfl rfl ?_
    intro a E
    replace E := E.pick [(0, .pointer none)] ⟨rfl, trivial⟩
    refine wp_seq ?_
    refine wp_region_lit ?_
    refine vr tbok 1 [] [(0, .pointer none)] [] E (by kernel_rfl) trivial ?_
    clear E; intro a E
    refine wpList_nil ?_
    refine th_n ?_
    refine wp_seq ?_
    refine wp_region_lit ?_
    refine vr tbok 10 [] [(2, .bool true)] [] E (by kernel_rfl) trivial ?_
    clear E; intro a E
    refine wpList_nil ?_
    refine th_n ?_
    refine wp_ret ?_
    have hx_ := Option.some.inj hP
    refine ret1 E rfl rfl ?_
    exact ⟨_, rfl, (), rfl, H.sel [] rfl, hx_.symm⟩
   clear H
   rintro v290 w289 a ⟨x288, rfl, H, hx_⟩ E_
   subst hx_
   replace E := E_ _ rfl; clear E_
   refine wpList_nil ?_
   refine th_n ?_
   refine c_true E rfl ?_
   refine wp_seq ?_
   refine wp_region_lit ?_
   refine vr tbok 2 [] [(2, .slice none 0 0)] [] E (by kernel_rfl) trivial ?_
   clear E; intro a E
   refine wpList_nil ?_
   refine th_n ?_
   refine wp_ret ?_
   refine th_ret ?_
   have hx_ := Option.some.inj hP
   refine ret1 E rfl rfl ?_
   exact ⟨_, rfl, (), rfl, H.sel [] rfl, hx_.symm⟩
  clear H
  rintro v292 w291 a ⟨x285, rfl, H, hx_⟩ E_
  subst hx_
  replace E := E_ _ rfl; clear E_
  refine vr tbok 1 [] [(9, .bool r27), (10, .pointer none), (17, .slice none 0 0), (94, .bool false), (96, .slice none 0 0), (97, .slice none 0 0)] [] E (by kernel_rfl) trivial ?_
  clear E; intro a E
  replace H := H.nilrow (cInt .u8) 27; try dsimp only [setn, addE, goneL] at H
  replace H := H.nilrow (cInt .u8) 27; try dsimp only [setn, addE, goneL] at H
  obtain ⟨r295, h296, hP⟩ := bind_inv hP
  obtain ⟨Fa297, Hc298, hb299⟩ := H.call [] [(0, false), (1, false)] rfl rfl trivial
  refine e_call E rfl rfl Try.func32 rfl rfl rfl (kit_SameLetters_calls none 0 none 0 [] [] (Nat.le_refl _) (Nat.le_refl _) Hc298 h296) ?_
  rintro v300 w301 a ⟨rfl, HR302⟩ E_
  replace E := E_ _ rfl; clear E_
  obtain ⟨H_, hc303⟩ := hb299 _ _ HR302 rfl
  replace H := H_; clear H_; try dsimp only [setn, addE, goneL] at H
  refine vr tbok 2 [] [(9, .bool r27), (10, .pointer none), (17, .slice none 0 0), (100, .bool (!r295))] [] E (by kernel_rfl) trivial ?_
  clear E; intro a E
  refine wpList_nil ?_
  refine th_n ?_
  refine E.cases (t := 100) rfl (fun hb_ E_ => ?_) (fun hb_ E_ => ?_)
  ·
   replace E := E_; clear E_
   have h304 : ¬ (r295 = true) := (ne_true_of_eq_false (not_t hb_))
   clear hb_; replace hP := ite_f h304 hP
   refine c_true E rfl ?_
   refine wp_seq ?_
   refine wp_region_lit ?_
   refine vr tbok 1 [] [(8, .bool false)] [] E (by kernel_rfl) trivial ?_
   clear E; intro a E
   refine wpList_nil ?_
   refine th_n ?_
   refine wp_ret ?_
   refine th_ret ?_
   obtain rfl := Option.some.inj hP
   refine ret1 E rfl rfl ?_
   exact ⟨_, rfl, rfl, H.sel [] rfl⟩
  replace E := E_; clear E_
  have h305 : r295 = true := (not_f hb_)
  clear hb_; replace hP := ite_t h305 hP
  refine c_false E rfl ?_
  refine wp_skip ?_
  refine th_n ?_
  refine wp_seq ?_
  refine wp_seq ?_
  refine wp_region_lit ?_
  refine vr tbok 1 [] [(9, .bool r27), (10, .pointer none), (17, .slice none 0 0), (20, .int .i64 0)] [] E (by kernel_rfl) trivial ?_
  clear E; intro a E
  refine wpList_nil ?_
  refine th_n ?_
  refine wp_block ?_
  obtain ⟨x307, hL308, hK309⟩ := bind_inv hP
  clear hP
  refine loop_cut (fun i_ a w_ => (i_ = 2 ∧ ∃ (x312 : Unit), Fr a 127 [(9, .bool r27), (10, .pointer none)] ∧ Hp S Fa w0 w_ [] ∧ x307 = x312)) ?_ ?_
  ·
   refine loopV (fun m311 a w310 => ∃ (_u : Unit), Fr a 127 [(9, .bool r27), (10, .pointer none), (17, .slice none 0 0), (20, .int .i64 0)] ∧ Hp S Fa w0 w310 [] ∧ law25_PlayBack_l21 N m311  = some x307) N ?_ ?_
   ·
    exact ⟨(), E.pick _ ⟨rfl, rfl, rfl, rfl, trivial⟩, H.sel [] rfl, hL308⟩
   clear E H hL308; intro m311 a w310 hI_
   obtain ⟨_, E, H, hP⟩ := hI_
   obtain ⟨m306, rfl⟩ : ∃ q_, m311 = q_ + 1 := by cases m311 with | zero => rw [law25_PlayBack_l21] at hP; cases hP | succ q_ => exact ⟨q_, rfl⟩
   rw [law25_PlayBack_l21] at hP
   refine wp_seq ?_
   refine wp_seq ?_
   refine wp_region_lit ?_
   refine vr tbok 4 [] [(9, .bool r27), (10, .pointer none), (17, .slice none 0 0), (20, .int .i64 0), (104, .bool false)] [] E (by kernel_rfl) trivial ?_
   clear E; intro a E
   refine wpList_nil ?_
   refine th_n ?_
   refine c_false E rfl ?_
   refine wp_exit ?_
   refine th_exit ?_
   have hx_ := Option.some.inj hP
   refine th_exit (.inl ⟨2, rfl, ?_⟩)
   exact ⟨rfl, (), E.pick _ ⟨rfl, rfl, trivial⟩, H.sel [] rfl, hx_.symm⟩
  clear E H hL308; intro i_ a w310 hM_
  obtain ⟨rfl, x312, E, H, hx_⟩ := hM_
  subst hx_; have hP := hK309; clear hK309
  refine bl_hit ?_
  refine th_n ?_
  refine wp_seq ?_
  refine wp_region_lit ?_
  refine vr tbok 2 [] [(10, .pointer none), (111, .bool r27)] [] E (by kernel_rfl) trivial ?_
  clear E; intro a E
  refine E.cases (t := 111) rfl (fun hb_ E_ => ?_) (fun hb_ E_ => ?_)
  ·
   replace E := E_; clear E_
   have h313 : r27 = true := hb_
   clear hb_; replace hP := ite_t h313 hP
   refine vr tbok 1 [] [(10, .pointer none), (111, .bool true), (112, .pointer none)] [] E (by kernel_rfl) trivial ?_
   clear E; intro a E
   obtain ⟨x316, h317, hP⟩ := bind_inv hP
   refine e_call (R := fun v_ w_ => ∃ (x318 : Unit), v_ = .int .i64 1 ∧ Hp S Fa w0 w_ [] ∧ x316 = x318) E rfl rfl Try.func31 rfl rfl rfl ?_ ?_
   ·
    clear E hP; have hP := h317; clear h317; rw [law25_PlayBack_f22] at hP
    refine enterV (n := 35) Try.func31 rfl rfl rfl ?_
    intro a E
    replace E := E.pick [(0, .pointer none)] ⟨rfl, trivial⟩
    refine wp_seq ?_
    refine wp_region_lit ?_
    refine vr tbok 1 [] [(0, .pointer none)] [] E (by kernel_rfl) trivial ?_
    clear E; intro a E
    refine wpList_nil ?_
    refine th_n ?_
    refine wp_seq ?_
    refine wp_seq ?_
    refine wp_region_lit ?_
    refine vr tbok 1 [] [(0, .pointer none), (4, .pointer none)] [] E (by kernel_rfl) trivial ?_
    clear E; intro a E
    obtain ⟨x319, h320, hP⟩ := bind_inv hP
    refine e_call (R := fun v_ w_ => ∃ (x321 : Unit), v_ = .bool true ∧ Hp S Fa w0 w_ [] ∧ x319 = x321) E rfl rfl Try.func60 rfl rfl rfl ?_ ?_
    ·
     clear E hP; have hP := h320; clear h320; rw [law25_PlayBack_f23] at hP
     refine enterV (n := 12) Try.func60 rfl rfl rfl ?_
     intro a E
     replace E := E.pick [(0, .pointer none)] ⟨rfl, trivial⟩
     refine wp_seq ?_
     refine wp_region_lit ?_
     refine vr tbok 1 [] [(0, .pointer none)] [] E (by kernel_rfl) trivial ?_
     clear E; intro a E
     refine wpList_nil ?_
     refine th_n ?_
     refine wp_seq ?_
     refine wp_region_lit ?_
     refine vr tbok 10 [] [(2, .bool true)] [] E (by kernel_rfl) trivial ?_
     clear E; intro a E
     refine wpList_nil ?_
     refine th_n ?_
     refine wp_ret ?_
     have hx_ := Option.some.inj hP
     refine ret1 E rfl rfl ?_
     exact ⟨_, rfl, (), rfl, H.sel [] rfl, hx_.symm⟩
    clear H
    rintro v323 w322 a ⟨x321, rfl, H, hx_⟩ E_
    subst hx_
    replace E := E_ _ rfl; clear E_
    refine wpList_nil ?_
    refine th_n ?_
    refine c_true E rfl ?_
    refine wp_seq ?_
    refine wp_region_lit ?_
    refine vr tbok 1 [] [(2, .int .i64 1)] [] E (by kernel_rfl) trivial ?_
    clear E; intro a E
    refine wpList_nil ?_
    refine th_n ?_
    refine wp_ret ?_
    refine th_ret ?_
    have hx_ := Option.some.inj hP
    refine ret1 E rfl rfl ?_
    exact ⟨_, rfl, (), rfl, H.sel [] rfl, hx_.symm⟩
   clear H
   rintro v325 w324 a ⟨x318, rfl, H, hx_⟩ E_
   subst hx_
   replace E := E_ _ rfl; clear E_
   refine vr tbok 14 [] [(8, .bool false)] [] E (by kernel_rfl) trivial ?_
   clear E; intro a E
   refine wpList_nil ?_
   refine th_n ?_
   refine wp_ret ?_
   obtain rfl := Option.some.inj hP
   refine ret1 E rfl rfl ?_
   exact ⟨_, rfl, rfl, H.sel [] rfl⟩
  replace E := E_; clear E_
  have h326 : ¬ (r27 = true) := (ne_true_of_eq_false hb_)
  clear hb_; replace hP := ite_f h326 hP
  refine vr tbok 16 [] [(8, .bool false)] [] E (by kernel_rfl) trivial ?_
  clear E; intro a E
  refine wpList_nil ?_
  refine th_n ?_
  refine wp_ret ?_
  obtain rfl := Option.some.inj hP
  refine ret1 E rfl rfl ?_
  exact ⟨_, rfl, rfl, H.sel [] rfl⟩
 subst hr_; have hP := (elim_r hP)
 obtain ⟨x101, hxx_⟩ : ∃ y_, y_ = x_ := ⟨_, rfl⟩; subst hxx_
 replace E := E_ _ rfl; clear E_
 obtain ⟨H_, hc72⟩ := hb64 _ _ HR99 rfl
 replace H := H_; clear H_; try dsimp only [setn, addE, goneL] at H
 refine vr tbok 4 [] [(2, .slice A13 (List.length raws) c14), (3, .int .u64 raw), (9, .bool r27), (40, .pointer (some ⟨g80, 0, none⟩)), (41, .agg #[.bool x101.2.2.2.2.2.2.2.1, .slice A93 (List.length x101.2.2.2.2.2.2.2.2.1) c94, .slice A95 (List.length x101.2.2.2.2.2.2.2.2.2.1) c96, .slice A97 (List.length x101.2.2.2.2.2.2.2.2.2.2.1) c98]), (42, .bool x101.2.2.2.2.2.2.2.2.2.2.2)] [] E (by kernel_rfl) trivial ?_
 clear E; intro a E
 refine h_alloc H E rfl rfl tbok rfl ?_
 intro w338 g337 a hc339 hg341 H_ E_
 replace E := E_ _ rfl; clear E_
 replace H := H_; clear H_; try dsimp only [setn, addE, goneL] at H
 refine vr tbok 1 [] [(2, .slice A13 (List.length raws) c14), (3, .int .u64 raw), (9, .bool r27), (10, .pointer (some ⟨g80, 0, none⟩)), (11, .pointer (some ⟨g337, 0, none⟩)), (41, .agg #[.bool x101.2.2.2.2.2.2.2.1, .slice A93 (List.length x101.2.2.2.2.2.2.2.2.1) c94, .slice A95 (List.length x101.2.2.2.2.2.2.2.2.2.1) c96, .slice A97 (List.length x101.2.2.2.2.2.2.2.2.2.2.1) c98]), (42, .bool x101.2.2.2.2.2.2.2.2.2.2.2)] [] E (by kernel_rfl) trivial ?_
 clear E; intro a E
 refine h_store (g := g337) (off := 0) H 16 rfl E rfl rfl rfl rfl tbok rfl rfl rfl rfl rfl ?_
 clear E; intro w342 a hc343 H_ E
 replace H := H_; clear H_; try dsimp only [setn, addE, goneL] at H
 refine vr tbok 1 [] [(2, .slice A13 (List.length raws) c14), (3, .int .u64 raw), (9, .bool r27), (10, .pointer (some ⟨g80, 0, none⟩)), (12, .bool x101.2.2.2.2.2.2.2.2.2.2.2)] [] E (by kernel_rfl) trivial ?_
 clear E; intro a E
 refine wpList_nil ?_
 refine th_n ?_
 refine wp_seq ?_
 refine wp_seq ?_
 refine wp_region_lit ?_
 refine vr tbok 2 [] [(2, .slice A13 (List.length raws) c14), (3, .int .u64 raw), (9, .bool r27), (10, .pointer (some ⟨g80, 0, none⟩)), (44, .bool (!x101.2.2.2.2.2.2.2.2.2.2.2))] [] E (by kernel_rfl) trivial ?_
 clear E; intro a E
 refine wpList_nil ?_
 refine th_n ?_
 refine E.cases (t := 44) rfl (fun hb_ E_ => ?_) (fun hb_ E_ => ?_)
 ·
  replace E := E_; clear E_
  have h344 : ¬ (x101.2.2.2.2.2.2.2.2.2.2.2 = true) := (ne_true_of_eq_false (not_t hb_))
  clear hb_; replace hP := ite_f h344 hP
  refine c_true E rfl ?_
  refine wp_seq ?_
  refine wp_region_lit ?_
  refine vr tbok 1 [] [(8, .bool false)] [] E (by kernel_rfl) trivial ?_
  clear E; intro a E
  refine wpList_nil ?_
  refine th_n ?_
  refine wp_ret ?_
  refine th_ret ?_
  obtain rfl := Option.some.inj hP
  refine ret1 E rfl rfl ?_
  exact ⟨_, rfl, rfl, H.sel [] rfl⟩
 replace E := E_; clear E_
 have h345 : x101.2.2.2.2.2.2.2.2.2.2.2 = true := (not_f hb_)
 clear hb_; replace hP := ite_t h345 hP
 refine c_false E rfl ?_
 refine wp_skip ?_
 refine th_n ?_
 refine wp_seq ?_
 refine wp_seq ?_
 refine wp_region_lit ?_
 refine vr tbok 1 [] [(2, .slice A13 (List.length raws) c14), (3, .int .u64 raw), (9, .bool r27), (10, .pointer (some ⟨g80, 0, none⟩)), (13, .int .i64 0)] [] E (by kernel_rfl) trivial ?_
 clear E; intro a E
 refine wpList_nil ?_
 refine th_n ?_
 refine wp_block ?_
 obtain ⟨x407, hL408, hK409⟩ := bind_inv hP
 clear hP
 replace H := H.nilrow cS98 99; try dsimp only [setn, addE, goneL] at H
 refine loop_cut (fun i_ a w_ => (i_ = 0 ∧ ∃ (x413 : Int × (List (Int × Int))), ∃ (A404 : Option Addr) (c405 : Nat), Fr a 127 [(3, .int .u64 raw), (9, .bool r27), (10, .pointer (some ⟨g80, 0, none⟩))] ∧ Hp S Fa w0 w_ [.box g80 74 [.int .i64 aProps, .slice A81 (List.length x101.1) c82, .slice A83 (List.length x101.2.1) c84, .slice A85 (List.length x101.2.2.1) c86, .int .u8 s.1, .int .u8 s.2, .bool x101.2.2.2.1, .slice A87 (List.length x101.2.2.2.2.1) c88, .slice A89 (List.length x101.2.2.2.2.2.1) c90, .slice A91 (List.length x101.2.2.2.2.2.2.1) c92, .int .i64 x413.1, .slice A404 (List.length x413.2) c405, .bool true], .row true cBool 4 A81 c82 x101.1, .row true (cInt .i64) 3 A83 c84 x101.2.1, .row true cNode 90 A85 c86 x101.2.2.1, .row true (cInt .i64) 3 A87 c88 x101.2.2.2.2.1, .row true (cSl (cInt .u8)) 31 A89 c90 x101.2.2.2.2.2.1, .row true (cInt .u8) 27 A91 c92 x101.2.2.2.2.2.2.1, .row true cS98 99 A404 c405 x413.2] ∧ x407 = x413)) ?_ ?_
 ·
  refine loopV (fun m412 a w411 => ∃ (r370 : Int) (r372 : List (Int × Int)) (i375 : Int), ∃ (A373 : Option Addr) (c374 : Nat), Fr a 127 [(2, .slice A13 (List.length raws) c14), (3, .int .u64 raw), (9, .bool r27), (10, .pointer (some ⟨g80, 0, none⟩)), (13, .int .i64 i375)] ∧ Hp S Fa w0 w411 [.ro false (cInt .u64) A13 raws, .box g80 74 [.int .i64 aProps, .slice A81 (List.length x101.1) c82, .slice A83 (List.length x101.2.1) c84, .slice A85 (List.length x101.2.2.1) c86, .int .u8 s.1, .int .u8 s.2, .bool x101.2.2.2.1, .slice A87 (List.length x101.2.2.2.2.1) c88, .slice A89 (List.length x101.2.2.2.2.2.1) c90, .slice A91 (List.length x101.2.2.2.2.2.2.1) c92, .int .i64 r370, .slice A373 (List.length r372) c374, .bool true], .row true cBool 4 A81 c82 x101.1, .row true (cInt .i64) 3 A83 c84 x101.2.1, .row true cNode 90 A85 c86 x101.2.2.1, .row true (cInt .i64) 3 A87 c88 x101.2.2.2.2.1, .row true (cSl (cInt .u8)) 31 A89 c90 x101.2.2.2.2.2.1, .row true (cInt .u8) 27 A91 c92 x101.2.2.2.2.2.2.1, .row true cS98 99 A373 c374 r372] ∧ law25_PlayBack_l24 N aProps s raws x101 m412 r370 r372 i375 = some x407) N ?_ ?_
  ·
   exact ⟨0, [], 0, none, 0, E.pick _ ⟨rfl, rfl, rfl, rfl, rfl, trivial⟩, H.sel [3, 6, 7, 8, 9, 10, 11, 12, 17] rfl, hL408⟩
  clear E H hL408; intro m412 a w411 hI_
  obtain ⟨r370, r372, i375, A373, c374, E, H, hP⟩ := hI_
  obtain ⟨m406, rfl⟩ : ∃ q_, m412 = q_ + 1 := by cases m412 with | zero => rw [law25_PlayBack_l24] at hP; cases hP | succ q_ => exact ⟨q_, rfl⟩
  rw [law25_PlayBack_l24] at hP
  refine wp_seq ?_
  refine wp_seq ?_
  refine wp_region_lit ?_
  refine vr tbok 4 [] [(2, .slice A13 (List.length raws) c14), (3, .int .u64 raw), (9, .bool r27), (10, .pointer (some ⟨g80, 0, none⟩)), (13, .int .i64 i375), (48, .bool (decide (i375 < (((List.length raws) : Nat) : Int))))] [] E (by kernel_rfl) trivial ?_
  clear E; intro a E
  refine wpList_nil ?_
  refine th_n ?_
  refine E.cases (t := 48) rfl (fun hb_ E_ => ?_) (fun hb_ E_ => ?_)
  ·
   replace E := E_; clear E_
   have h414 : i375 < (((List.length raws) : Nat) : Int) := of_decide_eq_true hb_
   clear hb_; replace hP := ite_t h414 hP
   refine c_true E rfl ?_
   refine wp_skip ?_
   refine th_n ?_
   refine wp_seq ?_
   refine wp_block ?_
   refine wp_region_lit ?_
   obtain ⟨g415, hP⟩ := ask_inv hP
   obtain ⟨b416, o417, e_b416⟩ := (H.rd 0 rds_ro).addr (idx_pos g415)
   subst e_b416
   refine vr tbok 5 [.int .u64 (List.getD raws (Int.toNat i375) 0)] [(2, .slice (some ⟨b416, o417, none⟩) (List.length raws) c14), (3, .int .u64 raw), (9, .bool r27), (10, .pointer (some ⟨g80, 0, none⟩)), (13, .int .i64 i375), (51, .pointer (some ⟨g80, 0, none⟩)), (55, .int .u64 (List.getD raws (Int.toNat i375) 0))] [0 ≤ i375 ∧ i375 < (((List.length raws) : Nat) : Int), World.cell? w411 ⟨b416, o417 + (Int.toNat i375) * 1, none⟩ = some (.int .u64 (List.getD raws (Int.toNat i375) 0))] E (by kernel_rfl) ⟨g415, Rds.at1 (H.rd 0 rds_ro) 0 g415⟩ ?_
   clear E; intro a E
   obtain ⟨r418, h419, hP⟩ := bind_inv hP
   obtain ⟨Fa420, Hc421, hb422⟩ := H.call [1, 8] [(2, false), (3, false), (4, false), (5, false), (6, false), (7, false)] rfl rfl ⟨flat_plain, trivial⟩
   refine e_call E rfl rfl Try.func29 rfl rfl rfl (play_Referee_Move_calls g80 A81 c82 A83 c84 A85 c86 A87 c88 A89 c90 A91 c92 A373 c374 aProps x101.1 x101.2.1 x101.2.2.1 (s.1, s.2) x101.2.2.2.1 x101.2.2.2.2.1 x101.2.2.2.2.2.1 x101.2.2.2.2.2.2.1 r370 r372 true (List.getD raws (Int.toNat i375) 0) (H.rcap 2 rfl) (H.rcap 3 rfl) (H.rcap 4 rfl) (H.rcap 5 rfl) (H.rcap 6 rfl) (H.rcap 7 rfl) Hc421 h419) ?_
   intro v428 w427 a hR429 E_
   obtain ⟨x_, A432, c433, hr_, rfl, HR431⟩ := hR429
   subst hr_
   replace E := E_ _ rfl; clear E_
   obtain ⟨H_, hc430⟩ := hb422 _ _ HR431 rfl
   replace H := H_; clear H_; try dsimp only [setn, addE, goneL] at H
   refine wpList_nil ?_
   refine bl_n ?_
   refine th_n ?_
   refine wp_region_lit ?_
   obtain ⟨g436, hP⟩ := ask_inv hP
   refine vr tbok 3 [.int .i64 (i375 + 1)] [(2, .slice (some ⟨b416, o417, none⟩) (List.length raws) c14), (3, .int .u64 raw), (9, .bool r27), (10, .pointer (some ⟨g80, 0, none⟩)), (13, .int .i64 (i375 + 1))] [IntKind.i64.wrap (i375 + 1) = i375 + 1] E (by kernel_rfl) (wrap_in g436) ?_
   clear E; intro a E
   refine wpList_nil ?_
   exact th_n ⟨m406, Nat.lt_succ_self _, r418.2.2.1, r418.2.2.2, i375 + 1, A432, c433, E.pick _ ⟨rfl, rfl, rfl, rfl, rfl, trivial⟩, H.sel [0, 9, 2, 3, 4, 5, 6, 7, 10] rfl, hP⟩
  replace E := E_; clear E_
  have h437 : ¬ (i375 < (((List.length raws) : Nat) : Int)) := of_decide_eq_false hb_
  clear hb_; replace hP := ite_f h437 hP
  refine c_false E rfl ?_
  refine wp_exit ?_
  refine th_exit ?_
  have hx_ := Option.some.inj hP
  refine th_exit (.inl ⟨0, rfl, ?_⟩)
  exact ⟨rfl, (r370, r372), A373, c374, E.pick _ ⟨rfl, rfl, rfl, trivial⟩, H.sel [1, 2, 3, 4, 5, 6, 7, 8] rfl, hx_.symm⟩
 clear E H hL408; intro i_ a w411 hM_
 obtain ⟨rfl, x413, A404, c405, E, H, hx_⟩ := hM_
 subst hx_; have hP := hK409; clear hK409
 refine bl_hit ?_
 refine th_n ?_
 refine wp_seq ?_
 refine wp_region_lit ?_
 refine vr tbok 1 [] [(3, .int .u64 raw), (9, .bool r27), (10, .pointer (some ⟨g80, 0, none⟩)), (57, .pointer (some ⟨g80, 0, none⟩))] [] E (by kernel_rfl) trivial ?_
 clear E; intro a E
 obtain ⟨r438, h439, hP⟩ := bind_inv hP
 obtain ⟨Fa440, Hc441, hb442⟩ := H.call [0, 7] [(1, false), (2, false), (3, false), (4, false), (5, false), (6, false)] rfl rfl ⟨flat_plain, trivial⟩
 refine e_call E rfl rfl Try.func26 rfl rfl rfl (play_Referee_Rank_calls g80 A81 c82 A83 c84 A85 c86 A87 c88 A89 c90 A91 c92 A404 c405 aProps x101.1 x101.2.1 x101.2.2.1 (s.1, s.2) x101.2.2.2.1 x101.2.2.2.2.1 x101.2.2.2.2.2.1 x101.2.2.2.2.2.2.1 x407.1 x407.2 true (H.rcap 1 rfl) (H.rcap 2 rfl) (H.rcap 3 rfl) (H.rcap 4 rfl) (H.rcap 5 rfl) (H.rcap 6 rfl) Hc441 h439) ?_
 intro v448 w447 a hR449 E_
 obtain ⟨x_, hr_, rfl, HR451⟩ := hR449
 subst hr_
 replace E := E_ _ rfl; clear E_
 obtain ⟨H_, hc450⟩ := hb442 _ _ HR451 rfl
 replace H := H_; clear H_; try dsimp only [setn, addE, goneL] at H
 refine vr tbok 1 [] [(3, .int .u64 raw), (9, .bool r27), (10, .pointer (some ⟨g80, 0, none⟩)), (58, .int .i64 r438), (59, .pointer (some ⟨g80, 0, none⟩))] [] E (by kernel_rfl) trivial ?_
 clear E; intro a E
 obtain ⟨r454, h455, hP⟩ := bind_inv hP
 obtain ⟨Fa456, Hc457, hb458⟩ := H.call [9, 8] [(1, false), (2, false), (3, false), (4, false), (5, false), (6, false)] rfl rfl ⟨flat_plain, trivial⟩
 refine e_call E rfl rfl Try.func27 rfl rfl rfl (play_Referee_Over_calls g80 A81 c82 A83 c84 A85 c86 A87 c88 A89 c90 A91 c92 A404 c405 aProps x101.1 x101.2.1 x101.2.2.1 (s.1, s.2) x101.2.2.2.1 x101.2.2.2.2.1 x101.2.2.2.2.2.1 x101.2.2.2.2.2.2.1 x407.1 x407.2 true (H.rcap 1 rfl) (H.rcap 2 rfl) (H.rcap 3 rfl) (H.rcap 4 rfl) (H.rcap 5 rfl) (H.rcap 6 rfl) Hc457 h455) ?_
 intro v464 w463 a hR465 E_
 obtain ⟨x_, hr_, rfl, HR467⟩ := hR465
 subst hr_
 replace E := E_ _ rfl; clear E_
 obtain ⟨H_, hc466⟩ := hb458 _ _ HR467 rfl
 replace H := H_; clear H_; try dsimp only [setn, addE, goneL] at H
 refine vr tbok 1 [] [(3, .int .u64 raw), (9, .bool r27), (10, .pointer (some ⟨g80, 0, none⟩)), (58, .int .i64 r438), (60, .bool r454), (61, .pointer (some ⟨g80, 0, none⟩))] [] E (by kernel_rfl) trivial ?_
 clear E; intro a E
 obtain ⟨r470, h471, hP⟩ := bind_inv hP
 obtain ⟨Fa472, Hc473, hb474⟩ := H.call [11, 10] [(1, false), (2, false), (3, false), (4, false), (5, false), (6, false)] rfl rfl ⟨flat_plain, trivial⟩
 refine e_call E rfl rfl Try.func28 rfl rfl rfl (play_Referee_State_calls g80 A81 c82 A83 c84 A85 c86 A87 c88 A89 c90 A91 c92 A404 c405 aProps x101.1 x101.2.1 x101.2.2.1 (s.1, s.2) x101.2.2.2.1 x101.2.2.2.2.1 x101.2.2.2.2.2.1 x101.2.2.2.2.2.2.1 x407.1 x407.2 true (H.rcap 1 rfl) (H.rcap 2 rfl) (H.rcap 3 rfl) (H.rcap 4 rfl) (H.rcap 5 rfl) (H.rcap 6 rfl) Hc473 h471) ?_
 intro v480 w479 a hR481 E_
 obtain ⟨x_, hr_, rfl, HR483⟩ := hR481
 subst hr_
 replace E := E_ _ rfl; clear E_
 obtain ⟨H_, hc482⟩ := hb474 _ _ HR483 rfl
 replace H := H_; clear H_; try dsimp only [setn, addE, goneL] at H
 refine vr tbok 1 [] [(3, .int .u64 raw), (9, .bool r27), (10, .pointer (some ⟨g80, 0, none⟩)), (58, .int .i64 r438), (60, .bool r454), (62, .int .i64 r470), (63, .pointer (some ⟨g80, 0, none⟩))] [] E (by kernel_rfl) trivial ?_
 clear E; intro a E
 obtain ⟨r486, h487, hP⟩ := bind_inv hP
 obtain ⟨Fa488, Hc489, hb490⟩ := H.call [13, 12] [(1, false), (2, false), (3, false), (4, false), (5, false), (6, false)] rfl rfl ⟨flat_plain, trivial⟩
 refine e_call E rfl rfl Try.func30 rfl rfl rfl (play_Referee_Trace_calls g80 A81 c82 A83 c84 A85 c86 A87 c88 A89 c90 A91 c92 A404 c405 aProps x101.1 x101.2.1 x101.2.2.1 (s.1, s.2) x101.2.2.2.1 x101.2.2.2.2.1 x101.2.2.2.2.2.1 x101.2.2.2.2.2.2.1 x407.1 x407.2 true (H.rcap 1 rfl) (H.rcap 2 rfl) (H.rcap 3 rfl) (H.rcap 4 rfl) (H.rcap 5 rfl) (H.rcap 6 rfl) Hc489 h487) ?_
 intro v496 w495 a hR497 E_
 obtain ⟨x_, A500, c501, hr_, rfl, HR499⟩ := hR497
 subst hr_
 replace E := E_ _ rfl; clear E_
 obtain ⟨H_, hc498⟩ := hb490 _ _ HR499 rfl
 replace H := H_; clear H_; try dsimp only [setn, addE, goneL] at H
 refine vr tbok 4 [] [(3, .int .u64 raw), (9, .bool r27), (10, .pointer (some ⟨g80, 0, none⟩)), (14, .int .i64 r438), (15, .bool r454), (16, .int .i64 r470), (17, .slice A500 (List.length r486) c501)] [] E (by kernel_rfl) trivial ?_
 clear E; intro a E
 refine wpList_nil ?_
 refine th_n ?_
 refine wp_seq ?_
 refine wp_seq ?_
 refine wp_region_lit ?_
 refine vr tbok 2 [] [(9, .bool r27), (10, .pointer (some ⟨g80, 0, none⟩)), (14, .int .i64 r438), (15, .bool r454), (16, .int .i64 r470), (17, .slice A500 (List.length r486) c501), (66, .pointer (some ⟨g80, 0, none⟩)), (67, .int .u64 raw)] [] E (by kernel_rfl) trivial ?_
 clear E; intro a E
 obtain ⟨r505, h506, hP⟩ := bind_inv hP
 obtain ⟨Fa507, Hc508, hb509⟩ := H.call [16, 15] [(1, false), (2, false), (3, false), (4, false), (5, false), (6, false)] rfl rfl ⟨flat_plain, trivial⟩
 refine e_call E rfl rfl Try.func29 rfl rfl rfl (play_Referee_Move_calls g80 A81 c82 A83 c84 A85 c86 A87 c88 A89 c90 A91 c92 A404 c405 aProps x101.1 x101.2.1 x101.2.2.1 (s.1, s.2) x101.2.2.2.1 x101.2.2.2.2.1 x101.2.2.2.2.2.1 x101.2.2.2.2.2.2.1 x407.1 x407.2 true raw (H.rcap 1 rfl) (H.rcap 2 rfl) (H.rcap 3 rfl) (H.rcap 4 rfl) (H.rcap 5 rfl) (H.rcap 6 rfl) Hc508 h506) ?_
 intro v515 w514 a hR516 E_
 obtain ⟨x_, A519, c520, hr_, rfl, HR518⟩ := hR516
 subst hr_
 replace E := E_ _ rfl; clear E_
 obtain ⟨H_, hc517⟩ := hb509 _ _ HR518 rfl
 replace H := H_; clear H_; try dsimp only [setn, addE, goneL] at H
 refine vr tbok 5 [] [(9, .bool r27), (10, .pointer (some ⟨g80, 0, none⟩)), (14, .int .i64 r438), (15, .bool r454), (16, .int .i64 r470), (17, .slice A500 (List.length r486) c501), (19, .int .i64 r505.2.1)] [] E (by kernel_rfl) trivial ?_
 clear E; intro a E
 refine wpList_nil ?_
 refine th_n ?_
 refine wp_seq ?_
 refine wp_region_lit ?_
 refine vr tbok 3 [] [(9, .bool r27), (10, .pointer (some ⟨g80, 0, none⟩)), (14, .int .i64 r438), (15, .bool r454), (16, .int .i64 r470), (17, .slice A500 (List.length r486) c501), (73, .bool ((r505.2.1 : Int) == 0))] [] E (by kernel_rfl) trivial ?_
 clear E; intro a E
 refine E.cases (t := 73) rfl (fun hb_ E_ => ?_) (fun hb_ E_ => ?_)
 ·
  replace E := E_; clear E_
  have h523 : (r505.2.1 : Int) = 0 := eq_of_beq hb_
  clear hb_; replace hP := ite_t h523 hP
  refine vr tbok 1 [] [(9, .bool r27), (10, .pointer (some ⟨g80, 0, none⟩)), (14, .int .i64 r438), (15, .bool r454), (16, .int .i64 r470), (17, .slice A500 (List.length r486) c501), (73, .bool true), (74, .pointer (some ⟨g80, 0, none⟩))] [] E (by kernel_rfl) trivial ?_
  clear E; intro a E
  obtain ⟨r524, h525, hP⟩ := bind_inv hP
  obtain ⟨Fa526, Hc527, hb528⟩ := H.call [17, 18] [(1, false), (2, false), (3, false), (4, false), (5, false), (6, false)] rfl rfl ⟨flat_plain, trivial⟩
  refine e_call E rfl rfl Try.func31 rfl rfl rfl (play_Referee_Back_calls g80 A81 c82 A83 c84 A85 c86 A87 c88 A89 c90 A91 c92 A519 c520 aProps x101.1 x101.2.1 x101.2.2.1 (s.1, s.2) x101.2.2.2.1 x101.2.2.2.2.1 x101.2.2.2.2.2.1 x101.2.2.2.2.2.2.1 r505.2.2.1 r505.2.2.2 true (H.rcap 1 rfl) (H.rcap 2 rfl) (H.rcap 3 rfl) (H.rcap 4 rfl) (H.rcap 5 rfl) (H.rcap 6 rfl) Hc527 h525) ?_
  intro v534 w533 a hR535 E_
  obtain ⟨x_, A538, c539, hr_, rfl, HR537⟩ := hR535
  subst hr_
  replace E := E_ _ rfl; clear E_
  obtain ⟨H_, hc536⟩ := hb528 _ _ HR537 rfl
  replace H := H_; clear H_; try dsimp only [setn, addE, goneL] at H
  refine vr tbok 2 [] [(9, .bool r27), (10, .pointer (some ⟨g80, 0, none⟩)), (14, .int .i64 r438), (15, .bool r454), (16, .int .i64 r470), (17, .slice A500 (List.length r486) c501), (77, .bool ((r524.1 : Int) != 0))] [] E (by kernel_rfl) trivial ?_
  clear E; intro a E
  refine wpList_nil ?_
  refine th_n ?_
  refine E.cases (t := 77) rfl (fun hb_ E_ => ?_) (fun hb_ E_ => ?_)
  ·
   replace E := E_; clear E_
   have h542 : ¬ ((r524.1 : Int) = 0) := bne_iff_ne.1 hb_
   clear hb_; replace hP := ite_f h542 hP
   refine c_true E rfl ?_
   refine wp_seq ?_
   refine wp_region_lit ?_
   refine vr tbok 1 [] [(8, .bool false)] [] E (by kernel_rfl) trivial ?_
   clear E; intro a E
   refine wpList_nil ?_
   refine th_n ?_
   refine wp_ret ?_
   refine th_ret ?_
   obtain rfl := Option.some.inj hP
   refine ret1 E rfl rfl ?_
   exact ⟨_, rfl, rfl, H.sel [] rfl⟩
  replace E := E_; clear E_
  have h543 : (r524.1 : Int) = 0 := bne_eq_false_iff_eq.1 hb_
  clear hb_; replace hP := ite_t h543 hP
  refine c_false E rfl ?_
  refine wp_skip ?_
  refine th_n ?_
  refine wp_seq ?_
  refine wp_seq ?_
  refine wp_region_lit ?_
  refine vr tbok 1 [] [(9, .bool r27), (10, .pointer (some ⟨g80, 0, none⟩)), (14, .int .i64 r438), (15, .bool r454), (16, .int .i64 r470), (17, .slice A500 (List.length r486) c501), (78, .pointer (some ⟨g80, 0, none⟩))] [] E (by kernel_rfl) trivial ?_
  clear E; intro a E
  obtain ⟨r544, h545, hP⟩ := bind_inv hP
  obtain ⟨Fa546, Hc547, hb548⟩ := H.call [19, 20] [(1, false), (2, false), (3, false), (4, false), (5, false), (6, false)] rfl rfl ⟨flat_plain, trivial⟩
  refine e_call E rfl rfl Try.func26 rfl rfl rfl (play_Referee_Rank_calls g80 A81 c82 A83 c84 A85 c86 A87 c88 A89 c90 A91 c92 A538 c539 aProps x101.1 x101.2.1 x101.2.2.1 (s.1, s.2) x101.2.2.2.1 x101.2.2.2.2.1 x101.2.2.2.2.2.1 x101.2.2.2.2.2.2.1 r524.2.1 r524.2.2 true (H.rcap 1 rfl) (H.rcap 2 rfl) (H.rcap 3 rfl) (H.rcap 4 rfl) (H.rcap 5 rfl) (H.rcap 6 rfl) Hc547 h545) ?_
  intro v554 w553 a hR555 E_
  obtain ⟨x_, hr_, rfl, HR557⟩ := hR555
  subst hr_
  replace E := E_ _ rfl; clear E_
  obtain ⟨H_, hc556⟩ := hb548 _ _ HR557 rfl
  replace H := H_; clear H_; try dsimp only [setn, addE, goneL] at H
  refine vr tbok 3 [] [(9, .bool r27), (10, .pointer (some ⟨g80, 0, none⟩)), (15, .bool r454), (16, .int .i64 r470), (17, .slice A500 (List.length r486) c501), (82, .bool ((r544 : Int) != r438))] [] E (by kernel_rfl) trivial ?_
  clear E; intro a E
  refine E.cases (t := 82) rfl (fun hb_ E_ => ?_) (fun hb_ E_ => ?_)
  ·
   replace E := E_; clear E_
   have h560 : ¬ ((r544 : Int) = r438) := bne_iff_ne.1 hb_
   clear hb_; replace hP := ite_f h560 hP
   refine vr tbok 18 [] [(9, .bool r27), (10, .pointer (some ⟨g80, 0, none⟩)), (17, .slice A500 (List.length r486) c501), (100, .bool true)] [] E (by kernel_rfl) trivial ?_
   clear E; intro a E
   refine wpList_nil ?_
   refine th_n ?_
   refine c_true E rfl ?_
   refine wp_seq ?_
   refine wp_region_lit ?_
   refine vr tbok 1 [] [(8, .bool false)] [] E (by kernel_rfl) trivial ?_
   clear E; intro a E
   refine wpList_nil ?_
   refine th_n ?_
   refine wp_ret ?_
   refine th_ret ?_
   obtain rfl := Option.some.inj hP
   refine ret1 E rfl rfl ?_
   exact ⟨_, rfl, rfl, H.sel [] rfl⟩
  replace E := E_; clear E_
  have h561 : (r544 : Int) = r438 := bne_eq_false_iff_eq.1 hb_
  clear hb_; replace hP := ite_t h561 hP
  refine vr tbok 1 [] [(9, .bool r27), (10, .pointer (some ⟨g80, 0, none⟩)), (15, .bool r454), (16, .int .i64 r470), (17, .slice A500 (List.length r486) c501), (82, .bool false), (83, .pointer (some ⟨g80, 0, none⟩))] [] E (by kernel_rfl) trivial ?_
  clear E; intro a E
  obtain ⟨r562, h563, hP⟩ := bind_inv hP
  obtain ⟨Fa564, Hc565, hb566⟩ := H.call [22, 21] [(1, false), (2, false), (3, false), (4, false), (5, false), (6, false)] rfl rfl ⟨flat_plain, trivial⟩
  refine e_call E rfl rfl Try.func27 rfl rfl rfl (play_Referee_Over_calls g80 A81 c82 A83 c84 A85 c86 A87 c88 A89 c90 A91 c92 A538 c539 aProps x101.1 x101.2.1 x101.2.2.1 (s.1, s.2) x101.2.2.2.1 x101.2.2.2.2.1 x101.2.2.2.2.2.1 x101.2.2.2.2.2.2.1 r524.2.1 r524.2.2 true (H.rcap 1 rfl) (H.rcap 2 rfl) (H.rcap 3 rfl) (H.rcap 4 rfl) (H.rcap 5 rfl) (H.rcap 6 rfl) Hc565 h563) ?_
  intro v572 w571 a hR573 E_
  obtain ⟨x_, hr_, rfl, HR575⟩ := hR573
  subst hr_
  replace E := E_ _ rfl; clear E_
  obtain ⟨H_, hc574⟩ := hb566 _ _ HR575 rfl
  replace H := H_; clear H_; try dsimp only [setn, addE, goneL] at H
  refine vr tbok 4 [] [(9, .bool r27), (10, .pointer (some ⟨g80, 0, none⟩)), (16, .int .i64 r470), (17, .slice A500 (List.length r486) c501), (88, .bool (!(r562 == r454)))] [] E (by kernel_rfl) trivial ?_
  clear E; intro a E
  refine E.cases (t := 88) rfl (fun hb_ E_ => ?_) (fun hb_ E_ => ?_)
  ·
   replace E := E_; clear E_
   have h578 : ¬ (r562 = r454) := (by simpa using hb_)
   clear hb_; replace hP := ite_f h578 hP
   refine vr tbok 12 [] [(9, .bool r27), (10, .pointer (some ⟨g80, 0, none⟩)), (17, .slice A500 (List.length r486) c501), (100, .bool true)] [] E (by kernel_rfl) trivial ?_
   clear E; intro a E
   refine wpList_nil ?_
   refine th_n ?_
   refine c_true E rfl ?_
   refine wp_seq ?_
   refine wp_region_lit ?_
   refine vr tbok 1 [] [(8, .bool false)] [] E (by kernel_rfl) trivial ?_
   clear E; intro a E
   refine wpList_nil ?_
   refine th_n ?_
   refine wp_ret ?_
   refine th_ret ?_
   obtain rfl := Option.some.inj hP
   refine ret1 E rfl rfl ?_
   exact ⟨_, rfl, rfl, H.sel [] rfl⟩
  replace E := E_; clear E_
  have h579 : r562 = r454 := (by simpa using hb_)
  clear hb_; replace hP := ite_t h579 hP
  refine vr tbok 1 [] [(9, .bool r27), (10, .pointer (some ⟨g80, 0, none⟩)), (16, .int .i64 r470), (17, .slice A500 (List.length r486) c501), (88, .bool false), (89, .pointer (some ⟨g80, 0, none⟩))] [] E (by kernel_rfl) trivial ?_
  clear E; intro a E
  obtain ⟨r580, h581, hP⟩ := bind_inv hP
  obtain ⟨Fa582, Hc583, hb584⟩ := H.call [24, 23] [(1, false), (2, false), (3, false), (4, false), (5, false), (6, false)] rfl rfl ⟨flat_plain, trivial⟩
  refine e_call E rfl rfl Try.func28 rfl rfl rfl (play_Referee_State_calls g80 A81 c82 A83 c84 A85 c86 A87 c88 A89 c90 A91 c92 A538 c539 aProps x101.1 x101.2.1 x101.2.2.1 (s.1, s.2) x101.2.2.2.1 x101.2.2.2.2.1 x101.2.2.2.2.2.1 x101.2.2.2.2.2.2.1 r524.2.1 r524.2.2 true (H.rcap 1 rfl) (H.rcap 2 rfl) (H.rcap 3 rfl) (H.rcap 4 rfl) (H.rcap 5 rfl) (H.rcap 6 rfl) Hc583 h581) ?_
  intro v590 w589 a hR591 E_
  obtain ⟨x_, hr_, rfl, HR593⟩ := hR591
  subst hr_
  replace E := E_ _ rfl; clear E_
  obtain ⟨H_, hc592⟩ := hb584 _ _ HR593 rfl
  replace H := H_; clear H_; try dsimp only [setn, addE, goneL] at H
  refine vr tbok 4 [] [(9, .bool r27), (10, .pointer (some ⟨g80, 0, none⟩)), (17, .slice A500 (List.length r486) c501), (94, .bool ((r580 : Int) != r470))] [] E (by kernel_rfl) trivial ?_
  clear E; intro a E
  refine E.cases (t := 94) rfl (fun hb_ E_ => ?_) (fun hb_ E_ => ?_)
  ·
   replace E := E_; clear E_
   have h596 : ¬ ((r580 : Int) = r470) := bne_iff_ne.1 hb_
   clear hb_; replace hP := ite_f h596 hP
   refine vr tbok 6 [] [(9, .bool r27), (10, .pointer (some ⟨g80, 0, none⟩)), (17, .slice A500 (List.length r486) c501), (100, .bool true)] [] E (by kernel_rfl) trivial ?_
   clear E; intro a E
   refine wpList_nil ?_
   refine th_n ?_
   refine c_true E rfl ?_
   refine wp_seq ?_
   refine wp_region_lit ?_
   refine vr tbok 1 [] [(8, .bool false)] [] E (by kernel_rfl) trivial ?_
   clear E; intro a E
   refine wpList_nil ?_
   refine th_n ?_
   refine wp_ret ?_
   refine th_ret ?_
   obtain rfl := Option.some.inj hP
   refine ret1 E rfl rfl ?_
   exact ⟨_, rfl, rfl, H.sel [] rfl⟩
  replace E := E_; clear E_
  have h597 : (r580 : Int) = r470 := bne_eq_false_iff_eq.1 hb_
  clear hb_; replace hP := ite_t h597 hP
  refine vr tbok 1 [] [(9, .bool r27), (10, .pointer (some ⟨g80, 0, none⟩)), (17, .slice A500 (List.length r486) c501), (94, .bool false), (95, .pointer (some ⟨g80, 0, none⟩))] [] E (by kernel_rfl) trivial ?_
  clear E; intro a E
  obtain ⟨r598, h599, hP⟩ := bind_inv hP
  obtain ⟨Fa600, Hc601, hb602⟩ := H.call [26, 25] [(1, false), (2, false), (3, false), (4, false), (5, false), (6, false)] rfl rfl ⟨flat_plain, trivial⟩
  refine e_call E rfl rfl Try.func30 rfl rfl rfl (play_Referee_Trace_calls g80 A81 c82 A83 c84 A85 c86 A87 c88 A89 c90 A91 c92 A538 c539 aProps x101.1 x101.2.1 x101.2.2.1 (s.1, s.2) x101.2.2.2.1 x101.2.2.2.2.1 x101.2.2.2.2.2.1 x101.2.2.2.2.2.2.1 r524.2.1 r524.2.2 true (H.rcap 1 rfl) (H.rcap 2 rfl) (H.rcap 3 rfl) (H.rcap 4 rfl) (H.rcap 5 rfl) (H.rcap 6 rfl) Hc601 h599) ?_
  intro v608 w607 a hR609 E_
  obtain ⟨x_, A612, c613, hr_, rfl, HR611⟩ := hR609
  subst hr_
  replace E := E_ _ rfl; clear E_
  obtain ⟨H_, hc610⟩ := hb602 _ _ HR611 rfl
  replace H := H_; clear H_; try dsimp only [setn, addE, goneL] at H
  refine vr tbok 1 [] [(9, .bool r27), (10, .pointer (some ⟨g80, 0, none⟩)), (17, .slice A500 (List.length r486) c501), (94, .bool false), (96, .slice A612 (List.length r598) c613), (97, .slice A500 (List.length r486) c501)] [] E (by kernel_rfl) trivial ?_
  clear E; intro a E
  obtain ⟨r617, h618, hP⟩ := bind_inv hP
  obtain ⟨Fa619, Hc620, hb621⟩ := H.call [] [(27, false), (14, false)] rfl rfl trivial
  refine e_call E rfl rfl Try.func32 rfl rfl rfl (kit_SameLetters_calls A612 c613 A500 c501 r598 r486 (H.rcap 27 rfl) (H.rcap 14 rfl) Hc620 h618) ?_
  rintro v622 w623 a ⟨rfl, HR624⟩ E_
  replace E := E_ _ rfl; clear E_
  obtain ⟨H_, hc625⟩ := hb621 _ _ HR624 rfl
  replace H := H_; clear H_; try dsimp only [setn, addE, goneL] at H
  refine vr tbok 2 [] [(9, .bool r27), (10, .pointer (some ⟨g80, 0, none⟩)), (17, .slice A500 (List.length r486) c501), (100, .bool (!r617))] [] E (by kernel_rfl) trivial ?_
  clear E; intro a E
  refine wpList_nil ?_
  refine th_n ?_
  refine E.cases (t := 100) rfl (fun hb_ E_ => ?_) (fun hb_ E_ => ?_)
  ·
   replace E := E_; clear E_
   have h626 : ¬ (r617 = true) := (ne_true_of_eq_false (not_t hb_))
   clear hb_; replace hP := ite_f h626 hP
   refine c_true E rfl ?_
   refine wp_seq ?_
   refine wp_region_lit ?_
   refine vr tbok 1 [] [(8, .bool false)] [] E (by kernel_rfl) trivial ?_
   clear E; intro a E
   refine wpList_nil ?_
   refine th_n ?_
   refine wp_ret ?_
   refine th_ret ?_
   obtain rfl := Option.some.inj hP
   refine ret1 E rfl rfl ?_
   exact ⟨_, rfl, rfl, H.sel [] rfl⟩
  replace E := E_; clear E_
  have h627 : r617 = true := (not_f hb_)
  clear hb_; replace hP := ite_t h627 hP
  refine c_false E rfl ?_
  refine wp_skip ?_
  refine th_n ?_
  refine wp_seq ?_
  refine wp_seq ?_
  refine wp_region_lit ?_
  refine vr tbok 1 [] [(9, .bool r27), (10, .pointer (some ⟨g80, 0, none⟩)), (17, .slice A500 (List.length r486) c501), (20, .int .i64 0)] [] E (by kernel_rfl) trivial ?_
  clear E; intro a E
  refine wpList_nil ?_
  refine th_n ?_
  refine wp_block ?_
  obtain ⟨x683, hL684, hK685⟩ := bind_inv hP
  clear hP
  refine loop_cut (fun i_ a w_ => (i_ = 2 ∧ ∃ (x688 : Int × (List (Int × Int))), ∃ (A680 : Option Addr) (c681 : Nat), Fr a 127 [(9, .bool r27), (10, .pointer (some ⟨g80, 0, none⟩))] ∧ Hp S Fa w0 w_ [.box g80 74 [.int .i64 aProps, .slice A81 (List.length x101.1) c82, .slice A83 (List.length x101.2.1) c84, .slice A85 (List.length x101.2.2.1) c86, .int .u8 s.1, .int .u8 s.2, .bool x101.2.2.2.1, .slice A87 (List.length x101.2.2.2.2.1) c88, .slice A89 (List.length x101.2.2.2.2.2.1) c90, .slice A91 (List.length x101.2.2.2.2.2.2.1) c92, .int .i64 x688.1, .slice A680 (List.length x688.2) c681, .bool true], .row true cBool 4 A81 c82 x101.1, .row true (cInt .i64) 3 A83 c84 x101.2.1, .row true cNode 90 A85 c86 x101.2.2.1, .row true (cInt .i64) 3 A87 c88 x101.2.2.2.2.1, .row true (cSl (cInt .u8)) 31 A89 c90 x101.2.2.2.2.2.1, .row true (cInt .u8) 27 A91 c92 x101.2.2.2.2.2.2.1, .row true cS98 99 A680 c681 x688.2] ∧ x683 = Sum.inl x688)) ?_ ?_
  ·
   refine loopV (fun m687 a w686 => ∃ (r650 : Int) (r651 : List (Int × Int)) (i654 : Int), ∃ (A652 : Option Addr) (c653 : Nat), Fr a 127 [(9, .bool r27), (10, .pointer (some ⟨g80, 0, none⟩)), (17, .slice A500 (List.length r486) c501), (20, .int .i64 i654)] ∧ Hp S Fa w0 w686 [.box g80 74 [.int .i64 aProps, .slice A81 (List.length x101.1) c82, .slice A83 (List.length x101.2.1) c84, .slice A85 (List.length x101.2.2.1) c86, .int .u8 s.1, .int .u8 s.2, .bool x101.2.2.2.1, .slice A87 (List.length x101.2.2.2.2.1) c88, .slice A89 (List.length x101.2.2.2.2.2.1) c90, .slice A91 (List.length x101.2.2.2.2.2.2.1) c92, .int .i64 r650, .slice A652 (List.length r651) c653, .bool true], .row true cBool 4 A81 c82 x101.1, .row true (cInt .i64) 3 A83 c84 x101.2.1, .row true cNode 90 A85 c86 x101.2.2.1, .row true (cInt .i64) 3 A87 c88 x101.2.2.2.2.1, .row true (cSl (cInt .u8)) 31 A89 c90 x101.2.2.2.2.2.1, .row true (cInt .u8) 27 A91 c92 x101.2.2.2.2.2.2.1, .row true cS98 99 A652 c653 r651, .row true (cInt .u8) 27 A500 c501 r486] ∧ law25_PlayBack_l25 N aProps s x101 r486 m687 r650 r651 i654 = some x683) N ?_ ?_
   ·
    exact ⟨r524.2.1, r524.2.2, 0, A538, c539, E.pick _ ⟨rfl, rfl, rfl, rfl, trivial⟩, H.sel [29, 1, 2, 3, 4, 5, 6, 28, 14] rfl, hL684⟩
   clear E H hL684; intro m687 a w686 hI_
   obtain ⟨r650, r651, i654, A652, c653, E, H, hP⟩ := hI_
   obtain ⟨m682, rfl⟩ : ∃ q_, m687 = q_ + 1 := by cases m687 with | zero => rw [law25_PlayBack_l25] at hP; cases hP | succ q_ => exact ⟨q_, rfl⟩
   rw [law25_PlayBack_l25] at hP
   refine wp_seq ?_
   refine wp_seq ?_
   refine wp_region_lit ?_
   refine vr tbok 4 [] [(9, .bool r27), (10, .pointer (some ⟨g80, 0, none⟩)), (17, .slice A500 (List.length r486) c501), (20, .int .i64 i654), (104, .bool (decide (i654 < (((List.length r486) : Nat) : Int))))] [] E (by kernel_rfl) trivial ?_
   clear E; intro a E
   refine wpList_nil ?_
   refine th_n ?_
   refine E.cases (t := 104) rfl (fun hb_ E_ => ?_) (fun hb_ E_ => ?_)
   ·
    replace E := E_; clear E_
    have h689 : i654 < (((List.length r486) : Nat) : Int) := of_decide_eq_true hb_
    clear hb_; replace hP := ite_t h689 hP
    refine c_true E rfl ?_
    refine wp_skip ?_
    refine th_n ?_
    refine wp_seq ?_
    refine wp_block ?_
    refine wp_seq ?_
    refine wp_region_lit ?_
    refine vr tbok 1 [] [(9, .bool r27), (10, .pointer (some ⟨g80, 0, none⟩)), (17, .slice A500 (List.length r486) c501), (20, .int .i64 i654), (107, .pointer (some ⟨g80, 0, none⟩))] [] E (by kernel_rfl) trivial ?_
    clear E; intro a E
    obtain ⟨r690, h691, hP⟩ := bind_inv hP
    obtain ⟨Fa692, Hc693, hb694⟩ := H.call [0, 7] [(1, false), (2, false), (3, false), (4, false), (5, false), (6, false)] rfl rfl ⟨flat_plain, trivial⟩
    refine e_call E rfl rfl Try.func31 rfl rfl rfl (play_Referee_Back_calls g80 A81 c82 A83 c84 A85 c86 A87 c88 A89 c90 A91 c92 A652 c653 aProps x101.1 x101.2.1 x101.2.2.1 (s.1, s.2) x101.2.2.2.1 x101.2.2.2.2.1 x101.2.2.2.2.2.1 x101.2.2.2.2.2.2.1 r650 r651 true (H.rcap 1 rfl) (H.rcap 2 rfl) (H.rcap 3 rfl) (H.rcap 4 rfl) (H.rcap 5 rfl) (H.rcap 6 rfl) Hc693 h691) ?_
    intro v700 w699 a hR701 E_
    obtain ⟨x_, A704, c705, hr_, rfl, HR703⟩ := hR701
    subst hr_
    replace E := E_ _ rfl; clear E_
    obtain ⟨H_, hc702⟩ := hb694 _ _ HR703 rfl
    replace H := H_; clear H_; try dsimp only [setn, addE, goneL] at H
    refine vr tbok 1 [] [(9, .bool r27), (10, .pointer (some ⟨g80, 0, none⟩)), (17, .slice A500 (List.length r486) c501), (20, .int .i64 i654), (109, .bool ((r690.1 : Int) != 0))] [] E (by kernel_rfl) trivial ?_
    clear E; intro a E
    refine wpList_nil ?_
    refine th_n ?_
    refine E.cases (t := 109) rfl (fun hb_ E_ => ?_) (fun hb_ E_ => ?_)
    ·
     replace E := E_; clear E_
     have h708 : ¬ ((r690.1 : Int) = 0) := bne_iff_ne.1 hb_
     clear hb_; replace hP := ite_f h708 hP
     refine c_true E rfl ?_
     refine wp_seq ?_
     refine wp_region_lit ?_
     refine vr tbok 1 [] [(8, .bool false)] [] E (by kernel_rfl) trivial ?_
     clear E; intro a E
     refine wpList_nil ?_
     refine th_n ?_
     refine wp_ret ?_
     refine bl_ret ?_
     refine th_ret ?_
     refine th_ret ?_
     refine .inr ⟨rfl, ?_⟩
     refine bl_ret ?_
     refine th_ret ?_
     have hx_ := Option.some.inj hP; subst hx_
     have hP : some (false) = some r := hK685
     obtain rfl := Option.some.inj hP
     refine ret1 E rfl rfl ?_
     exact ⟨_, rfl, rfl, H.sel [] rfl⟩
    replace E := E_; clear E_
    have h709 : (r690.1 : Int) = 0 := bne_eq_false_iff_eq.1 hb_
    clear hb_; replace hP := ite_t h709 hP
    refine c_false E rfl ?_
    refine wp_skip ?_
    refine bl_n ?_
    refine th_n ?_
    refine wp_region_lit ?_
    obtain ⟨g710, hP⟩ := ask_inv hP
    refine vr tbok 3 [.int .i64 (i654 + 1)] [(9, .bool r27), (10, .pointer (some ⟨g80, 0, none⟩)), (17, .slice A500 (List.length r486) c501), (20, .int .i64 (i654 + 1))] [IntKind.i64.wrap (i654 + 1) = i654 + 1] E (by kernel_rfl) (wrap_in g710) ?_
    clear E; intro a E
    refine wpList_nil ?_
    exact th_n ⟨m682, Nat.lt_succ_self _, r690.2.1, r690.2.2, i654 + 1, A704, c705, E.pick _ ⟨rfl, rfl, rfl, rfl, trivial⟩, H.sel [9, 1, 2, 3, 4, 5, 6, 10, 8] rfl, hP⟩
   replace E := E_; clear E_
   have h711 : ¬ (i654 < (((List.length r486) : Nat) : Int)) := of_decide_eq_false hb_
   clear hb_; replace hP := ite_f h711 hP
   refine c_false E rfl ?_
   refine wp_exit ?_
   refine th_exit ?_
   have hx_ := Option.some.inj hP
   refine th_exit (.inl ⟨2, rfl, ?_⟩)
   exact ⟨rfl, (r650, r651), A652, c653, E.pick _ ⟨rfl, rfl, trivial⟩, H.sel [0, 1, 2, 3, 4, 5, 6, 7] rfl, hx_.symm⟩
  clear E H hL684; intro i_ a w686 hM_
  obtain ⟨rfl, x688, A680, c681, E, H, hx_⟩ := hM_
  subst hx_; have hP := elim_l hK685
  clear hK685
  refine bl_hit ?_
  refine th_n ?_
  refine wp_seq ?_
  refine wp_region_lit ?_
  refine vr tbok 2 [] [(10, .pointer (some ⟨g80, 0, none⟩)), (111, .bool r27)] [] E (by kernel_rfl) trivial ?_
  clear E; intro a E
  refine E.cases (t := 111) rfl (fun hb_ E_ => ?_) (fun hb_ E_ => ?_)
  ·
   replace E := E_; clear E_
   have h713 : r27 = true := hb_
   clear hb_; replace hP := ite_t h713 hP
   refine vr tbok 1 [] [(10, .pointer (some ⟨g80, 0, none⟩)), (111, .bool true), (112, .pointer (some ⟨g80, 0, none⟩))] [] E (by kernel_rfl) trivial ?_
   clear E; intro a E
   obtain ⟨r714, h715, hP⟩ := bind_inv hP
   obtain ⟨Fa716, Hc717, hb718⟩ := H.call [0, 7] [(1, false), (2, false), (3, false), (4, false), (5, false), (6, false)] rfl rfl ⟨flat_plain, trivial⟩
   refine e_call E rfl rfl Try.func31 rfl rfl rfl (play_Referee_Back_calls g80 A81 c82 A83 c84 A85 c86 A87 c88 A89 c90 A91 c92 A680 c681 aProps x101.1 x101.2.1 x101.2.2.1 (s.1, s.2) x101.2.2.2.1 x101.2.2.2.2.1 x101.2.2.2.2.2.1 x101.2.2.2.2.2.2.1 x688.1 x688.2 true (H.rcap 1 rfl) (H.rcap 2 rfl) (H.rcap 3 rfl) (H.rcap 4 rfl) (H.rcap 5 rfl) (H.rcap 6 rfl) Hc717 h715) ?_
   intro v724 w723 a hR725 E_
   obtain ⟨x_, A728, c729, hr_, rfl, HR727⟩ := hR725
   subst hr_
   replace E := E_ _ rfl; clear E_
   obtain ⟨H_, hc726⟩ := hb718 _ _ HR727 rfl
   replace H := H_; clear H_; try dsimp only [setn, addE, goneL] at H
   refine vr tbok 3 [] [(10, .pointer (some ⟨g80, 0, none⟩)), (116, .bool ((r714.1 : Int) == 6))] [] E (by kernel_rfl) trivial ?_
   clear E; intro a E
   refine E.cases (t := 116) rfl (fun hb_ E_ => ?_) (fun hb_ E_ => ?_)
   ·
    replace E := E_; clear E_
    have h732 : (r714.1 : Int) = 6 := eq_of_beq hb_
    clear hb_; replace hP := ite_t h732 hP
    refine vr tbok 1 [] [(10, .pointer (some ⟨g80, 0, none⟩)), (116, .bool true), (117, .pointer (some ⟨g80, 0, none⟩))] [] E (by kernel_rfl) trivial ?_
    clear E; intro a E
    obtain ⟨r733, h734, hP⟩ := bind_inv hP
    obtain ⟨Fa735, Hc736, hb737⟩ := H.call [8, 9] [(1, false), (2, false), (3, false), (4, false), (5, false), (6, false)] rfl rfl ⟨flat_plain, trivial⟩
    refine e_call E rfl rfl Try.func28 rfl rfl rfl (play_Referee_State_calls g80 A81 c82 A83 c84 A85 c86 A87 c88 A89 c90 A91 c92 A728 c729 aProps x101.1 x101.2.1 x101.2.2.1 (s.1, s.2) x101.2.2.2.1 x101.2.2.2.2.1 x101.2.2.2.2.2.1 x101.2.2.2.2.2.2.1 r714.2.1 r714.2.2 true (H.rcap 1 rfl) (H.rcap 2 rfl) (H.rcap 3 rfl) (H.rcap 4 rfl) (H.rcap 5 rfl) (H.rcap 6 rfl) Hc736 h734) ?_
    intro v743 w742 a hR744 E_
    obtain ⟨x_, hr_, rfl, HR746⟩ := hR744
    subst hr_
    replace E := E_ _ rfl; clear E_
    obtain ⟨H_, hc745⟩ := hb737 _ _ HR746 rfl
    replace H := H_; clear H_; try dsimp only [setn, addE, goneL] at H
    refine vr tbok 3 [] [(10, .pointer (some ⟨g80, 0, none⟩)), (121, .bool ((r733 : Int) == 0))] [] E (by kernel_rfl) trivial ?_
    clear E; intro a E
    refine E.cases (t := 121) rfl (fun hb_ E_ => ?_) (fun hb_ E_ => ?_)
    ·
     replace E := E_; clear E_
     have h749 : (r733 : Int) = 0 := eq_of_beq hb_
     clear hb_; replace hP := ite_t h749 hP
     refine vr tbok 1 [] [(121, .bool true), (122, .pointer (some ⟨g80, 0, none⟩))] [] E (by kernel_rfl) trivial ?_
     clear E; intro a E
     obtain ⟨r750, h751, hP⟩ := bind_inv hP
     obtain ⟨Fa752, Hc753, hb754⟩ := H.call [11, 10] [(1, false), (2, false), (3, false), (4, false), (5, false), (6, false)] rfl rfl ⟨flat_plain, trivial⟩
     refine e_call E rfl rfl Try.func30 rfl rfl rfl (play_Referee_Trace_calls g80 A81 c82 A83 c84 A85 c86 A87 c88 A89 c90 A91 c92 A728 c729 aProps x101.1 x101.2.1 x101.2.2.1 (s.1, s.2) x101.2.2.2.1 x101.2.2.2.2.1 x101.2.2.2.2.2.1 x101.2.2.2.2.2.2.1 r714.2.1 r714.2.2 true (H.rcap 1 rfl) (H.rcap 2 rfl) (H.rcap 3 rfl) (H.rcap 4 rfl) (H.rcap 5 rfl) (H.rcap 6 rfl) Hc753 h751) ?_
     intro v760 w759 a hR761 E_
     obtain ⟨x_, A764, c765, hr_, rfl, HR763⟩ := hR761
     subst hr_
     replace E := E_ _ rfl; clear E_
     obtain ⟨H_, hc762⟩ := hb754 _ _ HR763 rfl
     replace H := H_; clear H_; try dsimp only [setn, addE, goneL] at H
     refine vr tbok 4 [] [(8, .bool (((((List.length r750) : Nat) : Int) : Int) == 0))] [] E (by kernel_rfl) trivial ?_
     clear E; intro a E
     refine wpList_nil ?_
     refine th_n ?_
     refine wp_ret ?_
     obtain rfl := Option.some.inj hP
     refine ret1 E rfl rfl ?_
     exact ⟨_, rfl, rfl, H.sel [] rfl⟩
    replace E := E_; clear E_
    have h769 : ¬ ((r733 : Int) = 0) := ne_of_beq_false hb_
    clear hb_; replace hP := ite_f h769 hP
    refine vr tbok 6 [] [(8, .bool false)] [] E (by kernel_rfl) trivial ?_
    clear E; intro a E
    refine wpList_nil ?_
    refine th_n ?_
    refine wp_ret ?_
    obtain rfl := Option.some.inj hP
    refine ret1 E rfl rfl ?_
    exact ⟨_, rfl, rfl, H.sel [] rfl⟩
   replace E := E_; clear E_
   have h770 : ¬ ((r714.1 : Int) = 6) := ne_of_beq_false hb_
   clear hb_; replace hP := ite_f h770 hP
   refine vr tbok 11 [] [(8, .bool false)] [] E (by kernel_rfl) trivial ?_
   clear E; intro a E
   refine wpList_nil ?_
   refine th_n ?_
   refine wp_ret ?_
   obtain rfl := Option.some.inj hP
   refine ret1 E rfl rfl ?_
   exact ⟨_, rfl, rfl, H.sel [] rfl⟩
  replace E := E_; clear E_
  have h771 : ¬ (r27 = true) := (ne_true_of_eq_false hb_)
  clear hb_; replace hP := ite_f h771 hP
  refine vr tbok 16 [] [(8, .bool false)] [] E (by kernel_rfl) trivial ?_
  clear E; intro a E
  refine wpList_nil ?_
  refine th_n ?_
  refine wp_ret ?_
  obtain rfl := Option.some.inj hP
  refine ret1 E rfl rfl ?_
  exact ⟨_, rfl, rfl, H.sel [] rfl⟩
 replace E := E_; clear E_
 have h772 : ¬ ((r505.2.1 : Int) = 0) := ne_of_beq_false hb_
 clear hb_; replace hP := ite_f h772 hP
 refine vr tbok 4 [] [(9, .bool r27), (10, .pointer (some ⟨g80, 0, none⟩)), (14, .int .i64 r438), (15, .bool r454), (16, .int .i64 r470), (17, .slice A500 (List.length r486) c501), (77, .bool false)] [] E (by kernel_rfl) trivial ?_
 clear E; intro a E
 refine wpList_nil ?_
 refine th_n ?_
 refine c_false E rfl ?_
 refine wp_skip ?_
 refine th_n ?_
 refine wp_seq ?_
 refine wp_seq ?_
 refine wp_region_lit ?_
 refine vr tbok 1 [] [(9, .bool r27), (10, .pointer (some ⟨g80, 0, none⟩)), (14, .int .i64 r438), (15, .bool r454), (16, .int .i64 r470), (17, .slice A500 (List.length r486) c501), (78, .pointer (some ⟨g80, 0, none⟩))] [] E (by kernel_rfl) trivial ?_
 clear E; intro a E
 obtain ⟨r773, h774, hP⟩ := bind_inv hP
 obtain ⟨Fa775, Hc776, hb777⟩ := H.call [17, 18] [(1, false), (2, false), (3, false), (4, false), (5, false), (6, false)] rfl rfl ⟨flat_plain, trivial⟩
 refine e_call E rfl rfl Try.func26 rfl rfl rfl (play_Referee_Rank_calls g80 A81 c82 A83 c84 A85 c86 A87 c88 A89 c90 A91 c92 A519 c520 aProps x101.1 x101.2.1 x101.2.2.1 (s.1, s.2) x101.2.2.2.1 x101.2.2.2.2.1 x101.2.2.2.2.2.1 x101.2.2.2.2.2.2.1 r505.2.2.1 r505.2.2.2 true (H.rcap 1 rfl) (H.rcap 2 rfl) (H.rcap 3 rfl) (H.rcap 4 rfl) (H.rcap 5 rfl) (H.rcap 6 rfl) Hc776 h774) ?_
 intro v783 w782 a hR784 E_
 obtain ⟨x_, hr_, rfl, HR786⟩ := hR784
 subst hr_
 replace E := E_ _ rfl; clear E_
 obtain ⟨H_, hc785⟩ := hb777 _ _ HR786 rfl
 replace H := H_; clear H_; try dsimp only [setn, addE, goneL] at H
 refine vr tbok 3 [] [(9, .bool r27), (10, .pointer (some ⟨g80, 0, none⟩)), (15, .bool r454), (16, .int .i64 r470), (17, .slice A500 (List.length r486) c501), (82, .bool ((r773 : Int) != r438))] [] E (by kernel_rfl) trivial ?_
 clear E; intro a E
 refine E.cases (t := 82) rfl (fun hb_ E_ => ?_) (fun hb_ E_ => ?_)
 ·
  replace E := E_; clear E_
  have h789 : ¬ ((r773 : Int) = r438) := bne_iff_ne.1 hb_
  clear hb_; replace hP := ite_f h789 hP
  refine vr tbok 18 [] [(9, .bool r27), (10, .pointer (some ⟨g80, 0, none⟩)), (17, .slice A500 (List.length r486) c501), (100, .bool true)] [] E (by kernel_rfl) trivial ?_
  clear E; intro a E
  refine wpList_nil ?_
  refine th_n ?_
  refine c_true E rfl ?_
  refine wp_seq ?_
  refine wp_region_lit ?_
  refine vr tbok 1 [] [(8, .bool false)] [] E (by kernel_rfl) trivial ?_
  clear E; intro a E
  refine wpList_nil ?_
  refine th_n ?_
  refine wp_ret ?_
  refine th_ret ?_
  obtain rfl := Option.some.inj hP
  refine ret1 E rfl rfl ?_
  exact ⟨_, rfl, rfl, H.sel [] rfl⟩
 replace E := E_; clear E_
 have h790 : (r773 : Int) = r438 := bne_eq_false_iff_eq.1 hb_
 clear hb_; replace hP := ite_t h790 hP
 refine vr tbok 1 [] [(9, .bool r27), (10, .pointer (some ⟨g80, 0, none⟩)), (15, .bool r454), (16, .int .i64 r470), (17, .slice A500 (List.length r486) c501), (82, .bool false), (83, .pointer (some ⟨g80, 0, none⟩))] [] E (by kernel_rfl) trivial ?_
 clear E; intro a E
 obtain ⟨r791, h792, hP⟩ := bind_inv hP
 obtain ⟨Fa793, Hc794, hb795⟩ := H.call [20, 19] [(1, false), (2, false), (3, false), (4, false), (5, false), (6, false)] rfl rfl ⟨flat_plain, trivial⟩
 refine e_call E rfl rfl Try.func27 rfl rfl rfl (play_Referee_Over_calls g80 A81 c82 A83 c84 A85 c86 A87 c88 A89 c90 A91 c92 A519 c520 aProps x101.1 x101.2.1 x101.2.2.1 (s.1, s.2) x101.2.2.2.1 x101.2.2.2.2.1 x101.2.2.2.2.2.1 x101.2.2.2.2.2.2.1 r505.2.2.1 r505.2.2.2 true (H.rcap 1 rfl) (H.rcap 2 rfl) (H.rcap 3 rfl) (H.rcap 4 rfl) (H.rcap 5 rfl) (H.rcap 6 rfl) Hc794 h792) ?_
 intro v801 w800 a hR802 E_
 obtain ⟨x_, hr_, rfl, HR804⟩ := hR802
 subst hr_
 replace E := E_ _ rfl; clear E_
 obtain ⟨H_, hc803⟩ := hb795 _ _ HR804 rfl
 replace H := H_; clear H_; try dsimp only [setn, addE, goneL] at H
 refine vr tbok 4 [] [(9, .bool r27), (10, .pointer (some ⟨g80, 0, none⟩)), (16, .int .i64 r470), (17, .slice A500 (List.length r486) c501), (88, .bool (!(r791 == r454)))] [] E (by kernel_rfl) trivial ?_
 clear E; intro a E
 refine E.cases (t := 88) rfl (fun hb_ E_ => ?_) (fun hb_ E_ => ?_)
 ·
  replace E := E_; clear E_
  have h807 : ¬ (r791 = r454) := (by simpa using hb_)
  clear hb_; replace hP := ite_f h807 hP
  refine vr tbok 12 [] [(9, .bool r27), (10, .pointer (some ⟨g80, 0, none⟩)), (17, .slice A500 (List.length r486) c501), (100, .bool true)] [] E (by kernel_rfl) trivial ?_
  clear E; intro a E
  refine wpList_nil ?_
  refine th_n ?_
  refine c_true E rfl ?_
  refine wp_seq ?_
  refine wp_region_lit ?_
  refine vr tbok 1 [] [(8, .bool false)] [] E (by kernel_rfl) trivial ?_
  clear E; intro a E
  refine wpList_nil ?_
  refine th_n ?_
  refine wp_ret ?_
  refine th_ret ?_
  obtain rfl := Option.some.inj hP
  refine ret1 E rfl rfl ?_
  exact ⟨_, rfl, rfl, H.sel [] rfl⟩
 replace E := E_; clear E_
 have h808 : r791 = r454 := (by simpa using hb_)
 clear hb_; replace hP := ite_t h808 hP
 refine vr tbok 1 [] [(9, .bool r27), (10, .pointer (some ⟨g80, 0, none⟩)), (16, .int .i64 r470), (17, .slice A500 (List.length r486) c501), (88, .bool false), (89, .pointer (some ⟨g80, 0, none⟩))] [] E (by kernel_rfl) trivial ?_
 clear E; intro a E
 obtain ⟨r809, h810, hP⟩ := bind_inv hP
 obtain ⟨Fa811, Hc812, hb813⟩ := H.call [22, 21] [(1, false), (2, false), (3, false), (4, false), (5, false), (6, false)] rfl rfl ⟨flat_plain, trivial⟩
 refine e_call E rfl rfl Try.func28 rfl rfl rfl (play_Referee_State_calls g80 A81 c82 A83 c84 A85 c86 A87 c88 A89 c90 A91 c92 A519 c520 aProps x101.1 x101.2.1 x101.2.2.1 (s.1, s.2) x101.2.2.2.1 x101.2.2.2.2.1 x101.2.2.2.2.2.1 x101.2.2.2.2.2.2.1 r505.2.2.1 r505.2.2.2 true (H.rcap 1 rfl) (H.rcap 2 rfl) (H.rcap 3 rfl) (H.rcap 4 rfl) (H.rcap 5 rfl) (H.rcap 6 rfl) Hc812 h810) ?_
 intro v819 w818 a hR820 E_
 obtain ⟨x_, hr_, rfl, HR822⟩ := hR820
 subst hr_
 replace E := E_ _ rfl; clear E_
 obtain ⟨H_, hc821⟩ := hb813 _ _ HR822 rfl
 replace H := H_; clear H_; try dsimp only [setn, addE, goneL] at H
 refine vr tbok 4 [] [(9, .bool r27), (10, .pointer (some ⟨g80, 0, none⟩)), (17, .slice A500 (List.length r486) c501), (94, .bool ((r809 : Int) != r470))] [] E (by kernel_rfl) trivial ?_
 clear E; intro a E
 refine E.cases (t := 94) rfl (fun hb_ E_ => ?_) (fun hb_ E_ => ?_)
 ·
  replace E := E_; clear E_
  have h825 : ¬ ((r809 : Int) = r470) := bne_iff_ne.1 hb_
  clear hb_; replace hP := ite_f h825 hP
  refine vr tbok 6 [] [(9, .bool r27), (10, .pointer (some ⟨g80, 0, none⟩)), (17, .slice A500 (List.length r486) c501), (100, .bool true)] [] E (by kernel_rfl) trivial ?_
  clear E; intro a E
  refine wpList_nil ?_
  refine th_n ?_
  refine c_true E rfl ?_
  refine wp_seq ?_
  refine wp_region_lit ?_
  refine vr tbok 1 [] [(8, .bool false)] [] E (by kernel_rfl) trivial ?_
  clear E; intro a E
  refine wpList_nil ?_
  refine th_n ?_
  refine wp_ret ?_
  refine th_ret ?_
  obtain rfl := Option.some.inj hP
  refine ret1 E rfl rfl ?_
  exact ⟨_, rfl, rfl, H.sel [] rfl⟩
 replace E := E_; clear E_
 have h826 : (r809 : Int) = r470 := bne_eq_false_iff_eq.1 hb_
 clear hb_; replace hP := ite_t h826 hP
 refine vr tbok 1 [] [(9, .bool r27), (10, .pointer (some ⟨g80, 0, none⟩)), (17, .slice A500 (List.length r486) c501), (94, .bool false), (95, .pointer (some ⟨g80, 0, none⟩))] [] E (by kernel_rfl) trivial ?_
 clear E; intro a E
 obtain ⟨r827, h828, hP⟩ := bind_inv hP
 obtain ⟨Fa829, Hc830, hb831⟩ := H.call [24, 23] [(1, false), (2, false), (3, false), (4, false), (5, false), (6, false)] rfl rfl ⟨flat_plain, trivial⟩
 refine e_call E rfl rfl Try.func30 rfl rfl rfl (play_Referee_Trace_calls g80 A81 c82 A83 c84 A85 c86 A87 c88 A89 c90 A91 c92 A519 c520 aProps x101.1 x101.2.1 x101.2.2.1 (s.1, s.2) x101.2.2.2.1 x101.2.2.2.2.1 x101.2.2.2.2.2.1 x101.2.2.2.2.2.2.1 r505.2.2.1 r505.2.2.2 true (H.rcap 1 rfl) (H.rcap 2 rfl) (H.rcap 3 rfl) (H.rcap 4 rfl) (H.rcap 5 rfl) (H.rcap 6 rfl) Hc830 h828) ?_
 intro v837 w836 a hR838 E_
 obtain ⟨x_, A841, c842, hr_, rfl, HR840⟩ := hR838
 subst hr_
 replace E := E_ _ rfl; clear E_
 obtain ⟨H_, hc839⟩ := hb831 _ _ HR840 rfl
 replace H := H_; clear H_; try dsimp only [setn, addE, goneL] at H
 refine vr tbok 1 [] [(9, .bool r27), (10, .pointer (some ⟨g80, 0, none⟩)), (17, .slice A500 (List.length r486) c501), (94, .bool false), (96, .slice A841 (List.length r827) c842), (97, .slice A500 (List.length r486) c501)] [] E (by kernel_rfl) trivial ?_
 clear E; intro a E
 obtain ⟨r846, h847, hP⟩ := bind_inv hP
 obtain ⟨Fa848, Hc849, hb850⟩ := H.call [] [(25, false), (14, false)] rfl rfl trivial
 refine e_call E rfl rfl Try.func32 rfl rfl rfl (kit_SameLetters_calls A841 c842 A500 c501 r827 r486 (H.rcap 25 rfl) (H.rcap 14 rfl) Hc849 h847) ?_
 rintro v851 w852 a ⟨rfl, HR853⟩ E_
 replace E := E_ _ rfl; clear E_
 obtain ⟨H_, hc854⟩ := hb850 _ _ HR853 rfl
 replace H := H_; clear H_; try dsimp only [setn, addE, goneL] at H
 refine vr tbok 2 [] [(9, .bool r27), (10, .pointer (some ⟨g80, 0, none⟩)), (17, .slice A500 (List.length r486) c501), (100, .bool (!r846))] [] E (by kernel_rfl) trivial ?_
 clear E; intro a E
 refine wpList_nil ?_
 refine th_n ?_
 refine E.cases (t := 100) rfl (fun hb_ E_ => ?_) (fun hb_ E_ => ?_)
 ·
  replace E := E_; clear E_
  have h855 : ¬ (r846 = true) := (ne_true_of_eq_false (not_t hb_))
  clear hb_; replace hP := ite_f h855 hP
  refine c_true E rfl ?_
  refine wp_seq ?_
  refine wp_region_lit ?_
  refine vr tbok 1 [] [(8, .bool false)] [] E (by kernel_rfl) trivial ?_
  clear E; intro a E
  refine wpList_nil ?_
  refine th_n ?_
  refine wp_ret ?_
  refine th_ret ?_
  obtain rfl := Option.some.inj hP
  refine ret1 E rfl rfl ?_
  exact ⟨_, rfl, rfl, H.sel [] rfl⟩
 replace E := E_; clear E_
 have h856 : r846 = true := (not_f hb_)
 clear hb_; replace hP := ite_t h856 hP
 refine c_false E rfl ?_
 refine wp_skip ?_
 refine th_n ?_
 refine wp_seq ?_
 refine wp_seq ?_
 refine wp_region_lit ?_
 refine vr tbok 1 [] [(9, .bool r27), (10, .pointer (some ⟨g80, 0, none⟩)), (17, .slice A500 (List.length r486) c501), (20, .int .i64 0)] [] E (by kernel_rfl) trivial ?_
 clear E; intro a E
 refine wpList_nil ?_
 refine th_n ?_
 refine wp_block ?_
 obtain ⟨x912, hL913, hK914⟩ := bind_inv hP
 clear hP
 refine loop_cut (fun i_ a w_ => (i_ = 2 ∧ ∃ (x917 : Int × (List (Int × Int))), ∃ (A909 : Option Addr) (c910 : Nat), Fr a 127 [(9, .bool r27), (10, .pointer (some ⟨g80, 0, none⟩))] ∧ Hp S Fa w0 w_ [.box g80 74 [.int .i64 aProps, .slice A81 (List.length x101.1) c82, .slice A83 (List.length x101.2.1) c84, .slice A85 (List.length x101.2.2.1) c86, .int .u8 s.1, .int .u8 s.2, .bool x101.2.2.2.1, .slice A87 (List.length x101.2.2.2.2.1) c88, .slice A89 (List.length x101.2.2.2.2.2.1) c90, .slice A91 (List.length x101.2.2.2.2.2.2.1) c92, .int .i64 x917.1, .slice A909 (List.length x917.2) c910, .bool true], .row true cBool 4 A81 c82 x101.1, .row true (cInt .i64) 3 A83 c84 x101.2.1, .row true cNode 90 A85 c86 x101.2.2.1, .row true (cInt .i64) 3 A87 c88 x101.2.2.2.2.1, .row true (cSl (cInt .u8)) 31 A89 c90 x101.2.2.2.2.2.1, .row true (cInt .u8) 27 A91 c92 x101.2.2.2.2.2.2.1, .row true cS98 99 A909 c910 x917.2] ∧ x912 = Sum.inl x917)) ?_ ?_
 ·
  refine loopV (fun m916 a w915 => ∃ (r879 : Int) (r880 : List (Int × Int)) (i883 : Int), ∃ (A881 : Option Addr) (c882 : Nat), Fr a 127 [(9, .bool r27), (10, .pointer (some ⟨g80, 0, none⟩)), (17, .slice A500 (List.length r486) c501), (20, .int .i64 i883)] ∧ Hp S Fa w0 w915 [.box g80 74 [.int .i64 aProps, .slice A81 (List.length x101.1) c82, .slice A83 (List.length x101.2.1) c84, .slice A85 (List.length x101.2.2.1) c86, .int .u8 s.1, .int .u8 s.2, .bool x101.2.2.2.1, .slice A87 (List.length x101.2.2.2.2.1) c88, .slice A89 (List.length x101.2.2.2.2.2.1) c90, .slice A91 (List.length x101.2.2.2.2.2.2.1) c92, .int .i64 r879, .slice A881 (List.length r880) c882, .bool true], .row true cBool 4 A81 c82 x101.1, .row true (cInt .i64) 3 A83 c84 x101.2.1, .row true cNode 90 A85 c86 x101.2.2.1, .row true (cInt .i64) 3 A87 c88 x101.2.2.2.2.1, .row true (cSl (cInt .u8)) 31 A89 c90 x101.2.2.2.2.2.1, .row true (cInt .u8) 27 A91 c92 x101.2.2.2.2.2.2.1, .row true cS98 99 A881 c882 r880, .row true (cInt .u8) 27 A500 c501 r486] ∧ law25_PlayBack_l26 N aProps s x101 r486 m916 r879 r880 i883 = some x912) N ?_ ?_
  ·
   exact ⟨r505.2.2.1, r505.2.2.2, 0, A519, c520, E.pick _ ⟨rfl, rfl, rfl, rfl, trivial⟩, H.sel [27, 1, 2, 3, 4, 5, 6, 26, 14] rfl, hL913⟩
  clear E H hL913; intro m916 a w915 hI_
  obtain ⟨r879, r880, i883, A881, c882, E, H, hP⟩ := hI_
  obtain ⟨m911, rfl⟩ : ∃ q_, m916 = q_ + 1 := by cases m916 with | zero => rw [law25_PlayBack_l26] at hP; cases hP | succ q_ => exact ⟨q_, rfl⟩
  rw [law25_PlayBack_l26] at hP
  refine wp_seq ?_
  refine wp_seq ?_
  refine wp_region_lit ?_
  refine vr tbok 4 [] [(9, .bool r27), (10, .pointer (some ⟨g80, 0, none⟩)), (17, .slice A500 (List.length r486) c501), (20, .int .i64 i883), (104, .bool (decide (i883 < (((List.length r486) : Nat) : Int))))] [] E (by kernel_rfl) trivial ?_
  clear E; intro a E
  refine wpList_nil ?_
  refine th_n ?_
  refine E.cases (t := 104) rfl (fun hb_ E_ => ?_) (fun hb_ E_ => ?_)
  ·
   replace E := E_; clear E_
   have h918 : i883 < (((List.length r486) : Nat) : Int) := of_decide_eq_true hb_
   clear hb_; replace hP := ite_t h918 hP
   refine c_true E rfl ?_
   refine wp_skip ?_
   refine th_n ?_
   refine wp_seq ?_
   refine wp_block ?_
   refine wp_seq ?_
   refine wp_region_lit ?_
   refine vr tbok 1 [] [(9, .bool r27), (10, .pointer (some ⟨g80, 0, none⟩)), (17, .slice A500 (List.length r486) c501), (20, .int .i64 i883), (107, .pointer (some ⟨g80, 0, none⟩))] [] E (by kernel_rfl) trivial ?_
   clear E; intro a E
   obtain ⟨r919, h920, hP⟩ := bind_inv hP
   obtain ⟨Fa921, Hc922, hb923⟩ := H.call [0, 7] [(1, false), (2, false), (3, false), (4, false), (5, false), (6, false)] rfl rfl ⟨flat_plain, trivial⟩
   refine e_call E rfl rfl Try.func31 rfl rfl rfl (play_Referee_Back_calls g80 A81 c82 A83 c84 A85 c86 A87 c88 A89 c90 A91 c92 A881 c882 aProps x101.1 x101.2.1 x101.2.2.1 (s.1, s.2) x101.2.2.2.1 x101.2.2.2.2.1 x101.2.2.2.2.2.1 x101.2.2.2.2.2.2.1 r879 r880 true (H.rcap 1 rfl) (H.rcap 2 rfl) (H.rcap 3 rfl) (H.rcap 4 rfl) (H.rcap 5 rfl) (H.rcap 6 rfl) Hc922 h920) ?_
   intro v929 w928 a hR930 E_
   obtain ⟨x_, A933, c934, hr_, rfl, HR932⟩ := hR930
   subst hr_
   replace E := E_ _ rfl; clear E_
   obtain ⟨H_, hc931⟩ := hb923 _ _ HR932 rfl
   replace H := H_; clear H_; try dsimp only [setn, addE, goneL] at H
   refine vr tbok 1 [] [(9, .bool r27), (10, .pointer (some ⟨g80, 0, none⟩)), (17, .slice A500 (List.length r486) c501), (20, .int .i64 i883), (109, .bool ((r919.1 : Int) != 0))] [] E (by kernel_rfl) trivial ?_
   clear E; intro a E
   refine wpList_nil ?_
   refine th_n ?_
   refine E.cases (t := 109) rfl (fun hb_ E_ => ?_) (fun hb_ E_ => ?_)
   ·
    replace E := E_; clear E_
    have h937 : ¬ ((r919.1 : Int) = 0) := bne_iff_ne.1 hb_
    clear hb_; replace hP := ite_f h937 hP
    refine c_true E rfl ?_
    refine wp_seq ?_
    refine wp_region_lit ?_
    refine vr tbok 1 [] [(8, .bool false)] [] E (by kernel_rfl) trivial ?_
    clear E; intro a E
    refine wpList_nil ?_
    refine th_n ?_
    refine wp_ret ?_
    refine bl_ret ?_
    refine th_ret ?_
    refine th_ret ?_
    refine .inr ⟨rfl, ?_⟩
    refine bl_ret ?_
    refine th_ret ?_
    have hx_ := Option.some.inj hP; subst hx_
    have hP : some (false) = some r := hK914
    obtain rfl := Option.some.inj hP
    refine ret1 E rfl rfl ?_
    exact ⟨_, rfl, rfl, H.sel [] rfl⟩
   replace E := E_; clear E_
   have h938 : (r919.1 : Int) = 0 := bne_eq_false_iff_eq.1 hb_
   clear hb_; replace hP := ite_t h938 hP
   refine c_false E rfl ?_
   refine wp_skip ?_
   refine bl_n ?_
   refine th_n ?_
   refine wp_region_lit ?_
   obtain ⟨g939, hP⟩ := ask_inv hP
   refine vr tbok 3 [.int .i64 (i883 + 1)] [(9, .bool r27), (10, .pointer (some ⟨g80, 0, none⟩)), (17, .slice A500 (List.length r486) c501), (20, .int .i64 (i883 + 1))] [IntKind.i64.wrap (i883 + 1) = i883 + 1] E (by kernel_rfl) (wrap_in g939) ?_
   clear E; intro a E
   refine wpList_nil ?_
   exact th_n ⟨m911, Nat.lt_succ_self _, r919.2.1, r919.2.2, i883 + 1, A933, c934, E.pick _ ⟨rfl, rfl, rfl, rfl, trivial⟩, H.sel [9, 1, 2, 3, 4, 5, 6, 10, 8] rfl, hP⟩
  replace E := E_; clear E_
  have h940 : ¬ (i883 < (((List.length r486) : Nat) : Int)) := of_decide_eq_false hb_
  clear hb_; replace hP := ite_f h940 hP
  refine c_false E rfl ?_
  refine wp_exit ?_
  refine th_exit ?_
  have hx_ := Option.some.inj hP
  refine th_exit (.inl ⟨2, rfl, ?_⟩)
  exact ⟨rfl, (r879, r880), A881, c882, E.pick _ ⟨rfl, rfl, trivial⟩, H.sel [0, 1, 2, 3, 4, 5, 6, 7] rfl, hx_.symm⟩
 clear E H hL913; intro i_ a w915 hM_
 obtain ⟨rfl, x917, A909, c910, E, H, hx_⟩ := hM_
 subst hx_; have hP := elim_l hK914
 clear hK914
 refine bl_hit ?_
 refine th_n ?_
 refine wp_seq ?_
 refine wp_region_lit ?_
 refine vr tbok 2 [] [(10, .pointer (some ⟨g80, 0, none⟩)), (111, .bool r27)] [] E (by kernel_rfl) trivial ?_
 clear E; intro a E
 refine E.cases (t := 111) rfl (fun hb_ E_ => ?_) (fun hb_ E_ => ?_)
 ·
  replace E := E_; clear E_
  have h942 : r27 = true := hb_
  clear hb_; replace hP := ite_t h942 hP
  refine vr tbok 1 [] [(10, .pointer (some ⟨g80, 0, none⟩)), (111, .bool true), (112, .pointer (some ⟨g80, 0, none⟩))] [] E (by kernel_rfl) trivial ?_
  clear E; intro a E
  obtain ⟨r943, h944, hP⟩ := bind_inv hP
  obtain ⟨Fa945, Hc946, hb947⟩ := H.call [0, 7] [(1, false), (2, false), (3, false), (4, false), (5, false), (6, false)] rfl rfl ⟨flat_plain, trivial⟩
  refine e_call E rfl rfl Try.func31 rfl rfl rfl (play_Referee_Back_calls g80 A81 c82 A83 c84 A85 c86 A87 c88 A89 c90 A91 c92 A909 c910 aProps x101.1 x101.2.1 x101.2.2.1 (s.1, s.2) x101.2.2.2.1 x101.2.2.2.2.1 x101.2.2.2.2.2.1 x101.2.2.2.2.2.2.1 x917.1 x917.2 true (H.rcap 1 rfl) (H.rcap 2 rfl) (H.rcap 3 rfl) (H.rcap 4 rfl) (H.rcap 5 rfl) (H.rcap 6 rfl) Hc946 h944) ?_
  intro v953 w952 a hR954 E_
  obtain ⟨x_, A957, c958, hr_, rfl, HR956⟩ := hR954
  subst hr_
  replace E := E_ _ rfl; clear E_
  obtain ⟨H_, hc955⟩ := hb947 _ _ HR956 rfl
  replace H := H_; clear H_; try dsimp only [setn, addE, goneL] at H
  refine vr tbok 3 [] [(10, .pointer (some ⟨g80, 0, none⟩)), (116, .bool ((r943.1 : Int) == 6))] [] E (by kernel_rfl) trivial ?_
  clear E; intro a E
  refine E.cases (t := 116) rfl (fun hb_ E_ => ?_) (fun hb_ E_ => ?_)
  ·
   replace E := E_; clear E_
   have h961 : (r943.1 : Int) = 6 := eq_of_beq hb_
   clear hb_; replace hP := ite_t h961 hP
   refine vr tbok 1 [] [(10, .pointer (some ⟨g80, 0, none⟩)), (116, .bool true), (117, .pointer (some ⟨g80, 0, none⟩))] [] E (by kernel_rfl) trivial ?_
   clear E; intro a E
   obtain ⟨r962, h963, hP⟩ := bind_inv hP
   obtain ⟨Fa964, Hc965, hb966⟩ := H.call [8, 9] [(1, false), (2, false), (3, false), (4, false), (5, false), (6, false)] rfl rfl ⟨flat_plain, trivial⟩
   refine e_call E rfl rfl Try.func28 rfl rfl rfl (play_Referee_State_calls g80 A81 c82 A83 c84 A85 c86 A87 c88 A89 c90 A91 c92 A957 c958 aProps x101.1 x101.2.1 x101.2.2.1 (s.1, s.2) x101.2.2.2.1 x101.2.2.2.2.1 x101.2.2.2.2.2.1 x101.2.2.2.2.2.2.1 r943.2.1 r943.2.2 true (H.rcap 1 rfl) (H.rcap 2 rfl) (H.rcap 3 rfl) (H.rcap 4 rfl) (H.rcap 5 rfl) (H.rcap 6 rfl) Hc965 h963) ?_
   intro v972 w971 a hR973 E_
   obtain ⟨x_, hr_, rfl, HR975⟩ := hR973
   subst hr_
   replace E := E_ _ rfl; clear E_
   obtain ⟨H_, hc974⟩ := hb966 _ _ HR975 rfl
   replace H := H_; clear H_; try dsimp only [setn, addE, goneL] at H
   refine vr tbok 3 [] [(10, .pointer (some ⟨g80, 0, none⟩)), (121, .bool ((r962 : Int) == 0))] [] E (by kernel_rfl) trivial ?_
   clear E; intro a E
   refine E.cases (t := 121) rfl (fun hb_ E_ => ?_) (fun hb_ E_ => ?_)
   ·
    replace E := E_; clear E_
    have h978 : (r962 : Int) = 0 := eq_of_beq hb_
    clear hb_; replace hP := ite_t h978 hP
    refine vr tbok 1 [] [(121, .bool true), (122, .pointer (some ⟨g80, 0, none⟩))] [] E (by kernel_rfl) trivial ?_
    clear E; intro a E
    obtain ⟨r979, h980, hP⟩ := bind_inv hP
    obtain ⟨Fa981, Hc982, hb983⟩ := H.call [11, 10] [(1, false), (2, false), (3, false), (4, false), (5, false), (6, false)] rfl rfl ⟨flat_plain, trivial⟩
    refine e_call E rfl rfl Try.func30 rfl rfl rfl (play_Referee_Trace_calls g80 A81 c82 A83 c84 A85 c86 A87 c88 A89 c90 A91 c92 A957 c958 aProps x101.1 x101.2.1 x101.2.2.1 (s.1, s.2) x101.2.2.2.1 x101.2.2.2.2.1 x101.2.2.2.2.2.1 x101.2.2.2.2.2.2.1 r943.2.1 r943.2.2 true (H.rcap 1 rfl) (H.rcap 2 rfl) (H.rcap 3 rfl) (H.rcap 4 rfl) (H.rcap 5 rfl) (H.rcap 6 rfl) Hc982 h980) ?_
    intro v989 w988 a hR990 E_
    obtain ⟨x_, A993, c994, hr_, rfl, HR992⟩ := hR990
    subst hr_
    replace E := E_ _ rfl; clear E_
    obtain ⟨H_, hc991⟩ := hb983 _ _ HR992 rfl
    replace H := H_; clear H_; try dsimp only [setn, addE, goneL] at H
    refine vr tbok 4 [] [(8, .bool (((((List.length r979) : Nat) : Int) : Int) == 0))] [] E (by kernel_rfl) trivial ?_
    clear E; intro a E
    refine wpList_nil ?_
    refine th_n ?_
    refine wp_ret ?_
    obtain rfl := Option.some.inj hP
    refine ret1 E rfl rfl ?_
    exact ⟨_, rfl, rfl, H.sel [] rfl⟩
   replace E := E_; clear E_
   have h998 : ¬ ((r962 : Int) = 0) := ne_of_beq_false hb_
   clear hb_; replace hP := ite_f h998 hP
   refine vr tbok 6 [] [(8, .bool false)] [] E (by kernel_rfl) trivial ?_
   clear E; intro a E
   refine wpList_nil ?_
   refine th_n ?_
   refine wp_ret ?_
   obtain rfl := Option.some.inj hP
   refine ret1 E rfl rfl ?_
   exact ⟨_, rfl, rfl, H.sel [] rfl⟩
  replace E := E_; clear E_
  have h999 : ¬ ((r943.1 : Int) = 6) := ne_of_beq_false hb_
  clear hb_; replace hP := ite_f h999 hP
  refine vr tbok 11 [] [(8, .bool false)] [] E (by kernel_rfl) trivial ?_
  clear E; intro a E
  refine wpList_nil ?_
  refine th_n ?_
  refine wp_ret ?_
  obtain rfl := Option.some.inj hP
  refine ret1 E rfl rfl ?_
  exact ⟨_, rfl, rfl, H.sel [] rfl⟩
 replace E := E_; clear E_
 have h1000 : ¬ (r27 = true) := (ne_true_of_eq_false hb_)
 clear hb_; replace hP := ite_f h1000 hP
 refine vr tbok 16 [] [(8, .bool false)] [] E (by kernel_rfl) trivial ?_
 clear E; intro a E
 refine wpList_nil ?_
 refine th_n ?_
 refine wp_ret ?_
 obtain rfl := Option.some.inj hP
 refine ret1 E rfl rfl ?_
 exact ⟨_, rfl, rfl, H.sel [] rfl⟩

end Go.V
