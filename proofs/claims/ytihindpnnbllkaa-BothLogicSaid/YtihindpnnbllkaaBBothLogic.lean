/- Plain functions, and the calls that give them. -/
import Derived.Test.YtihindpnnbllkaaA11
set_option linter.all false
set_option linter.unusedVariables false
set_option linter.unnecessarySimpa false
set_option linter.unusedSimpArgs false
set_option maxRecDepth 100000
set_option maxHeartbeats 4000000
namespace Go.V
open Go Go.Proofs
/-! rejoinder/rejoinderlaw20.BothLogic -/
def law20_BothLogic_j0 (N : Nat) (aProps : Int) (aAccept : List Bool) (aGuard : List Int) (aNodes : List Nd) (bProps : Int) (bAccept : List Bool) (bGuard : List Int) (bNodes : List Nd) : Option Bool :=
    Option.bind (law20_Small N aProps aAccept aGuard aNodes) fun r74 =>
    if r74 = true then
      Option.bind (law20_Small N bProps bAccept bGuard bNodes) fun r85 =>
      some (!r85)
    else
      some true
def law20_BothLogic_j1 (N : Nat) (r96 : (Int × (List Bool) × (List Int) × (List Nd)) × Int) (r121 : (Int × (List Bool) × (List Int) × (List Nd)) × Int) (r146 : (Int × (List Bool) × (List Int) × (List Nd)) × Int) (r171 : (Int × (List Bool) × (List Int) × (List Nd)) × Int) (r196 : (Int × (List Bool) × (List Int) × (List Nd)) × Int) : Option Bool :=
    if (r96.2 : Int) = 0 then
      if (r121.2 : Int) = 0 then
        if (r146.2 : Int) = 0 then
          if (r171.2 : Int) = 0 then
            some ((r196.2 : Int) != 0)
          else
            some true
        else
          some true
      else
        some true
    else
      some true
def law20_BothLogic_j3 (N : Nat) (t : List Int) (k287 : Int) : Option Bool :=
    if k287 < (t.length : Int) then
      some (decide (k287 < 1024))
    else
      some false
def law20_BothLogic_l2 (N : Nat) (aProps : Int) (t : List Int) : Nat → (List Int) → Int → Option (List Int)
  | 0, _, _ => none
  | m330 + 1, few284, k287 =>
    Option.bind (law20_BothLogic_j3 N t k287) fun x341 =>
    if x341 = true then
      ask (idx k287 t.length) <|
      ask (0 ≤ aProps) <|
      ask (List.length few284 + List.length ([andV .u8 (List.getD t k287.toNat 0) (IntKind.u8.wrap ((shlV .u8 1 aProps) - 1))] : List Int) ≤ 1000000000) <|
      ask (in64 (k287 + 1)) <|
      law20_BothLogic_l2 N aProps t m330 (few284 ++ ([andV .u8 (List.getD t k287.toNat 0) (IntKind.u8.wrap ((shlV .u8 1 aProps) - 1))] : List Int)) (k287 + 1)
    else
      some few284
def law20_BothLogic_j4 (N : Nat) (r96 : (Int × (List Bool) × (List Int) × (List Nd)) × Int) (r146 : (Int × (List Bool) × (List Int) × (List Nd)) × Int) (r171 : (Int × (List Bool) × (List Int) × (List Nd)) × Int) (r196 : (Int × (List Bool) × (List Int) × (List Nd)) × Int) (x331 : List Int) (r382 : Bool) (r391 : Bool) : Option Bool :=
    Option.bind (law20_accepts N r96.1.1 r96.1.2.1 r96.1.2.2.1 r96.1.2.2.2 x331) fun r789 =>
    if 0 < (x331.length : Int) then
      if r789 = (!r382) then
        Option.bind (law20_accepts N r146.1.1 r146.1.2.1 r146.1.2.2.1 r146.1.2.2.2 x331) fun r801 =>
        if 0 < (x331.length : Int) then
          if r382 = true then
            if r801 = r391 then
              Option.bind (law20_accepts N r171.1.1 r171.1.2.1 r171.1.2.2.1 r171.1.2.2.2 x331) fun r814 =>
              if 0 < (x331.length : Int) then
                if r382 = true then
                  if r814 = true then
                    Option.bind (law20_accepts N r196.1.1 r196.1.2.1 r196.1.2.2.1 r196.1.2.2.2 x331) fun r827 =>
                    if 0 < (x331.length : Int) then
                      some (!(r827 == (!(r382 == r391))))
                    else
                      some (!(r827 == false))
                  else
                    some true
                else
                  if r814 = r391 then
                    Option.bind (law20_accepts N r196.1.1 r196.1.2.1 r196.1.2.2.1 r196.1.2.2.2 x331) fun r841 =>
                    if 0 < (x331.length : Int) then
                      some (!(r841 == (!(r382 == r391))))
                    else
                      some (!(r841 == false))
                  else
                    some true
              else
                if r814 = false then
                  Option.bind (law20_accepts N r196.1.1 r196.1.2.1 r196.1.2.2.1 r196.1.2.2.2 x331) fun r855 =>
                  if 0 < (x331.length : Int) then
                    some (!(r855 == (!(r382 == r391))))
                  else
                    some (!(r855 == false))
                else
                  some true
            else
              some true
          else
            if r801 = false then
              Option.bind (law20_accepts N r171.1.1 r171.1.2.1 r171.1.2.2.1 r171.1.2.2.2 x331) fun r869 =>
              if 0 < (x331.length : Int) then
                if r382 = true then
                  if r869 = true then
                    Option.bind (law20_accepts N r196.1.1 r196.1.2.1 r196.1.2.2.1 r196.1.2.2.2 x331) fun r882 =>
                    if 0 < (x331.length : Int) then
                      some (!(r882 == (!(r382 == r391))))
                    else
                      some (!(r882 == false))
                  else
                    some true
                else
                  if r869 = r391 then
                    Option.bind (law20_accepts N r196.1.1 r196.1.2.1 r196.1.2.2.1 r196.1.2.2.2 x331) fun r896 =>
                    if 0 < (x331.length : Int) then
                      some (!(r896 == (!(r382 == r391))))
                    else
                      some (!(r896 == false))
                  else
                    some true
              else
                if r869 = false then
                  Option.bind (law20_accepts N r196.1.1 r196.1.2.1 r196.1.2.2.1 r196.1.2.2.2 x331) fun r910 =>
                  if 0 < (x331.length : Int) then
                    some (!(r910 == (!(r382 == r391))))
                  else
                    some (!(r910 == false))
                else
                  some true
            else
              some true
        else
          if r801 = false then
            Option.bind (law20_accepts N r171.1.1 r171.1.2.1 r171.1.2.2.1 r171.1.2.2.2 x331) fun r924 =>
            if 0 < (x331.length : Int) then
              if r382 = true then
                if r924 = true then
                  Option.bind (law20_accepts N r196.1.1 r196.1.2.1 r196.1.2.2.1 r196.1.2.2.2 x331) fun r937 =>
                  if 0 < (x331.length : Int) then
                    some (!(r937 == (!(r382 == r391))))
                  else
                    some (!(r937 == false))
                else
                  some true
              else
                if r924 = r391 then
                  Option.bind (law20_accepts N r196.1.1 r196.1.2.1 r196.1.2.2.1 r196.1.2.2.2 x331) fun r951 =>
                  if 0 < (x331.length : Int) then
                    some (!(r951 == (!(r382 == r391))))
                  else
                    some (!(r951 == false))
                else
                  some true
            else
              if r924 = false then
                Option.bind (law20_accepts N r196.1.1 r196.1.2.1 r196.1.2.2.1 r196.1.2.2.2 x331) fun r965 =>
                if 0 < (x331.length : Int) then
                  some (!(r965 == (!(r382 == r391))))
                else
                  some (!(r965 == false))
              else
                some true
          else
            some true
      else
        some true
    else
      if r789 = false then
        Option.bind (law20_accepts N r146.1.1 r146.1.2.1 r146.1.2.2.1 r146.1.2.2.2 x331) fun r979 =>
        if 0 < (x331.length : Int) then
          if r382 = true then
            if r979 = r391 then
              Option.bind (law20_accepts N r171.1.1 r171.1.2.1 r171.1.2.2.1 r171.1.2.2.2 x331) fun r992 =>
              if 0 < (x331.length : Int) then
                if r382 = true then
                  if r992 = true then
                    Option.bind (law20_accepts N r196.1.1 r196.1.2.1 r196.1.2.2.1 r196.1.2.2.2 x331) fun r1005 =>
                    if 0 < (x331.length : Int) then
                      some (!(r1005 == (!(r382 == r391))))
                    else
                      some (!(r1005 == false))
                  else
                    some true
                else
                  if r992 = r391 then
                    Option.bind (law20_accepts N r196.1.1 r196.1.2.1 r196.1.2.2.1 r196.1.2.2.2 x331) fun r1019 =>
                    if 0 < (x331.length : Int) then
                      some (!(r1019 == (!(r382 == r391))))
                    else
                      some (!(r1019 == false))
                  else
                    some true
              else
                if r992 = false then
                  Option.bind (law20_accepts N r196.1.1 r196.1.2.1 r196.1.2.2.1 r196.1.2.2.2 x331) fun r1033 =>
                  if 0 < (x331.length : Int) then
                    some (!(r1033 == (!(r382 == r391))))
                  else
                    some (!(r1033 == false))
                else
                  some true
            else
              some true
          else
            if r979 = false then
              Option.bind (law20_accepts N r171.1.1 r171.1.2.1 r171.1.2.2.1 r171.1.2.2.2 x331) fun r1047 =>
              if 0 < (x331.length : Int) then
                if r382 = true then
                  if r1047 = true then
                    Option.bind (law20_accepts N r196.1.1 r196.1.2.1 r196.1.2.2.1 r196.1.2.2.2 x331) fun r1060 =>
                    if 0 < (x331.length : Int) then
                      some (!(r1060 == (!(r382 == r391))))
                    else
                      some (!(r1060 == false))
                  else
                    some true
                else
                  if r1047 = r391 then
                    Option.bind (law20_accepts N r196.1.1 r196.1.2.1 r196.1.2.2.1 r196.1.2.2.2 x331) fun r1074 =>
                    if 0 < (x331.length : Int) then
                      some (!(r1074 == (!(r382 == r391))))
                    else
                      some (!(r1074 == false))
                  else
                    some true
              else
                if r1047 = false then
                  Option.bind (law20_accepts N r196.1.1 r196.1.2.1 r196.1.2.2.1 r196.1.2.2.2 x331) fun r1088 =>
                  if 0 < (x331.length : Int) then
                    some (!(r1088 == (!(r382 == r391))))
                  else
                    some (!(r1088 == false))
                else
                  some true
            else
              some true
        else
          if r979 = false then
            Option.bind (law20_accepts N r171.1.1 r171.1.2.1 r171.1.2.2.1 r171.1.2.2.2 x331) fun r1102 =>
            if 0 < (x331.length : Int) then
              if r382 = true then
                if r1102 = true then
                  Option.bind (law20_accepts N r196.1.1 r196.1.2.1 r196.1.2.2.1 r196.1.2.2.2 x331) fun r1115 =>
                  if 0 < (x331.length : Int) then
                    some (!(r1115 == (!(r382 == r391))))
                  else
                    some (!(r1115 == false))
                else
                  some true
              else
                if r1102 = r391 then
                  Option.bind (law20_accepts N r196.1.1 r196.1.2.1 r196.1.2.2.1 r196.1.2.2.2 x331) fun r1129 =>
                  if 0 < (x331.length : Int) then
                    some (!(r1129 == (!(r382 == r391))))
                  else
                    some (!(r1129 == false))
                else
                  some true
            else
              if r1102 = false then
                Option.bind (law20_accepts N r196.1.1 r196.1.2.1 r196.1.2.2.1 r196.1.2.2.2 x331) fun r1143 =>
                if 0 < (x331.length : Int) then
                  some (!(r1143 == (!(r382 == r391))))
                else
                  some (!(r1143 == false))
              else
                some true
          else
            some true
      else
        some true
def law20_BothLogic_j5 (N : Nat) (x331 : List Int) (r382 : Bool) (r1156 : (Int × (List Bool) × (List Int) × (List Nd)) × Int) (r1181 : (Int × (List Bool) × (List Int) × (List Nd)) × Int) (r1206 : (Int × (List Bool) × (List Int) × (List Nd)) × Int) : Option Bool :=
    if (r1156.2 : Int) = 0 then
      if (r1181.2 : Int) = 0 then
        if (r1206.2 : Int) = 0 then
          Option.bind (canon_Same N r1156.1.1 r1156.1.2.1 r1156.1.2.2.1 r1156.1.2.2.2 r1181.1.1 r1181.1.2.1 r1181.1.2.2.1 r1181.1.2.2.2) fun r1271 =>
          if r1271 = true then
            Option.bind (law20_accepts N r1206.1.1 r1206.1.2.1 r1206.1.2.2.1 r1206.1.2.2.2 x331) fun r1282 =>
            if 0 < (x331.length : Int) then
              some (!(r1282 == r382))
            else
              some (!(r1282 == false))
          else
            some true
        else
          some true
      else
        some true
    else
      some true
def law20_BothLogic_j7 (N : Nat) (r96 : (Int × (List Bool) × (List Int) × (List Nd)) × Int) (r146 : (Int × (List Bool) × (List Int) × (List Nd)) × Int) (r171 : (Int × (List Bool) × (List Int) × (List Nd)) × Int) (r196 : (Int × (List Bool) × (List Int) × (List Nd)) × Int) (x1365 : Int) (r1464 : Bool × Int) : Option Bool :=
    if (r1464.2 : Int) = 0 then
      if r1464.1 = true then
        ask (idx (0 : Int) (List.length (List.getD ([(r96.1.1, r96.1.2.1, r96.1.2.2.1, r96.1.2.2.2), (r146.1.1, r146.1.2.1, r146.1.2.2.1, r146.1.2.2.2), (r171.1.1, r171.1.2.1, r171.1.2.2.1, r171.1.2.2.2), (r196.1.1, r196.1.2.1, r196.1.2.2.1, r196.1.2.2.2)] : List (Int × (List Bool) × (List Int) × (List Nd))) x1365.toNat (0, [], [], [])).2.1)) <|
        some (List.getD ((List.getD ([(r96.1.1, r96.1.2.1, r96.1.2.2.1, r96.1.2.2.2), (r146.1.1, r146.1.2.1, r146.1.2.2.1, r146.1.2.2.2), (r171.1.1, r171.1.2.1, r171.1.2.2.1, r171.1.2.2.2), (r196.1.1, r196.1.2.1, r196.1.2.2.1, r196.1.2.2.2)] : List (Int × (List Bool) × (List Int) × (List Nd))) x1365.toNat (0, [], [], [])).2.1) (Int.toNat (0 : Int)) false)
      else
        some true
    else
      some true
def law20_BothLogic_l6 (N : Nat) (r96 : (Int × (List Bool) × (List Int) × (List Nd)) × Int) (r146 : (Int × (List Bool) × (List Int) × (List Nd)) × Int) (r171 : (Int × (List Bool) × (List Int) × (List Nd)) × Int) (r196 : (Int × (List Bool) × (List Int) × (List Nd)) × Int) : Nat → Int → Option (Unit ⊕ Bool)
  | 0, _ => none
  | m1422 + 1, x1365 =>
    if x1365 < 4 then
      ask (idx x1365 4) <|
      Option.bind (canon_Is N ((List.getD ([(r96.1.1, r96.1.2.1, r96.1.2.2.1, r96.1.2.2.2), (r146.1.1, r146.1.2.1, r146.1.2.2.1, r146.1.2.2.2), (r171.1.1, r171.1.2.1, r171.1.2.2.1, r171.1.2.2.2), (r196.1.1, r196.1.2.1, r196.1.2.2.1, r196.1.2.2.2)] : List (Int × (List Bool) × (List Int) × (List Nd))) x1365.toNat (0, [], [], [])).1) ((List.getD ([(r96.1.1, r96.1.2.1, r96.1.2.2.1, r96.1.2.2.2), (r146.1.1, r146.1.2.1, r146.1.2.2.1, r146.1.2.2.2), (r171.1.1, r171.1.2.1, r171.1.2.2.1, r171.1.2.2.2), (r196.1.1, r196.1.2.1, r196.1.2.2.1, r196.1.2.2.2)] : List (Int × (List Bool) × (List Int) × (List Nd))) x1365.toNat (0, [], [], [])).2.1) ((List.getD ([(r96.1.1, r96.1.2.1, r96.1.2.2.1, r96.1.2.2.2), (r146.1.1, r146.1.2.1, r146.1.2.2.1, r146.1.2.2.2), (r171.1.1, r171.1.2.1, r171.1.2.2.1, r171.1.2.2.2), (r196.1.1, r196.1.2.1, r196.1.2.2.1, r196.1.2.2.2)] : List (Int × (List Bool) × (List Int) × (List Nd))) x1365.toNat (0, [], [], [])).2.2.1) ((List.getD ([(r96.1.1, r96.1.2.1, r96.1.2.2.1, r96.1.2.2.2), (r146.1.1, r146.1.2.1, r146.1.2.2.1, r146.1.2.2.2), (r171.1.1, r171.1.2.1, r171.1.2.2.1, r171.1.2.2.2), (r196.1.1, r196.1.2.1, r196.1.2.2.1, r196.1.2.2.2)] : List (Int × (List Bool) × (List Int) × (List Nd))) x1365.toNat (0, [], [], [])).2.2.2)) fun r1464 =>
      Option.bind (law20_BothLogic_j7 N r96 r146 r171 r196 x1365 r1464) fun x1481 =>
      if x1481 = true then
        some (Sum.inr false)
      else
        ask (in64 (x1365 + 1)) <|
        law20_BothLogic_l6 N r96 r146 r171 r196 m1422 (x1365 + 1)
    else
      some (Sum.inl ())
def law20_BothLogic (N : Nat) (aProps : Int) (aAccept : List Bool) (aGuard : List Int) (aNodes : List Nd) (bProps : Int) (bAccept : List Bool) (bGuard : List Int) (bNodes : List Nd) (t : List Int) : Option Bool :=
  Option.bind (law20_awake N) fun r39 =>
  Option.bind (law20_BothLogic_j0 N aProps aAccept aGuard aNodes bProps bAccept bGuard bNodes) fun x69 =>
  if x69 = true then
    some r39
  else
    Option.bind (both_Not N aProps aAccept aGuard aNodes) fun r96 =>
    Option.bind (both_Not N bProps bAccept bGuard bNodes) fun r121 =>
    Option.bind (both_And N aProps aAccept aGuard aNodes bProps bAccept bGuard bNodes) fun r146 =>
    Option.bind (both_Or N aProps aAccept aGuard aNodes bProps bAccept bGuard bNodes) fun r171 =>
    Option.bind (both_Xor N aProps aAccept aGuard aNodes bProps bAccept bGuard bNodes) fun r196 =>
    Option.bind (law20_BothLogic_j1 N r96 r121 r146 r171 r196) fun x230 =>
    if x230 = true then
      some r39
    else
      Option.bind (law20_BothLogic_l2 N aProps t N [] 0) fun x331 =>
      Option.bind (law20_accepts N aProps aAccept aGuard aNodes x331) fun r382 =>
      Option.bind (law20_accepts N bProps bAccept bGuard bNodes x331) fun r391 =>
      Option.bind (law20_BothLogic_j4 N r96 r146 r171 r196 x331 r382 r391) fun x784 =>
      if x784 = true then
        some false
      else
        Option.bind (both_Not N r146.1.1 r146.1.2.1 r146.1.2.2.1 r146.1.2.2.2) fun r1156 =>
        Option.bind (both_Or N r96.1.1 r96.1.2.1 r96.1.2.2.1 r96.1.2.2.2 r121.1.1 r121.1.2.1 r121.1.2.2.1 r121.1.2.2.2) fun r1181 =>
        Option.bind (both_Not N r96.1.1 r96.1.2.1 r96.1.2.2.1 r96.1.2.2.2) fun r1206 =>
        Option.bind (law20_BothLogic_j5 N x331 r382 r1156 r1181 r1206) fun x1260 =>
        if x1260 = true then
          some false
        else
          Option.bind (law20_BothLogic_l6 N r96 r146 r171 r196 N 0) fun x1423 =>
          Sum.elim (fun x1428 =>
            some r39)
           (fun x1497 =>
            some x1497) x1423
theorem law20_BothLogic_calls {N : Nat} {S Fa : Nat → Prop} {w0 : World} {r : Bool} (A1 : Option Addr) (c2 : Nat) (A5 : Option Addr) (c6 : Nat) (A9 : Option Addr) (c10 : Nat) (A13 : Option Addr) (c14 : Nat) (A17 : Option Addr) (c18 : Nat) (A21 : Option Addr) (c22 : Nat) (A25 : Option Addr) (c26 : Nat) (aProps : Int) (aAccept : List Bool) (aGuard : List Int) (aNodes : List Nd) (bProps : Int) (bAccept : List Bool) (bGuard : List Int) (bNodes : List Nd) (t : List Int) (hk3 : List.length aAccept ≤ c2) (hk7 : List.length aGuard ≤ c6) (hk11 : List.length aNodes ≤ c10) (hk15 : List.length bAccept ≤ c14) (hk19 : List.length bGuard ≤ c18) (hk23 : List.length bNodes ≤ c22) (hk27 : List.length t ≤ c26) (H : Hp S Fa w0 w0 [.ro false cBool A1 aAccept, .ro false (cInt .i64) A5 aGuard, .ro false cNode A9 aNodes, .ro false cBool A13 bAccept, .ro false (cInt .i64) A17 bGuard, .ro false cNode A21 bNodes, .ro false (cInt .u8) A25 t]) (hP : law20_BothLogic N aProps aAccept aGuard aNodes bProps bAccept bGuard bNodes t = some r) :
    Calls Try.prog 6 #[.agg #[.int .i64 aProps, .slice A1 aAccept.length c2, .slice A5 aGuard.length c6, .slice A9 aNodes.length c10], .agg #[.int .i64 bProps, .slice A13 bAccept.length c14, .slice A17 bGuard.length c18, .slice A21 bNodes.length c22], .slice A25 t.length c26] w0 fun e w' => ∃ v, e = .returned v ∧ v = .bool r ∧ Hp S Fa w0 w' [] := by
 refine enterV (n := 239) Try.func6 rfl rfl rfl ?_
 intro a E
 replace E := E.pick [(0, .agg #[.int .i64 aProps, .slice A1 aAccept.length c2, .slice A5 aGuard.length c6, .slice A9 aNodes.length c10]), (1, .agg #[.int .i64 bProps, .slice A13 bAccept.length c14, .slice A17 bGuard.length c18, .slice A21 bNodes.length c22]), (2, .slice A25 t.length c26)] ⟨rfl, rfl, rfl, trivial⟩
 rw [law20_BothLogic] at hP
 refine sr_ <| h_box H E rfl rfl rfl ?_
 clear H E; intro w30 g29 a hc31 hg33 H E; replace E := E _ rfl; try dsimp only [setn, addE, goneL] at H
 refine h_box H E rfl rfl rfl ?_
 clear H E; intro w35 g34 a hc36 hg38 H E; replace E := E _ rfl; try dsimp only [setn, addE, goneL] at H
 refine vp 1 [] E ?_
 clear E; intro a E
 refine nn_ <| sr_ ?_
 obtain ⟨r39, h40, hP⟩ := bind_inv hP
 obtain ⟨Fa41, Hc42, hb43⟩ := H.call [] [] rfl rfl trivial
 refine e_call E rfl rfl Try.func28 rfl rfl rfl (law20_awake_calls    Hc42 h40) ?_
 rintro v44 w45 a ⟨rfl, HR46⟩ E_
 replace E := E_ _ rfl; clear E_
 obtain ⟨H_, hc47⟩ := hb43 _ _ HR46 rfl
 replace H := H_; clear H_; try dsimp only [setn, addE, goneL] at H
 refine vp 1 [(7, .bool r39)] E ?_
 clear E; intro a E
 refine nn_ <| wp_seq <| wp_seq ?_
 obtain ⟨x69, h70, hK71⟩ := bind_inv hP
 clear hP
 refine meet_cut (fun a w73 => ∃ (x72 : Bool), Fr a 239 [(2, .slice A25 t.length c26), (3, .pointer (some ⟨g29, 0, none⟩)), (4, .pointer (some ⟨g34, 0, none⟩)), (7, .bool r39), (41, .bool x72)] ∧ Hp S Fa w0 w73 [.ro false (cInt .u8) A25 t, .ro false cBool A1 aAccept, .ro false (cInt .i64) A5 aGuard, .ro false cNode A9 aNodes, .box g29 26 [.int .i64 aProps, .slice A1 aAccept.length c2, .slice A5 aGuard.length c6, .slice A9 aNodes.length c10], .ro false cBool A13 bAccept, .ro false (cInt .i64) A17 bGuard, .ro false cNode A21 bNodes, .box g34 26 [.int .i64 bProps, .slice A13 bAccept.length c14, .slice A17 bGuard.length c18, .slice A21 bNodes.length c22]] ∧ x69 = x72) ?_ ?_
 ·
  have hP := h70; clear h70; rw [law20_BothLogic_j0] at hP
  refine rl_ <| vq 1 [.agg #[.int .i64 aProps, .slice A1 aAccept.length c2, .slice A5 aGuard.length c6, .slice A9 aNodes.length c10]] [(34, .agg #[.int .i64 aProps, .slice A1 aAccept.length c2, .slice A5 aGuard.length c6, .slice A9 aNodes.length c10])] [cellsAt w45 g29 (0) [.int .i64 aProps, .slice A1 aAccept.length c2, .slice A5 aGuard.length c6, .slice A9 aNodes.length c10]] E ((H.box 7 rfl).sub 0 _ rfl) ?_
  clear E; intro a E
  obtain ⟨r74, h75, hP⟩ := bind_inv hP
  obtain ⟨Fa76, Hc77, hb78⟩ := H.call [] [(0, false), (1, false), (2, false)] rfl rfl trivial
  refine e_call E rfl rfl Try.func8 rfl rfl rfl (law20_Small_calls A1 c2 A5 c6 A9 c10 aProps aAccept aGuard aNodes hk3 hk7 hk11 Hc77 h75) ?_
  rintro v79 w80 a ⟨rfl, HR81⟩ E_
  replace E := E_ _ rfl; clear E_
  obtain ⟨H_, hc82⟩ := hb78 _ _ HR81 rfl
  replace H := H_; clear H_; try dsimp only [setn, addE, goneL] at H
  refine vp 2 [(37, .bool (!r74))] E ?_
  clear E; intro a E
  revert E; refine csE 37 rfl (fun hb_ E => ?_) fun hb_ E => ?_
  ·
   have h83 : ¬ (r74 = true) := (ne_true_of_eq_false (not_t hb_))
   replace hP := ite_f h83 hP
   refine vp 4 [(41, .bool true)] E ?_
   clear E; intro a E
   refine nl_ ?_
   have hx_ := Option.some.inj hP
   exact .inl ⟨rfl, true, E.pk, H.sel [6, 0, 1, 2, 7, 3, 4, 5, 8] rfl, hx_.symm⟩
  have h84 : r74 = true := (not_f hb_)
  replace hP := ite_t h84 hP
  refine vq 1 [.agg #[.int .i64 bProps, .slice A13 bAccept.length c14, .slice A17 bGuard.length c18, .slice A21 bNodes.length c22]] [(38, .agg #[.int .i64 bProps, .slice A13 bAccept.length c14, .slice A17 bGuard.length c18, .slice A21 bNodes.length c22])] [cellsAt w80 g34 (0) [.int .i64 bProps, .slice A13 bAccept.length c14, .slice A17 bGuard.length c18, .slice A21 bNodes.length c22]] E ((H.box 8 rfl).sub 0 _ rfl) ?_
  clear E; intro a E
  obtain ⟨r85, h86, hP⟩ := bind_inv hP
  obtain ⟨Fa87, Hc88, hb89⟩ := H.call [] [(3, false), (4, false), (5, false)] rfl rfl trivial
  refine e_call E rfl rfl Try.func8 rfl rfl rfl (law20_Small_calls A13 c14 A17 c18 A21 c22 bProps bAccept bGuard bNodes hk15 hk19 hk23 Hc88 h86) ?_
  rintro v90 w91 a ⟨rfl, HR92⟩ E_
  replace E := E_ _ rfl; clear E_
  obtain ⟨H_, hc93⟩ := hb89 _ _ HR92 rfl
  replace H := H_; clear H_; try dsimp only [setn, addE, goneL] at H
  refine vp 2 [(41, .bool (!r85))] E ?_
  clear E; intro a E
  refine nl_ ?_
  have hx_ := Option.some.inj hP
  exact .inl ⟨rfl, !r85, E.pk, H.sel [6, 0, 1, 2, 7, 3, 4, 5, 8] rfl, hx_.symm⟩
 clear E H h70; rintro a w73 ⟨x72, E, H, hx_⟩
 subst hx_; have hP := hK71; clear hK71
 refine th_n ?_
 revert E; refine csE 41 rfl (fun hb_ E => ?_) fun hb_ E => ?_
 ·
  have h94 : x69 = true := hb_
  replace hP := ite_t h94 hP
  refine c_true E rfl <| sr_ <| vp 2 [(6, .bool r39)] E ?_
  clear E; intro a E
  refine nn_ <| wp_ret <| th_ret ?_
  obtain rfl := Option.some.inj hP
  refine ret1 E rfl rfl ?_
  exact ⟨_, rfl, rfl, H.sel [] rfl⟩
 have h95 : ¬ (x69 = true) := (ne_true_of_eq_false hb_)
 replace hP := ite_f h95 hP
 refine c_false E rfl <| wp_skip <| th_n <| sr_ <| vq 1 [.agg #[.int .i64 aProps, .slice A1 aAccept.length c2, .slice A5 aGuard.length c6, .slice A9 aNodes.length c10]] [(44, .agg #[.int .i64 aProps, .slice A1 aAccept.length c2, .slice A5 aGuard.length c6, .slice A9 aNodes.length c10])] [cellsAt w73 g29 (0) [.int .i64 aProps, .slice A1 aAccept.length c2, .slice A5 aGuard.length c6, .slice A9 aNodes.length c10]] E ((H.box 4 rfl).sub 0 _ rfl) ?_
 clear E; intro a E
 obtain ⟨r96, h97, hP⟩ := bind_inv hP
 obtain ⟨Fa98, Hc99, hb100⟩ := H.call [] [(1, false), (2, false), (3, false)] rfl rfl trivial
 refine e_call E rfl rfl Try.func10 rfl rfl rfl (both_Not_calls A1 c2 A5 c6 A9 c10 aProps aAccept aGuard aNodes hk3 hk7 hk11 Hc99 h97) ?_
 rintro v101 w102 a ⟨A105, c106, A108, c109, A111, c112, rfl, HR103⟩ E_
 replace E := E_ _ rfl; clear E_
 obtain ⟨H_, hc104⟩ := hb100 _ _ HR103 rfl
 replace H := H_; clear H_; try dsimp only [setn, addE, goneL] at H
 refine vp 3 [(46, .agg #[.int .i64 r96.1.1, .slice A105 r96.1.2.1.length c106, .slice A108 r96.1.2.2.1.length c109, .slice A111 r96.1.2.2.2.length c112]), (47, .int .i64 r96.2)] E ?_
 clear E; intro a E
 refine h_alloc H E rfl rfl tbok rfl ?_
 clear H E; intro w115 g114 a hc116 hg118 H E; replace E := E _ rfl; try dsimp only [setn, addE, goneL] at H
 refine h_store (g := g114) (off := 0) H 12 rfl E rfl rfl rfl rfl tbok rfl rfl rfl rfl rfl ?_
 clear E; intro w119 a hc120 H_ E
 replace H := H_; clear H_; try dsimp only [setn, addE, goneL] at H
 refine vp 1 [(9, .int .i64 r96.2)] E ?_
 clear E; intro a E
 refine nn_ <| sr_ <| vq 1 [.agg #[.int .i64 bProps, .slice A13 bAccept.length c14, .slice A17 bGuard.length c18, .slice A21 bNodes.length c22]] [(49, .agg #[.int .i64 bProps, .slice A13 bAccept.length c14, .slice A17 bGuard.length c18, .slice A21 bNodes.length c22])] [cellsAt w119 g34 (0) [.int .i64 bProps, .slice A13 bAccept.length c14, .slice A17 bGuard.length c18, .slice A21 bNodes.length c22]] E ((H.box 8 rfl).sub 0 _ rfl) ?_
 clear E; intro a E
 obtain ⟨r121, h122, hP⟩ := bind_inv hP
 obtain ⟨Fa123, Hc124, hb125⟩ := H.call [] [(5, false), (6, false), (7, false)] rfl rfl trivial
 refine e_call E rfl rfl Try.func10 rfl rfl rfl (both_Not_calls A13 c14 A17 c18 A21 c22 bProps bAccept bGuard bNodes hk15 hk19 hk23 Hc124 h122) ?_
 rintro v126 w127 a ⟨A130, c131, A133, c134, A136, c137, rfl, HR128⟩ E_
 replace E := E_ _ rfl; clear E_
 obtain ⟨H_, hc129⟩ := hb125 _ _ HR128 rfl
 replace H := H_; clear H_; try dsimp only [setn, addE, goneL] at H
 refine vp 3 [(51, .agg #[.int .i64 r121.1.1, .slice A130 r121.1.2.1.length c131, .slice A133 r121.1.2.2.1.length c134, .slice A136 r121.1.2.2.2.length c137]), (52, .int .i64 r121.2)] E ?_
 clear E; intro a E
 refine h_alloc H E rfl rfl tbok rfl ?_
 clear H E; intro w140 g139 a hc141 hg143 H E; replace E := E _ rfl; try dsimp only [setn, addE, goneL] at H
 refine h_store (g := g139) (off := 0) H 16 rfl E rfl rfl rfl rfl tbok rfl rfl rfl rfl rfl ?_
 clear E; intro w144 a hc145 H_ E
 replace H := H_; clear H_; try dsimp only [setn, addE, goneL] at H
 refine vp 1 [(11, .int .i64 r121.2)] E ?_
 clear E; intro a E
 refine nn_ <| sr_ <| vq 2 [.agg #[.int .i64 aProps, .slice A1 aAccept.length c2, .slice A5 aGuard.length c6, .slice A9 aNodes.length c10], .agg #[.int .i64 bProps, .slice A13 bAccept.length c14, .slice A17 bGuard.length c18, .slice A21 bNodes.length c22]] [(54, .agg #[.int .i64 aProps, .slice A1 aAccept.length c2, .slice A5 aGuard.length c6, .slice A9 aNodes.length c10]), (55, .agg #[.int .i64 bProps, .slice A13 bAccept.length c14, .slice A17 bGuard.length c18, .slice A21 bNodes.length c22])] [cellsAt w144 g29 (0) [.int .i64 aProps, .slice A1 aAccept.length c2, .slice A5 aGuard.length c6, .slice A9 aNodes.length c10], cellsAt w144 g34 (0) [.int .i64 bProps, .slice A13 bAccept.length c14, .slice A17 bGuard.length c18, .slice A21 bNodes.length c22]] E ⟨(H.box 4 rfl).sub 0 _ rfl, (H.box 8 rfl).sub 0 _ rfl⟩ ?_
 clear E; intro a E
 obtain ⟨r146, h147, hP⟩ := bind_inv hP
 obtain ⟨Fa148, Hc149, hb150⟩ := H.call [] [(1, false), (2, false), (3, false), (5, false), (6, false), (7, false)] rfl rfl trivial
 refine e_call E rfl rfl Try.func11 rfl rfl rfl (both_And_calls A1 c2 A5 c6 A9 c10 A13 c14 A17 c18 A21 c22 aProps aAccept aGuard aNodes bProps bAccept bGuard bNodes hk3 hk7 hk11 hk15 hk19 hk23 Hc149 h147) ?_
 rintro v151 w152 a ⟨A155, c156, A158, c159, A161, c162, rfl, HR153⟩ E_
 replace E := E_ _ rfl; clear E_
 obtain ⟨H_, hc154⟩ := hb150 _ _ HR153 rfl
 replace H := H_; clear H_; try dsimp only [setn, addE, goneL] at H
 refine vp 3 [(57, .agg #[.int .i64 r146.1.1, .slice A155 r146.1.2.1.length c156, .slice A158 r146.1.2.2.1.length c159, .slice A161 r146.1.2.2.2.length c162]), (58, .int .i64 r146.2)] E ?_
 clear E; intro a E
 refine h_alloc H E rfl rfl tbok rfl ?_
 clear H E; intro w165 g164 a hc166 hg168 H E; replace E := E _ rfl; try dsimp only [setn, addE, goneL] at H
 refine h_store (g := g164) (off := 0) H 20 rfl E rfl rfl rfl rfl tbok rfl rfl rfl rfl rfl ?_
 clear E; intro w169 a hc170 H_ E
 replace H := H_; clear H_; try dsimp only [setn, addE, goneL] at H
 refine vp 1 [(13, .int .i64 r146.2)] E ?_
 clear E; intro a E
 refine nn_ <| sr_ <| vq 2 [.agg #[.int .i64 aProps, .slice A1 aAccept.length c2, .slice A5 aGuard.length c6, .slice A9 aNodes.length c10], .agg #[.int .i64 bProps, .slice A13 bAccept.length c14, .slice A17 bGuard.length c18, .slice A21 bNodes.length c22]] [(60, .agg #[.int .i64 aProps, .slice A1 aAccept.length c2, .slice A5 aGuard.length c6, .slice A9 aNodes.length c10]), (61, .agg #[.int .i64 bProps, .slice A13 bAccept.length c14, .slice A17 bGuard.length c18, .slice A21 bNodes.length c22])] [cellsAt w169 g29 (0) [.int .i64 aProps, .slice A1 aAccept.length c2, .slice A5 aGuard.length c6, .slice A9 aNodes.length c10], cellsAt w169 g34 (0) [.int .i64 bProps, .slice A13 bAccept.length c14, .slice A17 bGuard.length c18, .slice A21 bNodes.length c22]] E ⟨(H.box 4 rfl).sub 0 _ rfl, (H.box 8 rfl).sub 0 _ rfl⟩ ?_
 clear E; intro a E
 obtain ⟨r171, h172, hP⟩ := bind_inv hP
 obtain ⟨Fa173, Hc174, hb175⟩ := H.call [] [(1, false), (2, false), (3, false), (5, false), (6, false), (7, false)] rfl rfl trivial
 refine e_call E rfl rfl Try.func12 rfl rfl rfl (both_Or_calls A1 c2 A5 c6 A9 c10 A13 c14 A17 c18 A21 c22 aProps aAccept aGuard aNodes bProps bAccept bGuard bNodes hk3 hk7 hk11 hk15 hk19 hk23 Hc174 h172) ?_
 rintro v176 w177 a ⟨A180, c181, A183, c184, A186, c187, rfl, HR178⟩ E_
 replace E := E_ _ rfl; clear E_
 obtain ⟨H_, hc179⟩ := hb175 _ _ HR178 rfl
 replace H := H_; clear H_; try dsimp only [setn, addE, goneL] at H
 refine vp 3 [(63, .agg #[.int .i64 r171.1.1, .slice A180 r171.1.2.1.length c181, .slice A183 r171.1.2.2.1.length c184, .slice A186 r171.1.2.2.2.length c187]), (64, .int .i64 r171.2)] E ?_
 clear E; intro a E
 refine h_alloc H E rfl rfl tbok rfl ?_
 clear H E; intro w190 g189 a hc191 hg193 H E; replace E := E _ rfl; try dsimp only [setn, addE, goneL] at H
 refine h_store (g := g189) (off := 0) H 24 rfl E rfl rfl rfl rfl tbok rfl rfl rfl rfl rfl ?_
 clear E; intro w194 a hc195 H_ E
 replace H := H_; clear H_; try dsimp only [setn, addE, goneL] at H
 refine vp 1 [(15, .int .i64 r171.2)] E ?_
 clear E; intro a E
 refine nn_ <| sr_ <| vq 2 [.agg #[.int .i64 aProps, .slice A1 aAccept.length c2, .slice A5 aGuard.length c6, .slice A9 aNodes.length c10], .agg #[.int .i64 bProps, .slice A13 bAccept.length c14, .slice A17 bGuard.length c18, .slice A21 bNodes.length c22]] [(66, .agg #[.int .i64 aProps, .slice A1 aAccept.length c2, .slice A5 aGuard.length c6, .slice A9 aNodes.length c10]), (67, .agg #[.int .i64 bProps, .slice A13 bAccept.length c14, .slice A17 bGuard.length c18, .slice A21 bNodes.length c22])] [cellsAt w194 g29 (0) [.int .i64 aProps, .slice A1 aAccept.length c2, .slice A5 aGuard.length c6, .slice A9 aNodes.length c10], cellsAt w194 g34 (0) [.int .i64 bProps, .slice A13 bAccept.length c14, .slice A17 bGuard.length c18, .slice A21 bNodes.length c22]] E ⟨(H.box 4 rfl).sub 0 _ rfl, (H.box 8 rfl).sub 0 _ rfl⟩ ?_
 clear E; intro a E
 obtain ⟨r196, h197, hP⟩ := bind_inv hP
 obtain ⟨Fa198, Hc199, hb200⟩ := H.call [] [(1, false), (2, false), (3, false), (5, false), (6, false), (7, false)] rfl rfl trivial
 refine e_call E rfl rfl Try.func13 rfl rfl rfl (both_Xor_calls A1 c2 A5 c6 A9 c10 A13 c14 A17 c18 A21 c22 aProps aAccept aGuard aNodes bProps bAccept bGuard bNodes hk3 hk7 hk11 hk15 hk19 hk23 Hc199 h197) ?_
 rintro v201 w202 a ⟨A205, c206, A208, c209, A211, c212, rfl, HR203⟩ E_
 replace E := E_ _ rfl; clear E_
 obtain ⟨H_, hc204⟩ := hb200 _ _ HR203 rfl
 replace H := H_; clear H_; try dsimp only [setn, addE, goneL] at H
 refine vp 3 [(69, .agg #[.int .i64 r196.1.1, .slice A205 r196.1.2.1.length c206, .slice A208 r196.1.2.2.1.length c209, .slice A211 r196.1.2.2.2.length c212]), (70, .int .i64 r196.2)] E ?_
 clear E; intro a E
 refine h_alloc H E rfl rfl tbok rfl ?_
 clear H E; intro w215 g214 a hc216 hg218 H E; replace E := E _ rfl; try dsimp only [setn, addE, goneL] at H
 refine h_store (g := g214) (off := 0) H 28 rfl E rfl rfl rfl rfl tbok rfl rfl rfl rfl rfl ?_
 clear E; intro w219 a hc220 H_ E
 replace H := H_; clear H_; try dsimp only [setn, addE, goneL] at H
 refine vp 1 [(17, .int .i64 r196.2)] E ?_
 clear E; intro a E
 refine nn_ <| wp_seq <| wp_seq ?_
 obtain ⟨x230, h231, hK232⟩ := bind_inv hP
 clear hP
 refine meet_cut (fun a w234 => ∃ (x233 : Bool), Fr a 239 [(2, .slice A25 t.length c26), (3, .pointer (some ⟨g29, 0, none⟩)), (4, .pointer (some ⟨g34, 0, none⟩)), (7, .bool r39), (8, .pointer (some ⟨g114, 0, none⟩)), (10, .pointer (some ⟨g139, 0, none⟩)), (12, .pointer (some ⟨g164, 0, none⟩)), (14, .pointer (some ⟨g189, 0, none⟩)), (16, .pointer (some ⟨g214, 0, none⟩)), (88, .bool x233)] ∧ Hp S Fa w0 w234 [.ro false (cInt .u8) A25 t, .ro false cBool A1 aAccept, .ro false (cInt .i64) A5 aGuard, .ro false cNode A9 aNodes, .box g29 26 [.int .i64 aProps, .slice A1 aAccept.length c2, .slice A5 aGuard.length c6, .slice A9 aNodes.length c10], .ro false cBool A13 bAccept, .ro false (cInt .i64) A17 bGuard, .ro false cNode A21 bNodes, .box g34 26 [.int .i64 bProps, .slice A13 bAccept.length c14, .slice A17 bGuard.length c18, .slice A21 bNodes.length c22], .row true cBool 4 A105 c106 r96.1.2.1, .row true (cInt .i64) 3 A108 c109 r96.1.2.2.1, .row true cNode 49 A111 c112 r96.1.2.2.2, .box g114 26 [.int .i64 r96.1.1, .slice A105 r96.1.2.1.length c106, .slice A108 r96.1.2.2.1.length c109, .slice A111 r96.1.2.2.2.length c112], .row true cBool 4 A130 c131 r121.1.2.1, .row true (cInt .i64) 3 A133 c134 r121.1.2.2.1, .row true cNode 49 A136 c137 r121.1.2.2.2, .box g139 26 [.int .i64 r121.1.1, .slice A130 r121.1.2.1.length c131, .slice A133 r121.1.2.2.1.length c134, .slice A136 r121.1.2.2.2.length c137], .row true cBool 4 A155 c156 r146.1.2.1, .row true (cInt .i64) 3 A158 c159 r146.1.2.2.1, .row true cNode 49 A161 c162 r146.1.2.2.2, .box g164 26 [.int .i64 r146.1.1, .slice A155 r146.1.2.1.length c156, .slice A158 r146.1.2.2.1.length c159, .slice A161 r146.1.2.2.2.length c162], .row true cBool 4 A180 c181 r171.1.2.1, .row true (cInt .i64) 3 A183 c184 r171.1.2.2.1, .row true cNode 49 A186 c187 r171.1.2.2.2, .box g189 26 [.int .i64 r171.1.1, .slice A180 r171.1.2.1.length c181, .slice A183 r171.1.2.2.1.length c184, .slice A186 r171.1.2.2.2.length c187], .row true cBool 4 A205 c206 r196.1.2.1, .row true (cInt .i64) 3 A208 c209 r196.1.2.2.1, .row true cNode 49 A211 c212 r196.1.2.2.2, .box g214 26 [.int .i64 r196.1.1, .slice A205 r196.1.2.1.length c206, .slice A208 r196.1.2.2.1.length c209, .slice A211 r196.1.2.2.2.length c212]] ∧ x230 = x233) ?_ ?_
 ·
  have hP := h231; clear h231; rw [law20_BothLogic_j1] at hP
  refine rl_ <| vp 3 [(73, .bool ((r96.2 : Int) != 0))] E ?_
  clear E; intro a E
  revert E; refine csE 73 rfl (fun hb_ E => ?_) fun hb_ E => ?_
  ·
   have h235 : ¬ ((r96.2 : Int) = 0) := bne_iff_ne.1 hb_
   replace hP := ite_f h235 hP
   refine vp 15 [(88, .bool true)] E ?_
   clear E; intro a E
   refine nl_ ?_
   have hx_ := Option.some.inj hP
   exact .inl ⟨rfl, true, E.pk, H.sel (up 29) rfl, hx_.symm⟩
  have h236 : (r96.2 : Int) = 0 := bne_eq_false_iff_eq.1 hb_
  replace hP := ite_t h236 hP
  refine vp 4 [(77, .bool ((r121.2 : Int) != 0))] E ?_
  clear E; intro a E
  revert E; refine csE 77 rfl (fun hb_ E => ?_) fun hb_ E => ?_
  ·
   have h237 : ¬ ((r121.2 : Int) = 0) := bne_iff_ne.1 hb_
   replace hP := ite_f h237 hP
   refine vp 11 [(88, .bool true)] E ?_
   clear E; intro a E
   refine nl_ ?_
   have hx_ := Option.some.inj hP
   exact .inl ⟨rfl, true, E.pk, H.sel (up 29) rfl, hx_.symm⟩
  have h238 : (r121.2 : Int) = 0 := bne_eq_false_iff_eq.1 hb_
  replace hP := ite_t h238 hP
  refine vp 4 [(81, .bool ((r146.2 : Int) != 0))] E ?_
  clear E; intro a E
  revert E; refine csE 81 rfl (fun hb_ E => ?_) fun hb_ E => ?_
  ·
   have h239 : ¬ ((r146.2 : Int) = 0) := bne_iff_ne.1 hb_
   replace hP := ite_f h239 hP
   refine vp 7 [(88, .bool true)] E ?_
   clear E; intro a E
   refine nl_ ?_
   have hx_ := Option.some.inj hP
   exact .inl ⟨rfl, true, E.pk, H.sel (up 29) rfl, hx_.symm⟩
  have h240 : (r146.2 : Int) = 0 := bne_eq_false_iff_eq.1 hb_
  replace hP := ite_t h240 hP
  refine vp 4 [(85, .bool ((r171.2 : Int) != 0))] E ?_
  clear E; intro a E
  revert E; refine csE 85 rfl (fun hb_ E => ?_) fun hb_ E => ?_
  ·
   have h241 : ¬ ((r171.2 : Int) = 0) := bne_iff_ne.1 hb_
   replace hP := ite_f h241 hP
   refine vp 3 [(88, .bool true)] E ?_
   clear E; intro a E
   refine nl_ ?_
   have hx_ := Option.some.inj hP
   exact .inl ⟨rfl, true, E.pk, H.sel (up 29) rfl, hx_.symm⟩
  have h242 : (r171.2 : Int) = 0 := bne_eq_false_iff_eq.1 hb_
  replace hP := ite_t h242 hP
  refine vp 3 [(88, .bool ((r196.2 : Int) != 0))] E ?_
  clear E; intro a E
  refine nl_ ?_
  have hx_ := Option.some.inj hP
  exact .inl ⟨rfl, (r196.2 : Int) != 0, E.pk, H.sel (up 29) rfl, hx_.symm⟩
 clear E H h231; rintro a w234 ⟨x233, E, H, hx_⟩
 subst hx_; have hP := hK232; clear hK232
 refine th_n ?_
 revert E; refine csE 88 rfl (fun hb_ E => ?_) fun hb_ E => ?_
 ·
  have h243 : x230 = true := hb_
  replace hP := ite_t h243 hP
  refine c_true E rfl <| sr_ <| vp 2 [(6, .bool r39)] E ?_
  clear E; intro a E
  refine nn_ <| wp_ret <| th_ret ?_
  obtain rfl := Option.some.inj hP
  refine ret1 E rfl rfl ?_
  exact ⟨_, rfl, rfl, H.sel [] rfl⟩
 have h244 : ¬ (x230 = true) := (ne_true_of_eq_false hb_)
 replace hP := ite_f h244 hP
 refine c_false E rfl <| wp_skip <| th_n <| sr_ <| vp 1 [(18, .slice none 0 0)] E ?_
 clear E; intro a E
 refine nn_ <| wp_seq <| sr_ <| vp 1 [(19, .int .i64 0)] E ?_
 clear E; intro a E
 refine nn_ <| wp_block ?_
 obtain ⟨x331, hL332, hK333⟩ := bind_inv hP
 clear hP
 replace H := H.nilrow (cInt .u8) 50; try dsimp only [setn, addE, goneL] at H
 refine loop_cut (fun i_ a w_ => (i_ = 0 ∧ ∃ (x337 : List Int), ∃ (A328 : Option Addr) (c329 : Nat), Fr a 239 [(3, .pointer (some ⟨g29, 0, none⟩)), (4, .pointer (some ⟨g34, 0, none⟩)), (7, .bool r39), (8, .pointer (some ⟨g114, 0, none⟩)), (10, .pointer (some ⟨g139, 0, none⟩)), (12, .pointer (some ⟨g164, 0, none⟩)), (14, .pointer (some ⟨g189, 0, none⟩)), (16, .pointer (some ⟨g214, 0, none⟩)), (18, .slice A328 x337.length c329)] ∧ Hp S Fa w0 w_ [.ro false cBool A1 aAccept, .ro false (cInt .i64) A5 aGuard, .ro false cNode A9 aNodes, .box g29 26 [.int .i64 aProps, .slice A1 aAccept.length c2, .slice A5 aGuard.length c6, .slice A9 aNodes.length c10], .ro false cBool A13 bAccept, .ro false (cInt .i64) A17 bGuard, .ro false cNode A21 bNodes, .box g34 26 [.int .i64 bProps, .slice A13 bAccept.length c14, .slice A17 bGuard.length c18, .slice A21 bNodes.length c22], .row true cBool 4 A105 c106 r96.1.2.1, .row true (cInt .i64) 3 A108 c109 r96.1.2.2.1, .row true cNode 49 A111 c112 r96.1.2.2.2, .box g114 26 [.int .i64 r96.1.1, .slice A105 r96.1.2.1.length c106, .slice A108 r96.1.2.2.1.length c109, .slice A111 r96.1.2.2.2.length c112], .row true cBool 4 A130 c131 r121.1.2.1, .row true (cInt .i64) 3 A133 c134 r121.1.2.2.1, .row true cNode 49 A136 c137 r121.1.2.2.2, .box g139 26 [.int .i64 r121.1.1, .slice A130 r121.1.2.1.length c131, .slice A133 r121.1.2.2.1.length c134, .slice A136 r121.1.2.2.2.length c137], .row true cBool 4 A155 c156 r146.1.2.1, .row true (cInt .i64) 3 A158 c159 r146.1.2.2.1, .row true cNode 49 A161 c162 r146.1.2.2.2, .box g164 26 [.int .i64 r146.1.1, .slice A155 r146.1.2.1.length c156, .slice A158 r146.1.2.2.1.length c159, .slice A161 r146.1.2.2.2.length c162], .row true cBool 4 A180 c181 r171.1.2.1, .row true (cInt .i64) 3 A183 c184 r171.1.2.2.1, .row true cNode 49 A186 c187 r171.1.2.2.2, .box g189 26 [.int .i64 r171.1.1, .slice A180 r171.1.2.1.length c181, .slice A183 r171.1.2.2.1.length c184, .slice A186 r171.1.2.2.2.length c187], .row true cBool 4 A205 c206 r196.1.2.1, .row true (cInt .i64) 3 A208 c209 r196.1.2.2.1, .row true cNode 49 A211 c212 r196.1.2.2.2, .box g214 26 [.int .i64 r196.1.1, .slice A205 r196.1.2.1.length c206, .slice A208 r196.1.2.2.1.length c209, .slice A211 r196.1.2.2.2.length c212], .row true (cInt .u8) 50 A328 c329 x337] ∧ x331 = x337)) ?_ ?_
 ·
  refine loopV (fun m336 a w335 => ∃ (few284 : List Int) (k287 : Int), ∃ (A285 : Option Addr) (c286 : Nat), Fr a 239 [(2, .slice A25 t.length c26), (3, .pointer (some ⟨g29, 0, none⟩)), (4, .pointer (some ⟨g34, 0, none⟩)), (7, .bool r39), (8, .pointer (some ⟨g114, 0, none⟩)), (10, .pointer (some ⟨g139, 0, none⟩)), (12, .pointer (some ⟨g164, 0, none⟩)), (14, .pointer (some ⟨g189, 0, none⟩)), (16, .pointer (some ⟨g214, 0, none⟩)), (18, .slice A285 few284.length c286), (19, .int .i64 k287)] ∧ Hp S Fa w0 w335 [.ro false (cInt .u8) A25 t, .ro false cBool A1 aAccept, .ro false (cInt .i64) A5 aGuard, .ro false cNode A9 aNodes, .box g29 26 [.int .i64 aProps, .slice A1 aAccept.length c2, .slice A5 aGuard.length c6, .slice A9 aNodes.length c10], .ro false cBool A13 bAccept, .ro false (cInt .i64) A17 bGuard, .ro false cNode A21 bNodes, .box g34 26 [.int .i64 bProps, .slice A13 bAccept.length c14, .slice A17 bGuard.length c18, .slice A21 bNodes.length c22], .row true cBool 4 A105 c106 r96.1.2.1, .row true (cInt .i64) 3 A108 c109 r96.1.2.2.1, .row true cNode 49 A111 c112 r96.1.2.2.2, .box g114 26 [.int .i64 r96.1.1, .slice A105 r96.1.2.1.length c106, .slice A108 r96.1.2.2.1.length c109, .slice A111 r96.1.2.2.2.length c112], .row true cBool 4 A130 c131 r121.1.2.1, .row true (cInt .i64) 3 A133 c134 r121.1.2.2.1, .row true cNode 49 A136 c137 r121.1.2.2.2, .box g139 26 [.int .i64 r121.1.1, .slice A130 r121.1.2.1.length c131, .slice A133 r121.1.2.2.1.length c134, .slice A136 r121.1.2.2.2.length c137], .row true cBool 4 A155 c156 r146.1.2.1, .row true (cInt .i64) 3 A158 c159 r146.1.2.2.1, .row true cNode 49 A161 c162 r146.1.2.2.2, .box g164 26 [.int .i64 r146.1.1, .slice A155 r146.1.2.1.length c156, .slice A158 r146.1.2.2.1.length c159, .slice A161 r146.1.2.2.2.length c162], .row true cBool 4 A180 c181 r171.1.2.1, .row true (cInt .i64) 3 A183 c184 r171.1.2.2.1, .row true cNode 49 A186 c187 r171.1.2.2.2, .box g189 26 [.int .i64 r171.1.1, .slice A180 r171.1.2.1.length c181, .slice A183 r171.1.2.2.1.length c184, .slice A186 r171.1.2.2.2.length c187], .row true cBool 4 A205 c206 r196.1.2.1, .row true (cInt .i64) 3 A208 c209 r196.1.2.2.1, .row true cNode 49 A211 c212 r196.1.2.2.2, .box g214 26 [.int .i64 r196.1.1, .slice A205 r196.1.2.1.length c206, .slice A208 r196.1.2.2.1.length c209, .slice A211 r196.1.2.2.2.length c212], .row true (cInt .u8) 50 A285 c286 few284] ∧ law20_BothLogic_l2 N aProps t m336 few284 k287 = some x331) N ?_ ?_
  ·
   exact ⟨[], 0, none, 0, E.pk, H.sel (up 30) rfl, hL332⟩
  clear E H hL332; intro m336 a w335 hI_
  obtain ⟨few284, k287, A285, c286, E, H, hP⟩ := hI_
  obtain ⟨m330, rfl⟩ : ∃ q_, m336 = q_ + 1 := by cases m336 with | zero => rw [law20_BothLogic_l2] at hP; cases hP | succ q_ => exact ⟨q_, rfl⟩
  rw [law20_BothLogic_l2] at hP
  refine wp_seq <| wp_seq ?_
  obtain ⟨x341, h342, hK343⟩ := bind_inv hP
  clear hP
  refine meet_cut (fun a w345 => ∃ (x344 : Bool), Fr a 239 [(2, .slice A25 t.length c26), (3, .pointer (some ⟨g29, 0, none⟩)), (4, .pointer (some ⟨g34, 0, none⟩)), (7, .bool r39), (8, .pointer (some ⟨g114, 0, none⟩)), (10, .pointer (some ⟨g139, 0, none⟩)), (12, .pointer (some ⟨g164, 0, none⟩)), (14, .pointer (some ⟨g189, 0, none⟩)), (16, .pointer (some ⟨g214, 0, none⟩)), (18, .slice A285 few284.length c286), (19, .int .i64 k287), (97, .bool x344)] ∧ Hp S Fa w0 w345 [.ro false (cInt .u8) A25 t, .ro false cBool A1 aAccept, .ro false (cInt .i64) A5 aGuard, .ro false cNode A9 aNodes, .box g29 26 [.int .i64 aProps, .slice A1 aAccept.length c2, .slice A5 aGuard.length c6, .slice A9 aNodes.length c10], .ro false cBool A13 bAccept, .ro false (cInt .i64) A17 bGuard, .ro false cNode A21 bNodes, .box g34 26 [.int .i64 bProps, .slice A13 bAccept.length c14, .slice A17 bGuard.length c18, .slice A21 bNodes.length c22], .row true cBool 4 A105 c106 r96.1.2.1, .row true (cInt .i64) 3 A108 c109 r96.1.2.2.1, .row true cNode 49 A111 c112 r96.1.2.2.2, .box g114 26 [.int .i64 r96.1.1, .slice A105 r96.1.2.1.length c106, .slice A108 r96.1.2.2.1.length c109, .slice A111 r96.1.2.2.2.length c112], .row true cBool 4 A130 c131 r121.1.2.1, .row true (cInt .i64) 3 A133 c134 r121.1.2.2.1, .row true cNode 49 A136 c137 r121.1.2.2.2, .box g139 26 [.int .i64 r121.1.1, .slice A130 r121.1.2.1.length c131, .slice A133 r121.1.2.2.1.length c134, .slice A136 r121.1.2.2.2.length c137], .row true cBool 4 A155 c156 r146.1.2.1, .row true (cInt .i64) 3 A158 c159 r146.1.2.2.1, .row true cNode 49 A161 c162 r146.1.2.2.2, .box g164 26 [.int .i64 r146.1.1, .slice A155 r146.1.2.1.length c156, .slice A158 r146.1.2.2.1.length c159, .slice A161 r146.1.2.2.2.length c162], .row true cBool 4 A180 c181 r171.1.2.1, .row true (cInt .i64) 3 A183 c184 r171.1.2.2.1, .row true cNode 49 A186 c187 r171.1.2.2.2, .box g189 26 [.int .i64 r171.1.1, .slice A180 r171.1.2.1.length c181, .slice A183 r171.1.2.2.1.length c184, .slice A186 r171.1.2.2.2.length c187], .row true cBool 4 A205 c206 r196.1.2.1, .row true (cInt .i64) 3 A208 c209 r196.1.2.2.1, .row true cNode 49 A211 c212 r196.1.2.2.2, .box g214 26 [.int .i64 r196.1.1, .slice A205 r196.1.2.1.length c206, .slice A208 r196.1.2.2.1.length c209, .slice A211 r196.1.2.2.2.length c212], .row true (cInt .u8) 50 A285 c286 few284] ∧ x341 = x344) ?_ ?_
  ·
   have hP := h342; clear h342; rw [law20_BothLogic_j3] at hP
   refine rl_ <| vp 5 [(94, .bool (decide (k287 < (t.length : Int))))] E ?_
   clear E; intro a E
   revert E; refine csE 94 rfl (fun hb_ E => ?_) fun hb_ E => ?_
   ·
    have h346 : k287 < (t.length : Int) := of_decide_eq_true hb_
    replace hP := ite_t h346 hP
    refine vp 3 [(97, .bool (decide (k287 < 1024)))] E ?_
    clear E; intro a E
    refine nl_ ?_
    have hx_ := Option.some.inj hP
    exact .inl ⟨rfl, decide (k287 < 1024), E.pk, H.sel (up 30) rfl, hx_.symm⟩
   have h347 : ¬ (k287 < (t.length : Int)) := of_decide_eq_false hb_
   replace hP := ite_f h347 hP
   refine vp 3 [(97, .bool false)] E ?_
   clear E; intro a E
   refine nl_ ?_
   have hx_ := Option.some.inj hP
   exact .inl ⟨rfl, false, E.pk, H.sel (up 30) rfl, hx_.symm⟩
  clear E H h342; rintro a w345 ⟨x344, E, H, hx_⟩
  subst hx_; have hP := hK343; clear hK343
  refine th_n ?_
  revert E; refine csE 97 rfl (fun hb_ E => ?_) fun hb_ E => ?_
  ·
   have h348 : x341 = true := hb_
   replace hP := ite_t h348 hP
   refine c_true E rfl <| wp_skip <| th_n <| wp_seq <| wp_block ?_
   obtain ⟨g349, hP⟩ := ask_inv hP
   obtain ⟨b350, o351, e_b350⟩ := (H.rd 0 rds_ro).addr (idx_pos g349)
   subst e_b350
   obtain ⟨g352, hP⟩ := ask_inv hP
   obtain ⟨g358, hP⟩ := ask_inv hP
   have HR367 := H
   refine dr_start (S := fun w_ => Chg (atL [.row true (cInt .u8) 50 A285 c286 few284]) w345 w_) (by kernel_rfl) ?_
   intro w364 hc365
   have HS366 : Chg (atL [.row true (cInt .u8) 50 A285 c286 few284]) w345 w364 := hc365.mono (fun _ _ h_ => h_.elim)
   replace H := H.ext hc365
   refine dn tbok (by kernel_rfl) [0, 1, 2, 3, 4, 5, 6, 7, 8, 9] [.int .u8 (List.getD t k287.toNat 0), .int .i64 aProps, .int .u8 (shlV .u8 1 aProps), .int .u8 (IntKind.u8.wrap ((shlV .u8 1 aProps) - 1)), .int .u8 (andV .u8 (List.getD t k287.toNat 0) (IntKind.u8.wrap ((shlV .u8 1 aProps) - 1)))] [(100, .slice A285 few284.length c286), (109, .int .u8 (andV .u8 (List.getD t k287.toNat 0) (IntKind.u8.wrap ((shlV .u8 1 aProps) - 1))))] (fun w_ => [0 ≤ k287 ∧ k287 < (t.length : Int), World.cell? w_ ⟨b350, o351 + k287.toNat * 1, none⟩ = some (.int .u8 (List.getD t k287.toNat 0)), World.cell? w_ ⟨g29, 0, none⟩ = some (.int .i64 aProps), 0 ≤ aProps ∧ IntKind.u8.wrap (1 * 2 ^ (min aProps.toNat (IntKind.bits .u8))) = shlV .u8 1 aProps, IntKind.u8.wrap ((shlV .u8 1 aProps) - 1) = IntKind.u8.wrap ((shlV .u8 1 aProps) - 1), IntKind.u8.wrap (BitVec.ofInt (IntKind.bits .u8) (List.getD t k287.toNat 0) &&& BitVec.ofInt (IntKind.bits .u8) (IntKind.u8.wrap ((shlV .u8 1 aProps) - 1))).toNat = andV .u8 (List.getD t k287.toNat 0) (IntKind.u8.wrap ((shlV .u8 1 aProps) - 1))]) 3 E (fun _ _ => by kernel_rfl) (by kernel_rfl) (fun w_ hS_ => ⟨g349, Rds.at1 (HR367.rdk [29] hS_ 0 rds_ro rfl) 0 g349, (HR367.boxk [29] hS_ 4 rfl rfl).cell (j := 0) rfl, ⟨g352, rfl⟩, rfl, rfl⟩) (by kernel_rfl) HS366 ?_
   clear E; intro a E
   refine wpAnyH_all (rs := [10]) (by kernel_rfl) (by simp) ?_
   refine all1 ?_
   refine wpOp_of_list rfl ?_
   refine h_buildSlice (ps := [(0, .int .u8 (andV .u8 (List.getD t k287.toNat 0) (IntKind.u8.wrap ((shlV .u8 1 aProps) - 1))))]) (cs := [.int .u8 (andV .u8 (List.getD t k287.toNat 0) (IntKind.u8.wrap ((shlV .u8 1 aProps) - 1)))]) H E rfl rfl tbok rfl rfl (by kernel_rfl) ?_
   intro w369 g368 a hc370 hg372 H_ E_
   replace E := E_ _ rfl; clear E_
   have hin373 : ∀ q_, q_ < w345.heap.size → q_ = g368 → (atL [.row true (cInt .u8) 50 A285 c286 few284]) q_ := fun q_ h1_ h2_ => by have hs_ := HS366.size; have h4_ : q_ = g368 := h2_; exfalso; omega
   replace HS366 := HS366.ext hc370
   replace H := H_; clear H_; try dsimp only [setn, addE, goneL] at H
   refine nl_ <| th_n ⟨HS366, ?_⟩
   refine wpAnyH_all (rs := [11]) (by kernel_rfl) (by simp) ?_
   refine all1 ?_
   refine wpOp_of_list rfl ?_
   refine h_append (cInt .u8) (xs := few284) (ys := ([andV .u8 (List.getD t k287.toNat 0) (IntKind.u8.wrap ((shlV .u8 1 aProps) - 1))] : List Int)) (0 : Int) H 29 rfl E rfl rfl tbok rfl rfl rfl rfl rfl (fun _ _ => rfl) rfl rfl (fun _ HF_ => HF_.srcB 30 rfl (⟨_, _, rfl, rfl, rfl⟩)) g358 ?_
   intro w374 A375 c376 a hc377 hA378 H_ E_
   replace E := E_ _ rfl; clear E_
   have hin379 : ∀ q_, q_ < w345.heap.size → At A375 q_ → (atL [.row true (cInt .u8) 50 A285 c286 few284]) q_ := fun q_ h1_ h2_ => (hA378 q_ h2_).elim ((fun _ _ h_ => Or.inl h_) q_ h1_) (fun h3_ => by have hs_ := HS366.size; exfalso; omega)
   replace HS366 := HS366.trans hc377 (fun k_ hk_ h_ => (fun _ _ h_ => Or.inl h_) k_ hk_ h_)
   replace H := H_; clear H_; try dsimp only [setn, addE, goneL] at H
   refine nl_ <| th_n ⟨HS366, ?_⟩
   refine dn tbok (by kernel_rfl) [12] [] [(18, .slice A375 (List.length (few284 ++ ([andV .u8 (List.getD t k287.toNat 0) (IntKind.u8.wrap ((shlV .u8 1 aProps) - 1))] : List Int))) c376)] (fun w_ => []) 0 E (fun _ _ => by kernel_rfl) (by kernel_rfl) (fun w_ hS_ => trivial) (by kernel_rfl) HS366 ?_
   clear E; intro a E
   refine dr_done (by kernel_rfl) ?_
   clear HS366 HR367
   refine bl_n <| th_n <| rl_ ?_
   obtain ⟨g380, hP⟩ := ask_inv hP
   refine vq 3 [.int .i64 (k287 + 1)] [(19, .int .i64 (k287 + 1))] [IntKind.i64.wrap (k287 + 1) = k287 + 1] E (wrap_in g380) ?_
   clear E; intro a E
   refine nl_ ?_
   exact th_n ⟨m330, Nat.lt_succ_self _, few284 ++ ([andV .u8 (List.getD t k287.toNat 0) (IntKind.u8.wrap ((shlV .u8 1 aProps) - 1))] : List Int), k287 + 1, A375, c376, E.pk, H.sel (up 30) rfl, hP⟩
  have h381 : ¬ (x341 = true) := (ne_true_of_eq_false hb_)
  replace hP := ite_f h381 hP
  refine c_false E rfl <| wp_exit <| th_exit ?_
  have hx_ := Option.some.inj hP
  refine th_exit (.inl ⟨0, rfl, ?_⟩)
  exact ⟨rfl, few284, A285, c286, E.pk, H.sel [1, 2, 3, 4, 5, 6, 7, 8, 9, 10, 11, 12, 13, 14, 15, 16, 17, 18, 19, 20, 21, 22, 23, 24, 25, 26, 27, 28, 29] rfl, hx_.symm⟩
 clear E H hL332; intro i_ a w335 hM_
 obtain ⟨rfl, x337, A328, c329, E, H, hx_⟩ := hM_
 subst hx_; have hP := hK333; clear hK333
 refine bl_hit <| th_n <| wp_seq ?_
 obtain ⟨r382, h383, hP⟩ := bind_inv hP
 obtain ⟨r391, h392, hP⟩ := bind_inv hP
 have HR403 := H
 refine dr_start (S := fun w_ => Chg (atL []) w335 w_) (by kernel_rfl) ?_
 intro w400 hc401
 have HS402 : Chg (atL []) w335 w400 := hc401.mono (fun _ _ h_ => h_.elim)
 replace H := H.ext hc401
 refine dn tbok (by kernel_rfl) [0, 1, 3, 4, 6, 7, 8] [.agg #[.int .i64 aProps, .slice A1 aAccept.length c2, .slice A5 aGuard.length c6, .slice A9 aNodes.length c10], .agg #[.int .i64 bProps, .slice A13 bAccept.length c14, .slice A17 bGuard.length c18, .slice A21 bNodes.length c22]] [(112, .agg #[.int .i64 aProps, .slice A1 aAccept.length c2, .slice A5 aGuard.length c6, .slice A9 aNodes.length c10]), (113, .slice A328 x331.length c329), (115, .agg #[.int .i64 bProps, .slice A13 bAccept.length c14, .slice A17 bGuard.length c18, .slice A21 bNodes.length c22]), (116, .slice A328 x331.length c329), (120, .bool (decide (0 < (x331.length : Int))))] (fun w_ => [cellsAt w_ g29 (0) [.int .i64 aProps, .slice A1 aAccept.length c2, .slice A5 aGuard.length c6, .slice A9 aNodes.length c10], cellsAt w_ g34 (0) [.int .i64 bProps, .slice A13 bAccept.length c14, .slice A17 bGuard.length c18, .slice A21 bNodes.length c22]]) 5 E (fun _ _ => by kernel_rfl) (by kernel_rfl) (fun w_ hS_ => ⟨(HR403.boxk [] hS_ 3 rfl rfl).sub 0 _ rfl, (HR403.boxk [] hS_ 7 rfl rfl).sub 0 _ rfl⟩) (by kernel_rfl) HS402 ?_
 clear E; intro a E
 refine wpAnyH_all (rs := [2]) (by kernel_rfl) (by simp) ?_
 refine all1 ?_
 refine wpOp_of_list rfl ?_
 obtain ⟨Fa404, Hc405, hb406⟩ := H.call [] [(0, false), (1, false), (2, false), (28, false)] rfl rfl trivial
 refine e_call E rfl rfl Try.func29 rfl rfl rfl (law20_accepts_calls A1 c2 A5 c6 A9 c10 A328 c329 aProps aAccept aGuard aNodes x331 hk3 hk7 hk11 (H.rcap 28 rfl) Hc405 h383) ?_
 rintro v407 w408 a ⟨rfl, HR409⟩ E_
 replace E := E_ _ rfl; clear E_
 obtain ⟨H_, hc410⟩ := hb406 _ _ HR409 rfl
 replace HS402 := HS402.ext (callS_ext hc410)
 replace H := H_; clear H_; try dsimp only [setn, addE, goneL] at H
 refine nl_ <| th_n ⟨HS402, ?_⟩
 refine wpAnyH_all (rs := [5]) (by kernel_rfl) (by simp) ?_
 refine all1 ?_
 refine wpOp_of_list rfl ?_
 obtain ⟨Fa411, Hc412, hb413⟩ := H.call [] [(4, false), (5, false), (6, false), (28, false)] rfl rfl trivial
 refine e_call E rfl rfl Try.func29 rfl rfl rfl (law20_accepts_calls A13 c14 A17 c18 A21 c22 A328 c329 bProps bAccept bGuard bNodes x331 hk15 hk19 hk23 (H.rcap 28 rfl) Hc412 h392) ?_
 rintro v414 w415 a ⟨rfl, HR416⟩ E_
 replace E := E_ _ rfl; clear E_
 obtain ⟨H_, hc417⟩ := hb413 _ _ HR416 rfl
 replace HS402 := HS402.ext (callS_ext hc417)
 replace H := H_; clear H_; try dsimp only [setn, addE, goneL] at H
 refine nl_ <| th_n ⟨HS402, ?_⟩
 refine dn tbok (by kernel_rfl) [9, 10, 11] [] [(20, .bool r382), (21, .bool r391), (22, .bool (decide (0 < (x331.length : Int))))] (fun w_ => []) 0 E (fun _ _ => by kernel_rfl) (by kernel_rfl) (fun w_ hS_ => trivial) (by kernel_rfl) HS402 ?_
 clear E; intro a E
 refine dr_done (by kernel_rfl) ?_
 clear HS402 HR403
 refine th_n <| wp_seq <| wp_seq ?_
 obtain ⟨x784, h785, hK786⟩ := bind_inv hP
 clear hP
 refine meet_cut (fun a w788 => ∃ (x787 : Bool), Fr a 239 [(7, .bool r39), (8, .pointer (some ⟨g114, 0, none⟩)), (10, .pointer (some ⟨g139, 0, none⟩)), (12, .pointer (some ⟨g164, 0, none⟩)), (14, .pointer (some ⟨g189, 0, none⟩)), (16, .pointer (some ⟨g214, 0, none⟩)), (18, .slice A328 x331.length c329), (20, .bool r382), (22, .bool (decide (0 < (x331.length : Int)))), (167, .bool x787)] ∧ Hp S Fa w0 w788 [.row true cBool 4 A105 c106 r96.1.2.1, .row true (cInt .i64) 3 A108 c109 r96.1.2.2.1, .row true cNode 49 A111 c112 r96.1.2.2.2, .box g114 26 [.int .i64 r96.1.1, .slice A105 r96.1.2.1.length c106, .slice A108 r96.1.2.2.1.length c109, .slice A111 r96.1.2.2.2.length c112], .row true cBool 4 A130 c131 r121.1.2.1, .row true (cInt .i64) 3 A133 c134 r121.1.2.2.1, .row true cNode 49 A136 c137 r121.1.2.2.2, .box g139 26 [.int .i64 r121.1.1, .slice A130 r121.1.2.1.length c131, .slice A133 r121.1.2.2.1.length c134, .slice A136 r121.1.2.2.2.length c137], .row true cBool 4 A155 c156 r146.1.2.1, .row true (cInt .i64) 3 A158 c159 r146.1.2.2.1, .row true cNode 49 A161 c162 r146.1.2.2.2, .box g164 26 [.int .i64 r146.1.1, .slice A155 r146.1.2.1.length c156, .slice A158 r146.1.2.2.1.length c159, .slice A161 r146.1.2.2.2.length c162], .row true cBool 4 A180 c181 r171.1.2.1, .row true (cInt .i64) 3 A183 c184 r171.1.2.2.1, .row true cNode 49 A186 c187 r171.1.2.2.2, .box g189 26 [.int .i64 r171.1.1, .slice A180 r171.1.2.1.length c181, .slice A183 r171.1.2.2.1.length c184, .slice A186 r171.1.2.2.2.length c187], .row true cBool 4 A205 c206 r196.1.2.1, .row true (cInt .i64) 3 A208 c209 r196.1.2.2.1, .row true cNode 49 A211 c212 r196.1.2.2.2, .box g214 26 [.int .i64 r196.1.1, .slice A205 r196.1.2.1.length c206, .slice A208 r196.1.2.2.1.length c209, .slice A211 r196.1.2.2.2.length c212], .row true (cInt .u8) 50 A328 c329 x331] ∧ x784 = x787) ?_ ?_
 ·
  have hP := h785; clear h785; rw [law20_BothLogic_j4] at hP
  refine rl_ <| vq 2 [.agg #[.int .i64 r96.1.1, .slice A105 r96.1.2.1.length c106, .slice A108 r96.1.2.2.1.length c109, .slice A111 r96.1.2.2.2.length c112]] [(121, .agg #[.int .i64 r96.1.1, .slice A105 r96.1.2.1.length c106, .slice A108 r96.1.2.2.1.length c109, .slice A111 r96.1.2.2.2.length c112]), (122, .slice A328 x331.length c329)] [cellsAt w415 g114 (0) [.int .i64 r96.1.1, .slice A105 r96.1.2.1.length c106, .slice A108 r96.1.2.2.1.length c109, .slice A111 r96.1.2.2.2.length c112]] E ((H.box 11 rfl).sub 0 _ rfl) ?_
  clear E; intro a E
  obtain ⟨r789, h790, hP⟩ := bind_inv hP
  obtain ⟨Fa791, Hc792, hb793⟩ := H.call [] [(8, false), (9, false), (10, false), (28, false)] rfl rfl trivial
  refine e_call E rfl rfl Try.func29 rfl rfl rfl (law20_accepts_calls A105 c106 A108 c109 A111 c112 A328 c329 r96.1.1 r96.1.2.1 r96.1.2.2.1 r96.1.2.2.2 x331 (H.rcap 8 rfl) (H.rcap 9 rfl) (H.rcap 10 rfl) (H.rcap 28 rfl) Hc792 h790) ?_
  rintro v794 w795 a ⟨rfl, HR796⟩ E_
  replace E := E_ _ rfl; clear E_
  obtain ⟨H_, hc797⟩ := hb793 _ _ HR796 rfl
  replace H := H_; clear H_; try dsimp only [setn, addE, goneL] at H
  refine vp 2 [(125, .bool (decide (0 < (x331.length : Int))))] E ?_
  clear E; intro a E
  revert E; refine csE 125 rfl (fun hb_ E => ?_) fun hb_ E => ?_
  ·
   have h798 : 0 < (x331.length : Int) := of_decide_eq_true hb_
   replace hP := ite_t h798 hP
   refine vp 5 [(130, .bool (!(r789 == (!r382))))] E ?_
   clear E; intro a E
   revert E; refine csE 130 rfl (fun hb_ E => ?_) fun hb_ E => ?_
   ·
    have h799 : ¬ (r789 = (!r382)) := (by simpa using hb_)
    replace hP := ite_f h799 hP
    refine vp 37 [(167, .bool true)] E ?_
    clear E; intro a E
    refine nl_ ?_
    have hx_ := Option.some.inj hP
    exact .inl ⟨rfl, true, E.pk, H.sel [8, 9, 10, 11, 12, 13, 14, 15, 16, 17, 18, 19, 20, 21, 22, 23, 24, 25, 26, 27, 28] rfl, hx_.symm⟩
   have h800 : r789 = (!r382) := (by simpa using hb_)
   replace hP := ite_t h800 hP
   refine vq 2 [.agg #[.int .i64 r146.1.1, .slice A155 r146.1.2.1.length c156, .slice A158 r146.1.2.2.1.length c159, .slice A161 r146.1.2.2.2.length c162]] [(131, .agg #[.int .i64 r146.1.1, .slice A155 r146.1.2.1.length c156, .slice A158 r146.1.2.2.1.length c159, .slice A161 r146.1.2.2.2.length c162]), (132, .slice A328 x331.length c329)] [cellsAt w795 g164 (0) [.int .i64 r146.1.1, .slice A155 r146.1.2.1.length c156, .slice A158 r146.1.2.2.1.length c159, .slice A161 r146.1.2.2.2.length c162]] E ((H.box 19 rfl).sub 0 _ rfl) ?_
   clear E; intro a E
   obtain ⟨r801, h802, hP⟩ := bind_inv hP
   obtain ⟨Fa803, Hc804, hb805⟩ := H.call [] [(16, false), (17, false), (18, false), (28, false)] rfl rfl trivial
   refine e_call E rfl rfl Try.func29 rfl rfl rfl (law20_accepts_calls A155 c156 A158 c159 A161 c162 A328 c329 r146.1.1 r146.1.2.1 r146.1.2.2.1 r146.1.2.2.2 x331 (H.rcap 16 rfl) (H.rcap 17 rfl) (H.rcap 18 rfl) (H.rcap 28 rfl) Hc804 h802) ?_
   rintro v806 w807 a ⟨rfl, HR808⟩ E_
   replace E := E_ _ rfl; clear E_
   obtain ⟨H_, hc809⟩ := hb805 _ _ HR808 rfl
   replace H := H_; clear H_; try dsimp only [setn, addE, goneL] at H
   refine vp 2 [(135, .bool (decide (0 < (x331.length : Int))))] E ?_
   clear E; intro a E
   revert E; refine csE 135 rfl (fun hb_ E => ?_) fun hb_ E => ?_
   ·
    have h810 : 0 < (x331.length : Int) := of_decide_eq_true hb_
    replace hP := ite_t h810 hP
    refine vp 3 [(138, .bool r382)] E ?_
    clear E; intro a E
    revert E; refine csE 138 rfl (fun hb_ E => ?_) fun hb_ E => ?_
    ·
     have h811 : r382 = true := hb_
     replace hP := ite_t h811 hP
     refine vp 5 [(143, .bool (!(r801 == r391)))] E ?_
     clear E; intro a E
     revert E; refine csE 143 rfl (fun hb_ E => ?_) fun hb_ E => ?_
     ·
      have h812 : ¬ (r801 = r391) := (by simpa using hb_)
      replace hP := ite_f h812 hP
      refine vp 24 [(167, .bool true)] E ?_
      clear E; intro a E
      refine nl_ ?_
      have hx_ := Option.some.inj hP
      exact .inl ⟨rfl, true, E.pk, H.sel [8, 9, 10, 11, 12, 13, 14, 15, 16, 17, 18, 19, 20, 21, 22, 23, 24, 25, 26, 27, 28] rfl, hx_.symm⟩
     have h813 : r801 = r391 := (by simpa using hb_)
     replace hP := ite_t h813 hP
     refine vq 2 [.agg #[.int .i64 r171.1.1, .slice A180 r171.1.2.1.length c181, .slice A183 r171.1.2.2.1.length c184, .slice A186 r171.1.2.2.2.length c187]] [(144, .agg #[.int .i64 r171.1.1, .slice A180 r171.1.2.1.length c181, .slice A183 r171.1.2.2.1.length c184, .slice A186 r171.1.2.2.2.length c187]), (145, .slice A328 x331.length c329)] [cellsAt w807 g189 (0) [.int .i64 r171.1.1, .slice A180 r171.1.2.1.length c181, .slice A183 r171.1.2.2.1.length c184, .slice A186 r171.1.2.2.2.length c187]] E ((H.box 23 rfl).sub 0 _ rfl) ?_
     clear E; intro a E
     obtain ⟨r814, h815, hP⟩ := bind_inv hP
     obtain ⟨Fa816, Hc817, hb818⟩ := H.call [] [(20, false), (21, false), (22, false), (28, false)] rfl rfl trivial
     refine e_call E rfl rfl Try.func29 rfl rfl rfl (law20_accepts_calls A180 c181 A183 c184 A186 c187 A328 c329 r171.1.1 r171.1.2.1 r171.1.2.2.1 r171.1.2.2.2 x331 (H.rcap 20 rfl) (H.rcap 21 rfl) (H.rcap 22 rfl) (H.rcap 28 rfl) Hc817 h815) ?_
     rintro v819 w820 a ⟨rfl, HR821⟩ E_
     replace E := E_ _ rfl; clear E_
     obtain ⟨H_, hc822⟩ := hb818 _ _ HR821 rfl
     replace H := H_; clear H_; try dsimp only [setn, addE, goneL] at H
     refine vp 2 [(148, .bool (decide (0 < (x331.length : Int))))] E ?_
     clear E; intro a E
     revert E; refine csE 148 rfl (fun hb_ E => ?_) fun hb_ E => ?_
     ·
      have h823 : 0 < (x331.length : Int) := of_decide_eq_true hb_
      replace hP := ite_t h823 hP
      refine vp 2 [(150, .bool r382)] E ?_
      clear E; intro a E
      revert E; refine csE 150 rfl (fun hb_ E => ?_) fun hb_ E => ?_
      ·
       have h824 : r382 = true := hb_
       replace hP := ite_t h824 hP
       refine vp 6 [(156, .bool (!(r814 == true)))] E ?_
       clear E; intro a E
       revert E; refine csE 156 rfl (fun hb_ E => ?_) fun hb_ E => ?_
       ·
        have h825 : ¬ (r814 = true) := (by simpa using hb_)
        replace hP := ite_f h825 hP
        refine vp 11 [(167, .bool true)] E ?_
        clear E; intro a E
        refine nl_ ?_
        have hx_ := Option.some.inj hP
        exact .inl ⟨rfl, true, E.pk, H.sel [8, 9, 10, 11, 12, 13, 14, 15, 16, 17, 18, 19, 20, 21, 22, 23, 24, 25, 26, 27, 28] rfl, hx_.symm⟩
       have h826 : r814 = true := (by simpa using hb_)
       replace hP := ite_t h826 hP
       refine vq 2 [.agg #[.int .i64 r196.1.1, .slice A205 r196.1.2.1.length c206, .slice A208 r196.1.2.2.1.length c209, .slice A211 r196.1.2.2.2.length c212]] [(157, .agg #[.int .i64 r196.1.1, .slice A205 r196.1.2.1.length c206, .slice A208 r196.1.2.2.1.length c209, .slice A211 r196.1.2.2.2.length c212]), (158, .slice A328 x331.length c329)] [cellsAt w820 g214 (0) [.int .i64 r196.1.1, .slice A205 r196.1.2.1.length c206, .slice A208 r196.1.2.2.1.length c209, .slice A211 r196.1.2.2.2.length c212]] E ((H.box 27 rfl).sub 0 _ rfl) ?_
       clear E; intro a E
       obtain ⟨r827, h828, hP⟩ := bind_inv hP
       obtain ⟨Fa829, Hc830, hb831⟩ := H.call [] [(24, false), (25, false), (26, false), (28, false)] rfl rfl trivial
       refine e_call E rfl rfl Try.func29 rfl rfl rfl (law20_accepts_calls A205 c206 A208 c209 A211 c212 A328 c329 r196.1.1 r196.1.2.1 r196.1.2.2.1 r196.1.2.2.2 x331 (H.rcap 24 rfl) (H.rcap 25 rfl) (H.rcap 26 rfl) (H.rcap 28 rfl) Hc830 h828) ?_
       rintro v832 w833 a ⟨rfl, HR834⟩ E_
       replace E := E_ _ rfl; clear E_
       obtain ⟨H_, hc835⟩ := hb831 _ _ HR834 rfl
       replace H := H_; clear H_; try dsimp only [setn, addE, goneL] at H
       refine vp 2 [(161, .bool (decide (0 < (x331.length : Int))))] E ?_
       clear E; intro a E
       revert E; refine csE 161 rfl (fun hb_ E => ?_) fun hb_ E => ?_
       ·
        have h836 : 0 < (x331.length : Int) := of_decide_eq_true hb_
        replace hP := ite_t h836 hP
        refine vp 6 [(167, .bool (!(r827 == (!(r382 == r391)))))] E ?_
        clear E; intro a E
        refine nl_ ?_
        have hx_ := Option.some.inj hP
        exact .inl ⟨rfl, !(r827 == (!(r382 == r391))), E.pk, H.sel [8, 9, 10, 11, 12, 13, 14, 15, 16, 17, 18, 19, 20, 21, 22, 23, 24, 25, 26, 27, 28] rfl, hx_.symm⟩
       have h837 : ¬ (0 < (x331.length : Int)) := of_decide_eq_false hb_
       replace hP := ite_f h837 hP
       refine vp 6 [(167, .bool (!(r827 == false)))] E ?_
       clear E; intro a E
       refine nl_ ?_
       have hx_ := Option.some.inj hP
       exact .inl ⟨rfl, !(r827 == false), E.pk, H.sel [8, 9, 10, 11, 12, 13, 14, 15, 16, 17, 18, 19, 20, 21, 22, 23, 24, 25, 26, 27, 28] rfl, hx_.symm⟩
      have h838 : ¬ (r382 = true) := (ne_true_of_eq_false hb_)
      replace hP := ite_f h838 hP
      refine vp 6 [(156, .bool (!(r814 == r391)))] E ?_
      clear E; intro a E
      revert E; refine csE 156 rfl (fun hb_ E => ?_) fun hb_ E => ?_
      ·
       have h839 : ¬ (r814 = r391) := (by simpa using hb_)
       replace hP := ite_f h839 hP
       refine vp 11 [(167, .bool true)] E ?_
       clear E; intro a E
       refine nl_ ?_
       have hx_ := Option.some.inj hP
       exact .inl ⟨rfl, true, E.pk, H.sel [8, 9, 10, 11, 12, 13, 14, 15, 16, 17, 18, 19, 20, 21, 22, 23, 24, 25, 26, 27, 28] rfl, hx_.symm⟩
      have h840 : r814 = r391 := (by simpa using hb_)
      replace hP := ite_t h840 hP
      refine vq 2 [.agg #[.int .i64 r196.1.1, .slice A205 r196.1.2.1.length c206, .slice A208 r196.1.2.2.1.length c209, .slice A211 r196.1.2.2.2.length c212]] [(157, .agg #[.int .i64 r196.1.1, .slice A205 r196.1.2.1.length c206, .slice A208 r196.1.2.2.1.length c209, .slice A211 r196.1.2.2.2.length c212]), (158, .slice A328 x331.length c329)] [cellsAt w820 g214 (0) [.int .i64 r196.1.1, .slice A205 r196.1.2.1.length c206, .slice A208 r196.1.2.2.1.length c209, .slice A211 r196.1.2.2.2.length c212]] E ((H.box 27 rfl).sub 0 _ rfl) ?_
      clear E; intro a E
      obtain ⟨r841, h842, hP⟩ := bind_inv hP
      obtain ⟨Fa843, Hc844, hb845⟩ := H.call [] [(24, false), (25, false), (26, false), (28, false)] rfl rfl trivial
      refine e_call E rfl rfl Try.func29 rfl rfl rfl (law20_accepts_calls A205 c206 A208 c209 A211 c212 A328 c329 r196.1.1 r196.1.2.1 r196.1.2.2.1 r196.1.2.2.2 x331 (H.rcap 24 rfl) (H.rcap 25 rfl) (H.rcap 26 rfl) (H.rcap 28 rfl) Hc844 h842) ?_
      rintro v846 w847 a ⟨rfl, HR848⟩ E_
      replace E := E_ _ rfl; clear E_
      obtain ⟨H_, hc849⟩ := hb845 _ _ HR848 rfl
      replace H := H_; clear H_; try dsimp only [setn, addE, goneL] at H
      refine vp 2 [(161, .bool (decide (0 < (x331.length : Int))))] E ?_
      clear E; intro a E
      revert E; refine csE 161 rfl (fun hb_ E => ?_) fun hb_ E => ?_
      ·
       have h850 : 0 < (x331.length : Int) := of_decide_eq_true hb_
       replace hP := ite_t h850 hP
       refine vp 6 [(167, .bool (!(r841 == (!(r382 == r391)))))] E ?_
       clear E; intro a E
       refine nl_ ?_
       have hx_ := Option.some.inj hP
       exact .inl ⟨rfl, !(r841 == (!(r382 == r391))), E.pk, H.sel [8, 9, 10, 11, 12, 13, 14, 15, 16, 17, 18, 19, 20, 21, 22, 23, 24, 25, 26, 27, 28] rfl, hx_.symm⟩
      have h851 : ¬ (0 < (x331.length : Int)) := of_decide_eq_false hb_
      replace hP := ite_f h851 hP
      refine vp 6 [(167, .bool (!(r841 == false)))] E ?_
      clear E; intro a E
      refine nl_ ?_
      have hx_ := Option.some.inj hP
      exact .inl ⟨rfl, !(r841 == false), E.pk, H.sel [8, 9, 10, 11, 12, 13, 14, 15, 16, 17, 18, 19, 20, 21, 22, 23, 24, 25, 26, 27, 28] rfl, hx_.symm⟩
     have h852 : ¬ (0 < (x331.length : Int)) := of_decide_eq_false hb_
     replace hP := ite_f h852 hP
     refine vp 8 [(156, .bool (!(r814 == false)))] E ?_
     clear E; intro a E
     revert E; refine csE 156 rfl (fun hb_ E => ?_) fun hb_ E => ?_
     ·
      have h853 : ¬ (r814 = false) := (by simpa using hb_)
      replace hP := ite_f h853 hP
      refine vp 11 [(167, .bool true)] E ?_
      clear E; intro a E
      refine nl_ ?_
      have hx_ := Option.some.inj hP
      exact .inl ⟨rfl, true, E.pk, H.sel [8, 9, 10, 11, 12, 13, 14, 15, 16, 17, 18, 19, 20, 21, 22, 23, 24, 25, 26, 27, 28] rfl, hx_.symm⟩
     have h854 : r814 = false := (by simpa using hb_)
     replace hP := ite_t h854 hP
     refine vq 2 [.agg #[.int .i64 r196.1.1, .slice A205 r196.1.2.1.length c206, .slice A208 r196.1.2.2.1.length c209, .slice A211 r196.1.2.2.2.length c212]] [(157, .agg #[.int .i64 r196.1.1, .slice A205 r196.1.2.1.length c206, .slice A208 r196.1.2.2.1.length c209, .slice A211 r196.1.2.2.2.length c212]), (158, .slice A328 x331.length c329)] [cellsAt w820 g214 (0) [.int .i64 r196.1.1, .slice A205 r196.1.2.1.length c206, .slice A208 r196.1.2.2.1.length c209, .slice A211 r196.1.2.2.2.length c212]] E ((H.box 27 rfl).sub 0 _ rfl) ?_
     clear E; intro a E
     obtain ⟨r855, h856, hP⟩ := bind_inv hP
     obtain ⟨Fa857, Hc858, hb859⟩ := H.call [] [(24, false), (25, false), (26, false), (28, false)] rfl rfl trivial
     refine e_call E rfl rfl Try.func29 rfl rfl rfl (law20_accepts_calls A205 c206 A208 c209 A211 c212 A328 c329 r196.1.1 r196.1.2.1 r196.1.2.2.1 r196.1.2.2.2 x331 (H.rcap 24 rfl) (H.rcap 25 rfl) (H.rcap 26 rfl) (H.rcap 28 rfl) Hc858 h856) ?_
     rintro v860 w861 a ⟨rfl, HR862⟩ E_
     replace E := E_ _ rfl; clear E_
     obtain ⟨H_, hc863⟩ := hb859 _ _ HR862 rfl
     replace H := H_; clear H_; try dsimp only [setn, addE, goneL] at H
     refine vp 2 [(161, .bool (decide (0 < (x331.length : Int))))] E ?_
     clear E; intro a E
     revert E; refine csE 161 rfl (fun hb_ E => ?_) fun hb_ E => ?_
     ·
      have h864 : 0 < (x331.length : Int) := of_decide_eq_true hb_
      replace hP := ite_t h864 hP
      refine vp 6 [(167, .bool (!(r855 == (!(r382 == r391)))))] E ?_
      clear E; intro a E
      refine nl_ ?_
      have hx_ := Option.some.inj hP
      exact .inl ⟨rfl, !(r855 == (!(r382 == r391))), E.pk, H.sel [8, 9, 10, 11, 12, 13, 14, 15, 16, 17, 18, 19, 20, 21, 22, 23, 24, 25, 26, 27, 28] rfl, hx_.symm⟩
     have h865 : ¬ (0 < (x331.length : Int)) := of_decide_eq_false hb_
     replace hP := ite_f h865 hP
     refine vp 6 [(167, .bool (!(r855 == false)))] E ?_
     clear E; intro a E
     refine nl_ ?_
     have hx_ := Option.some.inj hP
     exact .inl ⟨rfl, !(r855 == false), E.pk, H.sel [8, 9, 10, 11, 12, 13, 14, 15, 16, 17, 18, 19, 20, 21, 22, 23, 24, 25, 26, 27, 28] rfl, hx_.symm⟩
    have h866 : ¬ (r382 = true) := (ne_true_of_eq_false hb_)
    replace hP := ite_f h866 hP
    refine vp 5 [(143, .bool (!(r801 == false)))] E ?_
    clear E; intro a E
    revert E; refine csE 143 rfl (fun hb_ E => ?_) fun hb_ E => ?_
    ·
     have h867 : ¬ (r801 = false) := (by simpa using hb_)
     replace hP := ite_f h867 hP
     refine vp 24 [(167, .bool true)] E ?_
     clear E; intro a E
     refine nl_ ?_
     have hx_ := Option.some.inj hP
     exact .inl ⟨rfl, true, E.pk, H.sel [8, 9, 10, 11, 12, 13, 14, 15, 16, 17, 18, 19, 20, 21, 22, 23, 24, 25, 26, 27, 28] rfl, hx_.symm⟩
    have h868 : r801 = false := (by simpa using hb_)
    replace hP := ite_t h868 hP
    refine vq 2 [.agg #[.int .i64 r171.1.1, .slice A180 r171.1.2.1.length c181, .slice A183 r171.1.2.2.1.length c184, .slice A186 r171.1.2.2.2.length c187]] [(144, .agg #[.int .i64 r171.1.1, .slice A180 r171.1.2.1.length c181, .slice A183 r171.1.2.2.1.length c184, .slice A186 r171.1.2.2.2.length c187]), (145, .slice A328 x331.length c329)] [cellsAt w807 g189 (0) [.int .i64 r171.1.1, .slice A180 r171.1.2.1.length c181, .slice A183 r171.1.2.2.1.length c184, .slice A186 r171.1.2.2.2.length c187]] E ((H.box 23 rfl).sub 0 _ rfl) ?_
    clear E; intro a E
    obtain ⟨r869, h870, hP⟩ := bind_inv hP
    obtain ⟨Fa871, Hc872, hb873⟩ := H.call [] [(20, false), (21, false), (22, false), (28, false)] rfl rfl trivial
    refine e_call E rfl rfl Try.func29 rfl rfl rfl (law20_accepts_calls A180 c181 A183 c184 A186 c187 A328 c329 r171.1.1 r171.1.2.1 r171.1.2.2.1 r171.1.2.2.2 x331 (H.rcap 20 rfl) (H.rcap 21 rfl) (H.rcap 22 rfl) (H.rcap 28 rfl) Hc872 h870) ?_
    rintro v874 w875 a ⟨rfl, HR876⟩ E_
    replace E := E_ _ rfl; clear E_
    obtain ⟨H_, hc877⟩ := hb873 _ _ HR876 rfl
    replace H := H_; clear H_; try dsimp only [setn, addE, goneL] at H
    refine vp 2 [(148, .bool (decide (0 < (x331.length : Int))))] E ?_
    clear E; intro a E
    revert E; refine csE 148 rfl (fun hb_ E => ?_) fun hb_ E => ?_
    ·
     have h878 : 0 < (x331.length : Int) := of_decide_eq_true hb_
     replace hP := ite_t h878 hP
     refine vp 2 [(150, .bool r382)] E ?_
     clear E; intro a E
     revert E; refine csE 150 rfl (fun hb_ E => ?_) fun hb_ E => ?_
     ·
      have h879 : r382 = true := hb_
      replace hP := ite_t h879 hP
      refine vp 6 [(156, .bool (!(r869 == true)))] E ?_
      clear E; intro a E
      revert E; refine csE 156 rfl (fun hb_ E => ?_) fun hb_ E => ?_
      ·
       have h880 : ¬ (r869 = true) := (by simpa using hb_)
       replace hP := ite_f h880 hP
       refine vp 11 [(167, .bool true)] E ?_
       clear E; intro a E
       refine nl_ ?_
       have hx_ := Option.some.inj hP
       exact .inl ⟨rfl, true, E.pk, H.sel [8, 9, 10, 11, 12, 13, 14, 15, 16, 17, 18, 19, 20, 21, 22, 23, 24, 25, 26, 27, 28] rfl, hx_.symm⟩
      have h881 : r869 = true := (by simpa using hb_)
      replace hP := ite_t h881 hP
      refine vq 2 [.agg #[.int .i64 r196.1.1, .slice A205 r196.1.2.1.length c206, .slice A208 r196.1.2.2.1.length c209, .slice A211 r196.1.2.2.2.length c212]] [(157, .agg #[.int .i64 r196.1.1, .slice A205 r196.1.2.1.length c206, .slice A208 r196.1.2.2.1.length c209, .slice A211 r196.1.2.2.2.length c212]), (158, .slice A328 x331.length c329)] [cellsAt w875 g214 (0) [.int .i64 r196.1.1, .slice A205 r196.1.2.1.length c206, .slice A208 r196.1.2.2.1.length c209, .slice A211 r196.1.2.2.2.length c212]] E ((H.box 27 rfl).sub 0 _ rfl) ?_
      clear E; intro a E
      obtain ⟨r882, h883, hP⟩ := bind_inv hP
      obtain ⟨Fa884, Hc885, hb886⟩ := H.call [] [(24, false), (25, false), (26, false), (28, false)] rfl rfl trivial
      refine e_call E rfl rfl Try.func29 rfl rfl rfl (law20_accepts_calls A205 c206 A208 c209 A211 c212 A328 c329 r196.1.1 r196.1.2.1 r196.1.2.2.1 r196.1.2.2.2 x331 (H.rcap 24 rfl) (H.rcap 25 rfl) (H.rcap 26 rfl) (H.rcap 28 rfl) Hc885 h883) ?_
      rintro v887 w888 a ⟨rfl, HR889⟩ E_
      replace E := E_ _ rfl; clear E_
      obtain ⟨H_, hc890⟩ := hb886 _ _ HR889 rfl
      replace H := H_; clear H_; try dsimp only [setn, addE, goneL] at H
      refine vp 2 [(161, .bool (decide (0 < (x331.length : Int))))] E ?_
      clear E; intro a E
      revert E; refine csE 161 rfl (fun hb_ E => ?_) fun hb_ E => ?_
      ·
       have h891 : 0 < (x331.length : Int) := of_decide_eq_true hb_
       replace hP := ite_t h891 hP
       refine vp 6 [(167, .bool (!(r882 == (!(r382 == r391)))))] E ?_
       clear E; intro a E
       refine nl_ ?_
       have hx_ := Option.some.inj hP
       exact .inl ⟨rfl, !(r882 == (!(r382 == r391))), E.pk, H.sel [8, 9, 10, 11, 12, 13, 14, 15, 16, 17, 18, 19, 20, 21, 22, 23, 24, 25, 26, 27, 28] rfl, hx_.symm⟩
      have h892 : ¬ (0 < (x331.length : Int)) := of_decide_eq_false hb_
      replace hP := ite_f h892 hP
      refine vp 6 [(167, .bool (!(r882 == false)))] E ?_
      clear E; intro a E
      refine nl_ ?_
      have hx_ := Option.some.inj hP
      exact .inl ⟨rfl, !(r882 == false), E.pk, H.sel [8, 9, 10, 11, 12, 13, 14, 15, 16, 17, 18, 19, 20, 21, 22, 23, 24, 25, 26, 27, 28] rfl, hx_.symm⟩
     have h893 : ¬ (r382 = true) := (ne_true_of_eq_false hb_)
     replace hP := ite_f h893 hP
     refine vp 6 [(156, .bool (!(r869 == r391)))] E ?_
     clear E; intro a E
     revert E; refine csE 156 rfl (fun hb_ E => ?_) fun hb_ E => ?_
     ·
      have h894 : ¬ (r869 = r391) := (by simpa using hb_)
      replace hP := ite_f h894 hP
      refine vp 11 [(167, .bool true)] E ?_
      clear E; intro a E
      refine nl_ ?_
      have hx_ := Option.some.inj hP
      exact .inl ⟨rfl, true, E.pk, H.sel [8, 9, 10, 11, 12, 13, 14, 15, 16, 17, 18, 19, 20, 21, 22, 23, 24, 25, 26, 27, 28] rfl, hx_.symm⟩
     have h895 : r869 = r391 := (by simpa using hb_)
     replace hP := ite_t h895 hP
     refine vq 2 [.agg #[.int .i64 r196.1.1, .slice A205 r196.1.2.1.length c206, .slice A208 r196.1.2.2.1.length c209, .slice A211 r196.1.2.2.2.length c212]] [(157, .agg #[.int .i64 r196.1.1, .slice A205 r196.1.2.1.length c206, .slice A208 r196.1.2.2.1.length c209, .slice A211 r196.1.2.2.2.length c212]), (158, .slice A328 x331.length c329)] [cellsAt w875 g214 (0) [.int .i64 r196.1.1, .slice A205 r196.1.2.1.length c206, .slice A208 r196.1.2.2.1.length c209, .slice A211 r196.1.2.2.2.length c212]] E ((H.box 27 rfl).sub 0 _ rfl) ?_
     clear E; intro a E
     obtain ⟨r896, h897, hP⟩ := bind_inv hP
     obtain ⟨Fa898, Hc899, hb900⟩ := H.call [] [(24, false), (25, false), (26, false), (28, false)] rfl rfl trivial
     refine e_call E rfl rfl Try.func29 rfl rfl rfl (law20_accepts_calls A205 c206 A208 c209 A211 c212 A328 c329 r196.1.1 r196.1.2.1 r196.1.2.2.1 r196.1.2.2.2 x331 (H.rcap 24 rfl) (H.rcap 25 rfl) (H.rcap 26 rfl) (H.rcap 28 rfl) Hc899 h897) ?_
     rintro v901 w902 a ⟨rfl, HR903⟩ E_
     replace E := E_ _ rfl; clear E_
     obtain ⟨H_, hc904⟩ := hb900 _ _ HR903 rfl
     replace H := H_; clear H_; try dsimp only [setn, addE, goneL] at H
     refine vp 2 [(161, .bool (decide (0 < (x331.length : Int))))] E ?_
     clear E; intro a E
     revert E; refine csE 161 rfl (fun hb_ E => ?_) fun hb_ E => ?_
     ·
      have h905 : 0 < (x331.length : Int) := of_decide_eq_true hb_
      replace hP := ite_t h905 hP
      refine vp 6 [(167, .bool (!(r896 == (!(r382 == r391)))))] E ?_
      clear E; intro a E
      refine nl_ ?_
      have hx_ := Option.some.inj hP
      exact .inl ⟨rfl, !(r896 == (!(r382 == r391))), E.pk, H.sel [8, 9, 10, 11, 12, 13, 14, 15, 16, 17, 18, 19, 20, 21, 22, 23, 24, 25, 26, 27, 28] rfl, hx_.symm⟩
     have h906 : ¬ (0 < (x331.length : Int)) := of_decide_eq_false hb_
     replace hP := ite_f h906 hP
     refine vp 6 [(167, .bool (!(r896 == false)))] E ?_
     clear E; intro a E
     refine nl_ ?_
     have hx_ := Option.some.inj hP
     exact .inl ⟨rfl, !(r896 == false), E.pk, H.sel [8, 9, 10, 11, 12, 13, 14, 15, 16, 17, 18, 19, 20, 21, 22, 23, 24, 25, 26, 27, 28] rfl, hx_.symm⟩
    have h907 : ¬ (0 < (x331.length : Int)) := of_decide_eq_false hb_
    replace hP := ite_f h907 hP
    refine vp 8 [(156, .bool (!(r869 == false)))] E ?_
    clear E; intro a E
    revert E; refine csE 156 rfl (fun hb_ E => ?_) fun hb_ E => ?_
    ·
     have h908 : ¬ (r869 = false) := (by simpa using hb_)
     replace hP := ite_f h908 hP
     refine vp 11 [(167, .bool true)] E ?_
     clear E; intro a E
     refine nl_ ?_
     have hx_ := Option.some.inj hP
     exact .inl ⟨rfl, true, E.pk, H.sel [8, 9, 10, 11, 12, 13, 14, 15, 16, 17, 18, 19, 20, 21, 22, 23, 24, 25, 26, 27, 28] rfl, hx_.symm⟩
    have h909 : r869 = false := (by simpa using hb_)
    replace hP := ite_t h909 hP
    refine vq 2 [.agg #[.int .i64 r196.1.1, .slice A205 r196.1.2.1.length c206, .slice A208 r196.1.2.2.1.length c209, .slice A211 r196.1.2.2.2.length c212]] [(157, .agg #[.int .i64 r196.1.1, .slice A205 r196.1.2.1.length c206, .slice A208 r196.1.2.2.1.length c209, .slice A211 r196.1.2.2.2.length c212]), (158, .slice A328 x331.length c329)] [cellsAt w875 g214 (0) [.int .i64 r196.1.1, .slice A205 r196.1.2.1.length c206, .slice A208 r196.1.2.2.1.length c209, .slice A211 r196.1.2.2.2.length c212]] E ((H.box 27 rfl).sub 0 _ rfl) ?_
    clear E; intro a E
    obtain ⟨r910, h911, hP⟩ := bind_inv hP
    obtain ⟨Fa912, Hc913, hb914⟩ := H.call [] [(24, false), (25, false), (26, false), (28, false)] rfl rfl trivial
    refine e_call E rfl rfl Try.func29 rfl rfl rfl (law20_accepts_calls A205 c206 A208 c209 A211 c212 A328 c329 r196.1.1 r196.1.2.1 r196.1.2.2.1 r196.1.2.2.2 x331 (H.rcap 24 rfl) (H.rcap 25 rfl) (H.rcap 26 rfl) (H.rcap 28 rfl) Hc913 h911) ?_
    rintro v915 w916 a ⟨rfl, HR917⟩ E_
    replace E := E_ _ rfl; clear E_
    obtain ⟨H_, hc918⟩ := hb914 _ _ HR917 rfl
    replace H := H_; clear H_; try dsimp only [setn, addE, goneL] at H
    refine vp 2 [(161, .bool (decide (0 < (x331.length : Int))))] E ?_
    clear E; intro a E
    revert E; refine csE 161 rfl (fun hb_ E => ?_) fun hb_ E => ?_
    ·
     have h919 : 0 < (x331.length : Int) := of_decide_eq_true hb_
     replace hP := ite_t h919 hP
     refine vp 6 [(167, .bool (!(r910 == (!(r382 == r391)))))] E ?_
     clear E; intro a E
     refine nl_ ?_
     have hx_ := Option.some.inj hP
     exact .inl ⟨rfl, !(r910 == (!(r382 == r391))), E.pk, H.sel [8, 9, 10, 11, 12, 13, 14, 15, 16, 17, 18, 19, 20, 21, 22, 23, 24, 25, 26, 27, 28] rfl, hx_.symm⟩
    have h920 : ¬ (0 < (x331.length : Int)) := of_decide_eq_false hb_
    replace hP := ite_f h920 hP
    refine vp 6 [(167, .bool (!(r910 == false)))] E ?_
    clear E; intro a E
    refine nl_ ?_
    have hx_ := Option.some.inj hP
    exact .inl ⟨rfl, !(r910 == false), E.pk, H.sel [8, 9, 10, 11, 12, 13, 14, 15, 16, 17, 18, 19, 20, 21, 22, 23, 24, 25, 26, 27, 28] rfl, hx_.symm⟩
   have h921 : ¬ (0 < (x331.length : Int)) := of_decide_eq_false hb_
   replace hP := ite_f h921 hP
   refine vp 8 [(143, .bool (!(r801 == false)))] E ?_
   clear E; intro a E
   revert E; refine csE 143 rfl (fun hb_ E => ?_) fun hb_ E => ?_
   ·
    have h922 : ¬ (r801 = false) := (by simpa using hb_)
    replace hP := ite_f h922 hP
    refine vp 24 [(167, .bool true)] E ?_
    clear E; intro a E
    refine nl_ ?_
    have hx_ := Option.some.inj hP
    exact .inl ⟨rfl, true, E.pk, H.sel [8, 9, 10, 11, 12, 13, 14, 15, 16, 17, 18, 19, 20, 21, 22, 23, 24, 25, 26, 27, 28] rfl, hx_.symm⟩
   have h923 : r801 = false := (by simpa using hb_)
   replace hP := ite_t h923 hP
   refine vq 2 [.agg #[.int .i64 r171.1.1, .slice A180 r171.1.2.1.length c181, .slice A183 r171.1.2.2.1.length c184, .slice A186 r171.1.2.2.2.length c187]] [(144, .agg #[.int .i64 r171.1.1, .slice A180 r171.1.2.1.length c181, .slice A183 r171.1.2.2.1.length c184, .slice A186 r171.1.2.2.2.length c187]), (145, .slice A328 x331.length c329)] [cellsAt w807 g189 (0) [.int .i64 r171.1.1, .slice A180 r171.1.2.1.length c181, .slice A183 r171.1.2.2.1.length c184, .slice A186 r171.1.2.2.2.length c187]] E ((H.box 23 rfl).sub 0 _ rfl) ?_
   clear E; intro a E
   obtain ⟨r924, h925, hP⟩ := bind_inv hP
   obtain ⟨Fa926, Hc927, hb928⟩ := H.call [] [(20, false), (21, false), (22, false), (28, false)] rfl rfl trivial
   refine e_call E rfl rfl Try.func29 rfl rfl rfl (law20_accepts_calls A180 c181 A183 c184 A186 c187 A328 c329 r171.1.1 r171.1.2.1 r171.1.2.2.1 r171.1.2.2.2 x331 (H.rcap 20 rfl) (H.rcap 21 rfl) (H.rcap 22 rfl) (H.rcap 28 rfl) Hc927 h925) ?_
   rintro v929 w930 a ⟨rfl, HR931⟩ E_
   replace E := E_ _ rfl; clear E_
   obtain ⟨H_, hc932⟩ := hb928 _ _ HR931 rfl
   replace H := H_; clear H_; try dsimp only [setn, addE, goneL] at H
   refine vp 2 [(148, .bool (decide (0 < (x331.length : Int))))] E ?_
   clear E; intro a E
   revert E; refine csE 148 rfl (fun hb_ E => ?_) fun hb_ E => ?_
   ·
    have h933 : 0 < (x331.length : Int) := of_decide_eq_true hb_
    replace hP := ite_t h933 hP
    refine vp 2 [(150, .bool r382)] E ?_
    clear E; intro a E
    revert E; refine csE 150 rfl (fun hb_ E => ?_) fun hb_ E => ?_
    ·
     have h934 : r382 = true := hb_
     replace hP := ite_t h934 hP
     refine vp 6 [(156, .bool (!(r924 == true)))] E ?_
     clear E; intro a E
     revert E; refine csE 156 rfl (fun hb_ E => ?_) fun hb_ E => ?_
     ·
      have h935 : ¬ (r924 = true) := (by simpa using hb_)
      replace hP := ite_f h935 hP
      refine vp 11 [(167, .bool true)] E ?_
      clear E; intro a E
      refine nl_ ?_
      have hx_ := Option.some.inj hP
      exact .inl ⟨rfl, true, E.pk, H.sel [8, 9, 10, 11, 12, 13, 14, 15, 16, 17, 18, 19, 20, 21, 22, 23, 24, 25, 26, 27, 28] rfl, hx_.symm⟩
     have h936 : r924 = true := (by simpa using hb_)
     replace hP := ite_t h936 hP
     refine vq 2 [.agg #[.int .i64 r196.1.1, .slice A205 r196.1.2.1.length c206, .slice A208 r196.1.2.2.1.length c209, .slice A211 r196.1.2.2.2.length c212]] [(157, .agg #[.int .i64 r196.1.1, .slice A205 r196.1.2.1.length c206, .slice A208 r196.1.2.2.1.length c209, .slice A211 r196.1.2.2.2.length c212]), (158, .slice A328 x331.length c329)] [cellsAt w930 g214 (0) [.int .i64 r196.1.1, .slice A205 r196.1.2.1.length c206, .slice A208 r196.1.2.2.1.length c209, .slice A211 r196.1.2.2.2.length c212]] E ((H.box 27 rfl).sub 0 _ rfl) ?_
     clear E; intro a E
     obtain ⟨r937, h938, hP⟩ := bind_inv hP
     obtain ⟨Fa939, Hc940, hb941⟩ := H.call [] [(24, false), (25, false), (26, false), (28, false)] rfl rfl trivial
     refine e_call E rfl rfl Try.func29 rfl rfl rfl (law20_accepts_calls A205 c206 A208 c209 A211 c212 A328 c329 r196.1.1 r196.1.2.1 r196.1.2.2.1 r196.1.2.2.2 x331 (H.rcap 24 rfl) (H.rcap 25 rfl) (H.rcap 26 rfl) (H.rcap 28 rfl) Hc940 h938) ?_
     rintro v942 w943 a ⟨rfl, HR944⟩ E_
     replace E := E_ _ rfl; clear E_
     obtain ⟨H_, hc945⟩ := hb941 _ _ HR944 rfl
     replace H := H_; clear H_; try dsimp only [setn, addE, goneL] at H
     refine vp 2 [(161, .bool (decide (0 < (x331.length : Int))))] E ?_
     clear E; intro a E
     revert E; refine csE 161 rfl (fun hb_ E => ?_) fun hb_ E => ?_
     ·
      have h946 : 0 < (x331.length : Int) := of_decide_eq_true hb_
      replace hP := ite_t h946 hP
      refine vp 6 [(167, .bool (!(r937 == (!(r382 == r391)))))] E ?_
      clear E; intro a E
      refine nl_ ?_
      have hx_ := Option.some.inj hP
      exact .inl ⟨rfl, !(r937 == (!(r382 == r391))), E.pk, H.sel [8, 9, 10, 11, 12, 13, 14, 15, 16, 17, 18, 19, 20, 21, 22, 23, 24, 25, 26, 27, 28] rfl, hx_.symm⟩
     have h947 : ¬ (0 < (x331.length : Int)) := of_decide_eq_false hb_
     replace hP := ite_f h947 hP
     refine vp 6 [(167, .bool (!(r937 == false)))] E ?_
     clear E; intro a E
     refine nl_ ?_
     have hx_ := Option.some.inj hP
     exact .inl ⟨rfl, !(r937 == false), E.pk, H.sel [8, 9, 10, 11, 12, 13, 14, 15, 16, 17, 18, 19, 20, 21, 22, 23, 24, 25, 26, 27, 28] rfl, hx_.symm⟩
    have h948 : ¬ (r382 = true) := (ne_true_of_eq_false hb_)
    replace hP := ite_f h948 hP
    refine vp 6 [(156, .bool (!(r924 == r391)))] E ?_
    clear E; intro a E
    revert E; refine csE 156 rfl (fun hb_ E => ?_) fun hb_ E => ?_
    ·
     have h949 : ¬ (r924 = r391) := (by simpa using hb_)
     replace hP := ite_f h949 hP
     refine vp 11 [(167, .bool true)] E ?_
     clear E; intro a E
     refine nl_ ?_
     have hx_ := Option.some.inj hP
     exact .inl ⟨rfl, true, E.pk, H.sel [8, 9, 10, 11, 12, 13, 14, 15, 16, 17, 18, 19, 20, 21, 22, 23, 24, 25, 26, 27, 28] rfl, hx_.symm⟩
    have h950 : r924 = r391 := (by simpa using hb_)
    replace hP := ite_t h950 hP
    refine vq 2 [.agg #[.int .i64 r196.1.1, .slice A205 r196.1.2.1.length c206, .slice A208 r196.1.2.2.1.length c209, .slice A211 r196.1.2.2.2.length c212]] [(157, .agg #[.int .i64 r196.1.1, .slice A205 r196.1.2.1.length c206, .slice A208 r196.1.2.2.1.length c209, .slice A211 r196.1.2.2.2.length c212]), (158, .slice A328 x331.length c329)] [cellsAt w930 g214 (0) [.int .i64 r196.1.1, .slice A205 r196.1.2.1.length c206, .slice A208 r196.1.2.2.1.length c209, .slice A211 r196.1.2.2.2.length c212]] E ((H.box 27 rfl).sub 0 _ rfl) ?_
    clear E; intro a E
    obtain ⟨r951, h952, hP⟩ := bind_inv hP
    obtain ⟨Fa953, Hc954, hb955⟩ := H.call [] [(24, false), (25, false), (26, false), (28, false)] rfl rfl trivial
    refine e_call E rfl rfl Try.func29 rfl rfl rfl (law20_accepts_calls A205 c206 A208 c209 A211 c212 A328 c329 r196.1.1 r196.1.2.1 r196.1.2.2.1 r196.1.2.2.2 x331 (H.rcap 24 rfl) (H.rcap 25 rfl) (H.rcap 26 rfl) (H.rcap 28 rfl) Hc954 h952) ?_
    rintro v956 w957 a ⟨rfl, HR958⟩ E_
    replace E := E_ _ rfl; clear E_
    obtain ⟨H_, hc959⟩ := hb955 _ _ HR958 rfl
    replace H := H_; clear H_; try dsimp only [setn, addE, goneL] at H
    refine vp 2 [(161, .bool (decide (0 < (x331.length : Int))))] E ?_
    clear E; intro a E
    revert E; refine csE 161 rfl (fun hb_ E => ?_) fun hb_ E => ?_
    ·
     have h960 : 0 < (x331.length : Int) := of_decide_eq_true hb_
     replace hP := ite_t h960 hP
     refine vp 6 [(167, .bool (!(r951 == (!(r382 == r391)))))] E ?_
     clear E; intro a E
     refine nl_ ?_
     have hx_ := Option.some.inj hP
     exact .inl ⟨rfl, !(r951 == (!(r382 == r391))), E.pk, H.sel [8, 9, 10, 11, 12, 13, 14, 15, 16, 17, 18, 19, 20, 21, 22, 23, 24, 25, 26, 27, 28] rfl, hx_.symm⟩
    have h961 : ¬ (0 < (x331.length : Int)) := of_decide_eq_false hb_
    replace hP := ite_f h961 hP
    refine vp 6 [(167, .bool (!(r951 == false)))] E ?_
    clear E; intro a E
    refine nl_ ?_
    have hx_ := Option.some.inj hP
    exact .inl ⟨rfl, !(r951 == false), E.pk, H.sel [8, 9, 10, 11, 12, 13, 14, 15, 16, 17, 18, 19, 20, 21, 22, 23, 24, 25, 26, 27, 28] rfl, hx_.symm⟩
   have h962 : ¬ (0 < (x331.length : Int)) := of_decide_eq_false hb_
   replace hP := ite_f h962 hP
   refine vp 8 [(156, .bool (!(r924 == false)))] E ?_
   clear E; intro a E
   revert E; refine csE 156 rfl (fun hb_ E => ?_) fun hb_ E => ?_
   ·
    have h963 : ¬ (r924 = false) := (by simpa using hb_)
    replace hP := ite_f h963 hP
    refine vp 11 [(167, .bool true)] E ?_
    clear E; intro a E
    refine nl_ ?_
    have hx_ := Option.some.inj hP
    exact .inl ⟨rfl, true, E.pk, H.sel [8, 9, 10, 11, 12, 13, 14, 15, 16, 17, 18, 19, 20, 21, 22, 23, 24, 25, 26, 27, 28] rfl, hx_.symm⟩
   have h964 : r924 = false := (by simpa using hb_)
   replace hP := ite_t h964 hP
   refine vq 2 [.agg #[.int .i64 r196.1.1, .slice A205 r196.1.2.1.length c206, .slice A208 r196.1.2.2.1.length c209, .slice A211 r196.1.2.2.2.length c212]] [(157, .agg #[.int .i64 r196.1.1, .slice A205 r196.1.2.1.length c206, .slice A208 r196.1.2.2.1.length c209, .slice A211 r196.1.2.2.2.length c212]), (158, .slice A328 x331.length c329)] [cellsAt w930 g214 (0) [.int .i64 r196.1.1, .slice A205 r196.1.2.1.length c206, .slice A208 r196.1.2.2.1.length c209, .slice A211 r196.1.2.2.2.length c212]] E ((H.box 27 rfl).sub 0 _ rfl) ?_
   clear E; intro a E
   obtain ⟨r965, h966, hP⟩ := bind_inv hP
   obtain ⟨Fa967, Hc968, hb969⟩ := H.call [] [(24, false), (25, false), (26, false), (28, false)] rfl rfl trivial
   refine e_call E rfl rfl Try.func29 rfl rfl rfl (law20_accepts_calls A205 c206 A208 c209 A211 c212 A328 c329 r196.1.1 r196.1.2.1 r196.1.2.2.1 r196.1.2.2.2 x331 (H.rcap 24 rfl) (H.rcap 25 rfl) (H.rcap 26 rfl) (H.rcap 28 rfl) Hc968 h966) ?_
   rintro v970 w971 a ⟨rfl, HR972⟩ E_
   replace E := E_ _ rfl; clear E_
   obtain ⟨H_, hc973⟩ := hb969 _ _ HR972 rfl
   replace H := H_; clear H_; try dsimp only [setn, addE, goneL] at H
   refine vp 2 [(161, .bool (decide (0 < (x331.length : Int))))] E ?_
   clear E; intro a E
   revert E; refine csE 161 rfl (fun hb_ E => ?_) fun hb_ E => ?_
   ·
    have h974 : 0 < (x331.length : Int) := of_decide_eq_true hb_
    replace hP := ite_t h974 hP
    refine vp 6 [(167, .bool (!(r965 == (!(r382 == r391)))))] E ?_
    clear E; intro a E
    refine nl_ ?_
    have hx_ := Option.some.inj hP
    exact .inl ⟨rfl, !(r965 == (!(r382 == r391))), E.pk, H.sel [8, 9, 10, 11, 12, 13, 14, 15, 16, 17, 18, 19, 20, 21, 22, 23, 24, 25, 26, 27, 28] rfl, hx_.symm⟩
   have h975 : ¬ (0 < (x331.length : Int)) := of_decide_eq_false hb_
   replace hP := ite_f h975 hP
   refine vp 6 [(167, .bool (!(r965 == false)))] E ?_
   clear E; intro a E
   refine nl_ ?_
   have hx_ := Option.some.inj hP
   exact .inl ⟨rfl, !(r965 == false), E.pk, H.sel [8, 9, 10, 11, 12, 13, 14, 15, 16, 17, 18, 19, 20, 21, 22, 23, 24, 25, 26, 27, 28] rfl, hx_.symm⟩
  have h976 : ¬ (0 < (x331.length : Int)) := of_decide_eq_false hb_
  replace hP := ite_f h976 hP
  refine vp 5 [(130, .bool (!(r789 == false)))] E ?_
  clear E; intro a E
  revert E; refine csE 130 rfl (fun hb_ E => ?_) fun hb_ E => ?_
  ·
   have h977 : ¬ (r789 = false) := (by simpa using hb_)
   replace hP := ite_f h977 hP
   refine vp 37 [(167, .bool true)] E ?_
   clear E; intro a E
   refine nl_ ?_
   have hx_ := Option.some.inj hP
   exact .inl ⟨rfl, true, E.pk, H.sel [8, 9, 10, 11, 12, 13, 14, 15, 16, 17, 18, 19, 20, 21, 22, 23, 24, 25, 26, 27, 28] rfl, hx_.symm⟩
  have h978 : r789 = false := (by simpa using hb_)
  replace hP := ite_t h978 hP
  refine vq 2 [.agg #[.int .i64 r146.1.1, .slice A155 r146.1.2.1.length c156, .slice A158 r146.1.2.2.1.length c159, .slice A161 r146.1.2.2.2.length c162]] [(131, .agg #[.int .i64 r146.1.1, .slice A155 r146.1.2.1.length c156, .slice A158 r146.1.2.2.1.length c159, .slice A161 r146.1.2.2.2.length c162]), (132, .slice A328 x331.length c329)] [cellsAt w795 g164 (0) [.int .i64 r146.1.1, .slice A155 r146.1.2.1.length c156, .slice A158 r146.1.2.2.1.length c159, .slice A161 r146.1.2.2.2.length c162]] E ((H.box 19 rfl).sub 0 _ rfl) ?_
  clear E; intro a E
  obtain ⟨r979, h980, hP⟩ := bind_inv hP
  obtain ⟨Fa981, Hc982, hb983⟩ := H.call [] [(16, false), (17, false), (18, false), (28, false)] rfl rfl trivial
  refine e_call E rfl rfl Try.func29 rfl rfl rfl (law20_accepts_calls A155 c156 A158 c159 A161 c162 A328 c329 r146.1.1 r146.1.2.1 r146.1.2.2.1 r146.1.2.2.2 x331 (H.rcap 16 rfl) (H.rcap 17 rfl) (H.rcap 18 rfl) (H.rcap 28 rfl) Hc982 h980) ?_
  rintro v984 w985 a ⟨rfl, HR986⟩ E_
  replace E := E_ _ rfl; clear E_
  obtain ⟨H_, hc987⟩ := hb983 _ _ HR986 rfl
  replace H := H_; clear H_; try dsimp only [setn, addE, goneL] at H
  refine vp 2 [(135, .bool (decide (0 < (x331.length : Int))))] E ?_
  clear E; intro a E
  revert E; refine csE 135 rfl (fun hb_ E => ?_) fun hb_ E => ?_
  ·
   have h988 : 0 < (x331.length : Int) := of_decide_eq_true hb_
   replace hP := ite_t h988 hP
   refine vp 3 [(138, .bool r382)] E ?_
   clear E; intro a E
   revert E; refine csE 138 rfl (fun hb_ E => ?_) fun hb_ E => ?_
   ·
    have h989 : r382 = true := hb_
    replace hP := ite_t h989 hP
    refine vp 5 [(143, .bool (!(r979 == r391)))] E ?_
    clear E; intro a E
    revert E; refine csE 143 rfl (fun hb_ E => ?_) fun hb_ E => ?_
    ·
     have h990 : ¬ (r979 = r391) := (by simpa using hb_)
     replace hP := ite_f h990 hP
     refine vp 24 [(167, .bool true)] E ?_
     clear E; intro a E
     refine nl_ ?_
     have hx_ := Option.some.inj hP
     exact .inl ⟨rfl, true, E.pk, H.sel [8, 9, 10, 11, 12, 13, 14, 15, 16, 17, 18, 19, 20, 21, 22, 23, 24, 25, 26, 27, 28] rfl, hx_.symm⟩
    have h991 : r979 = r391 := (by simpa using hb_)
    replace hP := ite_t h991 hP
    refine vq 2 [.agg #[.int .i64 r171.1.1, .slice A180 r171.1.2.1.length c181, .slice A183 r171.1.2.2.1.length c184, .slice A186 r171.1.2.2.2.length c187]] [(144, .agg #[.int .i64 r171.1.1, .slice A180 r171.1.2.1.length c181, .slice A183 r171.1.2.2.1.length c184, .slice A186 r171.1.2.2.2.length c187]), (145, .slice A328 x331.length c329)] [cellsAt w985 g189 (0) [.int .i64 r171.1.1, .slice A180 r171.1.2.1.length c181, .slice A183 r171.1.2.2.1.length c184, .slice A186 r171.1.2.2.2.length c187]] E ((H.box 23 rfl).sub 0 _ rfl) ?_
    clear E; intro a E
    obtain ⟨r992, h993, hP⟩ := bind_inv hP
    obtain ⟨Fa994, Hc995, hb996⟩ := H.call [] [(20, false), (21, false), (22, false), (28, false)] rfl rfl trivial
    refine e_call E rfl rfl Try.func29 rfl rfl rfl (law20_accepts_calls A180 c181 A183 c184 A186 c187 A328 c329 r171.1.1 r171.1.2.1 r171.1.2.2.1 r171.1.2.2.2 x331 (H.rcap 20 rfl) (H.rcap 21 rfl) (H.rcap 22 rfl) (H.rcap 28 rfl) Hc995 h993) ?_
    rintro v997 w998 a ⟨rfl, HR999⟩ E_
    replace E := E_ _ rfl; clear E_
    obtain ⟨H_, hc1000⟩ := hb996 _ _ HR999 rfl
    replace H := H_; clear H_; try dsimp only [setn, addE, goneL] at H
    refine vp 2 [(148, .bool (decide (0 < (x331.length : Int))))] E ?_
    clear E; intro a E
    revert E; refine csE 148 rfl (fun hb_ E => ?_) fun hb_ E => ?_
    ·
     have h1001 : 0 < (x331.length : Int) := of_decide_eq_true hb_
     replace hP := ite_t h1001 hP
     refine vp 2 [(150, .bool r382)] E ?_
     clear E; intro a E
     revert E; refine csE 150 rfl (fun hb_ E => ?_) fun hb_ E => ?_
     ·
      have h1002 : r382 = true := hb_
      replace hP := ite_t h1002 hP
      refine vp 6 [(156, .bool (!(r992 == true)))] E ?_
      clear E; intro a E
      revert E; refine csE 156 rfl (fun hb_ E => ?_) fun hb_ E => ?_
      ·
       have h1003 : ¬ (r992 = true) := (by simpa using hb_)
       replace hP := ite_f h1003 hP
       refine vp 11 [(167, .bool true)] E ?_
       clear E; intro a E
       refine nl_ ?_
       have hx_ := Option.some.inj hP
       exact .inl ⟨rfl, true, E.pk, H.sel [8, 9, 10, 11, 12, 13, 14, 15, 16, 17, 18, 19, 20, 21, 22, 23, 24, 25, 26, 27, 28] rfl, hx_.symm⟩
      have h1004 : r992 = true := (by simpa using hb_)
      replace hP := ite_t h1004 hP
      refine vq 2 [.agg #[.int .i64 r196.1.1, .slice A205 r196.1.2.1.length c206, .slice A208 r196.1.2.2.1.length c209, .slice A211 r196.1.2.2.2.length c212]] [(157, .agg #[.int .i64 r196.1.1, .slice A205 r196.1.2.1.length c206, .slice A208 r196.1.2.2.1.length c209, .slice A211 r196.1.2.2.2.length c212]), (158, .slice A328 x331.length c329)] [cellsAt w998 g214 (0) [.int .i64 r196.1.1, .slice A205 r196.1.2.1.length c206, .slice A208 r196.1.2.2.1.length c209, .slice A211 r196.1.2.2.2.length c212]] E ((H.box 27 rfl).sub 0 _ rfl) ?_
      clear E; intro a E
      obtain ⟨r1005, h1006, hP⟩ := bind_inv hP
      obtain ⟨Fa1007, Hc1008, hb1009⟩ := H.call [] [(24, false), (25, false), (26, false), (28, false)] rfl rfl trivial
      refine e_call E rfl rfl Try.func29 rfl rfl rfl (law20_accepts_calls A205 c206 A208 c209 A211 c212 A328 c329 r196.1.1 r196.1.2.1 r196.1.2.2.1 r196.1.2.2.2 x331 (H.rcap 24 rfl) (H.rcap 25 rfl) (H.rcap 26 rfl) (H.rcap 28 rfl) Hc1008 h1006) ?_
      rintro v1010 w1011 a ⟨rfl, HR1012⟩ E_
      replace E := E_ _ rfl; clear E_
      obtain ⟨H_, hc1013⟩ := hb1009 _ _ HR1012 rfl
      replace H := H_; clear H_; try dsimp only [setn, addE, goneL] at H
      refine vp 2 [(161, .bool (decide (0 < (x331.length : Int))))] E ?_
      clear E; intro a E
      revert E; refine csE 161 rfl (fun hb_ E => ?_) fun hb_ E => ?_
      ·
       have h1014 : 0 < (x331.length : Int) := of_decide_eq_true hb_
       replace hP := ite_t h1014 hP
       refine vp 6 [(167, .bool (!(r1005 == (!(r382 == r391)))))] E ?_
       clear E; intro a E
       refine nl_ ?_
       have hx_ := Option.some.inj hP
       exact .inl ⟨rfl, !(r1005 == (!(r382 == r391))), E.pk, H.sel [8, 9, 10, 11, 12, 13, 14, 15, 16, 17, 18, 19, 20, 21, 22, 23, 24, 25, 26, 27, 28] rfl, hx_.symm⟩
      have h1015 : ¬ (0 < (x331.length : Int)) := of_decide_eq_false hb_
      replace hP := ite_f h1015 hP
      refine vp 6 [(167, .bool (!(r1005 == false)))] E ?_
      clear E; intro a E
      refine nl_ ?_
      have hx_ := Option.some.inj hP
      exact .inl ⟨rfl, !(r1005 == false), E.pk, H.sel [8, 9, 10, 11, 12, 13, 14, 15, 16, 17, 18, 19, 20, 21, 22, 23, 24, 25, 26, 27, 28] rfl, hx_.symm⟩
     have h1016 : ¬ (r382 = true) := (ne_true_of_eq_false hb_)
     replace hP := ite_f h1016 hP
     refine vp 6 [(156, .bool (!(r992 == r391)))] E ?_
     clear E; intro a E
     revert E; refine csE 156 rfl (fun hb_ E => ?_) fun hb_ E => ?_
     ·
      have h1017 : ¬ (r992 = r391) := (by simpa using hb_)
      replace hP := ite_f h1017 hP
      refine vp 11 [(167, .bool true)] E ?_
      clear E; intro a E
      refine nl_ ?_
      have hx_ := Option.some.inj hP
      exact .inl ⟨rfl, true, E.pk, H.sel [8, 9, 10, 11, 12, 13, 14, 15, 16, 17, 18, 19, 20, 21, 22, 23, 24, 25, 26, 27, 28] rfl, hx_.symm⟩
     have h1018 : r992 = r391 := (by simpa using hb_)
     replace hP := ite_t h1018 hP
     refine vq 2 [.agg #[.int .i64 r196.1.1, .slice A205 r196.1.2.1.length c206, .slice A208 r196.1.2.2.1.length c209, .slice A211 r196.1.2.2.2.length c212]] [(157, .agg #[.int .i64 r196.1.1, .slice A205 r196.1.2.1.length c206, .slice A208 r196.1.2.2.1.length c209, .slice A211 r196.1.2.2.2.length c212]), (158, .slice A328 x331.length c329)] [cellsAt w998 g214 (0) [.int .i64 r196.1.1, .slice A205 r196.1.2.1.length c206, .slice A208 r196.1.2.2.1.length c209, .slice A211 r196.1.2.2.2.length c212]] E ((H.box 27 rfl).sub 0 _ rfl) ?_
     clear E; intro a E
     obtain ⟨r1019, h1020, hP⟩ := bind_inv hP
     obtain ⟨Fa1021, Hc1022, hb1023⟩ := H.call [] [(24, false), (25, false), (26, false), (28, false)] rfl rfl trivial
     refine e_call E rfl rfl Try.func29 rfl rfl rfl (law20_accepts_calls A205 c206 A208 c209 A211 c212 A328 c329 r196.1.1 r196.1.2.1 r196.1.2.2.1 r196.1.2.2.2 x331 (H.rcap 24 rfl) (H.rcap 25 rfl) (H.rcap 26 rfl) (H.rcap 28 rfl) Hc1022 h1020) ?_
     rintro v1024 w1025 a ⟨rfl, HR1026⟩ E_
     replace E := E_ _ rfl; clear E_
     obtain ⟨H_, hc1027⟩ := hb1023 _ _ HR1026 rfl
     replace H := H_; clear H_; try dsimp only [setn, addE, goneL] at H
     refine vp 2 [(161, .bool (decide (0 < (x331.length : Int))))] E ?_
     clear E; intro a E
     revert E; refine csE 161 rfl (fun hb_ E => ?_) fun hb_ E => ?_
     ·
      have h1028 : 0 < (x331.length : Int) := of_decide_eq_true hb_
      replace hP := ite_t h1028 hP
      refine vp 6 [(167, .bool (!(r1019 == (!(r382 == r391)))))] E ?_
      clear E; intro a E
      refine nl_ ?_
      have hx_ := Option.some.inj hP
      exact .inl ⟨rfl, !(r1019 == (!(r382 == r391))), E.pk, H.sel [8, 9, 10, 11, 12, 13, 14, 15, 16, 17, 18, 19, 20, 21, 22, 23, 24, 25, 26, 27, 28] rfl, hx_.symm⟩
     have h1029 : ¬ (0 < (x331.length : Int)) := of_decide_eq_false hb_
     replace hP := ite_f h1029 hP
     refine vp 6 [(167, .bool (!(r1019 == false)))] E ?_
     clear E; intro a E
     refine nl_ ?_
     have hx_ := Option.some.inj hP
     exact .inl ⟨rfl, !(r1019 == false), E.pk, H.sel [8, 9, 10, 11, 12, 13, 14, 15, 16, 17, 18, 19, 20, 21, 22, 23, 24, 25, 26, 27, 28] rfl, hx_.symm⟩
    have h1030 : ¬ (0 < (x331.length : Int)) := of_decide_eq_false hb_
    replace hP := ite_f h1030 hP
    refine vp 8 [(156, .bool (!(r992 == false)))] E ?_
    clear E; intro a E
    revert E; refine csE 156 rfl (fun hb_ E => ?_) fun hb_ E => ?_
    ·
     have h1031 : ¬ (r992 = false) := (by simpa using hb_)
     replace hP := ite_f h1031 hP
     refine vp 11 [(167, .bool true)] E ?_
     clear E; intro a E
     refine nl_ ?_
     have hx_ := Option.some.inj hP
     exact .inl ⟨rfl, true, E.pk, H.sel [8, 9, 10, 11, 12, 13, 14, 15, 16, 17, 18, 19, 20, 21, 22, 23, 24, 25, 26, 27, 28] rfl, hx_.symm⟩
    have h1032 : r992 = false := (by simpa using hb_)
    replace hP := ite_t h1032 hP
    refine vq 2 [.agg #[.int .i64 r196.1.1, .slice A205 r196.1.2.1.length c206, .slice A208 r196.1.2.2.1.length c209, .slice A211 r196.1.2.2.2.length c212]] [(157, .agg #[.int .i64 r196.1.1, .slice A205 r196.1.2.1.length c206, .slice A208 r196.1.2.2.1.length c209, .slice A211 r196.1.2.2.2.length c212]), (158, .slice A328 x331.length c329)] [cellsAt w998 g214 (0) [.int .i64 r196.1.1, .slice A205 r196.1.2.1.length c206, .slice A208 r196.1.2.2.1.length c209, .slice A211 r196.1.2.2.2.length c212]] E ((H.box 27 rfl).sub 0 _ rfl) ?_
    clear E; intro a E
    obtain ⟨r1033, h1034, hP⟩ := bind_inv hP
    obtain ⟨Fa1035, Hc1036, hb1037⟩ := H.call [] [(24, false), (25, false), (26, false), (28, false)] rfl rfl trivial
    refine e_call E rfl rfl Try.func29 rfl rfl rfl (law20_accepts_calls A205 c206 A208 c209 A211 c212 A328 c329 r196.1.1 r196.1.2.1 r196.1.2.2.1 r196.1.2.2.2 x331 (H.rcap 24 rfl) (H.rcap 25 rfl) (H.rcap 26 rfl) (H.rcap 28 rfl) Hc1036 h1034) ?_
    rintro v1038 w1039 a ⟨rfl, HR1040⟩ E_
    replace E := E_ _ rfl; clear E_
    obtain ⟨H_, hc1041⟩ := hb1037 _ _ HR1040 rfl
    replace H := H_; clear H_; try dsimp only [setn, addE, goneL] at H
    refine vp 2 [(161, .bool (decide (0 < (x331.length : Int))))] E ?_
    clear E; intro a E
    revert E; refine csE 161 rfl (fun hb_ E => ?_) fun hb_ E => ?_
    ·
     have h1042 : 0 < (x331.length : Int) := of_decide_eq_true hb_
     replace hP := ite_t h1042 hP
     refine vp 6 [(167, .bool (!(r1033 == (!(r382 == r391)))))] E ?_
     clear E; intro a E
     refine nl_ ?_
     have hx_ := Option.some.inj hP
     exact .inl ⟨rfl, !(r1033 == (!(r382 == r391))), E.pk, H.sel [8, 9, 10, 11, 12, 13, 14, 15, 16, 17, 18, 19, 20, 21, 22, 23, 24, 25, 26, 27, 28] rfl, hx_.symm⟩
    have h1043 : ¬ (0 < (x331.length : Int)) := of_decide_eq_false hb_
    replace hP := ite_f h1043 hP
    refine vp 6 [(167, .bool (!(r1033 == false)))] E ?_
    clear E; intro a E
    refine nl_ ?_
    have hx_ := Option.some.inj hP
    exact .inl ⟨rfl, !(r1033 == false), E.pk, H.sel [8, 9, 10, 11, 12, 13, 14, 15, 16, 17, 18, 19, 20, 21, 22, 23, 24, 25, 26, 27, 28] rfl, hx_.symm⟩
   have h1044 : ¬ (r382 = true) := (ne_true_of_eq_false hb_)
   replace hP := ite_f h1044 hP
   refine vp 5 [(143, .bool (!(r979 == false)))] E ?_
   clear E; intro a E
   revert E; refine csE 143 rfl (fun hb_ E => ?_) fun hb_ E => ?_
   ·
    have h1045 : ¬ (r979 = false) := (by simpa using hb_)
    replace hP := ite_f h1045 hP
    refine vp 24 [(167, .bool true)] E ?_
    clear E; intro a E
    refine nl_ ?_
    have hx_ := Option.some.inj hP
    exact .inl ⟨rfl, true, E.pk, H.sel [8, 9, 10, 11, 12, 13, 14, 15, 16, 17, 18, 19, 20, 21, 22, 23, 24, 25, 26, 27, 28] rfl, hx_.symm⟩
   have h1046 : r979 = false := (by simpa using hb_)
   replace hP := ite_t h1046 hP
   refine vq 2 [.agg #[.int .i64 r171.1.1, .slice A180 r171.1.2.1.length c181, .slice A183 r171.1.2.2.1.length c184, .slice A186 r171.1.2.2.2.length c187]] [(144, .agg #[.int .i64 r171.1.1, .slice A180 r171.1.2.1.length c181, .slice A183 r171.1.2.2.1.length c184, .slice A186 r171.1.2.2.2.length c187]), (145, .slice A328 x331.length c329)] [cellsAt w985 g189 (0) [.int .i64 r171.1.1, .slice A180 r171.1.2.1.length c181, .slice A183 r171.1.2.2.1.length c184, .slice A186 r171.1.2.2.2.length c187]] E ((H.box 23 rfl).sub 0 _ rfl) ?_
   clear E; intro a E
   obtain ⟨r1047, h1048, hP⟩ := bind_inv hP
   obtain ⟨Fa1049, Hc1050, hb1051⟩ := H.call [] [(20, false), (21, false), (22, false), (28, false)] rfl rfl trivial
   refine e_call E rfl rfl Try.func29 rfl rfl rfl (law20_accepts_calls A180 c181 A183 c184 A186 c187 A328 c329 r171.1.1 r171.1.2.1 r171.1.2.2.1 r171.1.2.2.2 x331 (H.rcap 20 rfl) (H.rcap 21 rfl) (H.rcap 22 rfl) (H.rcap 28 rfl) Hc1050 h1048) ?_
   rintro v1052 w1053 a ⟨rfl, HR1054⟩ E_
   replace E := E_ _ rfl; clear E_
   obtain ⟨H_, hc1055⟩ := hb1051 _ _ HR1054 rfl
   replace H := H_; clear H_; try dsimp only [setn, addE, goneL] at H
   refine vp 2 [(148, .bool (decide (0 < (x331.length : Int))))] E ?_
   clear E; intro a E
   revert E; refine csE 148 rfl (fun hb_ E => ?_) fun hb_ E => ?_
   ·
    have h1056 : 0 < (x331.length : Int) := of_decide_eq_true hb_
    replace hP := ite_t h1056 hP
    refine vp 2 [(150, .bool r382)] E ?_
    clear E; intro a E
    revert E; refine csE 150 rfl (fun hb_ E => ?_) fun hb_ E => ?_
    ·
     have h1057 : r382 = true := hb_
     replace hP := ite_t h1057 hP
     refine vp 6 [(156, .bool (!(r1047 == true)))] E ?_
     clear E; intro a E
     revert E; refine csE 156 rfl (fun hb_ E => ?_) fun hb_ E => ?_
     ·
      have h1058 : ¬ (r1047 = true) := (by simpa using hb_)
      replace hP := ite_f h1058 hP
      refine vp 11 [(167, .bool true)] E ?_
      clear E; intro a E
      refine nl_ ?_
      have hx_ := Option.some.inj hP
      exact .inl ⟨rfl, true, E.pk, H.sel [8, 9, 10, 11, 12, 13, 14, 15, 16, 17, 18, 19, 20, 21, 22, 23, 24, 25, 26, 27, 28] rfl, hx_.symm⟩
     have h1059 : r1047 = true := (by simpa using hb_)
     replace hP := ite_t h1059 hP
     refine vq 2 [.agg #[.int .i64 r196.1.1, .slice A205 r196.1.2.1.length c206, .slice A208 r196.1.2.2.1.length c209, .slice A211 r196.1.2.2.2.length c212]] [(157, .agg #[.int .i64 r196.1.1, .slice A205 r196.1.2.1.length c206, .slice A208 r196.1.2.2.1.length c209, .slice A211 r196.1.2.2.2.length c212]), (158, .slice A328 x331.length c329)] [cellsAt w1053 g214 (0) [.int .i64 r196.1.1, .slice A205 r196.1.2.1.length c206, .slice A208 r196.1.2.2.1.length c209, .slice A211 r196.1.2.2.2.length c212]] E ((H.box 27 rfl).sub 0 _ rfl) ?_
     clear E; intro a E
     obtain ⟨r1060, h1061, hP⟩ := bind_inv hP
     obtain ⟨Fa1062, Hc1063, hb1064⟩ := H.call [] [(24, false), (25, false), (26, false), (28, false)] rfl rfl trivial
     refine e_call E rfl rfl Try.func29 rfl rfl rfl (law20_accepts_calls A205 c206 A208 c209 A211 c212 A328 c329 r196.1.1 r196.1.2.1 r196.1.2.2.1 r196.1.2.2.2 x331 (H.rcap 24 rfl) (H.rcap 25 rfl) (H.rcap 26 rfl) (H.rcap 28 rfl) Hc1063 h1061) ?_
     rintro v1065 w1066 a ⟨rfl, HR1067⟩ E_
     replace E := E_ _ rfl; clear E_
     obtain ⟨H_, hc1068⟩ := hb1064 _ _ HR1067 rfl
     replace H := H_; clear H_; try dsimp only [setn, addE, goneL] at H
     refine vp 2 [(161, .bool (decide (0 < (x331.length : Int))))] E ?_
     clear E; intro a E
     revert E; refine csE 161 rfl (fun hb_ E => ?_) fun hb_ E => ?_
     ·
      have h1069 : 0 < (x331.length : Int) := of_decide_eq_true hb_
      replace hP := ite_t h1069 hP
      refine vp 6 [(167, .bool (!(r1060 == (!(r382 == r391)))))] E ?_
      clear E; intro a E
      refine nl_ ?_
      have hx_ := Option.some.inj hP
      exact .inl ⟨rfl, !(r1060 == (!(r382 == r391))), E.pk, H.sel [8, 9, 10, 11, 12, 13, 14, 15, 16, 17, 18, 19, 20, 21, 22, 23, 24, 25, 26, 27, 28] rfl, hx_.symm⟩
     have h1070 : ¬ (0 < (x331.length : Int)) := of_decide_eq_false hb_
     replace hP := ite_f h1070 hP
     refine vp 6 [(167, .bool (!(r1060 == false)))] E ?_
     clear E; intro a E
     refine nl_ ?_
     have hx_ := Option.some.inj hP
     exact .inl ⟨rfl, !(r1060 == false), E.pk, H.sel [8, 9, 10, 11, 12, 13, 14, 15, 16, 17, 18, 19, 20, 21, 22, 23, 24, 25, 26, 27, 28] rfl, hx_.symm⟩
    have h1071 : ¬ (r382 = true) := (ne_true_of_eq_false hb_)
    replace hP := ite_f h1071 hP
    refine vp 6 [(156, .bool (!(r1047 == r391)))] E ?_
    clear E; intro a E
    revert E; refine csE 156 rfl (fun hb_ E => ?_) fun hb_ E => ?_
    ·
     have h1072 : ¬ (r1047 = r391) := (by simpa using hb_)
     replace hP := ite_f h1072 hP
     refine vp 11 [(167, .bool true)] E ?_
     clear E; intro a E
     refine nl_ ?_
     have hx_ := Option.some.inj hP
     exact .inl ⟨rfl, true, E.pk, H.sel [8, 9, 10, 11, 12, 13, 14, 15, 16, 17, 18, 19, 20, 21, 22, 23, 24, 25, 26, 27, 28] rfl, hx_.symm⟩
    have h1073 : r1047 = r391 := (by simpa using hb_)
    replace hP := ite_t h1073 hP
    refine vq 2 [.agg #[.int .i64 r196.1.1, .slice A205 r196.1.2.1.length c206, .slice A208 r196.1.2.2.1.length c209, .slice A211 r196.1.2.2.2.length c212]] [(157, .agg #[.int .i64 r196.1.1, .slice A205 r196.1.2.1.length c206, .slice A208 r196.1.2.2.1.length c209, .slice A211 r196.1.2.2.2.length c212]), (158, .slice A328 x331.length c329)] [cellsAt w1053 g214 (0) [.int .i64 r196.1.1, .slice A205 r196.1.2.1.length c206, .slice A208 r196.1.2.2.1.length c209, .slice A211 r196.1.2.2.2.length c212]] E ((H.box 27 rfl).sub 0 _ rfl) ?_
    clear E; intro a E
    obtain ⟨r1074, h1075, hP⟩ := bind_inv hP
    obtain ⟨Fa1076, Hc1077, hb1078⟩ := H.call [] [(24, false), (25, false), (26, false), (28, false)] rfl rfl trivial
    refine e_call E rfl rfl Try.func29 rfl rfl rfl (law20_accepts_calls A205 c206 A208 c209 A211 c212 A328 c329 r196.1.1 r196.1.2.1 r196.1.2.2.1 r196.1.2.2.2 x331 (H.rcap 24 rfl) (H.rcap 25 rfl) (H.rcap 26 rfl) (H.rcap 28 rfl) Hc1077 h1075) ?_
    rintro v1079 w1080 a ⟨rfl, HR1081⟩ E_
    replace E := E_ _ rfl; clear E_
    obtain ⟨H_, hc1082⟩ := hb1078 _ _ HR1081 rfl
    replace H := H_; clear H_; try dsimp only [setn, addE, goneL] at H
    refine vp 2 [(161, .bool (decide (0 < (x331.length : Int))))] E ?_
    clear E; intro a E
    revert E; refine csE 161 rfl (fun hb_ E => ?_) fun hb_ E => ?_
    ·
     have h1083 : 0 < (x331.length : Int) := of_decide_eq_true hb_
     replace hP := ite_t h1083 hP
     refine vp 6 [(167, .bool (!(r1074 == (!(r382 == r391)))))] E ?_
     clear E; intro a E
     refine nl_ ?_
     have hx_ := Option.some.inj hP
     exact .inl ⟨rfl, !(r1074 == (!(r382 == r391))), E.pk, H.sel [8, 9, 10, 11, 12, 13, 14, 15, 16, 17, 18, 19, 20, 21, 22, 23, 24, 25, 26, 27, 28] rfl, hx_.symm⟩
    have h1084 : ¬ (0 < (x331.length : Int)) := of_decide_eq_false hb_
    replace hP := ite_f h1084 hP
    refine vp 6 [(167, .bool (!(r1074 == false)))] E ?_
    clear E; intro a E
    refine nl_ ?_
    have hx_ := Option.some.inj hP
    exact .inl ⟨rfl, !(r1074 == false), E.pk, H.sel [8, 9, 10, 11, 12, 13, 14, 15, 16, 17, 18, 19, 20, 21, 22, 23, 24, 25, 26, 27, 28] rfl, hx_.symm⟩
   have h1085 : ¬ (0 < (x331.length : Int)) := of_decide_eq_false hb_
   replace hP := ite_f h1085 hP
   refine vp 8 [(156, .bool (!(r1047 == false)))] E ?_
   clear E; intro a E
   revert E; refine csE 156 rfl (fun hb_ E => ?_) fun hb_ E => ?_
   ·
    have h1086 : ¬ (r1047 = false) := (by simpa using hb_)
    replace hP := ite_f h1086 hP
    refine vp 11 [(167, .bool true)] E ?_
    clear E; intro a E
    refine nl_ ?_
    have hx_ := Option.some.inj hP
    exact .inl ⟨rfl, true, E.pk, H.sel [8, 9, 10, 11, 12, 13, 14, 15, 16, 17, 18, 19, 20, 21, 22, 23, 24, 25, 26, 27, 28] rfl, hx_.symm⟩
   have h1087 : r1047 = false := (by simpa using hb_)
   replace hP := ite_t h1087 hP
   refine vq 2 [.agg #[.int .i64 r196.1.1, .slice A205 r196.1.2.1.length c206, .slice A208 r196.1.2.2.1.length c209, .slice A211 r196.1.2.2.2.length c212]] [(157, .agg #[.int .i64 r196.1.1, .slice A205 r196.1.2.1.length c206, .slice A208 r196.1.2.2.1.length c209, .slice A211 r196.1.2.2.2.length c212]), (158, .slice A328 x331.length c329)] [cellsAt w1053 g214 (0) [.int .i64 r196.1.1, .slice A205 r196.1.2.1.length c206, .slice A208 r196.1.2.2.1.length c209, .slice A211 r196.1.2.2.2.length c212]] E ((H.box 27 rfl).sub 0 _ rfl) ?_
   clear E; intro a E
   obtain ⟨r1088, h1089, hP⟩ := bind_inv hP
   obtain ⟨Fa1090, Hc1091, hb1092⟩ := H.call [] [(24, false), (25, false), (26, false), (28, false)] rfl rfl trivial
   refine e_call E rfl rfl Try.func29 rfl rfl rfl (law20_accepts_calls A205 c206 A208 c209 A211 c212 A328 c329 r196.1.1 r196.1.2.1 r196.1.2.2.1 r196.1.2.2.2 x331 (H.rcap 24 rfl) (H.rcap 25 rfl) (H.rcap 26 rfl) (H.rcap 28 rfl) Hc1091 h1089) ?_
   rintro v1093 w1094 a ⟨rfl, HR1095⟩ E_
   replace E := E_ _ rfl; clear E_
   obtain ⟨H_, hc1096⟩ := hb1092 _ _ HR1095 rfl
   replace H := H_; clear H_; try dsimp only [setn, addE, goneL] at H
   refine vp 2 [(161, .bool (decide (0 < (x331.length : Int))))] E ?_
   clear E; intro a E
   revert E; refine csE 161 rfl (fun hb_ E => ?_) fun hb_ E => ?_
   ·
    have h1097 : 0 < (x331.length : Int) := of_decide_eq_true hb_
    replace hP := ite_t h1097 hP
    refine vp 6 [(167, .bool (!(r1088 == (!(r382 == r391)))))] E ?_
    clear E; intro a E
    refine nl_ ?_
    have hx_ := Option.some.inj hP
    exact .inl ⟨rfl, !(r1088 == (!(r382 == r391))), E.pk, H.sel [8, 9, 10, 11, 12, 13, 14, 15, 16, 17, 18, 19, 20, 21, 22, 23, 24, 25, 26, 27, 28] rfl, hx_.symm⟩
   have h1098 : ¬ (0 < (x331.length : Int)) := of_decide_eq_false hb_
   replace hP := ite_f h1098 hP
   refine vp 6 [(167, .bool (!(r1088 == false)))] E ?_
   clear E; intro a E
   refine nl_ ?_
   have hx_ := Option.some.inj hP
   exact .inl ⟨rfl, !(r1088 == false), E.pk, H.sel [8, 9, 10, 11, 12, 13, 14, 15, 16, 17, 18, 19, 20, 21, 22, 23, 24, 25, 26, 27, 28] rfl, hx_.symm⟩
  have h1099 : ¬ (0 < (x331.length : Int)) := of_decide_eq_false hb_
  replace hP := ite_f h1099 hP
  refine vp 8 [(143, .bool (!(r979 == false)))] E ?_
  clear E; intro a E
  revert E; refine csE 143 rfl (fun hb_ E => ?_) fun hb_ E => ?_
  ·
   have h1100 : ¬ (r979 = false) := (by simpa using hb_)
   replace hP := ite_f h1100 hP
   refine vp 24 [(167, .bool true)] E ?_
   clear E; intro a E
   refine nl_ ?_
   have hx_ := Option.some.inj hP
   exact .inl ⟨rfl, true, E.pk, H.sel [8, 9, 10, 11, 12, 13, 14, 15, 16, 17, 18, 19, 20, 21, 22, 23, 24, 25, 26, 27, 28] rfl, hx_.symm⟩
  have h1101 : r979 = false := (by simpa using hb_)
  replace hP := ite_t h1101 hP
  refine vq 2 [.agg #[.int .i64 r171.1.1, .slice A180 r171.1.2.1.length c181, .slice A183 r171.1.2.2.1.length c184, .slice A186 r171.1.2.2.2.length c187]] [(144, .agg #[.int .i64 r171.1.1, .slice A180 r171.1.2.1.length c181, .slice A183 r171.1.2.2.1.length c184, .slice A186 r171.1.2.2.2.length c187]), (145, .slice A328 x331.length c329)] [cellsAt w985 g189 (0) [.int .i64 r171.1.1, .slice A180 r171.1.2.1.length c181, .slice A183 r171.1.2.2.1.length c184, .slice A186 r171.1.2.2.2.length c187]] E ((H.box 23 rfl).sub 0 _ rfl) ?_
  clear E; intro a E
  obtain ⟨r1102, h1103, hP⟩ := bind_inv hP
  obtain ⟨Fa1104, Hc1105, hb1106⟩ := H.call [] [(20, false), (21, false), (22, false), (28, false)] rfl rfl trivial
  refine e_call E rfl rfl Try.func29 rfl rfl rfl (law20_accepts_calls A180 c181 A183 c184 A186 c187 A328 c329 r171.1.1 r171.1.2.1 r171.1.2.2.1 r171.1.2.2.2 x331 (H.rcap 20 rfl) (H.rcap 21 rfl) (H.rcap 22 rfl) (H.rcap 28 rfl) Hc1105 h1103) ?_
  rintro v1107 w1108 a ⟨rfl, HR1109⟩ E_
  replace E := E_ _ rfl; clear E_
  obtain ⟨H_, hc1110⟩ := hb1106 _ _ HR1109 rfl
  replace H := H_; clear H_; try dsimp only [setn, addE, goneL] at H
  refine vp 2 [(148, .bool (decide (0 < (x331.length : Int))))] E ?_
  clear E; intro a E
  revert E; refine csE 148 rfl (fun hb_ E => ?_) fun hb_ E => ?_
  ·
   have h1111 : 0 < (x331.length : Int) := of_decide_eq_true hb_
   replace hP := ite_t h1111 hP
   refine vp 2 [(150, .bool r382)] E ?_
   clear E; intro a E
   revert E; refine csE 150 rfl (fun hb_ E => ?_) fun hb_ E => ?_
   ·
    have h1112 : r382 = true := hb_
    replace hP := ite_t h1112 hP
    refine vp 6 [(156, .bool (!(r1102 == true)))] E ?_
    clear E; intro a E
    revert E; refine csE 156 rfl (fun hb_ E => ?_) fun hb_ E => ?_
    ·
     have h1113 : ¬ (r1102 = true) := (by simpa using hb_)
     replace hP := ite_f h1113 hP
     refine vp 11 [(167, .bool true)] E ?_
     clear E; intro a E
     refine nl_ ?_
     have hx_ := Option.some.inj hP
     exact .inl ⟨rfl, true, E.pk, H.sel [8, 9, 10, 11, 12, 13, 14, 15, 16, 17, 18, 19, 20, 21, 22, 23, 24, 25, 26, 27, 28] rfl, hx_.symm⟩
    have h1114 : r1102 = true := (by simpa using hb_)
    replace hP := ite_t h1114 hP
    refine vq 2 [.agg #[.int .i64 r196.1.1, .slice A205 r196.1.2.1.length c206, .slice A208 r196.1.2.2.1.length c209, .slice A211 r196.1.2.2.2.length c212]] [(157, .agg #[.int .i64 r196.1.1, .slice A205 r196.1.2.1.length c206, .slice A208 r196.1.2.2.1.length c209, .slice A211 r196.1.2.2.2.length c212]), (158, .slice A328 x331.length c329)] [cellsAt w1108 g214 (0) [.int .i64 r196.1.1, .slice A205 r196.1.2.1.length c206, .slice A208 r196.1.2.2.1.length c209, .slice A211 r196.1.2.2.2.length c212]] E ((H.box 27 rfl).sub 0 _ rfl) ?_
    clear E; intro a E
    obtain ⟨r1115, h1116, hP⟩ := bind_inv hP
    obtain ⟨Fa1117, Hc1118, hb1119⟩ := H.call [] [(24, false), (25, false), (26, false), (28, false)] rfl rfl trivial
    refine e_call E rfl rfl Try.func29 rfl rfl rfl (law20_accepts_calls A205 c206 A208 c209 A211 c212 A328 c329 r196.1.1 r196.1.2.1 r196.1.2.2.1 r196.1.2.2.2 x331 (H.rcap 24 rfl) (H.rcap 25 rfl) (H.rcap 26 rfl) (H.rcap 28 rfl) Hc1118 h1116) ?_
    rintro v1120 w1121 a ⟨rfl, HR1122⟩ E_
    replace E := E_ _ rfl; clear E_
    obtain ⟨H_, hc1123⟩ := hb1119 _ _ HR1122 rfl
    replace H := H_; clear H_; try dsimp only [setn, addE, goneL] at H
    refine vp 2 [(161, .bool (decide (0 < (x331.length : Int))))] E ?_
    clear E; intro a E
    revert E; refine csE 161 rfl (fun hb_ E => ?_) fun hb_ E => ?_
    ·
     have h1124 : 0 < (x331.length : Int) := of_decide_eq_true hb_
     replace hP := ite_t h1124 hP
     refine vp 6 [(167, .bool (!(r1115 == (!(r382 == r391)))))] E ?_
     clear E; intro a E
     refine nl_ ?_
     have hx_ := Option.some.inj hP
     exact .inl ⟨rfl, !(r1115 == (!(r382 == r391))), E.pk, H.sel [8, 9, 10, 11, 12, 13, 14, 15, 16, 17, 18, 19, 20, 21, 22, 23, 24, 25, 26, 27, 28] rfl, hx_.symm⟩
    have h1125 : ¬ (0 < (x331.length : Int)) := of_decide_eq_false hb_
    replace hP := ite_f h1125 hP
    refine vp 6 [(167, .bool (!(r1115 == false)))] E ?_
    clear E; intro a E
    refine nl_ ?_
    have hx_ := Option.some.inj hP
    exact .inl ⟨rfl, !(r1115 == false), E.pk, H.sel [8, 9, 10, 11, 12, 13, 14, 15, 16, 17, 18, 19, 20, 21, 22, 23, 24, 25, 26, 27, 28] rfl, hx_.symm⟩
   have h1126 : ¬ (r382 = true) := (ne_true_of_eq_false hb_)
   replace hP := ite_f h1126 hP
   refine vp 6 [(156, .bool (!(r1102 == r391)))] E ?_
   clear E; intro a E
   revert E; refine csE 156 rfl (fun hb_ E => ?_) fun hb_ E => ?_
   ·
    have h1127 : ¬ (r1102 = r391) := (by simpa using hb_)
    replace hP := ite_f h1127 hP
    refine vp 11 [(167, .bool true)] E ?_
    clear E; intro a E
    refine nl_ ?_
    have hx_ := Option.some.inj hP
    exact .inl ⟨rfl, true, E.pk, H.sel [8, 9, 10, 11, 12, 13, 14, 15, 16, 17, 18, 19, 20, 21, 22, 23, 24, 25, 26, 27, 28] rfl, hx_.symm⟩
   have h1128 : r1102 = r391 := (by simpa using hb_)
   replace hP := ite_t h1128 hP
   refine vq 2 [.agg #[.int .i64 r196.1.1, .slice A205 r196.1.2.1.length c206, .slice A208 r196.1.2.2.1.length c209, .slice A211 r196.1.2.2.2.length c212]] [(157, .agg #[.int .i64 r196.1.1, .slice A205 r196.1.2.1.length c206, .slice A208 r196.1.2.2.1.length c209, .slice A211 r196.1.2.2.2.length c212]), (158, .slice A328 x331.length c329)] [cellsAt w1108 g214 (0) [.int .i64 r196.1.1, .slice A205 r196.1.2.1.length c206, .slice A208 r196.1.2.2.1.length c209, .slice A211 r196.1.2.2.2.length c212]] E ((H.box 27 rfl).sub 0 _ rfl) ?_
   clear E; intro a E
   obtain ⟨r1129, h1130, hP⟩ := bind_inv hP
   obtain ⟨Fa1131, Hc1132, hb1133⟩ := H.call [] [(24, false), (25, false), (26, false), (28, false)] rfl rfl trivial
   refine e_call E rfl rfl Try.func29 rfl rfl rfl (law20_accepts_calls A205 c206 A208 c209 A211 c212 A328 c329 r196.1.1 r196.1.2.1 r196.1.2.2.1 r196.1.2.2.2 x331 (H.rcap 24 rfl) (H.rcap 25 rfl) (H.rcap 26 rfl) (H.rcap 28 rfl) Hc1132 h1130) ?_
   rintro v1134 w1135 a ⟨rfl, HR1136⟩ E_
   replace E := E_ _ rfl; clear E_
   obtain ⟨H_, hc1137⟩ := hb1133 _ _ HR1136 rfl
   replace H := H_; clear H_; try dsimp only [setn, addE, goneL] at H
   refine vp 2 [(161, .bool (decide (0 < (x331.length : Int))))] E ?_
   clear E; intro a E
   revert E; refine csE 161 rfl (fun hb_ E => ?_) fun hb_ E => ?_
   ·
    have h1138 : 0 < (x331.length : Int) := of_decide_eq_true hb_
    replace hP := ite_t h1138 hP
    refine vp 6 [(167, .bool (!(r1129 == (!(r382 == r391)))))] E ?_
    clear E; intro a E
    refine nl_ ?_
    have hx_ := Option.some.inj hP
    exact .inl ⟨rfl, !(r1129 == (!(r382 == r391))), E.pk, H.sel [8, 9, 10, 11, 12, 13, 14, 15, 16, 17, 18, 19, 20, 21, 22, 23, 24, 25, 26, 27, 28] rfl, hx_.symm⟩
   have h1139 : ¬ (0 < (x331.length : Int)) := of_decide_eq_false hb_
   replace hP := ite_f h1139 hP
   refine vp 6 [(167, .bool (!(r1129 == false)))] E ?_
   clear E; intro a E
   refine nl_ ?_
   have hx_ := Option.some.inj hP
   exact .inl ⟨rfl, !(r1129 == false), E.pk, H.sel [8, 9, 10, 11, 12, 13, 14, 15, 16, 17, 18, 19, 20, 21, 22, 23, 24, 25, 26, 27, 28] rfl, hx_.symm⟩
  have h1140 : ¬ (0 < (x331.length : Int)) := of_decide_eq_false hb_
  replace hP := ite_f h1140 hP
  refine vp 8 [(156, .bool (!(r1102 == false)))] E ?_
  clear E; intro a E
  revert E; refine csE 156 rfl (fun hb_ E => ?_) fun hb_ E => ?_
  ·
   have h1141 : ¬ (r1102 = false) := (by simpa using hb_)
   replace hP := ite_f h1141 hP
   refine vp 11 [(167, .bool true)] E ?_
   clear E; intro a E
   refine nl_ ?_
   have hx_ := Option.some.inj hP
   exact .inl ⟨rfl, true, E.pk, H.sel [8, 9, 10, 11, 12, 13, 14, 15, 16, 17, 18, 19, 20, 21, 22, 23, 24, 25, 26, 27, 28] rfl, hx_.symm⟩
  have h1142 : r1102 = false := (by simpa using hb_)
  replace hP := ite_t h1142 hP
  refine vq 2 [.agg #[.int .i64 r196.1.1, .slice A205 r196.1.2.1.length c206, .slice A208 r196.1.2.2.1.length c209, .slice A211 r196.1.2.2.2.length c212]] [(157, .agg #[.int .i64 r196.1.1, .slice A205 r196.1.2.1.length c206, .slice A208 r196.1.2.2.1.length c209, .slice A211 r196.1.2.2.2.length c212]), (158, .slice A328 x331.length c329)] [cellsAt w1108 g214 (0) [.int .i64 r196.1.1, .slice A205 r196.1.2.1.length c206, .slice A208 r196.1.2.2.1.length c209, .slice A211 r196.1.2.2.2.length c212]] E ((H.box 27 rfl).sub 0 _ rfl) ?_
  clear E; intro a E
  obtain ⟨r1143, h1144, hP⟩ := bind_inv hP
  obtain ⟨Fa1145, Hc1146, hb1147⟩ := H.call [] [(24, false), (25, false), (26, false), (28, false)] rfl rfl trivial
  refine e_call E rfl rfl Try.func29 rfl rfl rfl (law20_accepts_calls A205 c206 A208 c209 A211 c212 A328 c329 r196.1.1 r196.1.2.1 r196.1.2.2.1 r196.1.2.2.2 x331 (H.rcap 24 rfl) (H.rcap 25 rfl) (H.rcap 26 rfl) (H.rcap 28 rfl) Hc1146 h1144) ?_
  rintro v1148 w1149 a ⟨rfl, HR1150⟩ E_
  replace E := E_ _ rfl; clear E_
  obtain ⟨H_, hc1151⟩ := hb1147 _ _ HR1150 rfl
  replace H := H_; clear H_; try dsimp only [setn, addE, goneL] at H
  refine vp 2 [(161, .bool (decide (0 < (x331.length : Int))))] E ?_
  clear E; intro a E
  revert E; refine csE 161 rfl (fun hb_ E => ?_) fun hb_ E => ?_
  ·
   have h1152 : 0 < (x331.length : Int) := of_decide_eq_true hb_
   replace hP := ite_t h1152 hP
   refine vp 6 [(167, .bool (!(r1143 == (!(r382 == r391)))))] E ?_
   clear E; intro a E
   refine nl_ ?_
   have hx_ := Option.some.inj hP
   exact .inl ⟨rfl, !(r1143 == (!(r382 == r391))), E.pk, H.sel [8, 9, 10, 11, 12, 13, 14, 15, 16, 17, 18, 19, 20, 21, 22, 23, 24, 25, 26, 27, 28] rfl, hx_.symm⟩
  have h1153 : ¬ (0 < (x331.length : Int)) := of_decide_eq_false hb_
  replace hP := ite_f h1153 hP
  refine vp 6 [(167, .bool (!(r1143 == false)))] E ?_
  clear E; intro a E
  refine nl_ ?_
  have hx_ := Option.some.inj hP
  exact .inl ⟨rfl, !(r1143 == false), E.pk, H.sel [8, 9, 10, 11, 12, 13, 14, 15, 16, 17, 18, 19, 20, 21, 22, 23, 24, 25, 26, 27, 28] rfl, hx_.symm⟩
 clear E H h785; rintro a w788 ⟨x787, E, H, hx_⟩
 subst hx_; have hP := hK786; clear hK786
 refine th_n ?_
 revert E; refine csE 167 rfl (fun hb_ E => ?_) fun hb_ E => ?_
 ·
  have h1154 : x784 = true := hb_
  replace hP := ite_t h1154 hP
  refine c_true E rfl <| sr_ <| vp 1 [(6, .bool false)] E ?_
  clear E; intro a E
  refine nn_ <| wp_ret <| th_ret ?_
  obtain rfl := Option.some.inj hP
  refine ret1 E rfl rfl ?_
  exact ⟨_, rfl, rfl, H.sel [] rfl⟩
 have h1155 : ¬ (x784 = true) := (ne_true_of_eq_false hb_)
 replace hP := ite_f h1155 hP
 refine c_false E rfl <| wp_skip <| th_n <| sr_ <| vq 1 [.agg #[.int .i64 r146.1.1, .slice A155 r146.1.2.1.length c156, .slice A158 r146.1.2.2.1.length c159, .slice A161 r146.1.2.2.2.length c162]] [(169, .agg #[.int .i64 r146.1.1, .slice A155 r146.1.2.1.length c156, .slice A158 r146.1.2.2.1.length c159, .slice A161 r146.1.2.2.2.length c162])] [cellsAt w788 g164 (0) [.int .i64 r146.1.1, .slice A155 r146.1.2.1.length c156, .slice A158 r146.1.2.2.1.length c159, .slice A161 r146.1.2.2.2.length c162]] E ((H.box 11 rfl).sub 0 _ rfl) ?_
 clear E; intro a E
 obtain ⟨r1156, h1157, hP⟩ := bind_inv hP
 obtain ⟨Fa1158, Hc1159, hb1160⟩ := H.call [] [(8, false), (9, false), (10, false)] rfl rfl trivial
 refine e_call E rfl rfl Try.func10 rfl rfl rfl (both_Not_calls A155 c156 A158 c159 A161 c162 r146.1.1 r146.1.2.1 r146.1.2.2.1 r146.1.2.2.2 (H.rcap 8 rfl) (H.rcap 9 rfl) (H.rcap 10 rfl) Hc1159 h1157) ?_
 rintro v1161 w1162 a ⟨A1165, c1166, A1168, c1169, A1171, c1172, rfl, HR1163⟩ E_
 replace E := E_ _ rfl; clear E_
 obtain ⟨H_, hc1164⟩ := hb1160 _ _ HR1163 rfl
 replace H := H_; clear H_; try dsimp only [setn, addE, goneL] at H
 refine vp 3 [(171, .agg #[.int .i64 r1156.1.1, .slice A1165 r1156.1.2.1.length c1166, .slice A1168 r1156.1.2.2.1.length c1169, .slice A1171 r1156.1.2.2.2.length c1172]), (172, .int .i64 r1156.2)] E ?_
 clear E; intro a E
 refine h_alloc H E rfl rfl tbok rfl ?_
 clear H E; intro w1175 g1174 a hc1176 hg1178 H E; replace E := E _ rfl; try dsimp only [setn, addE, goneL] at H
 refine h_store (g := g1174) (off := 0) H 24 rfl E rfl rfl rfl rfl tbok rfl rfl rfl rfl rfl ?_
 clear E; intro w1179 a hc1180 H_ E
 replace H := H_; clear H_; try dsimp only [setn, addE, goneL] at H
 refine vp 1 [(24, .int .i64 r1156.2)] E ?_
 clear E; intro a E
 refine nn_ <| sr_ <| vq 2 [.agg #[.int .i64 r96.1.1, .slice A105 r96.1.2.1.length c106, .slice A108 r96.1.2.2.1.length c109, .slice A111 r96.1.2.2.2.length c112], .agg #[.int .i64 r121.1.1, .slice A130 r121.1.2.1.length c131, .slice A133 r121.1.2.2.1.length c134, .slice A136 r121.1.2.2.2.length c137]] [(174, .agg #[.int .i64 r96.1.1, .slice A105 r96.1.2.1.length c106, .slice A108 r96.1.2.2.1.length c109, .slice A111 r96.1.2.2.2.length c112]), (175, .agg #[.int .i64 r121.1.1, .slice A130 r121.1.2.1.length c131, .slice A133 r121.1.2.2.1.length c134, .slice A136 r121.1.2.2.2.length c137])] [cellsAt w1179 g114 (0) [.int .i64 r96.1.1, .slice A105 r96.1.2.1.length c106, .slice A108 r96.1.2.2.1.length c109, .slice A111 r96.1.2.2.2.length c112], cellsAt w1179 g139 (0) [.int .i64 r121.1.1, .slice A130 r121.1.2.1.length c131, .slice A133 r121.1.2.2.1.length c134, .slice A136 r121.1.2.2.2.length c137]] E ⟨(H.box 3 rfl).sub 0 _ rfl, (H.box 7 rfl).sub 0 _ rfl⟩ ?_
 clear E; intro a E
 obtain ⟨r1181, h1182, hP⟩ := bind_inv hP
 obtain ⟨Fa1183, Hc1184, hb1185⟩ := H.call [] [(0, false), (1, false), (2, false), (4, false), (5, false), (6, false)] rfl rfl trivial
 refine e_call E rfl rfl Try.func12 rfl rfl rfl (both_Or_calls A105 c106 A108 c109 A111 c112 A130 c131 A133 c134 A136 c137 r96.1.1 r96.1.2.1 r96.1.2.2.1 r96.1.2.2.2 r121.1.1 r121.1.2.1 r121.1.2.2.1 r121.1.2.2.2 (H.rcap 0 rfl) (H.rcap 1 rfl) (H.rcap 2 rfl) (H.rcap 4 rfl) (H.rcap 5 rfl) (H.rcap 6 rfl) Hc1184 h1182) ?_
 rintro v1186 w1187 a ⟨A1190, c1191, A1193, c1194, A1196, c1197, rfl, HR1188⟩ E_
 replace E := E_ _ rfl; clear E_
 obtain ⟨H_, hc1189⟩ := hb1185 _ _ HR1188 rfl
 replace H := H_; clear H_; try dsimp only [setn, addE, goneL] at H
 refine vp 3 [(177, .agg #[.int .i64 r1181.1.1, .slice A1190 r1181.1.2.1.length c1191, .slice A1193 r1181.1.2.2.1.length c1194, .slice A1196 r1181.1.2.2.2.length c1197]), (178, .int .i64 r1181.2)] E ?_
 clear E; intro a E
 refine h_alloc H E rfl rfl tbok rfl ?_
 clear H E; intro w1200 g1199 a hc1201 hg1203 H E; replace E := E _ rfl; try dsimp only [setn, addE, goneL] at H
 refine h_store (g := g1199) (off := 0) H 28 rfl E rfl rfl rfl rfl tbok rfl rfl rfl rfl rfl ?_
 clear E; intro w1204 a hc1205 H_ E
 replace H := H_; clear H_; try dsimp only [setn, addE, goneL] at H
 refine vp 1 [(26, .int .i64 r1181.2)] E ?_
 clear E; intro a E
 refine nn_ <| sr_ <| vq 1 [.agg #[.int .i64 r96.1.1, .slice A105 r96.1.2.1.length c106, .slice A108 r96.1.2.2.1.length c109, .slice A111 r96.1.2.2.2.length c112]] [(180, .agg #[.int .i64 r96.1.1, .slice A105 r96.1.2.1.length c106, .slice A108 r96.1.2.2.1.length c109, .slice A111 r96.1.2.2.2.length c112])] [cellsAt w1204 g114 (0) [.int .i64 r96.1.1, .slice A105 r96.1.2.1.length c106, .slice A108 r96.1.2.2.1.length c109, .slice A111 r96.1.2.2.2.length c112]] E ((H.box 3 rfl).sub 0 _ rfl) ?_
 clear E; intro a E
 obtain ⟨r1206, h1207, hP⟩ := bind_inv hP
 obtain ⟨Fa1208, Hc1209, hb1210⟩ := H.call [] [(0, false), (1, false), (2, false)] rfl rfl trivial
 refine e_call E rfl rfl Try.func10 rfl rfl rfl (both_Not_calls A105 c106 A108 c109 A111 c112 r96.1.1 r96.1.2.1 r96.1.2.2.1 r96.1.2.2.2 (H.rcap 0 rfl) (H.rcap 1 rfl) (H.rcap 2 rfl) Hc1209 h1207) ?_
 rintro v1211 w1212 a ⟨A1215, c1216, A1218, c1219, A1221, c1222, rfl, HR1213⟩ E_
 replace E := E_ _ rfl; clear E_
 obtain ⟨H_, hc1214⟩ := hb1210 _ _ HR1213 rfl
 replace H := H_; clear H_; try dsimp only [setn, addE, goneL] at H
 refine vp 3 [(182, .agg #[.int .i64 r1206.1.1, .slice A1215 r1206.1.2.1.length c1216, .slice A1218 r1206.1.2.2.1.length c1219, .slice A1221 r1206.1.2.2.2.length c1222]), (183, .int .i64 r1206.2)] E ?_
 clear E; intro a E
 refine h_alloc H E rfl rfl tbok rfl ?_
 clear H E; intro w1225 g1224 a hc1226 hg1228 H E; replace E := E _ rfl; try dsimp only [setn, addE, goneL] at H
 refine h_store (g := g1224) (off := 0) H 32 rfl E rfl rfl rfl rfl tbok rfl rfl rfl rfl rfl ?_
 clear E; intro w1229 a hc1230 H_ E
 replace H := H_; clear H_; try dsimp only [setn, addE, goneL] at H
 refine vp 1 [(28, .int .i64 r1206.2)] E ?_
 clear E; intro a E
 refine nn_ <| wp_seq <| wp_seq ?_
 obtain ⟨x1260, h1261, hK1262⟩ := bind_inv hP
 clear hP
 refine meet_cut (fun a w1264 => ∃ (x1263 : Bool), Fr a 239 [(7, .bool r39), (8, .pointer (some ⟨g114, 0, none⟩)), (12, .pointer (some ⟨g164, 0, none⟩)), (14, .pointer (some ⟨g189, 0, none⟩)), (16, .pointer (some ⟨g214, 0, none⟩)), (209, .bool x1263)] ∧ Hp S Fa w0 w1264 [.row true cBool 4 A105 c106 r96.1.2.1, .row true (cInt .i64) 3 A108 c109 r96.1.2.2.1, .row true cNode 49 A111 c112 r96.1.2.2.2, .box g114 26 [.int .i64 r96.1.1, .slice A105 r96.1.2.1.length c106, .slice A108 r96.1.2.2.1.length c109, .slice A111 r96.1.2.2.2.length c112], .row true cBool 4 A155 c156 r146.1.2.1, .row true (cInt .i64) 3 A158 c159 r146.1.2.2.1, .row true cNode 49 A161 c162 r146.1.2.2.2, .box g164 26 [.int .i64 r146.1.1, .slice A155 r146.1.2.1.length c156, .slice A158 r146.1.2.2.1.length c159, .slice A161 r146.1.2.2.2.length c162], .row true cBool 4 A180 c181 r171.1.2.1, .row true (cInt .i64) 3 A183 c184 r171.1.2.2.1, .row true cNode 49 A186 c187 r171.1.2.2.2, .box g189 26 [.int .i64 r171.1.1, .slice A180 r171.1.2.1.length c181, .slice A183 r171.1.2.2.1.length c184, .slice A186 r171.1.2.2.2.length c187], .row true cBool 4 A205 c206 r196.1.2.1, .row true (cInt .i64) 3 A208 c209 r196.1.2.2.1, .row true cNode 49 A211 c212 r196.1.2.2.2, .box g214 26 [.int .i64 r196.1.1, .slice A205 r196.1.2.1.length c206, .slice A208 r196.1.2.2.1.length c209, .slice A211 r196.1.2.2.2.length c212]] ∧ x1260 = x1263) ?_ ?_
 ·
  have hP := h1261; clear h1261; rw [law20_BothLogic_j5] at hP
  refine rl_ <| vp 3 [(186, .bool ((r1156.2 : Int) != 0))] E ?_
  clear E; intro a E
  revert E; refine csE 186 rfl (fun hb_ E => ?_) fun hb_ E => ?_
  ·
   have h1265 : ¬ ((r1156.2 : Int) = 0) := bne_iff_ne.1 hb_
   replace hP := ite_f h1265 hP
   refine vp 23 [(209, .bool true)] E ?_
   clear E; intro a E
   refine nl_ ?_
   have hx_ := Option.some.inj hP
   exact .inl ⟨rfl, true, E.pk, H.sel [0, 1, 2, 3, 8, 9, 10, 11, 12, 13, 14, 15, 16, 17, 18, 19] rfl, hx_.symm⟩
  have h1266 : (r1156.2 : Int) = 0 := bne_eq_false_iff_eq.1 hb_
  replace hP := ite_t h1266 hP
  refine vp 4 [(190, .bool ((r1181.2 : Int) != 0))] E ?_
  clear E; intro a E
  revert E; refine csE 190 rfl (fun hb_ E => ?_) fun hb_ E => ?_
  ·
   have h1267 : ¬ ((r1181.2 : Int) = 0) := bne_iff_ne.1 hb_
   replace hP := ite_f h1267 hP
   refine vp 19 [(209, .bool true)] E ?_
   clear E; intro a E
   refine nl_ ?_
   have hx_ := Option.some.inj hP
   exact .inl ⟨rfl, true, E.pk, H.sel [0, 1, 2, 3, 8, 9, 10, 11, 12, 13, 14, 15, 16, 17, 18, 19] rfl, hx_.symm⟩
  have h1268 : (r1181.2 : Int) = 0 := bne_eq_false_iff_eq.1 hb_
  replace hP := ite_t h1268 hP
  refine vp 4 [(194, .bool ((r1206.2 : Int) != 0))] E ?_
  clear E; intro a E
  revert E; refine csE 194 rfl (fun hb_ E => ?_) fun hb_ E => ?_
  ·
   have h1269 : ¬ ((r1206.2 : Int) = 0) := bne_iff_ne.1 hb_
   replace hP := ite_f h1269 hP
   refine vp 15 [(209, .bool true)] E ?_
   clear E; intro a E
   refine nl_ ?_
   have hx_ := Option.some.inj hP
   exact .inl ⟨rfl, true, E.pk, H.sel [0, 1, 2, 3, 8, 9, 10, 11, 12, 13, 14, 15, 16, 17, 18, 19] rfl, hx_.symm⟩
  have h1270 : (r1206.2 : Int) = 0 := bne_eq_false_iff_eq.1 hb_
  replace hP := ite_t h1270 hP
  refine vq 2 [.agg #[.int .i64 r1156.1.1, .slice A1165 r1156.1.2.1.length c1166, .slice A1168 r1156.1.2.2.1.length c1169, .slice A1171 r1156.1.2.2.2.length c1172], .agg #[.int .i64 r1181.1.1, .slice A1190 r1181.1.2.1.length c1191, .slice A1193 r1181.1.2.2.1.length c1194, .slice A1196 r1181.1.2.2.2.length c1197]] [(195, .agg #[.int .i64 r1156.1.1, .slice A1165 r1156.1.2.1.length c1166, .slice A1168 r1156.1.2.2.1.length c1169, .slice A1171 r1156.1.2.2.2.length c1172]), (196, .agg #[.int .i64 r1181.1.1, .slice A1190 r1181.1.2.1.length c1191, .slice A1193 r1181.1.2.2.1.length c1194, .slice A1196 r1181.1.2.2.2.length c1197])] [cellsAt w1229 g1174 (0) [.int .i64 r1156.1.1, .slice A1165 r1156.1.2.1.length c1166, .slice A1168 r1156.1.2.2.1.length c1169, .slice A1171 r1156.1.2.2.2.length c1172], cellsAt w1229 g1199 (0) [.int .i64 r1181.1.1, .slice A1190 r1181.1.2.1.length c1191, .slice A1193 r1181.1.2.2.1.length c1194, .slice A1196 r1181.1.2.2.2.length c1197]] E ⟨(H.box 24 rfl).sub 0 _ rfl, (H.box 28 rfl).sub 0 _ rfl⟩ ?_
  clear E; intro a E
  obtain ⟨r1271, h1272, hP⟩ := bind_inv hP
  obtain ⟨Fa1273, Hc1274, hb1275⟩ := H.call [] [(21, false), (22, false), (23, false), (25, false), (26, false), (27, false)] rfl rfl trivial
  refine e_call E rfl rfl Try.func27 rfl rfl rfl (canon_Same_calls A1165 c1166 A1168 c1169 A1171 c1172 A1190 c1191 A1193 c1194 A1196 c1197 r1156.1.1 r1156.1.2.1 r1156.1.2.2.1 r1156.1.2.2.2 r1181.1.1 r1181.1.2.1 r1181.1.2.2.1 r1181.1.2.2.2 (H.rcap 21 rfl) (H.rcap 22 rfl) (H.rcap 23 rfl) (H.rcap 25 rfl) (H.rcap 26 rfl) (H.rcap 27 rfl) Hc1274 h1272) ?_
  rintro v1276 w1277 a ⟨rfl, HR1278⟩ E_
  replace E := E_ _ rfl; clear E_
  obtain ⟨H_, hc1279⟩ := hb1275 _ _ HR1278 rfl
  replace H := H_; clear H_; try dsimp only [setn, addE, goneL] at H
  refine vp 3 [(200, .bool (!r1271))] E ?_
  clear E; intro a E
  revert E; refine csE 200 rfl (fun hb_ E => ?_) fun hb_ E => ?_
  ·
   have h1280 : ¬ (r1271 = true) := (ne_true_of_eq_false (not_t hb_))
   replace hP := ite_f h1280 hP
   refine vp 9 [(209, .bool true)] E ?_
   clear E; intro a E
   refine nl_ ?_
   have hx_ := Option.some.inj hP
   exact .inl ⟨rfl, true, E.pk, H.sel [0, 1, 2, 3, 8, 9, 10, 11, 12, 13, 14, 15, 16, 17, 18, 19] rfl, hx_.symm⟩
  have h1281 : r1271 = true := (not_f hb_)
  replace hP := ite_t h1281 hP
  refine vq 2 [.agg #[.int .i64 r1206.1.1, .slice A1215 r1206.1.2.1.length c1216, .slice A1218 r1206.1.2.2.1.length c1219, .slice A1221 r1206.1.2.2.2.length c1222]] [(201, .agg #[.int .i64 r1206.1.1, .slice A1215 r1206.1.2.1.length c1216, .slice A1218 r1206.1.2.2.1.length c1219, .slice A1221 r1206.1.2.2.2.length c1222]), (202, .slice A328 x331.length c329)] [cellsAt w1277 g1224 (0) [.int .i64 r1206.1.1, .slice A1215 r1206.1.2.1.length c1216, .slice A1218 r1206.1.2.2.1.length c1219, .slice A1221 r1206.1.2.2.2.length c1222]] E ((H.box 32 rfl).sub 0 _ rfl) ?_
  clear E; intro a E
  obtain ⟨r1282, h1283, hP⟩ := bind_inv hP
  obtain ⟨Fa1284, Hc1285, hb1286⟩ := H.call [] [(29, false), (30, false), (31, false), (20, false)] rfl rfl trivial
  refine e_call E rfl rfl Try.func29 rfl rfl rfl (law20_accepts_calls A1215 c1216 A1218 c1219 A1221 c1222 A328 c329 r1206.1.1 r1206.1.2.1 r1206.1.2.2.1 r1206.1.2.2.2 x331 (H.rcap 29 rfl) (H.rcap 30 rfl) (H.rcap 31 rfl) (H.rcap 20 rfl) Hc1285 h1283) ?_
  rintro v1287 w1288 a ⟨rfl, HR1289⟩ E_
  replace E := E_ _ rfl; clear E_
  obtain ⟨H_, hc1290⟩ := hb1286 _ _ HR1289 rfl
  replace H := H_; clear H_; try dsimp only [setn, addE, goneL] at H
  refine vp 2 [(205, .bool (decide (0 < (x331.length : Int))))] E ?_
  clear E; intro a E
  revert E; refine csE 205 rfl (fun hb_ E => ?_) fun hb_ E => ?_
  ·
   have h1291 : 0 < (x331.length : Int) := of_decide_eq_true hb_
   replace hP := ite_t h1291 hP
   refine vp 4 [(209, .bool (!(r1282 == r382)))] E ?_
   clear E; intro a E
   refine nl_ ?_
   have hx_ := Option.some.inj hP
   exact .inl ⟨rfl, !(r1282 == r382), E.pk, H.sel [0, 1, 2, 3, 8, 9, 10, 11, 12, 13, 14, 15, 16, 17, 18, 19] rfl, hx_.symm⟩
  have h1292 : ¬ (0 < (x331.length : Int)) := of_decide_eq_false hb_
  replace hP := ite_f h1292 hP
  refine vp 4 [(209, .bool (!(r1282 == false)))] E ?_
  clear E; intro a E
  refine nl_ ?_
  have hx_ := Option.some.inj hP
  exact .inl ⟨rfl, !(r1282 == false), E.pk, H.sel [0, 1, 2, 3, 8, 9, 10, 11, 12, 13, 14, 15, 16, 17, 18, 19] rfl, hx_.symm⟩
 clear E H h1261; rintro a w1264 ⟨x1263, E, H, hx_⟩
 subst hx_; have hP := hK1262; clear hK1262
 refine th_n ?_
 revert E; refine csE 209 rfl (fun hb_ E => ?_) fun hb_ E => ?_
 ·
  have h1293 : x1260 = true := hb_
  replace hP := ite_t h1293 hP
  refine c_true E rfl <| sr_ <| vp 1 [(6, .bool false)] E ?_
  clear E; intro a E
  refine nn_ <| wp_ret <| th_ret ?_
  obtain rfl := Option.some.inj hP
  refine ret1 E rfl rfl ?_
  exact ⟨_, rfl, rfl, H.sel [] rfl⟩
 have h1294 : ¬ (x1260 = true) := (ne_true_of_eq_false hb_)
 replace hP := ite_f h1294 hP
 refine c_false E rfl <| wp_skip <| th_n <| wp_seq <| sr_ <| vq 4 [.agg #[.int .i64 r96.1.1, .slice A105 r96.1.2.1.length c106, .slice A108 r96.1.2.2.1.length c109, .slice A111 r96.1.2.2.2.length c112], .agg #[.int .i64 r146.1.1, .slice A155 r146.1.2.1.length c156, .slice A158 r146.1.2.2.1.length c159, .slice A161 r146.1.2.2.2.length c162], .agg #[.int .i64 r171.1.1, .slice A180 r171.1.2.1.length c181, .slice A183 r171.1.2.2.1.length c184, .slice A186 r171.1.2.2.2.length c187], .agg #[.int .i64 r196.1.1, .slice A205 r196.1.2.1.length c206, .slice A208 r196.1.2.2.1.length c209, .slice A211 r196.1.2.2.2.length c212]] [(210, .agg #[.int .i64 r96.1.1, .slice A105 r96.1.2.1.length c106, .slice A108 r96.1.2.2.1.length c109, .slice A111 r96.1.2.2.2.length c112]), (211, .agg #[.int .i64 r146.1.1, .slice A155 r146.1.2.1.length c156, .slice A158 r146.1.2.2.1.length c159, .slice A161 r146.1.2.2.2.length c162]), (212, .agg #[.int .i64 r171.1.1, .slice A180 r171.1.2.1.length c181, .slice A183 r171.1.2.2.1.length c184, .slice A186 r171.1.2.2.2.length c187]), (213, .agg #[.int .i64 r196.1.1, .slice A205 r196.1.2.1.length c206, .slice A208 r196.1.2.2.1.length c209, .slice A211 r196.1.2.2.2.length c212])] [cellsAt w1264 g114 (0) [.int .i64 r96.1.1, .slice A105 r96.1.2.1.length c106, .slice A108 r96.1.2.2.1.length c109, .slice A111 r96.1.2.2.2.length c112], cellsAt w1264 g164 (0) [.int .i64 r146.1.1, .slice A155 r146.1.2.1.length c156, .slice A158 r146.1.2.2.1.length c159, .slice A161 r146.1.2.2.2.length c162], cellsAt w1264 g189 (0) [.int .i64 r171.1.1, .slice A180 r171.1.2.1.length c181, .slice A183 r171.1.2.2.1.length c184, .slice A186 r171.1.2.2.2.length c187], cellsAt w1264 g214 (0) [.int .i64 r196.1.1, .slice A205 r196.1.2.1.length c206, .slice A208 r196.1.2.2.1.length c209, .slice A211 r196.1.2.2.2.length c212]] E ⟨(H.box 3 rfl).sub 0 _ rfl, (H.box 7 rfl).sub 0 _ rfl, (H.box 11 rfl).sub 0 _ rfl, (H.box 15 rfl).sub 0 _ rfl⟩ ?_
 clear E; intro a E
 refine h_buildSlice (ps := [(0, .agg #[.int .i64 r96.1.1, .slice A105 r96.1.2.1.length c106, .slice A108 r96.1.2.2.1.length c109, .slice A111 r96.1.2.2.2.length c112]), (1, .agg #[.int .i64 r146.1.1, .slice A155 r146.1.2.1.length c156, .slice A158 r146.1.2.2.1.length c159, .slice A161 r146.1.2.2.2.length c162]), (2, .agg #[.int .i64 r171.1.1, .slice A180 r171.1.2.1.length c181, .slice A183 r171.1.2.2.1.length c184, .slice A186 r171.1.2.2.2.length c187]), (3, .agg #[.int .i64 r196.1.1, .slice A205 r196.1.2.1.length c206, .slice A208 r196.1.2.2.1.length c209, .slice A211 r196.1.2.2.2.length c212])]) (cs := [.int .i64 r96.1.1, .slice A105 r96.1.2.1.length c106, .slice A108 r96.1.2.2.1.length c109, .slice A111 r96.1.2.2.2.length c112, .int .i64 r146.1.1, .slice A155 r146.1.2.1.length c156, .slice A158 r146.1.2.2.1.length c159, .slice A161 r146.1.2.2.2.length c162, .int .i64 r171.1.1, .slice A180 r171.1.2.1.length c181, .slice A183 r171.1.2.2.1.length c184, .slice A186 r171.1.2.2.2.length c187, .int .i64 r196.1.1, .slice A205 r196.1.2.1.length c206, .slice A208 r196.1.2.2.1.length c209, .slice A211 r196.1.2.2.2.length c212]) H E rfl rfl tbok rfl rfl (by kernel_rfl) ?_
 clear H E; intro w1296 g1295 a hc1297 hg1299 H E; replace E := E _ rfl; try dsimp only [setn, addE, goneL] at H
 have hk1300 := H.rcap 0 rfl
 replace H := H.frz 0 rfl; try dsimp only [setn, addE, goneL] at H
 have hk1301 := H.rcap 1 rfl
 replace H := H.frz 1 rfl; try dsimp only [setn, addE, goneL] at H
 have hk1302 := H.rcap 2 rfl
 replace H := H.frz 2 rfl; try dsimp only [setn, addE, goneL] at H
 have hk1303 := H.rcap 4 rfl
 replace H := H.frz 4 rfl; try dsimp only [setn, addE, goneL] at H
 have hk1304 := H.rcap 5 rfl
 replace H := H.frz 5 rfl; try dsimp only [setn, addE, goneL] at H
 have hk1305 := H.rcap 6 rfl
 replace H := H.frz 6 rfl; try dsimp only [setn, addE, goneL] at H
 have hk1306 := H.rcap 8 rfl
 replace H := H.frz 8 rfl; try dsimp only [setn, addE, goneL] at H
 have hk1307 := H.rcap 9 rfl
 replace H := H.frz 9 rfl; try dsimp only [setn, addE, goneL] at H
 have hk1308 := H.rcap 10 rfl
 replace H := H.frz 10 rfl; try dsimp only [setn, addE, goneL] at H
 have hk1309 := H.rcap 12 rfl
 replace H := H.frz 12 rfl; try dsimp only [setn, addE, goneL] at H
 have hk1310 := H.rcap 13 rfl
 replace H := H.frz 13 rfl; try dsimp only [setn, addE, goneL] at H
 have hk1311 := H.rcap 14 rfl
 replace H := H.frz 14 rfl; try dsimp only [setn, addE, goneL] at H
 replace H := H.boxRow cS25 true ([(r96.1.1, r96.1.2.1, r96.1.2.2.1, r96.1.2.2.2), (r146.1.1, r146.1.2.1, r146.1.2.2.1, r146.1.2.2.2), (r171.1.1, r171.1.2.1, r171.1.2.2.1, r171.1.2.2.2), (r196.1.1, r196.1.2.1, r196.1.2.2.1, r196.1.2.2.2)] : List (Int × (List Bool) × (List Int) × (List Nd))) 16 rfl (fun _ HF_ => ⟨_, _, rfl, ⟨_, _, rfl, rfl, ⟨_, _, rfl, ⟨_, _, rfl, hk1300, (HF_.roC 0 rfl)⟩, ⟨_, _, rfl, ⟨_, _, rfl, hk1301, (HF_.roC 1 rfl)⟩, ⟨_, _, rfl, hk1302, (HF_.roC 2 rfl)⟩⟩⟩⟩, ⟨_, _, rfl, ⟨_, _, rfl, rfl, ⟨_, _, rfl, ⟨_, _, rfl, hk1303, (HF_.roC 4 rfl)⟩, ⟨_, _, rfl, ⟨_, _, rfl, hk1304, (HF_.roC 5 rfl)⟩, ⟨_, _, rfl, hk1305, (HF_.roC 6 rfl)⟩⟩⟩⟩, ⟨_, _, rfl, ⟨_, _, rfl, rfl, ⟨_, _, rfl, ⟨_, _, rfl, hk1306, (HF_.roC 8 rfl)⟩, ⟨_, _, rfl, ⟨_, _, rfl, hk1307, (HF_.roC 9 rfl)⟩, ⟨_, _, rfl, hk1308, (HF_.roC 10 rfl)⟩⟩⟩⟩, ⟨_, _, rfl, ⟨_, _, rfl, rfl, ⟨_, _, rfl, ⟨_, _, rfl, hk1309, (HF_.roC 12 rfl)⟩, ⟨_, _, rfl, ⟨_, _, rfl, hk1310, (HF_.roC 13 rfl)⟩, ⟨_, _, rfl, hk1311, (HF_.roC 14 rfl)⟩⟩⟩⟩, rfl⟩⟩⟩⟩) (Nat.le_of_ble_eq_true rfl); try dsimp only [setn, addE, goneL] at H
 refine vp 2 [(215, .int .i64 4), (216, .int .i64 0)] E ?_
 clear E; intro a E
 refine nn_ <| wp_block ?_
 obtain ⟨x1423, hL1424, hK1425⟩ := bind_inv hP
 clear hP
 refine loop_cut (fun i_ a w_ => (i_ = 2 ∧ ∃ (x1428 : Unit), Fr a 239 [(7, .bool r39)] ∧ Hp S Fa w0 w_ [] ∧ x1423 = Sum.inl x1428)) ?_ ?_
 ·
  refine loopV (fun m1427 a w1426 => ∃ (x1365 : Int), Fr a 239 [(7, .bool r39), (214, .slice (some ⟨g1295, 0, none⟩) 4 4), (215, .int .i64 4), (216, .int .i64 x1365)] ∧ Hp S Fa w0 w1426 [.rowx true cS25 26 (some ⟨g1295, 0, none⟩) (List.length ([(r96.1.1, r96.1.2.1, r96.1.2.2.1, r96.1.2.2.2), (r146.1.1, r146.1.2.1, r146.1.2.2.1, r146.1.2.2.2), (r171.1.1, r171.1.2.1, r171.1.2.2.1, r171.1.2.2.2), (r196.1.1, r196.1.2.1, r196.1.2.2.1, r196.1.2.2.2)] : List (Int × (List Bool) × (List Int) × (List Nd)))) ([(r96.1.1, r96.1.2.1, r96.1.2.2.1, r96.1.2.2.2), (r146.1.1, r146.1.2.1, r146.1.2.2.1, r146.1.2.2.2), (r171.1.1, r171.1.2.1, r171.1.2.2.1, r171.1.2.2.2), (r196.1.1, r196.1.2.1, r196.1.2.2.1, r196.1.2.2.2)] : List (Int × (List Bool) × (List Int) × (List Nd))) []] ∧ law20_BothLogic_l6 N r96 r146 r171 r196 m1427 x1365 = some x1423) N ?_ ?_
  ·
   exact ⟨0, E.pk, H.sel [16] rfl, hL1424⟩
  clear E H hL1424; intro m1427 a w1426 hI_
  obtain ⟨x1365, E, H, hP⟩ := hI_
  obtain ⟨m1422, rfl⟩ : ∃ q_, m1427 = q_ + 1 := by cases m1427 with | zero => rw [law20_BothLogic_l6] at hP; cases hP | succ q_ => exact ⟨q_, rfl⟩
  rw [law20_BothLogic_l6] at hP
  refine sr_ <| vp 1 [(217, .bool (decide (x1365 < 4)))] E ?_
  clear E; intro a E
  refine nn_ <| wp_seq ?_
  revert E; refine csE 217 rfl (fun hb_ E => ?_) fun hb_ E => ?_
  ·
   have h1429 : x1365 < 4 := of_decide_eq_true hb_
   replace hP := ite_t h1429 hP
   refine c_true E rfl <| wp_skip <| th_n <| wp_seq <| wp_block <| sr_ ?_
   obtain ⟨g1430, hP⟩ := ask_inv hP
   obtain ⟨Fz1431, cs1433, HF1432, hK1434, hc1435⟩ := H.elem 0 true (el_rowx rfl) (0, [], [], []) g1430
   obtain ⟨_, _, rfl, hK1436, hK1437⟩ := hK1434
   obtain rfl := hK1436
   obtain ⟨_, _, rfl, hK1438, hK1439⟩ := hK1437
   obtain ⟨A1440, c1441, rfl, hk1442, hC1443⟩ := hK1438
   obtain ⟨_, _, rfl, hK1445, hK1446⟩ := hK1439
   obtain ⟨A1447, c1448, rfl, hk1449, hC1450⟩ := hK1445
   obtain ⟨A1452, c1453, rfl, hk1454, hC1455⟩ := hK1446
   replace HF1432 := HF1432.ins hC1443
   replace HF1432 := HF1432.ins hC1450
   replace HF1432 := HF1432.ins hC1455
   replace H := HF1432.hp; try dsimp only [addE] at H
   refine vq 2 [.agg #[.int .i64 ((List.getD ([(r96.1.1, r96.1.2.1, r96.1.2.2.1, r96.1.2.2.2), (r146.1.1, r146.1.2.1, r146.1.2.2.1, r146.1.2.2.2), (r171.1.1, r171.1.2.1, r171.1.2.2.1, r171.1.2.2.2), (r196.1.1, r196.1.2.1, r196.1.2.2.1, r196.1.2.2.2)] : List (Int × (List Bool) × (List Int) × (List Nd))) x1365.toNat (0, [], [], [])).1), .slice A1440 (List.length (List.getD ([(r96.1.1, r96.1.2.1, r96.1.2.2.1, r96.1.2.2.2), (r146.1.1, r146.1.2.1, r146.1.2.2.1, r146.1.2.2.2), (r171.1.1, r171.1.2.1, r171.1.2.2.1, r171.1.2.2.2), (r196.1.1, r196.1.2.1, r196.1.2.2.1, r196.1.2.2.2)] : List (Int × (List Bool) × (List Int) × (List Nd))) x1365.toNat (0, [], [], [])).2.1) c1441, .slice A1447 (List.length (List.getD ([(r96.1.1, r96.1.2.1, r96.1.2.2.1, r96.1.2.2.2), (r146.1.1, r146.1.2.1, r146.1.2.2.1, r146.1.2.2.2), (r171.1.1, r171.1.2.1, r171.1.2.2.1, r171.1.2.2.2), (r196.1.1, r196.1.2.1, r196.1.2.2.1, r196.1.2.2.2)] : List (Int × (List Bool) × (List Int) × (List Nd))) x1365.toNat (0, [], [], [])).2.2.1) c1448, .slice A1452 (List.length (List.getD ([(r96.1.1, r96.1.2.1, r96.1.2.2.1, r96.1.2.2.2), (r146.1.1, r146.1.2.1, r146.1.2.2.1, r146.1.2.2.2), (r171.1.1, r171.1.2.1, r171.1.2.2.1, r171.1.2.2.2), (r196.1.1, r196.1.2.1, r196.1.2.2.1, r196.1.2.2.2)] : List (Int × (List Bool) × (List Int) × (List Nd))) x1365.toNat (0, [], [], [])).2.2.2) c1453]] [(219, .agg #[.int .i64 ((List.getD ([(r96.1.1, r96.1.2.1, r96.1.2.2.1, r96.1.2.2.2), (r146.1.1, r146.1.2.1, r146.1.2.2.1, r146.1.2.2.2), (r171.1.1, r171.1.2.1, r171.1.2.2.1, r171.1.2.2.2), (r196.1.1, r196.1.2.1, r196.1.2.2.1, r196.1.2.2.2)] : List (Int × (List Bool) × (List Int) × (List Nd))) x1365.toNat (0, [], [], [])).1), .slice A1440 (List.length (List.getD ([(r96.1.1, r96.1.2.1, r96.1.2.2.1, r96.1.2.2.2), (r146.1.1, r146.1.2.1, r146.1.2.2.1, r146.1.2.2.2), (r171.1.1, r171.1.2.1, r171.1.2.2.1, r171.1.2.2.2), (r196.1.1, r196.1.2.1, r196.1.2.2.1, r196.1.2.2.2)] : List (Int × (List Bool) × (List Int) × (List Nd))) x1365.toNat (0, [], [], [])).2.1) c1441, .slice A1447 (List.length (List.getD ([(r96.1.1, r96.1.2.1, r96.1.2.2.1, r96.1.2.2.2), (r146.1.1, r146.1.2.1, r146.1.2.2.1, r146.1.2.2.2), (r171.1.1, r171.1.2.1, r171.1.2.2.1, r171.1.2.2.2), (r196.1.1, r196.1.2.1, r196.1.2.2.1, r196.1.2.2.2)] : List (Int × (List Bool) × (List Int) × (List Nd))) x1365.toNat (0, [], [], [])).2.2.1) c1448, .slice A1452 (List.length (List.getD ([(r96.1.1, r96.1.2.1, r96.1.2.2.1, r96.1.2.2.2), (r146.1.1, r146.1.2.1, r146.1.2.2.1, r146.1.2.2.2), (r171.1.1, r171.1.2.1, r171.1.2.2.1, r171.1.2.2.2), (r196.1.1, r196.1.2.1, r196.1.2.2.1, r196.1.2.2.2)] : List (Int × (List Bool) × (List Int) × (List Nd))) x1365.toNat (0, [], [], [])).2.2.2) c1453])] [0 ≤ x1365 ∧ x1365 < ((4 : Nat) : Int), cellsAt w1426 g1295 (0 + x1365.toNat * 4) [.int .i64 ((List.getD ([(r96.1.1, r96.1.2.1, r96.1.2.2.1, r96.1.2.2.2), (r146.1.1, r146.1.2.1, r146.1.2.2.1, r146.1.2.2.2), (r171.1.1, r171.1.2.1, r171.1.2.2.1, r171.1.2.2.2), (r196.1.1, r196.1.2.1, r196.1.2.2.1, r196.1.2.2.2)] : List (Int × (List Bool) × (List Int) × (List Nd))) x1365.toNat (0, [], [], [])).1), .slice A1440 (List.length (List.getD ([(r96.1.1, r96.1.2.1, r96.1.2.2.1, r96.1.2.2.2), (r146.1.1, r146.1.2.1, r146.1.2.2.1, r146.1.2.2.2), (r171.1.1, r171.1.2.1, r171.1.2.2.1, r171.1.2.2.2), (r196.1.1, r196.1.2.1, r196.1.2.2.1, r196.1.2.2.2)] : List (Int × (List Bool) × (List Int) × (List Nd))) x1365.toNat (0, [], [], [])).2.1) c1441, .slice A1447 (List.length (List.getD ([(r96.1.1, r96.1.2.1, r96.1.2.2.1, r96.1.2.2.2), (r146.1.1, r146.1.2.1, r146.1.2.2.1, r146.1.2.2.2), (r171.1.1, r171.1.2.1, r171.1.2.2.1, r171.1.2.2.2), (r196.1.1, r196.1.2.1, r196.1.2.2.1, r196.1.2.2.2)] : List (Int × (List Bool) × (List Int) × (List Nd))) x1365.toNat (0, [], [], [])).2.2.1) c1448, .slice A1452 (List.length (List.getD ([(r96.1.1, r96.1.2.1, r96.1.2.2.1, r96.1.2.2.2), (r146.1.1, r146.1.2.1, r146.1.2.2.1, r146.1.2.2.2), (r171.1.1, r171.1.2.1, r171.1.2.2.1, r171.1.2.2.2), (r196.1.1, r196.1.2.1, r196.1.2.2.1, r196.1.2.2.2)] : List (Int × (List Bool) × (List Int) × (List Nd))) x1365.toNat (0, [], [], [])).2.2.2) c1453]] E ⟨g1430, hc1435⟩ ?_
   clear E; intro a E
   refine h_alloc H E rfl rfl tbok rfl ?_
   clear H E; intro w1458 g1457 a hc1459 hg1461 H E; replace E := E _ rfl; try dsimp only [setn, addE, goneL] at H
   refine h_store (g := g1457) (off := 0) H 4 rfl E rfl rfl rfl rfl tbok rfl rfl rfl rfl rfl ?_
   clear E; intro w1462 a hc1463 H_ E
   replace H := H_; clear H_; try dsimp only [setn, addE, goneL] at H
   refine nn_ <| sr_ <| vq 1 [.agg #[.int .i64 ((List.getD ([(r96.1.1, r96.1.2.1, r96.1.2.2.1, r96.1.2.2.2), (r146.1.1, r146.1.2.1, r146.1.2.2.1, r146.1.2.2.2), (r171.1.1, r171.1.2.1, r171.1.2.2.1, r171.1.2.2.2), (r196.1.1, r196.1.2.1, r196.1.2.2.1, r196.1.2.2.2)] : List (Int × (List Bool) × (List Int) × (List Nd))) x1365.toNat (0, [], [], [])).1), .slice A1440 (List.length (List.getD ([(r96.1.1, r96.1.2.1, r96.1.2.2.1, r96.1.2.2.2), (r146.1.1, r146.1.2.1, r146.1.2.2.1, r146.1.2.2.2), (r171.1.1, r171.1.2.1, r171.1.2.2.1, r171.1.2.2.2), (r196.1.1, r196.1.2.1, r196.1.2.2.1, r196.1.2.2.2)] : List (Int × (List Bool) × (List Int) × (List Nd))) x1365.toNat (0, [], [], [])).2.1) c1441, .slice A1447 (List.length (List.getD ([(r96.1.1, r96.1.2.1, r96.1.2.2.1, r96.1.2.2.2), (r146.1.1, r146.1.2.1, r146.1.2.2.1, r146.1.2.2.2), (r171.1.1, r171.1.2.1, r171.1.2.2.1, r171.1.2.2.2), (r196.1.1, r196.1.2.1, r196.1.2.2.1, r196.1.2.2.2)] : List (Int × (List Bool) × (List Int) × (List Nd))) x1365.toNat (0, [], [], [])).2.2.1) c1448, .slice A1452 (List.length (List.getD ([(r96.1.1, r96.1.2.1, r96.1.2.2.1, r96.1.2.2.2), (r146.1.1, r146.1.2.1, r146.1.2.2.1, r146.1.2.2.2), (r171.1.1, r171.1.2.1, r171.1.2.2.1, r171.1.2.2.2), (r196.1.1, r196.1.2.1, r196.1.2.2.1, r196.1.2.2.2)] : List (Int × (List Bool) × (List Int) × (List Nd))) x1365.toNat (0, [], [], [])).2.2.2) c1453]] [(221, .agg #[.int .i64 ((List.getD ([(r96.1.1, r96.1.2.1, r96.1.2.2.1, r96.1.2.2.2), (r146.1.1, r146.1.2.1, r146.1.2.2.1, r146.1.2.2.2), (r171.1.1, r171.1.2.1, r171.1.2.2.1, r171.1.2.2.2), (r196.1.1, r196.1.2.1, r196.1.2.2.1, r196.1.2.2.2)] : List (Int × (List Bool) × (List Int) × (List Nd))) x1365.toNat (0, [], [], [])).1), .slice A1440 (List.length (List.getD ([(r96.1.1, r96.1.2.1, r96.1.2.2.1, r96.1.2.2.2), (r146.1.1, r146.1.2.1, r146.1.2.2.1, r146.1.2.2.2), (r171.1.1, r171.1.2.1, r171.1.2.2.1, r171.1.2.2.2), (r196.1.1, r196.1.2.1, r196.1.2.2.1, r196.1.2.2.2)] : List (Int × (List Bool) × (List Int) × (List Nd))) x1365.toNat (0, [], [], [])).2.1) c1441, .slice A1447 (List.length (List.getD ([(r96.1.1, r96.1.2.1, r96.1.2.2.1, r96.1.2.2.2), (r146.1.1, r146.1.2.1, r146.1.2.2.1, r146.1.2.2.2), (r171.1.1, r171.1.2.1, r171.1.2.2.1, r171.1.2.2.2), (r196.1.1, r196.1.2.1, r196.1.2.2.1, r196.1.2.2.2)] : List (Int × (List Bool) × (List Int) × (List Nd))) x1365.toNat (0, [], [], [])).2.2.1) c1448, .slice A1452 (List.length (List.getD ([(r96.1.1, r96.1.2.1, r96.1.2.2.1, r96.1.2.2.2), (r146.1.1, r146.1.2.1, r146.1.2.2.1, r146.1.2.2.2), (r171.1.1, r171.1.2.1, r171.1.2.2.1, r171.1.2.2.2), (r196.1.1, r196.1.2.1, r196.1.2.2.1, r196.1.2.2.2)] : List (Int × (List Bool) × (List Int) × (List Nd))) x1365.toNat (0, [], [], [])).2.2.2) c1453])] [cellsAt w1462 g1457 (0) [.int .i64 ((List.getD ([(r96.1.1, r96.1.2.1, r96.1.2.2.1, r96.1.2.2.2), (r146.1.1, r146.1.2.1, r146.1.2.2.1, r146.1.2.2.2), (r171.1.1, r171.1.2.1, r171.1.2.2.1, r171.1.2.2.2), (r196.1.1, r196.1.2.1, r196.1.2.2.1, r196.1.2.2.2)] : List (Int × (List Bool) × (List Int) × (List Nd))) x1365.toNat (0, [], [], [])).1), .slice A1440 (List.length (List.getD ([(r96.1.1, r96.1.2.1, r96.1.2.2.1, r96.1.2.2.2), (r146.1.1, r146.1.2.1, r146.1.2.2.1, r146.1.2.2.2), (r171.1.1, r171.1.2.1, r171.1.2.2.1, r171.1.2.2.2), (r196.1.1, r196.1.2.1, r196.1.2.2.1, r196.1.2.2.2)] : List (Int × (List Bool) × (List Int) × (List Nd))) x1365.toNat (0, [], [], [])).2.1) c1441, .slice A1447 (List.length (List.getD ([(r96.1.1, r96.1.2.1, r96.1.2.2.1, r96.1.2.2.2), (r146.1.1, r146.1.2.1, r146.1.2.2.1, r146.1.2.2.2), (r171.1.1, r171.1.2.1, r171.1.2.2.1, r171.1.2.2.2), (r196.1.1, r196.1.2.1, r196.1.2.2.1, r196.1.2.2.2)] : List (Int × (List Bool) × (List Int) × (List Nd))) x1365.toNat (0, [], [], [])).2.2.1) c1448, .slice A1452 (List.length (List.getD ([(r96.1.1, r96.1.2.1, r96.1.2.2.1, r96.1.2.2.2), (r146.1.1, r146.1.2.1, r146.1.2.2.1, r146.1.2.2.2), (r171.1.1, r171.1.2.1, r171.1.2.2.1, r171.1.2.2.2), (r196.1.1, r196.1.2.1, r196.1.2.2.1, r196.1.2.2.2)] : List (Int × (List Bool) × (List Int) × (List Nd))) x1365.toNat (0, [], [], [])).2.2.2) c1453]] E ((H.box 4 rfl).sub 0 _ rfl) ?_
   clear E; intro a E
   obtain ⟨r1464, h1465, hP⟩ := bind_inv hP
   obtain ⟨Fa1466, Hc1467, hb1468⟩ := H.call [] [(1, false), (2, false), (3, false)] rfl rfl trivial
   refine e_call E rfl rfl Try.func30 rfl rfl rfl (canon_Is_calls A1440 c1441 A1447 c1448 A1452 c1453 ((List.getD ([(r96.1.1, r96.1.2.1, r96.1.2.2.1, r96.1.2.2.2), (r146.1.1, r146.1.2.1, r146.1.2.2.1, r146.1.2.2.2), (r171.1.1, r171.1.2.1, r171.1.2.2.1, r171.1.2.2.2), (r196.1.1, r196.1.2.1, r196.1.2.2.1, r196.1.2.2.2)] : List (Int × (List Bool) × (List Int) × (List Nd))) x1365.toNat (0, [], [], [])).1) ((List.getD ([(r96.1.1, r96.1.2.1, r96.1.2.2.1, r96.1.2.2.2), (r146.1.1, r146.1.2.1, r146.1.2.2.1, r146.1.2.2.2), (r171.1.1, r171.1.2.1, r171.1.2.2.1, r171.1.2.2.2), (r196.1.1, r196.1.2.1, r196.1.2.2.1, r196.1.2.2.2)] : List (Int × (List Bool) × (List Int) × (List Nd))) x1365.toNat (0, [], [], [])).2.1) ((List.getD ([(r96.1.1, r96.1.2.1, r96.1.2.2.1, r96.1.2.2.2), (r146.1.1, r146.1.2.1, r146.1.2.2.1, r146.1.2.2.2), (r171.1.1, r171.1.2.1, r171.1.2.2.1, r171.1.2.2.2), (r196.1.1, r196.1.2.1, r196.1.2.2.1, r196.1.2.2.2)] : List (Int × (List Bool) × (List Int) × (List Nd))) x1365.toNat (0, [], [], [])).2.2.1) ((List.getD ([(r96.1.1, r96.1.2.1, r96.1.2.2.1, r96.1.2.2.2), (r146.1.1, r146.1.2.1, r146.1.2.2.1, r146.1.2.2.2), (r171.1.1, r171.1.2.1, r171.1.2.2.1, r171.1.2.2.2), (r196.1.1, r196.1.2.1, r196.1.2.2.1, r196.1.2.2.2)] : List (Int × (List Bool) × (List Int) × (List Nd))) x1365.toNat (0, [], [], [])).2.2.2) hk1442 hk1449 hk1454 Hc1467 h1465) ?_
   rintro v1469 w1470 a ⟨rfl, HR1471⟩ E_
   replace E := E_ _ rfl; clear E_
   obtain ⟨H_, hc1472⟩ := hb1468 _ _ HR1471 rfl
   replace H := H_; clear H_; try dsimp only [setn, addE, goneL] at H
   refine vp 5 [(31, .bool r1464.1), (32, .int .i64 r1464.2)] E ?_
   clear E; intro a E
   refine nn_ <| wp_seq ?_
   obtain ⟨x1481, h1482, hK1483⟩ := bind_inv hP
   clear hP
   refine meet_cut (fun a w1485 => ∃ (x1484 : Bool), Fr a 239 [(7, .bool r39), (214, .slice (some ⟨g1295, 0, none⟩) 4 4), (215, .int .i64 4), (216, .int .i64 x1365), (236, .bool x1484)] ∧ Hp S Fa w0 w1485 [.rowx true cS25 26 (some ⟨g1295, 0, none⟩) (List.length ([(r96.1.1, r96.1.2.1, r96.1.2.2.1, r96.1.2.2.2), (r146.1.1, r146.1.2.1, r146.1.2.2.1, r146.1.2.2.2), (r171.1.1, r171.1.2.1, r171.1.2.2.1, r171.1.2.2.2), (r196.1.1, r196.1.2.1, r196.1.2.2.1, r196.1.2.2.2)] : List (Int × (List Bool) × (List Int) × (List Nd)))) ([(r96.1.1, r96.1.2.1, r96.1.2.2.1, r96.1.2.2.2), (r146.1.1, r146.1.2.1, r146.1.2.2.1, r146.1.2.2.2), (r171.1.1, r171.1.2.1, r171.1.2.2.1, r171.1.2.2.2), (r196.1.1, r196.1.2.1, r196.1.2.2.1, r196.1.2.2.2)] : List (Int × (List Bool) × (List Int) × (List Nd))) []] ∧ x1481 = x1484) ?_ ?_
   ·
    have hP := h1482; clear h1482; rw [law20_BothLogic_j7] at hP
    refine rl_ <| vp 3 [(227, .bool ((r1464.2 : Int) != 0))] E ?_
    clear E; intro a E
    revert E; refine csE 227 rfl (fun hb_ E => ?_) fun hb_ E => ?_
    ·
     have h1486 : ¬ ((r1464.2 : Int) = 0) := bne_iff_ne.1 hb_
     replace hP := ite_f h1486 hP
     refine vp 9 [(236, .bool true)] E ?_
     clear E; intro a E
     refine nl_ ?_
     have hx_ := Option.some.inj hP
     exact .inl ⟨rfl, true, E.pk, H.sel [0] rfl, hx_.symm⟩
    have h1487 : (r1464.2 : Int) = 0 := bne_eq_false_iff_eq.1 hb_
    replace hP := ite_t h1487 hP
    refine vp 4 [(231, .bool (!r1464.1))] E ?_
    clear E; intro a E
    revert E; refine csE 231 rfl (fun hb_ E => ?_) fun hb_ E => ?_
    ·
     have h1488 : ¬ (r1464.1 = true) := (ne_true_of_eq_false (not_t hb_))
     replace hP := ite_f h1488 hP
     refine vp 5 [(236, .bool true)] E ?_
     clear E; intro a E
     refine nl_ ?_
     have hx_ := Option.some.inj hP
     exact .inl ⟨rfl, true, E.pk, H.sel [0] rfl, hx_.symm⟩
    have h1489 : r1464.1 = true := (not_f hb_)
    replace hP := ite_t h1489 hP
    obtain ⟨g1490, hP⟩ := ask_inv hP
    obtain ⟨b1491, o1492, e_b1491⟩ := (H.rd 1 rds_ro).addr (idx_pos g1490)
    subst e_b1491
    refine vq 5 [.slice (some ⟨b1491, o1492, none⟩) (List.length (List.getD ([(r96.1.1, r96.1.2.1, r96.1.2.2.1, r96.1.2.2.2), (r146.1.1, r146.1.2.1, r146.1.2.2.1, r146.1.2.2.2), (r171.1.1, r171.1.2.1, r171.1.2.2.1, r171.1.2.2.2), (r196.1.1, r196.1.2.1, r196.1.2.2.1, r196.1.2.2.2)] : List (Int × (List Bool) × (List Int) × (List Nd))) x1365.toNat (0, [], [], [])).2.1) c1441, .bool (List.getD ((List.getD ([(r96.1.1, r96.1.2.1, r96.1.2.2.1, r96.1.2.2.2), (r146.1.1, r146.1.2.1, r146.1.2.2.1, r146.1.2.2.2), (r171.1.1, r171.1.2.1, r171.1.2.2.1, r171.1.2.2.2), (r196.1.1, r196.1.2.1, r196.1.2.2.1, r196.1.2.2.2)] : List (Int × (List Bool) × (List Int) × (List Nd))) x1365.toNat (0, [], [], [])).2.1) (Int.toNat (0 : Int)) false)] [(236, .bool (List.getD ((List.getD ([(r96.1.1, r96.1.2.1, r96.1.2.2.1, r96.1.2.2.2), (r146.1.1, r146.1.2.1, r146.1.2.2.1, r146.1.2.2.2), (r171.1.1, r171.1.2.1, r171.1.2.2.1, r171.1.2.2.2), (r196.1.1, r196.1.2.1, r196.1.2.2.1, r196.1.2.2.2)] : List (Int × (List Bool) × (List Int) × (List Nd))) x1365.toNat (0, [], [], [])).2.1) (Int.toNat (0 : Int)) false))] [World.cell? w1470 ⟨g1457, 1, none⟩ = some (.slice (some ⟨b1491, o1492, none⟩) (List.length (List.getD ([(r96.1.1, r96.1.2.1, r96.1.2.2.1, r96.1.2.2.2), (r146.1.1, r146.1.2.1, r146.1.2.2.1, r146.1.2.2.2), (r171.1.1, r171.1.2.1, r171.1.2.2.1, r171.1.2.2.2), (r196.1.1, r196.1.2.1, r196.1.2.2.1, r196.1.2.2.2)] : List (Int × (List Bool) × (List Int) × (List Nd))) x1365.toNat (0, [], [], [])).2.1) c1441), 0 ≤ (0 : Int) ∧ (0 : Int) < (((List.length (List.getD ([(r96.1.1, r96.1.2.1, r96.1.2.2.1, r96.1.2.2.2), (r146.1.1, r146.1.2.1, r146.1.2.2.1, r146.1.2.2.2), (r171.1.1, r171.1.2.1, r171.1.2.2.1, r171.1.2.2.2), (r196.1.1, r196.1.2.1, r196.1.2.2.1, r196.1.2.2.2)] : List (Int × (List Bool) × (List Int) × (List Nd))) x1365.toNat (0, [], [], [])).2.1) : Nat) : Int), World.cell? w1470 ⟨b1491, o1492 + (Int.toNat (0 : Int)) * 1, none⟩ = some (.bool (List.getD ((List.getD ([(r96.1.1, r96.1.2.1, r96.1.2.2.1, r96.1.2.2.2), (r146.1.1, r146.1.2.1, r146.1.2.2.1, r146.1.2.2.2), (r171.1.1, r171.1.2.1, r171.1.2.2.1, r171.1.2.2.2), (r196.1.1, r196.1.2.1, r196.1.2.2.1, r196.1.2.2.2)] : List (Int × (List Bool) × (List Int) × (List Nd))) x1365.toNat (0, [], [], [])).2.1) (Int.toNat (0 : Int)) false))] E ⟨(H.box 4 rfl).cell (j := 1) rfl, g1490, Rds.at1 (H.rd 1 rds_ro) false g1490⟩ ?_
    clear E; intro a E
    refine nl_ ?_
    have hx_ := Option.some.inj hP
    exact .inl ⟨rfl, (List.getD ((List.getD ([(r96.1.1, r96.1.2.1, r96.1.2.2.1, r96.1.2.2.2), (r146.1.1, r146.1.2.1, r146.1.2.2.1, r146.1.2.2.2), (r171.1.1, r171.1.2.1, r171.1.2.2.1, r171.1.2.2.2), (r196.1.1, r196.1.2.1, r196.1.2.2.1, r196.1.2.2.2)] : List (Int × (List Bool) × (List Int) × (List Nd))) x1365.toNat (0, [], [], [])).2.1) (Int.toNat (0 : Int)) false), E.pk, H.sel [0] rfl, hx_.symm⟩
   clear E H h1482; rintro a w1485 ⟨x1484, E, H, hx_⟩
   subst hx_; have hP := hK1483; clear hK1483
   refine th_n ?_
   revert E; refine csE 236 rfl (fun hb_ E => ?_) fun hb_ E => ?_
   ·
    have h1493 : x1481 = true := hb_
    replace hP := ite_t h1493 hP
    refine c_true E rfl <| sr_ <| vp 1 [(6, .bool false)] E ?_
    clear E; intro a E
    refine nn_ <| wp_ret <| bl_ret <| th_ret <| th_ret <| .inr ⟨rfl, ?_⟩
    refine bl_ret <| th_ret ?_
    have hx_ := Option.some.inj hP; subst hx_
    have hP : some (false) = some r := hK1425
    obtain rfl := Option.some.inj hP
    refine ret1 E rfl rfl ?_
    exact ⟨_, rfl, rfl, H.sel [] rfl⟩
   have h1494 : ¬ (x1481 = true) := (ne_true_of_eq_false hb_)
   replace hP := ite_f h1494 hP
   refine c_false E rfl <| wp_skip <| bl_n <| th_n <| rl_ ?_
   obtain ⟨g1495, hP⟩ := ask_inv hP
   refine vq 2 [.int .i64 (x1365 + 1)] [(216, .int .i64 (x1365 + 1))] [IntKind.i64.wrap (x1365 + 1) = x1365 + 1] E (wrap_in g1495) ?_
   clear E; intro a E
   refine nl_ ?_
   exact th_n ⟨m1422, Nat.lt_succ_self _, x1365 + 1, E.pk, H.sel [0] rfl, hP⟩
  have h1496 : ¬ (x1365 < 4) := of_decide_eq_false hb_
  replace hP := ite_f h1496 hP
  refine c_false E rfl <| wp_exit <| th_exit ?_
  have hx_ := Option.some.inj hP
  refine th_exit (.inl ⟨2, rfl, ?_⟩)
  exact ⟨rfl, (), E.pk, H.sel [] rfl, hx_.symm⟩
 clear E H hL1424; intro i_ a w1426 hM_
 obtain ⟨rfl, x1428, E, H, hx_⟩ := hM_
 subst hx_; have hP := elim_l hK1425
 clear hK1425
 refine bl_hit <| th_n <| sr_ <| vp 2 [(6, .bool r39)] E ?_
 clear E; intro a E
 refine nn_ <| wp_ret ?_
 obtain rfl := Option.some.inj hP
 refine ret1 E rfl rfl ?_
 exact ⟨_, rfl, rfl, H.sel [] rfl⟩

end Go.V
