/- Plain functions, and the calls that give them. -/
import Derived.Test.YtihindpnnbllkaaA2
set_option linter.all false
set_option linter.unusedVariables false
set_option linter.unnecessarySimpa false
set_option linter.unusedSimpArgs false
set_option maxRecDepth 100000
set_option maxHeartbeats 4000000
namespace Go.V
open Go Go.Proofs
/-! rejoinder/both.signed -/
def both_signed_l0 (N : Nat) (ll : List Int) : Nat → (List Int) → Int → Option (List Int)
  | 0, _, _ => none
  | m52 + 1, b28, x31 =>
    if x31 < (ll.length : Int) then
      ask (idx x31 ll.length) <|
      ask (List.length b28 + List.length ([IntKind.u8.wrap (List.getD ll x31.toNat 0), IntKind.u8.wrap (shrV .i32 (List.getD ll x31.toNat 0) (8 : Int)), IntKind.u8.wrap (shrV .i32 (List.getD ll x31.toNat 0) (16 : Int)), IntKind.u8.wrap (shrV .i32 (List.getD ll x31.toNat 0) (24 : Int))] : List Int) ≤ 1000000000) <|
      ask (in64 (x31 + 1)) <|
      both_signed_l0 N ll m52 (b28 ++ ([IntKind.u8.wrap (List.getD ll x31.toNat 0), IntKind.u8.wrap (shrV .i32 (List.getD ll x31.toNat 0) (8 : Int)), IntKind.u8.wrap (shrV .i32 (List.getD ll x31.toNat 0) (16 : Int)), IntKind.u8.wrap (shrV .i32 (List.getD ll x31.toNat 0) (24 : Int))] : List Int)) (x31 + 1)
    else
      some b28
def both_signed (N : Nat) (ll : List Int) : Option ByteArray :=
  ask (in64 (4 * (ll.length : Int))) <|
  ask (0 ≤ (0 : Int) ∧ (0 : Int) ≤ (4 * (ll.length : Int)) ∧ (4 * (ll.length : Int)) ≤ 1000000000) <|
  Option.bind (both_signed_l0 N ll N (List.replicate (Int.toNat (0 : Int)) (0 : Int)) 0) fun x53 =>
  some (strOfNums x53)
theorem both_signed_calls {N : Nat} {S Fa : Nat → Prop} {w0 : World} {r : ByteArray} (A1 : Option Addr) (c2 : Nat) (ll : List Int) (hk3 : List.length ll ≤ c2) (H : Hp S Fa w0 w0 [.ro false (cInt .i32) A1 ll]) (hP : both_signed N ll = some r) :
    Calls Try.prog 82 #[.slice A1 ll.length c2] w0 fun e w' => ∃ v, e = .returned v ∧ v = .string r ∧ Hp S Fa w0 w' [] := by
 refine enterV (n := 33) Try.func82 rfl rfl rfl ?_
 intro a E
 replace E := E.pick [(0, .slice A1 ll.length c2)] ⟨rfl, trivial⟩
 rw [both_signed] at hP
 refine sr_ <| vp 1 [] E ?_
 clear E; intro a E
 refine nn_ <| sr_ ?_
 obtain ⟨g5, hP⟩ := ask_inv hP
 refine vq 3 [.int .i64 (4 * (ll.length : Int))] [(8, .int .i64 (4 * (ll.length : Int)))] [IntKind.i64.wrap (4 * (ll.length : Int)) = 4 * (ll.length : Int)] E (wrap_in g5) ?_
 clear E; intro a E
 obtain ⟨g6, hP⟩ := ask_inv hP
 refine h_make (cInt .u8) (0 : Int) H E rfl rfl tbok rfl rfl rfl rfl g6 rfl rfl rfl (fun _ _ => rfl) ?_
 clear H E; intro w8 g7 a hc9 hg11 H E; replace E := E _ rfl; try dsimp only [setn, addE, goneL] at H
 refine vp 1 [(3, .slice (some ⟨g7, 0, none⟩) (List.length (List.replicate (Int.toNat (0 : Int)) (0 : Int))) (Int.toNat (4 * (ll.length : Int))))] E ?_
 clear E; intro a E
 refine nn_ <| wp_seq <| sr_ <| vp 3 [(10, .slice A1 ll.length c2), (11, .int .i64 (ll.length : Int)), (12, .int .i64 0)] E ?_
 clear E; intro a E
 refine nn_ <| wp_block ?_
 obtain ⟨x53, hL54, hK55⟩ := bind_inv hP
 clear hP
 replace H := H.rowx 1 rfl; try dsimp only [setn, addE, goneL] at H
 refine loop_cut (fun i_ a w_ => (i_ = 0 ∧ ∃ (x58 : List Int), ∃ (A50 : Option Addr) (c51 : Nat), Fr a 33 [(3, .slice A50 x58.length c51)] ∧ Hp S Fa w0 w_ [.row true (cInt .u8) 5 A50 c51 x58] ∧ x53 = x58)) ?_ ?_
 ·
  refine loopV (fun m57 a w56 => ∃ (b28 : List Int) (x31 : Int), ∃ (A29 : Option Addr) (c30 : Nat), Fr a 33 [(3, .slice A29 b28.length c30), (10, .slice A1 ll.length c2), (11, .int .i64 (ll.length : Int)), (12, .int .i64 x31)] ∧ Hp S Fa w0 w56 [.row true (cInt .u8) 5 A29 c30 b28, .ro false (cInt .i32) A1 ll] ∧ both_signed_l0 N ll m57 b28 x31 = some x53) N ?_ ?_
  ·
   exact ⟨List.replicate (Int.toNat (0 : Int)) (0 : Int), 0, (some ⟨g7, 0, none⟩), (Int.toNat (4 * (ll.length : Int))), E.pk, H.sel [1, 0] rfl, hL54⟩
  clear E H hL54; intro m57 a w56 hI_
  obtain ⟨b28, x31, A29, c30, E, H, hP⟩ := hI_
  obtain ⟨m52, rfl⟩ : ∃ q_, m57 = q_ + 1 := by cases m57 with | zero => rw [both_signed_l0] at hP; cases hP | succ q_ => exact ⟨q_, rfl⟩
  rw [both_signed_l0] at hP
  refine sr_ <| vp 1 [(13, .bool (decide (x31 < (ll.length : Int))))] E ?_
  clear E; intro a E
  refine nn_ <| wp_seq ?_
  revert E; refine csE 13 rfl (fun hb_ E => ?_) fun hb_ E => ?_
  ·
   have h59 : x31 < (ll.length : Int) := of_decide_eq_true hb_
   replace hP := ite_t h59 hP
   refine c_true E rfl <| wp_skip <| th_n <| wp_seq <| wp_block <| sr_ ?_
   obtain ⟨g60, hP⟩ := ask_inv hP
   obtain ⟨b61, o62, e_b61⟩ := (H.rd 1 rds_ro).addr (idx_pos g60)
   subst e_b61
   refine vq 3 [.int .i32 (List.getD ll x31.toNat 0)] [(5, .int .i32 (List.getD ll x31.toNat 0))] [0 ≤ x31 ∧ x31 < (ll.length : Int), World.cell? w56 ⟨b61, o62 + x31.toNat * 1, none⟩ = some (.int .i32 (List.getD ll x31.toNat 0))] E ⟨g60, Rds.at1 (H.rd 1 rds_ro) 0 g60⟩ ?_
   clear E; intro a E
   refine nn_ <| rl_ <| vq 12 [.int .u8 (IntKind.u8.wrap (List.getD ll x31.toNat 0)), .int .i32 (shrV .i32 (List.getD ll x31.toNat 0) (8 : Int)), .int .u8 (IntKind.u8.wrap (shrV .i32 (List.getD ll x31.toNat 0) (8 : Int))), .int .i32 (shrV .i32 (List.getD ll x31.toNat 0) (16 : Int)), .int .u8 (IntKind.u8.wrap (shrV .i32 (List.getD ll x31.toNat 0) (16 : Int))), .int .i32 (shrV .i32 (List.getD ll x31.toNat 0) (24 : Int)), .int .u8 (IntKind.u8.wrap (shrV .i32 (List.getD ll x31.toNat 0) (24 : Int)))] [(16, .slice A29 b28.length c30), (18, .int .u8 (IntKind.u8.wrap (List.getD ll x31.toNat 0))), (21, .int .u8 (IntKind.u8.wrap (shrV .i32 (List.getD ll x31.toNat 0) (8 : Int)))), (24, .int .u8 (IntKind.u8.wrap (shrV .i32 (List.getD ll x31.toNat 0) (16 : Int)))), (27, .int .u8 (IntKind.u8.wrap (shrV .i32 (List.getD ll x31.toNat 0) (24 : Int))))] [IntKind.u8.wrap (List.getD ll x31.toNat 0) = (IntKind.u8.wrap (List.getD ll x31.toNat 0)), 0 ≤ (8 : Int) ∧ Int.fdiv (List.getD ll x31.toNat 0) (2 ^ (min (Int.toNat (8 : Int)) (IntKind.bits .i32))) = shrV .i32 (List.getD ll x31.toNat 0) (8 : Int), IntKind.u8.wrap (shrV .i32 (List.getD ll x31.toNat 0) (8 : Int)) = (IntKind.u8.wrap (shrV .i32 (List.getD ll x31.toNat 0) (8 : Int))), 0 ≤ (16 : Int) ∧ Int.fdiv (List.getD ll x31.toNat 0) (2 ^ (min (Int.toNat (16 : Int)) (IntKind.bits .i32))) = shrV .i32 (List.getD ll x31.toNat 0) (16 : Int), IntKind.u8.wrap (shrV .i32 (List.getD ll x31.toNat 0) (16 : Int)) = (IntKind.u8.wrap (shrV .i32 (List.getD ll x31.toNat 0) (16 : Int))), 0 ≤ (24 : Int) ∧ Int.fdiv (List.getD ll x31.toNat 0) (2 ^ (min (Int.toNat (24 : Int)) (IntKind.bits .i32))) = shrV .i32 (List.getD ll x31.toNat 0) (24 : Int), IntKind.u8.wrap (shrV .i32 (List.getD ll x31.toNat 0) (24 : Int)) = (IntKind.u8.wrap (shrV .i32 (List.getD ll x31.toNat 0) (24 : Int)))] E ⟨rfl, ⟨by decide, rfl⟩, rfl, ⟨by decide, rfl⟩, rfl, ⟨by decide, rfl⟩, rfl⟩ ?_
   clear E; intro a E
   refine h_buildSlice (ps := [(0, .int .u8 (IntKind.u8.wrap (List.getD ll x31.toNat 0))), (1, .int .u8 (IntKind.u8.wrap (shrV .i32 (List.getD ll x31.toNat 0) (8 : Int)))), (2, .int .u8 (IntKind.u8.wrap (shrV .i32 (List.getD ll x31.toNat 0) (16 : Int)))), (3, .int .u8 (IntKind.u8.wrap (shrV .i32 (List.getD ll x31.toNat 0) (24 : Int))))]) (cs := [.int .u8 (IntKind.u8.wrap (List.getD ll x31.toNat 0)), .int .u8 (IntKind.u8.wrap (shrV .i32 (List.getD ll x31.toNat 0) (8 : Int))), .int .u8 (IntKind.u8.wrap (shrV .i32 (List.getD ll x31.toNat 0) (16 : Int))), .int .u8 (IntKind.u8.wrap (shrV .i32 (List.getD ll x31.toNat 0) (24 : Int)))]) H E rfl rfl tbok rfl rfl (by kernel_rfl) ?_
   clear H E; intro w64 g63 a hc65 hg67 H E; replace E := E _ rfl; try dsimp only [setn, addE, goneL] at H
   obtain ⟨g68, hP⟩ := ask_inv hP
   refine h_append (cInt .u8) (xs := b28) (ys := ([IntKind.u8.wrap (List.getD ll x31.toNat 0), IntKind.u8.wrap (shrV .i32 (List.getD ll x31.toNat 0) (8 : Int)), IntKind.u8.wrap (shrV .i32 (List.getD ll x31.toNat 0) (16 : Int)), IntKind.u8.wrap (shrV .i32 (List.getD ll x31.toNat 0) (24 : Int))] : List Int)) (0 : Int) H 0 rfl E rfl rfl tbok rfl rfl rfl rfl rfl (fun _ _ => rfl) rfl rfl (fun _ HF_ => HF_.srcB 2 rfl (⟨_, _, rfl, rfl, ⟨_, _, rfl, rfl, ⟨_, _, rfl, rfl, ⟨_, _, rfl, rfl, rfl⟩⟩⟩⟩)) g68 ?_
   clear H E; intro w69 A70 c71 a hc72 hA73 H E; replace E := E _ rfl; try dsimp only [setn, addE, goneL] at H
   refine vp 1 [(3, .slice A70 (List.length (b28 ++ ([IntKind.u8.wrap (List.getD ll x31.toNat 0), IntKind.u8.wrap (shrV .i32 (List.getD ll x31.toNat 0) (8 : Int)), IntKind.u8.wrap (shrV .i32 (List.getD ll x31.toNat 0) (16 : Int)), IntKind.u8.wrap (shrV .i32 (List.getD ll x31.toNat 0) (24 : Int))] : List Int))) c71)] E ?_
   clear E; intro a E
   refine nl_ <| bl_n <| th_n <| rl_ ?_
   obtain ⟨g74, hP⟩ := ask_inv hP
   refine vq 2 [.int .i64 (x31 + 1)] [(12, .int .i64 (x31 + 1))] [IntKind.i64.wrap (x31 + 1) = x31 + 1] E (wrap_in g74) ?_
   clear E; intro a E
   refine nl_ ?_
   exact th_n ⟨m52, Nat.lt_succ_self _, b28 ++ ([IntKind.u8.wrap (List.getD ll x31.toNat 0), IntKind.u8.wrap (shrV .i32 (List.getD ll x31.toNat 0) (8 : Int)), IntKind.u8.wrap (shrV .i32 (List.getD ll x31.toNat 0) (16 : Int)), IntKind.u8.wrap (shrV .i32 (List.getD ll x31.toNat 0) (24 : Int))] : List Int), x31 + 1, A70, c71, E.pk, H.sel [0, 1] rfl, hP⟩
  have h75 : ¬ (x31 < (ll.length : Int)) := of_decide_eq_false hb_
  replace hP := ite_f h75 hP
  refine c_false E rfl <| wp_exit <| th_exit ?_
  have hx_ := Option.some.inj hP
  refine th_exit (.inl ⟨0, rfl, ?_⟩)
  exact ⟨rfl, b28, A29, c30, E.pk, H.sel [0] rfl, hx_.symm⟩
 clear E H hL54; intro i_ a w56 hM_
 obtain ⟨rfl, x58, A50, c51, E, H, hx_⟩ := hM_
 subst hx_; have hP := hK55; clear hK55
 refine bl_hit <| th_n <| sr_ <| vp 1 [(31, .slice A50 x53.length c51)] E ?_
 clear E; intro a E
 refine e_convStr (xs := x53) E rfl rfl tbok rfl rfl rfl rfl (H.rd 0 rds_row) rfl ?_
 clear E; intro a E
 refine vp 1 [(2, .string (strOfNums x53))] E ?_
 clear E; intro a E
 refine nn_ <| wp_ret ?_
 obtain rfl := Option.some.inj hP
 refine ret1 E rfl rfl ?_
 exact ⟨_, rfl, rfl, H.sel [] rfl⟩

/-! rejoinder/both.refined -/
def both_refined_l0 (N : Nat) (accept : List Bool) : Nat → (List Int) → Int → Option (List Int)
  | 0, _, _ => none
  | m41 + 1, of25, x26 =>
    if x26 < (accept.length : Int) then
      ask (idx x26 accept.length) <|
      if (List.getD accept x26.toNat false) = true then
        ask (idx x26 of25.length) <|
        ask (in64 (x26 + 1)) <|
        both_refined_l0 N accept m41 (List.set of25 x26.toNat 1) (x26 + 1)
      else
        ask (in64 (x26 + 1)) <|
        both_refined_l0 N accept m41 of25 (x26 + 1)
    else
      some of25
def both_refined_l3 (N : Nat) (p : (List (Int × Int)) × (List (List Int)) × (List Int) × (List Int)) (of288 : List Int) (x694 : Int) : Nat → (List Int) → Int → Option (List Int)
  | 0, _, _ => none
  | m852 + 1, s827, x830 =>
    if x830 < (((List.length (List.getD p.2.1 x694.toNat [])) : Nat) : Int) then
      ask (idx x830 (List.length (List.getD p.2.1 x694.toNat []))) <|
      ask (idx (List.getD (List.getD p.2.1 x694.toNat []) x830.toNat 0) of288.length) <|
      ask (List.length s827 + List.length ([IntKind.i32.wrap (List.getD of288 (Int.toNat (List.getD (List.getD p.2.1 x694.toNat []) x830.toNat 0)) 0)] : List Int) ≤ 1000000000) <|
      ask (in64 (x830 + 1)) <|
      both_refined_l3 N p of288 x694 m852 (s827 ++ ([IntKind.i32.wrap (List.getD of288 (Int.toNat (List.getD (List.getD p.2.1 x694.toNat []) x830.toNat 0)) 0)] : List Int)) (x830 + 1)
    else
      some s827
def both_refined_l2 (N : Nat) (p : (List (Int × Int)) × (List (List Int)) × (List Int) × (List Int)) (of288 : List Int) : Nat → (List (ByteArray × Int)) → (List Int) → Int → Option ((List (ByteArray × Int)) × (List Int))
  | 0, _, _, _ => none
  | m786 + 1, numbers692, next693, x694 =>
    if x694 < (p.2.1.length : Int) then
      ask (idx x694 p.2.1.length) <|
      ask (idx x694 of288.length) <|
      Option.bind (both_refined_l3 N p of288 x694 N ([IntKind.i32.wrap (List.getD of288 x694.toNat 0)] : List Int) 0) fun x853 =>
      Option.bind (both_signed N x853) fun r877 =>
      ask (strOk r877) <|
      if (Option.isSome (mget numbers692 r877)) = true then
        ask (idx x694 next693.length) <|
        ask (in64 (x694 + 1)) <|
        both_refined_l2 N p of288 m786 numbers692 (List.set next693 x694.toNat (Option.getD (mget numbers692 r877) 0)) (x694 + 1)
      else
        ask (mget numbers692 r877 = none) <|
        ask (idx x694 next693.length) <|
        ask (in64 (x694 + 1)) <|
        both_refined_l2 N p of288 m786 (numbers692 ++ [(r877, ((List.length numbers692 : Nat) : Int))]) (List.set next693 x694.toNat ((List.length numbers692 : Nat) : Int)) (x694 + 1)
    else
      some (numbers692, next693)
def both_refined_l1 (N : Nat) (p : (List (Int × Int)) × (List (List Int)) × (List Int) × (List Int)) : Nat → (List Int) → Int → Option ((List Int) × Int)
  | 0, _, _ => none
  | m523 + 1, of288, many291 =>
    ask (0 ≤ (of288.length : Int) ∧ (of288.length : Int) ≤ 1000000000) <|
    Option.bind (both_refined_l2 N p of288 N ([] : List (ByteArray × Int)) (List.replicate (Int.toNat (of288.length : Int)) (0 : Int)) 0) fun x787 =>
    if (((List.length x787.1 : Nat) : Int) : Int) = many291 then
      some (x787.2, many291)
    else
      both_refined_l1 N p m523 x787.2 ((List.length x787.1 : Nat) : Int)
def both_refined (N : Nat) (p : (List (Int × Int)) × (List (List Int)) × (List Int) × (List Int)) (accept : List Bool) : Option ((List Int) × Int) :=
  ask (0 ≤ (accept.length : Int) ∧ (accept.length : Int) ≤ 1000000000) <|
  Option.bind (both_refined_l0 N accept N (List.replicate (Int.toNat (accept.length : Int)) (0 : Int)) 0) fun x42 =>
  Option.bind (both_refined_l1 N p N x42 0) fun x524 =>
  some x524
theorem both_refined_calls {N : Nat} {S Fa : Nat → Prop} {w0 : World} {r : (List Int) × Int} (b1 : Nat) (o2 : Nat) (A4 : Option Addr) (c5 : Nat) (p : (List (Int × Int)) × (List (List Int)) × (List Int) × (List Int)) (accept : List Bool) (hk6 : List.length accept ≤ c5) (H : Hp S Fa w0 w0 [.ro false cS81 (some ⟨b1, o2, none⟩) ([p]), .ro false cBool A4 accept]) (hP : both_refined N p accept = some r) :
    Calls Try.prog 61 #[.pointer (some ⟨b1, o2, none⟩), .slice A4 accept.length c5] w0 fun e w' => ∃ v, e = .returned v ∧ ∃ (A909 : Option Addr) (c910 : Nat), v = .tuple #[.slice A909 r.1.length c910, .int .i64 r.2] ∧ Hp S Fa w0 w' [.row true (cInt .i64) 3 A909 c910 r.1] := by
 refine enterV (n := 99) Try.func61 rfl rfl rfl ?_
 intro a E
 replace E := E.pick [(0, .pointer (some ⟨b1, o2, none⟩)), (1, .slice A4 accept.length c5)] ⟨rfl, rfl, trivial⟩
 rw [both_refined] at hP
 refine sr_ <| vp 2 [] E ?_
 clear E; intro a E
 refine nn_ <| sr_ <| vp 2 [(21, .int .i64 (accept.length : Int))] E ?_
 clear E; intro a E
 obtain ⟨g8, hP⟩ := ask_inv hP
 refine h_make (cInt .i64) (0 : Int) H E rfl rfl tbok rfl rfl rfl rfl ⟨g8.1, Int.le_refl _, g8.2⟩ rfl rfl rfl (fun _ _ => rfl) ?_
 clear H E; intro w10 g9 a hc11 hg13 H E; replace E := E _ rfl; try dsimp only [setn, addE, goneL] at H
 refine vp 1 [(6, .slice (some ⟨g9, 0, none⟩) (List.length (List.replicate (Int.toNat (accept.length : Int)) (0 : Int))) (Int.toNat (accept.length : Int)))] E ?_
 clear E; intro a E
 refine nn_ <| wp_seq <| sr_ <| vp 3 [(23, .slice A4 accept.length c5), (24, .int .i64 (accept.length : Int)), (25, .int .i64 0)] E ?_
 clear E; intro a E
 refine nn_ <| wp_block ?_
 obtain ⟨x42, hL43, hK44⟩ := bind_inv hP
 clear hP
 refine loop_cut (fun i_ a w_ => (i_ = 0 ∧ ∃ (x47 : List Int), Fr a 99 [(0, .pointer (some ⟨b1, o2, none⟩)), (6, .slice (some ⟨g9, 0, none⟩) x47.length (Int.toNat (accept.length : Int)))] ∧ Hp S Fa w0 w_ [.ro false cS81 (some ⟨b1, o2, none⟩) ([p]), .rowx true (cInt .i64) 3 (some ⟨g9, 0, none⟩) (Int.toNat (accept.length : Int)) x47 (List.replicate (Int.toNat (accept.length : Int) - Int.toNat (accept.length : Int)) (0 : Int))] ∧ x42 = x47)) ?_ ?_
 ·
  refine loopV (fun m46 a w45 => ∃ (of25 : List Int) (x26 : Int), Fr a 99 [(0, .pointer (some ⟨b1, o2, none⟩)), (6, .slice (some ⟨g9, 0, none⟩) of25.length (Int.toNat (accept.length : Int))), (23, .slice A4 accept.length c5), (24, .int .i64 (accept.length : Int)), (25, .int .i64 x26)] ∧ Hp S Fa w0 w45 [.ro false cS81 (some ⟨b1, o2, none⟩) ([p]), .rowx true (cInt .i64) 3 (some ⟨g9, 0, none⟩) (Int.toNat (accept.length : Int)) of25 (List.replicate (Int.toNat (accept.length : Int) - Int.toNat (accept.length : Int)) (0 : Int)), .ro false cBool A4 accept] ∧ both_refined_l0 N accept m46 of25 x26 = some x42) N ?_ ?_
  ·
   exact ⟨List.replicate (Int.toNat (accept.length : Int)) (0 : Int), 0, E.pk, H.sel [0, 2, 1] rfl, hL43⟩
  clear E H hL43; intro m46 a w45 hI_
  obtain ⟨of25, x26, E, H, hP⟩ := hI_
  obtain ⟨m41, rfl⟩ : ∃ q_, m46 = q_ + 1 := by cases m46 with | zero => rw [both_refined_l0] at hP; cases hP | succ q_ => exact ⟨q_, rfl⟩
  rw [both_refined_l0] at hP
  refine sr_ <| vp 1 [(26, .bool (decide (x26 < (accept.length : Int))))] E ?_
  clear E; intro a E
  refine nn_ <| wp_seq ?_
  revert E; refine csE 26 rfl (fun hb_ E => ?_) fun hb_ E => ?_
  ·
   have h48 : x26 < (accept.length : Int) := of_decide_eq_true hb_
   replace hP := ite_t h48 hP
   refine c_true E rfl <| wp_skip <| th_n <| wp_seq <| wp_block <| sr_ ?_
   obtain ⟨g49, hP⟩ := ask_inv hP
   obtain ⟨b50, o51, e_b50⟩ := (H.rd 2 rds_ro).addr (idx_pos g49)
   subst e_b50
   refine vq 5 [.bool (List.getD accept x26.toNat false)] [(7, .int .i64 x26), (8, .bool (List.getD accept x26.toNat false))] [0 ≤ x26 ∧ x26 < (accept.length : Int), World.cell? w45 ⟨b50, o51 + x26.toNat * 1, none⟩ = some (.bool (List.getD accept x26.toNat false))] E ⟨g49, Rds.at1 (H.rd 2 rds_ro) false g49⟩ ?_
   clear E; intro a E
   refine nn_ <| sr_ <| vp 1 [(30, .bool (List.getD accept x26.toNat false))] E ?_
   clear E; intro a E
   refine nn_ ?_
   revert E; refine csE 30 rfl (fun hb_ E => ?_) fun hb_ E => ?_
   ·
    have h52 : (List.getD accept x26.toNat false) = true := hb_
    replace hP := ite_t h52 hP
    refine c_true E rfl <| rl_ ?_
    obtain ⟨g53, hP⟩ := ask_inv hP
    refine vq 3 [] [(33, .pointer (some ⟨g9, 0 + x26.toNat * 1, none⟩))] [0 ≤ x26 ∧ x26 < (of25.length : Int)] E (g53) ?_
    clear E; intro a E
    refine h_setx (g := g9) (i := x26) 1 H 1 rfl E rfl rfl rfl rfl tbok rfl (fun _ HF_ => rfl) rfl g53 rfl ?_
    clear E; intro w54 a hc55 H_ E
    replace H := H_; clear H_; try dsimp only [setn, addE, goneL] at H
    have hn56 : of25.length = (List.length (List.set of25 x26.toNat 1)) := by simp only [List.length_set]
    replace E := E.same (t := 6) (u := .slice (some ⟨g9, 0, none⟩) (List.length (List.set of25 x26.toNat 1)) (Int.toNat (accept.length : Int))) rfl (congrArg (fun n_ => Value.slice (some ⟨g9, 0, none⟩) n_ (Int.toNat (accept.length : Int))) hn56)
    refine nl_ <| bl_n <| th_n <| rl_ ?_
    obtain ⟨g57, hP⟩ := ask_inv hP
    refine vq 2 [.int .i64 (x26 + 1)] [(25, .int .i64 (x26 + 1))] [IntKind.i64.wrap (x26 + 1) = x26 + 1] E (wrap_in g57) ?_
    clear E; intro a E
    refine nl_ ?_
    exact th_n ⟨m41, Nat.lt_succ_self _, List.set of25 x26.toNat 1, x26 + 1, E.pk, H.sel [0, 1, 2] rfl, hP⟩
   have h58 : ¬ ((List.getD accept x26.toNat false) = true) := (ne_true_of_eq_false hb_)
   replace hP := ite_f h58 hP
   refine c_false E rfl <| wp_skip <| bl_n <| th_n <| rl_ ?_
   obtain ⟨g59, hP⟩ := ask_inv hP
   refine vq 2 [.int .i64 (x26 + 1)] [(25, .int .i64 (x26 + 1))] [IntKind.i64.wrap (x26 + 1) = x26 + 1] E (wrap_in g59) ?_
   clear E; intro a E
   refine nl_ ?_
   exact th_n ⟨m41, Nat.lt_succ_self _, of25, x26 + 1, E.pk, H.sel [0, 1, 2] rfl, hP⟩
  have h60 : ¬ (x26 < (accept.length : Int)) := of_decide_eq_false hb_
  replace hP := ite_f h60 hP
  refine c_false E rfl <| wp_exit <| th_exit ?_
  have hx_ := Option.some.inj hP
  refine th_exit (.inl ⟨0, rfl, ?_⟩)
  exact ⟨rfl, of25, E.pk, H.sel [0, 1] rfl, hx_.symm⟩
 clear E H hL43; intro i_ a w45 hM_
 obtain ⟨rfl, x47, E, H, hx_⟩ := hM_
 subst hx_; have hP := hK44; clear hK44
 refine bl_hit <| th_n <| sr_ <| vp 1 [(9, .int .i64 0)] E ?_
 clear E; intro a E
 refine nn_ <| wp_block ?_
 obtain ⟨x524, hL525, hK526⟩ := bind_inv hP
 clear hP
 replace H := H.rowx 1 rfl; try dsimp only [setn, addE, goneL] at H
 refine loop_cut (fun i_ a w_ => False) ?_ ?_
 ·
  refine loopV (fun m528 a w527 => ∃ (of288 : List Int) (many291 : Int), ∃ (A289 : Option Addr) (c290 : Nat), Fr a 99 [(0, .pointer (some ⟨b1, o2, none⟩)), (6, .slice A289 of288.length c290), (9, .int .i64 many291)] ∧ Hp S Fa w0 w527 [.ro false cS81 (some ⟨b1, o2, none⟩) ([p]), .row true (cInt .i64) 3 A289 c290 of288] ∧ both_refined_l1 N p m528 of288 many291 = some x524) N ?_ ?_
  ·
   exact ⟨x42, 0, (some ⟨g9, 0, none⟩), (Int.toNat (accept.length : Int)), E.pk, H.sel [0, 1] rfl, hL525⟩
  clear E H hL525; intro m528 a w527 hI_
  obtain ⟨of288, many291, A289, c290, E, H, hP⟩ := hI_
  obtain ⟨m523, rfl⟩ : ∃ q_, m528 = q_ + 1 := by cases m528 with | zero => rw [both_refined_l1] at hP; cases hP | succ q_ => exact ⟨q_, rfl⟩
  rw [both_refined_l1] at hP
  refine wp_block <| wp_seq ?_
  obtain ⟨g534, hP⟩ := ask_inv hP
  refine meet_cut (fun a w544 => ∃ (g541 : Nat) (A543 : Option Addr), Fr a 99 [(0, .pointer (some ⟨b1, o2, none⟩)), (6, .slice A289 of288.length c290), (9, .int .i64 many291), (10, .map (some g541)), (11, .slice A543 (List.length (List.replicate (Int.toNat (of288.length : Int)) (0 : Int))) (Int.toNat (of288.length : Int)))] ∧ Hp S Fa w0 w544 [.ro false cS81 (some ⟨b1, o2, none⟩) ([p]), .row true (cInt .i64) 3 A289 c290 of288, .mp Try.prog 9 g541 (List.map (fun p_ => ((fun x_ : ByteArray => .string x_) p_.1, (fun u_ : Int => .int .i64 u_) p_.2)) ([] : List (ByteArray × Int))), .rowx true (cInt .i64) 3 A543 (Int.toNat (of288.length : Int)) (List.replicate (Int.toNat (of288.length : Int)) (0 : Int)) (List.replicate (Int.toNat (of288.length : Int) - Int.toNat (of288.length : Int)) (0 : Int))]) ?_ ?_
  ·
   have HR548 := H
   refine dr_start (S := fun w_ => Chg (atL []) w527 w_) (by kernel_rfl) ?_
   intro w545 hc546
   have HS547 : Chg (atL []) w527 w545 := hc546.mono (fun _ _ h_ => h_.elim)
   replace H := H.ext hc546
   refine dn tbok (by kernel_rfl) [1, 2] [] [(37, .int .i64 (of288.length : Int))] (fun w_ => []) 4 E (fun _ _ => by kernel_rfl) (by kernel_rfl) (fun w_ hS_ => trivial) (by kernel_rfl) HS547 ?_
   clear E; intro a E
   refine wpAnyH_all (rs := [0, 3]) (by kernel_rfl) (by simp) ?_
   refine all2 ?_ ?_
   ·
    refine wpOp_of_list rfl ?_
    refine h_makeMap (P := Try.prog) (k0 := 9) H E rfl rfl ?_
    intro w550 g549 a hc551 hg552 H_ E_
    replace E := E_ _ rfl; clear E_
    have hin554 : ∀ q_, q_ < w527.heap.size → q_ = g549 → (atL []) q_ := fun q_ h1_ h2_ => by have hs_ := HS547.size; have h4_ : q_ = g549 := h2_; exfalso; omega
    replace HS547 := HS547.ext hc551
    replace H := H_; clear H_; try dsimp only [setn, addE, goneL] at H
    refine nl_ <| th_n ⟨HS547, ?_⟩
    refine dn tbok (by kernel_rfl) [4] [] [(10, .map (some g549))] (fun w_ => []) 2 E (fun _ _ => by kernel_rfl) (by kernel_rfl) (fun w_ hS_ => trivial) (by kernel_rfl) HS547 ?_
    clear E; intro a E
    refine wpAnyH_all (rs := [3]) (by kernel_rfl) (by simp) ?_
    refine all1 ?_
    refine wpOp_of_list rfl ?_
    refine h_make (cInt .i64) (0 : Int) H E rfl rfl tbok rfl rfl rfl rfl ⟨g534.1, Int.le_refl _, g534.2⟩ rfl rfl rfl (fun _ _ => rfl) ?_
    intro w556 g555 a hc557 hg559 H_ E_
    replace E := E_ _ rfl; clear E_
    have hin560 : ∀ q_, q_ < w527.heap.size → At (some ⟨g555, 0, none⟩) q_ → (atL []) q_ := fun q_ h1_ h2_ => by have hs_ := HS547.size; have h4_ : q_ = g555 := At.of_g h2_; exfalso; omega
    replace HS547 := HS547.ext hc557
    replace H := H_; clear H_; try dsimp only [setn, addE, goneL] at H
    refine nl_ <| th_n ⟨HS547, ?_⟩
    refine dn tbok (by kernel_rfl) [5] [] [(11, .slice (some ⟨g555, 0, none⟩) (List.length (List.replicate (Int.toNat (of288.length : Int)) (0 : Int))) (Int.toNat (of288.length : Int)))] (fun w_ => []) 0 E (fun _ _ => by kernel_rfl) (by kernel_rfl) (fun w_ hS_ => trivial) (by kernel_rfl) HS547 ?_
    clear E; intro a E
    refine dr_done (by kernel_rfl) ?_
    exact .inl ⟨rfl, g549, (some ⟨g555, 0, none⟩), E.pk, H.sel [0, 1, 2, 3] rfl⟩
   refine wpOp_of_list rfl ?_
   refine h_make (cInt .i64) (0 : Int) H E rfl rfl tbok rfl rfl rfl rfl ⟨g534.1, Int.le_refl _, g534.2⟩ rfl rfl rfl (fun _ _ => rfl) ?_
   intro w562 g561 a hc563 hg565 H_ E_
   replace E := E_ _ rfl; clear E_
   have hin566 : ∀ q_, q_ < w527.heap.size → At (some ⟨g561, 0, none⟩) q_ → (atL []) q_ := fun q_ h1_ h2_ => by have hs_ := HS547.size; have h4_ : q_ = g561 := At.of_g h2_; exfalso; omega
   replace HS547 := HS547.ext hc563
   replace H := H_; clear H_; try dsimp only [setn, addE, goneL] at H
   refine nl_ <| th_n ⟨HS547, ?_⟩
   refine wpAnyH_all (rs := [0]) (by kernel_rfl) (by simp) ?_
   refine all1 ?_
   refine wpOp_of_list rfl ?_
   refine h_makeMap (P := Try.prog) (k0 := 9) H E rfl rfl ?_
   intro w568 g567 a hc569 hg570 H_ E_
   replace E := E_ _ rfl; clear E_
   have hin572 : ∀ q_, q_ < w527.heap.size → q_ = g567 → (atL []) q_ := fun q_ h1_ h2_ => by have hs_ := HS547.size; have h4_ : q_ = g567 := h2_; exfalso; omega
   replace HS547 := HS547.ext hc569
   replace H := H_; clear H_; try dsimp only [setn, addE, goneL] at H
   refine nl_ <| th_n ⟨HS547, ?_⟩
   refine dn tbok (by kernel_rfl) [4, 5] [] [(10, .map (some g567)), (11, .slice (some ⟨g561, 0, none⟩) (List.length (List.replicate (Int.toNat (of288.length : Int)) (0 : Int))) (Int.toNat (of288.length : Int)))] (fun w_ => []) 0 E (fun _ _ => by kernel_rfl) (by kernel_rfl) (fun w_ hS_ => trivial) (by kernel_rfl) HS547 ?_
   clear E; intro a E
   refine dr_done (by kernel_rfl) ?_
   exact .inl ⟨rfl, g567, (some ⟨g561, 0, none⟩), E.pk, H.sel [0, 1, 3, 2] rfl⟩
  clear E H; rintro a w544 ⟨g541, A543, E, H⟩
  refine th_n <| wp_seq <| sr_ ?_
  obtain ⟨Fz573, cs575, HF574, hK576, hc577⟩ := H.elem 0 false (el_ro rfl) p (idx_one _)
  obtain ⟨_, _, rfl, hK578, hK579⟩ := hK576
  obtain ⟨A580, c581, rfl, hk582, hC583⟩ := hK578
  obtain ⟨_, _, rfl, hK585, hK586⟩ := hK579
  obtain ⟨A587, c588, rfl, hk589, hC590⟩ := hK585
  obtain ⟨_, _, rfl, hK592, hK593⟩ := hK586
  obtain ⟨A594, c595, rfl, hk596, hC597⟩ := hK592
  obtain ⟨A599, c600, rfl, hk601, hC602⟩ := hK593
  replace HF574 := HF574.ins hC583
  replace HF574 := HF574.ins hC590
  replace HF574 := HF574.ins hC597
  replace HF574 := HF574.ins hC602
  replace H := HF574.hp; try dsimp only [addE] at H
  have hc604 : cellsAt w544 b1 (o2) [.slice A580 p.1.length c581, .slice A587 p.2.1.length c588, .slice A594 p.2.2.1.length c595, .slice A599 p.2.2.2.length c600] := hc577
  refine vq 6 [.slice A587 p.2.1.length c588] [(42, .slice A587 p.2.1.length c588), (43, .int .i64 (p.2.1.length : Int)), (44, .int .i64 0)] [World.cell? w544 ⟨b1, o2 + 1, none⟩ = some (.slice A587 p.2.1.length c588)] E (hc604.get 1 _ rfl) ?_
  clear E; intro a E
  refine nn_ <| wp_block ?_
  obtain ⟨x787, hL788, hK789⟩ := bind_inv hP
  clear hP
  refine loop_cut (fun i_ a w_ => (i_ = 4 ∧ ∃ (x792 : (List (ByteArray × Int)) × (List Int)), Fr a 99 [(0, .pointer (some ⟨b1, o2, none⟩)), (9, .int .i64 many291), (10, .map (some g541)), (11, .slice A543 x792.2.length (Int.toNat (of288.length : Int)))] ∧ Hp S Fa w0 w_ [.ro false cS81 (some ⟨b1, o2, none⟩) ([p]), .mp Try.prog 9 g541 (List.map (fun p_ => ((fun x_ : ByteArray => .string x_) p_.1, (fun u_ : Int => .int .i64 u_) p_.2)) x792.1), .rowx true (cInt .i64) 3 A543 (Int.toNat (of288.length : Int)) x792.2 (List.replicate (Int.toNat (of288.length : Int) - Int.toNat (of288.length : Int)) (0 : Int))] ∧ x787 = x792)) ?_ ?_
  ·
   refine loopV (fun m791 a w790 => ∃ (numbers692 : List (ByteArray × Int)) (next693 : List Int) (x694 : Int), Fr a 99 [(0, .pointer (some ⟨b1, o2, none⟩)), (6, .slice A289 of288.length c290), (9, .int .i64 many291), (10, .map (some g541)), (11, .slice A543 next693.length (Int.toNat (of288.length : Int))), (42, .slice A587 p.2.1.length c588), (43, .int .i64 (p.2.1.length : Int)), (44, .int .i64 x694)] ∧ Hp S Fa w0 w790 [.ro false cS81 (some ⟨b1, o2, none⟩) ([p]), .row true (cInt .i64) 3 A289 c290 of288, .mp Try.prog 9 g541 (List.map (fun p_ => ((fun x_ : ByteArray => .string x_) p_.1, (fun u_ : Int => .int .i64 u_) p_.2)) numbers692), .rowx true (cInt .i64) 3 A543 (Int.toNat (of288.length : Int)) next693 (List.replicate (Int.toNat (of288.length : Int) - Int.toNat (of288.length : Int)) (0 : Int)), .ro false (cSl (cInt .i64)) A587 p.2.1] ∧ both_refined_l2 N p of288 m791 numbers692 next693 x694 = some x787) N ?_ ?_
   ·
    exact ⟨([] : List (ByteArray × Int)), List.replicate (Int.toNat (of288.length : Int)) (0 : Int), 0, E.pk, H.sel [0, 1, 2, 3, 5] rfl, hL788⟩
   clear E H hL788; intro m791 a w790 hI_
   obtain ⟨numbers692, next693, x694, E, H, hP⟩ := hI_
   obtain ⟨m786, rfl⟩ : ∃ q_, m791 = q_ + 1 := by cases m791 with | zero => rw [both_refined_l2] at hP; cases hP | succ q_ => exact ⟨q_, rfl⟩
   rw [both_refined_l2] at hP
   refine sr_ <| vp 1 [(45, .bool (decide (x694 < (p.2.1.length : Int))))] E ?_
   clear E; intro a E
   refine nn_ <| wp_seq ?_
   revert E; refine csE 45 rfl (fun hb_ E => ?_) fun hb_ E => ?_
   ·
    have h793 : x694 < (p.2.1.length : Int) := of_decide_eq_true hb_
    replace hP := ite_t h793 hP
    refine c_true E rfl <| wp_skip <| th_n <| wp_seq <| wp_block <| sr_ ?_
    obtain ⟨g794, hP⟩ := ask_inv hP
    obtain ⟨b795, o796, e_b795⟩ := (H.rd 4 rds_ro).addr (idx_pos g794)
    subst e_b795
    obtain ⟨A797, c798, hl799, hk800, H⟩ := H.subSl 4 false (el_ro rfl) g794
    try dsimp only [addE] at H
    refine vq 5 [.slice A797 (List.length (List.getD p.2.1 x694.toNat [])) c798] [(12, .int .i64 x694), (13, .slice A797 (List.length (List.getD p.2.1 x694.toNat [])) c798)] [0 ≤ x694 ∧ x694 < (p.2.1.length : Int), World.cell? w790 ⟨b795, o796 + x694.toNat * 1, none⟩ = some (.slice A797 (List.length (List.getD p.2.1 x694.toNat [])) c798)] E ⟨g794, hl799⟩ ?_
    clear E; intro a E
    refine nn_ <| sr_ ?_
    obtain ⟨g802, hP⟩ := ask_inv hP
    obtain ⟨b803, e_b803⟩ := H.raddr 1 rfl (idx_pos g802)
    subst e_b803
    refine vq 5 [.int .i64 (List.getD of288 x694.toNat 0), .int .i32 (IntKind.i32.wrap (List.getD of288 x694.toNat 0))] [(53, .int .i32 (IntKind.i32.wrap (List.getD of288 x694.toNat 0)))] [0 ≤ x694 ∧ x694 < (of288.length : Int), World.cell? w790 ⟨b803, 0 + x694.toNat * 1, none⟩ = some (.int .i64 (List.getD of288 x694.toNat 0)), IntKind.i32.wrap (List.getD of288 x694.toNat 0) = (IntKind.i32.wrap (List.getD of288 x694.toNat 0))] E ⟨g802, Rds.at1 (H.rd 1 rds_row) 0 g802, rfl⟩ ?_
    clear E; intro a E
    refine h_buildSlice (ps := [(0, .int .i32 (IntKind.i32.wrap (List.getD of288 x694.toNat 0)))]) (cs := [.int .i32 (IntKind.i32.wrap (List.getD of288 x694.toNat 0))]) H E rfl rfl tbok rfl rfl (by kernel_rfl) ?_
    clear H E; intro w806 g805 a hc807 hg809 H E; replace E := E _ rfl; try dsimp only [setn, addE, goneL] at H
    refine vp 1 [(14, .slice (some ⟨g805, 0, none⟩) 1 1)] E ?_
    clear E; intro a E
    refine nn_ <| wp_seq <| sr_ <| vp 3 [(55, .slice A797 (List.length (List.getD p.2.1 x694.toNat [])) c798), (56, .int .i64 (((List.length (List.getD p.2.1 x694.toNat [])) : Nat) : Int)), (57, .int .i64 0)] E ?_
    clear E; intro a E
    refine nn_ <| wp_block ?_
    obtain ⟨x853, hL854, hK855⟩ := bind_inv hP
    clear hP
    replace H := H.boxRow (cInt .i32) true ([IntKind.i32.wrap (List.getD of288 x694.toNat 0)] : List Int) 6 rfl (fun _ _ => ⟨_, _, rfl, rfl, rfl⟩) (Nat.le_of_ble_eq_true rfl); try dsimp only [setn, addE, goneL] at H
    replace H := H.rowx 6 rfl; try dsimp only [setn, addE, goneL] at H
    refine loop_cut (fun i_ a w_ => (i_ = 6 ∧ ∃ (x858 : List Int), ∃ (A850 : Option Addr) (c851 : Nat), Fr a 99 [(0, .pointer (some ⟨b1, o2, none⟩)), (6, .slice (some ⟨b803, 0, none⟩) of288.length c290), (9, .int .i64 many291), (10, .map (some g541)), (11, .slice A543 next693.length (Int.toNat (of288.length : Int))), (12, .int .i64 x694), (14, .slice A850 x858.length c851), (42, .slice (some ⟨b795, o796, none⟩) p.2.1.length c588), (43, .int .i64 (p.2.1.length : Int)), (44, .int .i64 x694)] ∧ Hp S Fa w0 w_ [.ro false cS81 (some ⟨b1, o2, none⟩) ([p]), .row true (cInt .i64) 3 (some ⟨b803, 0, none⟩) c290 of288, .mp Try.prog 9 g541 (List.map (fun p_ => ((fun x_ : ByteArray => .string x_) p_.1, (fun u_ : Int => .int .i64 u_) p_.2)) numbers692), .rowx true (cInt .i64) 3 A543 (Int.toNat (of288.length : Int)) next693 (List.replicate (Int.toNat (of288.length : Int) - Int.toNat (of288.length : Int)) (0 : Int)), .row true (cInt .i32) 21 A850 c851 x858, .ro false (cSl (cInt .i64)) (some ⟨b795, o796, none⟩) p.2.1] ∧ x853 = x858)) ?_ ?_
    ·
     refine loopV (fun m857 a w856 => ∃ (s827 : List Int) (x830 : Int), ∃ (A828 : Option Addr) (c829 : Nat), Fr a 99 [(0, .pointer (some ⟨b1, o2, none⟩)), (6, .slice (some ⟨b803, 0, none⟩) of288.length c290), (9, .int .i64 many291), (10, .map (some g541)), (11, .slice A543 next693.length (Int.toNat (of288.length : Int))), (12, .int .i64 x694), (14, .slice A828 s827.length c829), (42, .slice (some ⟨b795, o796, none⟩) p.2.1.length c588), (43, .int .i64 (p.2.1.length : Int)), (44, .int .i64 x694), (55, .slice A797 (List.length (List.getD p.2.1 x694.toNat [])) c798), (56, .int .i64 (((List.length (List.getD p.2.1 x694.toNat [])) : Nat) : Int)), (57, .int .i64 x830)] ∧ Hp S Fa w0 w856 [.ro false cS81 (some ⟨b1, o2, none⟩) ([p]), .row true (cInt .i64) 3 (some ⟨b803, 0, none⟩) c290 of288, .mp Try.prog 9 g541 (List.map (fun p_ => ((fun x_ : ByteArray => .string x_) p_.1, (fun u_ : Int => .int .i64 u_) p_.2)) numbers692), .rowx true (cInt .i64) 3 A543 (Int.toNat (of288.length : Int)) next693 (List.replicate (Int.toNat (of288.length : Int) - Int.toNat (of288.length : Int)) (0 : Int)), .row true (cInt .i32) 21 A828 c829 s827, .ro false (cSl (cInt .i64)) (some ⟨b795, o796, none⟩) p.2.1, .ro false (cInt .i64) A797 (List.getD p.2.1 x694.toNat [])] ∧ both_refined_l3 N p of288 x694 m857 s827 x830 = some x853) N ?_ ?_
     ·
      exact ⟨([IntKind.i32.wrap (List.getD of288 x694.toNat 0)] : List Int), 0, (some ⟨g805, 0, none⟩), (List.length ([IntKind.i32.wrap (List.getD of288 x694.toNat 0)] : List Int)), E.pk, H.sel [0, 1, 2, 3, 6, 4, 5] rfl, hL854⟩
     clear E H hL854; intro m857 a w856 hI_
     obtain ⟨s827, x830, A828, c829, E, H, hP⟩ := hI_
     obtain ⟨m852, rfl⟩ : ∃ q_, m857 = q_ + 1 := by cases m857 with | zero => rw [both_refined_l3] at hP; cases hP | succ q_ => exact ⟨q_, rfl⟩
     rw [both_refined_l3] at hP
     refine sr_ <| vp 1 [(58, .bool (decide (x830 < (((List.length (List.getD p.2.1 x694.toNat [])) : Nat) : Int))))] E ?_
     clear E; intro a E
     refine nn_ <| wp_seq ?_
     revert E; refine csE 58 rfl (fun hb_ E => ?_) fun hb_ E => ?_
     ·
      have h859 : x830 < (((List.length (List.getD p.2.1 x694.toNat [])) : Nat) : Int) := of_decide_eq_true hb_
      replace hP := ite_t h859 hP
      refine c_true E rfl <| wp_skip <| th_n <| wp_seq <| wp_block <| sr_ ?_
      obtain ⟨g860, hP⟩ := ask_inv hP
      obtain ⟨b861, o862, e_b861⟩ := (H.rd 6 rds_ro).addr (idx_pos g860)
      subst e_b861
      refine vq 3 [.int .i64 (List.getD (List.getD p.2.1 x694.toNat []) x830.toNat 0)] [(16, .int .i64 (List.getD (List.getD p.2.1 x694.toNat []) x830.toNat 0))] [0 ≤ x830 ∧ x830 < (((List.length (List.getD p.2.1 x694.toNat [])) : Nat) : Int), World.cell? w856 ⟨b861, o862 + x830.toNat * 1, none⟩ = some (.int .i64 (List.getD (List.getD p.2.1 x694.toNat []) x830.toNat 0))] E ⟨g860, Rds.at1 (H.rd 6 rds_ro) 0 g860⟩ ?_
      clear E; intro a E
      refine nn_ <| rl_ ?_
      obtain ⟨g863, hP⟩ := ask_inv hP
      refine vq 6 [.int .i64 (List.getD of288 (Int.toNat (List.getD (List.getD p.2.1 x694.toNat []) x830.toNat 0)) 0), .int .i32 (IntKind.i32.wrap (List.getD of288 (Int.toNat (List.getD (List.getD p.2.1 x694.toNat []) x830.toNat 0)) 0))] [(61, .slice A828 s827.length c829), (66, .int .i32 (IntKind.i32.wrap (List.getD of288 (Int.toNat (List.getD (List.getD p.2.1 x694.toNat []) x830.toNat 0)) 0)))] [0 ≤ (List.getD (List.getD p.2.1 x694.toNat []) x830.toNat 0) ∧ (List.getD (List.getD p.2.1 x694.toNat []) x830.toNat 0) < (of288.length : Int), World.cell? w856 ⟨b803, 0 + (Int.toNat (List.getD (List.getD p.2.1 x694.toNat []) x830.toNat 0)) * 1, none⟩ = some (.int .i64 (List.getD of288 (Int.toNat (List.getD (List.getD p.2.1 x694.toNat []) x830.toNat 0)) 0)), IntKind.i32.wrap (List.getD of288 (Int.toNat (List.getD (List.getD p.2.1 x694.toNat []) x830.toNat 0)) 0) = (IntKind.i32.wrap (List.getD of288 (Int.toNat (List.getD (List.getD p.2.1 x694.toNat []) x830.toNat 0)) 0))] E ⟨g863, Rds.at1 (H.rd 1 rds_row) 0 g863, rfl⟩ ?_
      clear E; intro a E
      refine h_buildSlice (ps := [(0, .int .i32 (IntKind.i32.wrap (List.getD of288 (Int.toNat (List.getD (List.getD p.2.1 x694.toNat []) x830.toNat 0)) 0)))]) (cs := [.int .i32 (IntKind.i32.wrap (List.getD of288 (Int.toNat (List.getD (List.getD p.2.1 x694.toNat []) x830.toNat 0)) 0))]) H E rfl rfl tbok rfl rfl (by kernel_rfl) ?_
      clear H E; intro w865 g864 a hc866 hg868 H E; replace E := E _ rfl; try dsimp only [setn, addE, goneL] at H
      obtain ⟨g869, hP⟩ := ask_inv hP
      refine h_append (cInt .i32) (xs := s827) (ys := ([IntKind.i32.wrap (List.getD of288 (Int.toNat (List.getD (List.getD p.2.1 x694.toNat []) x830.toNat 0)) 0)] : List Int)) (0 : Int) H 4 rfl E rfl rfl tbok rfl rfl rfl rfl rfl (fun _ _ => rfl) rfl rfl (fun _ HF_ => HF_.srcB 7 rfl (⟨_, _, rfl, rfl, rfl⟩)) g869 ?_
      clear H E; intro w870 A871 c872 a hc873 hA874 H E; replace E := E _ rfl; try dsimp only [setn, addE, goneL] at H
      refine vp 1 [(14, .slice A871 (List.length (s827 ++ ([IntKind.i32.wrap (List.getD of288 (Int.toNat (List.getD (List.getD p.2.1 x694.toNat []) x830.toNat 0)) 0)] : List Int))) c872)] E ?_
      clear E; intro a E
      refine nl_ <| bl_n <| th_n <| rl_ ?_
      obtain ⟨g875, hP⟩ := ask_inv hP
      refine vq 2 [.int .i64 (x830 + 1)] [(57, .int .i64 (x830 + 1))] [IntKind.i64.wrap (x830 + 1) = x830 + 1] E (wrap_in g875) ?_
      clear E; intro a E
      refine nl_ ?_
      exact th_n ⟨m852, Nat.lt_succ_self _, s827 ++ ([IntKind.i32.wrap (List.getD of288 (Int.toNat (List.getD (List.getD p.2.1 x694.toNat []) x830.toNat 0)) 0)] : List Int), x830 + 1, A871, c872, E.pk, H.sel (up 7) rfl, hP⟩
     have h876 : ¬ (x830 < (((List.length (List.getD p.2.1 x694.toNat [])) : Nat) : Int)) := of_decide_eq_false hb_
     replace hP := ite_f h876 hP
     refine c_false E rfl <| wp_exit <| th_exit ?_
     have hx_ := Option.some.inj hP
     refine th_exit (.inl ⟨6, rfl, ?_⟩)
     exact ⟨rfl, s827, A828, c829, E.pk, H.sel (up 6) rfl, hx_.symm⟩
    clear E H hL854; intro i_ a w856 hM_
    obtain ⟨rfl, x858, A850, c851, E, H, hx_⟩ := hM_
    subst hx_; have hP := hK855; clear hK855
    refine bl_hit <| th_n <| sr_ <| vp 1 [(70, .slice A850 x853.length c851)] E ?_
    clear E; intro a E
    obtain ⟨r877, h878, hP⟩ := bind_inv hP
    obtain ⟨Fa879, Hc880, hb881⟩ := H.call [] [(4, false)] rfl rfl trivial
    refine e_call E rfl rfl Try.func82 rfl rfl rfl (both_signed_calls A850 c851 x853 (H.rcap 4 rfl) Hc880 h878) ?_
    rintro v882 w883 a ⟨rfl, HR884⟩ E_
    replace E := E_ _ rfl; clear E_
    obtain ⟨H_, hc885⟩ := hb881 _ _ HR884 rfl
    replace H := H_; clear H_; try dsimp only [setn, addE, goneL] at H
    refine vp 1 [(17, .string r877)] E ?_
    clear E; intro a E
    refine nn_ <| sr_ <| vp 2 [(73, .map (some g541)), (74, .string r877)] E ?_
    clear E; intro a E
    obtain ⟨g886, hP⟩ := ask_inv hP
    refine h_lookupC (fun x_ : ByteArray => .string x_) (fun u_ : Int => .int .i64 u_) r877 0 H 2 rfl E rfl rfl tbok rfl rfl (kStr Try.underlying9) rfl rfl rfl g886 (fun _ => ⟨_, rfl⟩) ?_
    clear E; intro a E_; replace E := E_ _ rfl; clear E_
    refine vp 5 [(18, .int .i64 (Option.getD (mget numbers692 r877) 0)), (19, .bool (Option.isSome (mget numbers692 r877)))] E ?_
    clear E; intro a E
    refine nn_ <| wp_seq <| sr_ <| vp 2 [(79, .bool (!(Option.isSome (mget numbers692 r877))))] E ?_
    clear E; intro a E
    refine nn_ ?_
    revert E; refine csE 79 rfl (fun hb_ E => ?_) fun hb_ E => ?_
    ·
     have h887 : ¬ ((Option.isSome (mget numbers692 r877)) = true) := (ne_true_of_eq_false (not_t hb_))
     replace hP := ite_f h887 hP
     refine c_true E rfl <| sr_ <| vp 1 [(80, .map (some g541))] E ?_
     clear E; intro a E
     refine h_maplen (fun x_ : ByteArray => .string x_) (fun u_ : Int => .int .i64 u_) H 2 rfl E rfl rfl tbok rfl rfl rfl ?_
     clear E; intro a E
     refine vp 1 [(18, .int .i64 ((List.length numbers692 : Nat) : Int))] E ?_
     clear E; intro a E
     refine nn_ <| rl_ <| vp 3 [(82, .map (some g541)), (83, .string r877), (84, .int .i64 ((List.length numbers692 : Nat) : Int))] E ?_
     clear E; intro a E
     obtain ⟨g888, hP⟩ := ask_inv hP
     refine h_mapUpdate (fun x_ : ByteArray => .string x_) (fun u_ : Int => .int .i64 u_) r877 ((List.length numbers692 : Nat) : Int) H 2 rfl E rfl rfl tbok rfl (kStr Try.underlying9) rfl rfl rfl g886 g888 rfl ?_
     clear E; intro w889 a hc890 H_ E
     replace H := H_; clear H_; try dsimp only [setn, addE, goneL] at H
     refine nn_ <| rl_ ?_
     obtain ⟨g891, hP⟩ := ask_inv hP
     obtain ⟨b892, e_b892⟩ := H.raddrx 3 rfl (idx_pos g891)
     subst e_b892
     refine vq 4 [] [(87, .int .i64 ((List.length numbers692 : Nat) : Int)), (88, .pointer (some ⟨b892, 0 + x694.toNat * 1, none⟩))] [0 ≤ x694 ∧ x694 < (next693.length : Int)] E (g891) ?_
     clear E; intro a E
     refine h_setx (g := b892) (i := x694) ((List.length numbers692 : Nat) : Int) H 3 rfl E rfl rfl rfl rfl tbok rfl (fun _ HF_ => rfl) rfl g891 rfl ?_
     clear E; intro w894 a hc895 H_ E
     replace H := H_; clear H_; try dsimp only [setn, addE, goneL] at H
     have hn896 : next693.length = (List.length (List.set next693 x694.toNat ((List.length numbers692 : Nat) : Int))) := by simp only [List.length_set]
     replace E := E.same (t := 11) (u := .slice (some ⟨b892, 0, none⟩) (List.length (List.set next693 x694.toNat ((List.length numbers692 : Nat) : Int))) (Int.toNat (of288.length : Int))) rfl (congrArg (fun n_ => Value.slice (some ⟨b892, 0, none⟩) n_ (Int.toNat (of288.length : Int))) hn896)
     refine nl_ <| bl_n <| th_n <| rl_ ?_
     obtain ⟨g897, hP⟩ := ask_inv hP
     refine vq 2 [.int .i64 (x694 + 1)] [(44, .int .i64 (x694 + 1))] [IntKind.i64.wrap (x694 + 1) = x694 + 1] E (wrap_in g897) ?_
     clear E; intro a E
     refine nl_ ?_
     exact th_n ⟨m786, Nat.lt_succ_self _, numbers692 ++ [(r877, ((List.length numbers692 : Nat) : Int))], List.set next693 x694.toNat ((List.length numbers692 : Nat) : Int), x694 + 1, E.pk, H.sel [0, 1, 2, 3, 5] rfl, hP⟩
    have h898 : (Option.isSome (mget numbers692 r877)) = true := (not_f hb_)
    replace hP := ite_t h898 hP
    refine c_false E rfl <| wp_skip <| th_n <| rl_ ?_
    obtain ⟨g899, hP⟩ := ask_inv hP
    obtain ⟨b900, e_b900⟩ := H.raddrx 3 rfl (idx_pos g899)
    subst e_b900
    refine vq 4 [] [(87, .int .i64 (Option.getD (mget numbers692 r877) 0)), (88, .pointer (some ⟨b900, 0 + x694.toNat * 1, none⟩))] [0 ≤ x694 ∧ x694 < (next693.length : Int)] E (g899) ?_
    clear E; intro a E
    refine h_setx (g := b900) (i := x694) (Option.getD (mget numbers692 r877) 0) H 3 rfl E rfl rfl rfl rfl tbok rfl (fun _ HF_ => rfl) rfl g899 rfl ?_
    clear E; intro w902 a hc903 H_ E
    replace H := H_; clear H_; try dsimp only [setn, addE, goneL] at H
    have hn904 : next693.length = (List.length (List.set next693 x694.toNat (Option.getD (mget numbers692 r877) 0))) := by simp only [List.length_set]
    replace E := E.same (t := 11) (u := .slice (some ⟨b900, 0, none⟩) (List.length (List.set next693 x694.toNat (Option.getD (mget numbers692 r877) 0))) (Int.toNat (of288.length : Int))) rfl (congrArg (fun n_ => Value.slice (some ⟨b900, 0, none⟩) n_ (Int.toNat (of288.length : Int))) hn904)
    refine nl_ <| bl_n <| th_n <| rl_ ?_
    obtain ⟨g905, hP⟩ := ask_inv hP
    refine vq 2 [.int .i64 (x694 + 1)] [(44, .int .i64 (x694 + 1))] [IntKind.i64.wrap (x694 + 1) = x694 + 1] E (wrap_in g905) ?_
    clear E; intro a E
    refine nl_ ?_
    exact th_n ⟨m786, Nat.lt_succ_self _, numbers692, List.set next693 x694.toNat (Option.getD (mget numbers692 r877) 0), x694 + 1, E.pk, H.sel [0, 1, 2, 3, 5] rfl, hP⟩
   have h906 : ¬ (x694 < (p.2.1.length : Int)) := of_decide_eq_false hb_
   replace hP := ite_f h906 hP
   refine c_false E rfl <| wp_exit <| th_exit ?_
   have hx_ := Option.some.inj hP
   refine th_exit (.inl ⟨4, rfl, ?_⟩)
   exact ⟨rfl, (numbers692, next693), E.pk, H.sel [0, 2, 3] rfl, hx_.symm⟩
  clear E H hL788; intro i_ a w790 hM_
  obtain ⟨rfl, x792, E, H, hx_⟩ := hM_
  subst hx_; have hP := hK789; clear hK789
  refine bl_hit <| th_n <| sr_ <| vp 2 [(6, .slice A543 x787.2.length (Int.toNat (of288.length : Int)))] E ?_
  clear E; intro a E
  refine nn_ <| wp_seq <| sr_ <| vp 1 [(91, .map (some g541))] E ?_
  clear E; intro a E
  refine h_maplen (fun x_ : ByteArray => .string x_) (fun u_ : Int => .int .i64 u_) H 1 rfl E rfl rfl tbok rfl rfl rfl ?_
  clear E; intro a E
  refine vp 2 [(94, .bool ((((List.length x787.1 : Nat) : Int) : Int) == many291))] E ?_
  clear E; intro a E
  refine nn_ ?_
  revert E; refine csE 94 rfl (fun hb_ E => ?_) fun hb_ E => ?_
  ·
   have h907 : (((List.length x787.1 : Nat) : Int) : Int) = many291 := eq_of_beq hb_
   replace hP := ite_t h907 hP
   refine c_true E rfl <| sr_ <| vp 4 [(4, .slice A543 x787.2.length (Int.toNat (of288.length : Int))), (5, .int .i64 many291)] E ?_
   clear E; intro a E
   refine nn_ <| wp_ret <| th_ret <| bl_ret <| th_ret <| .inr ⟨rfl, ?_⟩
   refine bl_ret ?_
   replace H := H.rowx 2 rfl; try dsimp only [setn, addE, goneL] at H
   have hx_ := Option.some.inj hP; subst hx_
   have hP : some ((x787.2, many291)) = some r := hK526
   obtain rfl := Option.some.inj hP
   refine ret2 E rfl rfl rfl ?_
   exact ⟨_, rfl, A543, (Int.toNat (of288.length : Int)), rfl, H.sel [2] rfl⟩
  have h908 : ¬ ((((List.length x787.1 : Nat) : Int) : Int) = many291) := ne_of_beq_false hb_
  replace hP := ite_f h908 hP
  refine c_false E rfl <| wp_skip <| th_n <| rl_ <| vp 1 [(97, .map (some g541))] E ?_
  clear E; intro a E
  refine h_maplen (fun x_ : ByteArray => .string x_) (fun u_ : Int => .int .i64 u_) H 1 rfl E rfl rfl tbok rfl rfl rfl ?_
  clear E; intro a E
  refine vp 1 [(9, .int .i64 ((List.length x787.1 : Nat) : Int))] E ?_
  clear E; intro a E
  refine nl_ <| bl_n ?_
  replace H := H.rowx 2 rfl; try dsimp only [setn, addE, goneL] at H
  exact th_n ⟨m523, Nat.lt_succ_self _, x787.2, ((List.length x787.1 : Nat) : Int), A543, (Int.toNat (of288.length : Int)), E.pk, H.sel [0, 2] rfl, hP⟩
 clear E H hL525; intro i_ a w527 hM_
 exact hM_.elim

/-! rejoinder/guard.New -/
def guard_New (N : Nat) (n : Int) : Option (Int ⊕ Int) :=
  if n < 0 then
    some (Sum.inl 2)
  else
    if 8 < n then
      some (Sum.inl 2)
    else
      some (Sum.inr 0)
theorem guard_New_calls {N : Nat} {S Fa : Nat → Prop} {w0 : World} {r : Int ⊕ Int} (n : Int) (H : Hp S Fa w0 w0 []) (hP : guard_New N n = some r) :
    Calls Try.prog 62 #[.int .i64 n] w0 fun e w' => ∃ v, e = .returned v ∧ ((∃ (x_ : Int), r = Sum.inl x_ ∧ v = .tuple #[.pointer none, .int .i64 x_] ∧ Hp S Fa w0 w' []) ∨ (∃ (x_ : Int) (g3 : Nat) (g5 : Nat), r = Sum.inr x_ ∧ v = .tuple #[.pointer (some ⟨g3, 0, none⟩), .int .i64 x_] ∧ Hp S Fa w0 w' [.box g3 120 [.int .i64 n, .slice none 0 0, .map (some g5)], .mp Try.prog 49 g5 (List.map (fun p_ => (ndV p_.1, (fun u_ : Int => .int .i64 u_) p_.2)) ([] : List (Nd × Int)))])) := by
 refine enterV (n := 14) Try.func62 rfl rfl rfl ?_
 intro a E
 replace E := E.pick [(0, .int .i64 n)] ⟨rfl, trivial⟩
 rw [guard_New] at hP
 refine sr_ <| vp 2 [] E ?_
 clear E; intro a E
 refine nn_ <| wp_seq <| sr_ <| vp 3 [(6, .bool (decide (n < 0)))] E ?_
 clear E; intro a E
 revert E; refine csE 6 rfl (fun hb_ E => ?_) fun hb_ E => ?_
 ·
  have h107 : n < 0 := of_decide_eq_true hb_
  replace hP := ite_t h107 hP
  refine vp 3 [(9, .bool true)] E ?_
  clear E; intro a E
  refine nn_ <| c_true E rfl ?_
  refine sr_ <| vp 2 [(2, .pointer none), (3, .int .i64 2)] E ?_
  clear E; intro a E
  refine nn_ <| wp_ret <| th_ret ?_
  obtain rfl := Option.some.inj hP
  refine ret2 E rfl rfl rfl ?_
  exact ⟨_, rfl, .inl ⟨2, rfl, rfl, H.sel [] rfl⟩⟩
 have h108 : ¬ (n < 0) := of_decide_eq_false hb_
 replace hP := ite_f h108 hP
 refine vp 3 [(9, .bool (decide (8 < n)))] E ?_
 clear E; intro a E
 refine nn_ ?_
 revert E; refine csE 9 rfl (fun hb_ E => ?_) fun hb_ E => ?_
 ·
  have h109 : 8 < n := of_decide_eq_true hb_
  replace hP := ite_t h109 hP
  refine c_true E rfl <| sr_ <| vp 2 [(2, .pointer none), (3, .int .i64 2)] E ?_
  clear E; intro a E
  refine nn_ <| wp_ret <| th_ret ?_
  obtain rfl := Option.some.inj hP
  refine ret2 E rfl rfl rfl ?_
  exact ⟨_, rfl, .inl ⟨2, rfl, rfl, H.sel [] rfl⟩⟩
 have h110 : ¬ (8 < n) := of_decide_eq_false hb_
 replace hP := ite_f h110 hP
 refine c_false E rfl <| wp_skip <| th_n <| sr_ <| vp 1 [(10, .int .i64 n)] E ?_
 clear E; intro a E
 refine h_makeMap (P := Try.prog) (k0 := 49) H E rfl rfl ?_
 clear H E; intro w112 g111 a hc113 hg114 H E; replace E := E _ rfl; try dsimp only [setn, addE, goneL] at H
 refine e_build (ps := [(0, .int .i64 n), (2, .map (some g111))]) (v := .agg #[.int .i64 n, .slice none 0 0, .map (some g111)]) E rfl rfl tbok rfl (by kernel_rfl) rfl ?_
 clear E; intro a E
 refine h_box H E rfl rfl rfl ?_
 clear H E; intro w117 g116 a hc118 hg120 H E; replace E := E _ rfl; try dsimp only [setn, addE, goneL] at H
 refine vp 2 [(2, .pointer (some ⟨g116, 0, none⟩)), (3, .int .i64 0)] E ?_
 clear E; intro a E
 refine nn_ <| wp_ret ?_
 obtain rfl := Option.some.inj hP
 refine ret2 E rfl rfl rfl ?_
 exact ⟨_, rfl, .inr (⟨0, g116, g111, rfl, rfl, H.sel [1, 0] rfl⟩)⟩

end Go.V
