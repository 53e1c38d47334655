/- Plain functions, and the calls that give them. -/
import Derived.Test.YtihindpnnbllkaaA9
set_option linter.all false
set_option linter.unusedVariables false
set_option linter.unnecessarySimpa false
set_option linter.unusedSimpArgs false
set_option maxRecDepth 100000
set_option maxHeartbeats 4000000
namespace Go.V
open Go Go.Proofs
/-! rejoinder/rejoinderkit.SameBools -/
/-! rejoinder/rejoinderkit.SameInts -/
/-! rejoinder/rejoinderkit.SameNodes -/
/-! rejoinder/rejoinderkit.SameAuto -/
/-! rejoinder/rejoinderkit.SameLetters -/
/-! rejoinder/rejoinderlaw20.awake -/
def law20_awake (N : Nat) : Option Bool :=
  Option.bind (both_Not N 1 ([false, true] : List Bool) ([0, 0] : List Int) ([(⟨0, -1, -2⟩ : Nd)] : List Nd)) fun r23 =>
  Option.bind (both_Part N 1 ([false, true] : List Bool) ([0, 0] : List Int) ([(⟨0, -1, -2⟩ : Nd)] : List Nd) r23.1.1 r23.1.2.1 r23.1.2.2.1 r23.1.2.2.2) fun r48 =>
  if (r23.2 : Int) = 0 then
    if (r48.2.2 : Int) = 0 then
      if r48.2.1 = true then
        if ((r48.1.length : Int) : Int) = 1 then
          ask (idx (0 : Int) r48.1.length) <|
          if ((List.getD r48.1 (Int.toNat (0 : Int)) 0) : Int) = 0 then
            if ((r23.1.2.1.length : Int) : Int) = 2 then
              ask (idx (1 : Int) r23.1.2.1.length) <|
              if (List.getD r23.1.2.1 (Int.toNat (1 : Int)) false) = true then
                ask (idx (0 : Int) r23.1.2.1.length) <|
                some (!(List.getD r23.1.2.1 (Int.toNat (0 : Int)) false))
              else
                some false
            else
              some false
          else
            some false
        else
          some false
      else
        some false
    else
      some false
  else
    some false
theorem law20_awake_calls {N : Nat} {S Fa : Nat → Prop} {w0 : World} {r : Bool} (H : Hp S Fa w0 w0 []) (hP : law20_awake N  = some r) :
    Calls Try.prog 28 #[] w0 fun e w' => ∃ v, e = .returned v ∧ v = .bool r ∧ Hp S Fa w0 w' [] := by
 refine enterV (n := 63) Try.func28 rfl rfl rfl ?_
 intro a E
 replace E := E.pick [] trivial
 rw [law20_awake] at hP
 refine sr_ <| vp 1 [] E ?_
 clear E; intro a E
 refine nn_ <| sr_ <| h_buildSlice (ps := [(0, .bool false), (1, .bool true)]) (cs := [.bool false, .bool true]) H E rfl rfl tbok rfl rfl (by kernel_rfl) ?_
 clear H E; intro w2 g1 a hc3 hg5 H E; replace E := E _ rfl; try dsimp only [setn, addE, goneL] at H
 refine h_buildSlice (ps := [(0, .int .i64 0), (1, .int .i64 0)]) (cs := [.int .i64 0, .int .i64 0]) H E rfl rfl tbok rfl rfl (by kernel_rfl) ?_
 clear H E; intro w7 g6 a hc8 hg10 H E; replace E := E _ rfl; try dsimp only [setn, addE, goneL] at H
 refine e_build (ps := [(1, .int .i64 (-1)), (2, .int .i64 (-2))]) (v := .agg #[.int .i64 0, .int .i64 (-1), .int .i64 (-2)]) E rfl rfl tbok rfl (by kernel_rfl) rfl ?_
 clear E; intro a E
 refine h_buildSlice (ps := [(0, .agg #[.int .i64 0, .int .i64 (-1), .int .i64 (-2)])]) (cs := [.int .i64 0, .int .i64 (-1), .int .i64 (-2)]) H E rfl rfl tbok rfl rfl (by kernel_rfl) ?_
 clear H E; intro w12 g11 a hc13 hg15 H E; replace E := E _ rfl; try dsimp only [setn, addE, goneL] at H
 refine e_build (ps := [(0, .int .i64 1), (1, .slice (some ⟨g1, 0, none⟩) 2 2), (2, .slice (some ⟨g6, 0, none⟩) 2 2), (3, .slice (some ⟨g11, 0, none⟩) 1 1)]) (v := .agg #[.int .i64 1, .slice (some ⟨g1, 0, none⟩) 2 2, .slice (some ⟨g6, 0, none⟩) 2 2, .slice (some ⟨g11, 0, none⟩) 1 1]) E rfl rfl tbok rfl (by kernel_rfl) rfl ?_
 clear E; intro a E
 refine h_alloc H E rfl rfl tbok rfl ?_
 clear H E; intro w17 g16 a hc18 hg20 H E; replace E := E _ rfl; try dsimp only [setn, addE, goneL] at H
 refine h_store (g := g16) (off := 0) H 3 rfl E rfl rfl rfl rfl tbok rfl rfl rfl rfl rfl ?_
 clear E; intro w21 a hc22 H_ E
 replace H := H_; clear H_; try dsimp only [setn, addE, goneL] at H
 refine nn_ <| sr_ <| vq 1 [.agg #[.int .i64 1, .slice (some ⟨g1, 0, none⟩) 2 2, .slice (some ⟨g6, 0, none⟩) 2 2, .slice (some ⟨g11, 0, none⟩) 1 1]] [(13, .agg #[.int .i64 1, .slice (some ⟨g1, 0, none⟩) 2 2, .slice (some ⟨g6, 0, none⟩) 2 2, .slice (some ⟨g11, 0, none⟩) 1 1])] [cellsAt w21 g16 (0) [.int .i64 1, .slice (some ⟨g1, 0, none⟩) 2 2, .slice (some ⟨g6, 0, none⟩) 2 2, .slice (some ⟨g11, 0, none⟩) 1 1]] E ((H.box 3 rfl).sub 0 _ rfl) ?_
 clear E; intro a E
 replace H := H.boxRow cBool true ([false, true] : List Bool) 0 rfl (fun _ _ => ⟨_, _, rfl, rfl, ⟨_, _, rfl, rfl, rfl⟩⟩) (Nat.le_of_ble_eq_true rfl); try dsimp only [setn, addE, goneL] at H
 replace H := H.boxRow (cInt .i64) true ([0, 0] : List Int) 1 rfl (fun _ _ => ⟨_, _, rfl, rfl, ⟨_, _, rfl, rfl, rfl⟩⟩) (Nat.le_of_ble_eq_true rfl); try dsimp only [setn, addE, goneL] at H
 replace H := H.boxRow cNode true ([(⟨0, -1, -2⟩ : Nd)] : List Nd) 2 rfl (fun _ _ => ⟨_, _, rfl, rfl, rfl⟩) (Nat.le_of_ble_eq_true rfl); try dsimp only [setn, addE, goneL] at H
 obtain ⟨r23, h24, hP⟩ := bind_inv hP
 obtain ⟨Fa25, Hc26, hb27⟩ := H.call [] [(0, false), (1, false), (2, false)] rfl rfl trivial
 refine e_call E rfl rfl Try.func10 rfl rfl rfl (both_Not_calls (some ⟨g1, 0, none⟩) 2 (some ⟨g6, 0, none⟩) 2 (some ⟨g11, 0, none⟩) 1 1 ([false, true] : List Bool) ([0, 0] : List Int) ([(⟨0, -1, -2⟩ : Nd)] : List Nd) (H.rcapx 0 rfl) (H.rcapx 1 rfl) (H.rcapx 2 rfl) Hc26 h24) ?_
 rintro v28 w29 a ⟨A32, c33, A35, c36, A38, c39, rfl, HR30⟩ E_
 replace E := E_ _ rfl; clear E_
 obtain ⟨H_, hc31⟩ := hb27 _ _ HR30 rfl
 replace H := H_; clear H_; try dsimp only [setn, addE, goneL] at H
 refine vp 3 [(15, .agg #[.int .i64 r23.1.1, .slice A32 r23.1.2.1.length c33, .slice A35 r23.1.2.2.1.length c36, .slice A38 r23.1.2.2.2.length c39]), (16, .int .i64 r23.2)] E ?_
 clear E; intro a E
 refine h_alloc H E rfl rfl tbok rfl ?_
 clear H E; intro w42 g41 a hc43 hg45 H E; replace E := E _ rfl; try dsimp only [setn, addE, goneL] at H
 refine h_store (g := g41) (off := 0) H 7 rfl E rfl rfl rfl rfl tbok rfl rfl rfl rfl rfl ?_
 clear E; intro w46 a hc47 H_ E
 replace H := H_; clear H_; try dsimp only [setn, addE, goneL] at H
 refine vp 1 [(3, .int .i64 r23.2)] E ?_
 clear E; intro a E
 refine nn_ <| sr_ <| vq 2 [.agg #[.int .i64 1, .slice (some ⟨g1, 0, none⟩) 2 2, .slice (some ⟨g6, 0, none⟩) 2 2, .slice (some ⟨g11, 0, none⟩) 1 1], .agg #[.int .i64 r23.1.1, .slice A32 r23.1.2.1.length c33, .slice A35 r23.1.2.2.1.length c36, .slice A38 r23.1.2.2.2.length c39]] [(18, .agg #[.int .i64 1, .slice (some ⟨g1, 0, none⟩) 2 2, .slice (some ⟨g6, 0, none⟩) 2 2, .slice (some ⟨g11, 0, none⟩) 1 1]), (19, .agg #[.int .i64 r23.1.1, .slice A32 r23.1.2.1.length c33, .slice A35 r23.1.2.2.1.length c36, .slice A38 r23.1.2.2.2.length c39])] [cellsAt w46 g16 (0) [.int .i64 1, .slice (some ⟨g1, 0, none⟩) 2 2, .slice (some ⟨g6, 0, none⟩) 2 2, .slice (some ⟨g11, 0, none⟩) 1 1], cellsAt w46 g41 (0) [.int .i64 r23.1.1, .slice A32 r23.1.2.1.length c33, .slice A35 r23.1.2.2.1.length c36, .slice A38 r23.1.2.2.2.length c39]] E ⟨(H.box 3 rfl).sub 0 _ rfl, (H.box 7 rfl).sub 0 _ rfl⟩ ?_
 clear E; intro a E
 obtain ⟨r48, h49, hP⟩ := bind_inv hP
 obtain ⟨Fa50, Hc51, hb52⟩ := H.call [] [(0, false), (1, false), (2, false), (4, false), (5, false), (6, false)] rfl rfl trivial
 refine e_call E rfl rfl Try.func17 rfl rfl rfl (both_Part_calls (some ⟨g1, 0, none⟩) 2 (some ⟨g6, 0, none⟩) 2 (some ⟨g11, 0, none⟩) 1 A32 c33 A35 c36 A38 c39 1 ([false, true] : List Bool) ([0, 0] : List Int) ([(⟨0, -1, -2⟩ : Nd)] : List Nd) r23.1.1 r23.1.2.1 r23.1.2.2.1 r23.1.2.2.2 (H.rcapx 0 rfl) (H.rcapx 1 rfl) (H.rcapx 2 rfl) (H.rcap 4 rfl) (H.rcap 5 rfl) (H.rcap 6 rfl) Hc51 h49) ?_
 rintro v53 w54 a ⟨A57, c58, rfl, HR55⟩ E_
 replace E := E_ _ rfl; clear E_
 obtain ⟨H_, hc56⟩ := hb52 _ _ HR55 rfl
 replace H := H_; clear H_; try dsimp only [setn, addE, goneL] at H
 refine vp 7 [(4, .slice A57 r48.1.length c58), (5, .bool r48.2.1), (6, .int .i64 r48.2.2)] E ?_
 clear E; intro a E
 refine nn_ <| sr_ <| vp 3 [(26, .bool ((r23.2 : Int) == 0))] E ?_
 clear E; intro a E
 revert E; refine csE 26 rfl (fun hb_ E => ?_) fun hb_ E => ?_
 ·
  have h60 : (r23.2 : Int) = 0 := eq_of_beq hb_
  replace hP := ite_t h60 hP
  refine vp 4 [(30, .bool ((r48.2.2 : Int) == 0))] E ?_
  clear E; intro a E
  revert E; refine csE 30 rfl (fun hb_ E => ?_) fun hb_ E => ?_
  ·
   have h61 : (r48.2.2 : Int) = 0 := eq_of_beq hb_
   replace hP := ite_t h61 hP
   refine vp 3 [(33, .bool r48.2.1)] E ?_
   clear E; intro a E
   revert E; refine csE 33 rfl (fun hb_ E => ?_) fun hb_ E => ?_
   ·
    have h62 : r48.2.1 = true := hb_
    replace hP := ite_t h62 hP
    refine vp 5 [(38, .bool (((r48.1.length : Int) : Int) == 1))] E ?_
    clear E; intro a E
    revert E; refine csE 38 rfl (fun hb_ E => ?_) fun hb_ E => ?_
    ·
     have h63 : ((r48.1.length : Int) : Int) = 1 := eq_of_beq hb_
     replace hP := ite_t h63 hP
     obtain ⟨g64, hP⟩ := ask_inv hP
     obtain ⟨b65, e_b65⟩ := H.raddr 8 rfl (idx_pos g64)
     subst e_b65
     refine vq 6 [.int .u8 (List.getD r48.1 (Int.toNat (0 : Int)) 0)] [(44, .bool (((List.getD r48.1 (Int.toNat (0 : Int)) 0) : Int) == 0))] [0 ≤ (0 : Int) ∧ (0 : Int) < (r48.1.length : Int), World.cell? w54 ⟨b65, 0 + (Int.toNat (0 : Int)) * 1, none⟩ = some (.int .u8 (List.getD r48.1 (Int.toNat (0 : Int)) 0))] E ⟨g64, Rds.at1 (H.rd 8 rds_row) 0 g64⟩ ?_
     clear E; intro a E
     revert E; refine csE 44 rfl (fun hb_ E => ?_) fun hb_ E => ?_
     ·
      have h67 : ((List.getD r48.1 (Int.toNat (0 : Int)) 0) : Int) = 0 := eq_of_beq hb_
      replace hP := ite_t h67 hP
      refine vq 6 [.slice A32 r23.1.2.1.length c33] [(50, .bool (((r23.1.2.1.length : Int) : Int) == 2))] [World.cell? w54 ⟨g41, 1, none⟩ = some (.slice A32 r23.1.2.1.length c33)] E ((H.box 7 rfl).cell (j := 1) rfl) ?_
      clear E; intro a E
      revert E; refine csE 50 rfl (fun hb_ E => ?_) fun hb_ E => ?_
      ·
       have h68 : ((r23.1.2.1.length : Int) : Int) = 2 := eq_of_beq hb_
       replace hP := ite_t h68 hP
       obtain ⟨g69, hP⟩ := ask_inv hP
       obtain ⟨b70, e_b70⟩ := H.raddr 4 rfl (idx_pos g69)
       subst e_b70
       refine vq 6 [.slice (some ⟨b70, 0, none⟩) r23.1.2.1.length c33, .bool (List.getD r23.1.2.1 (Int.toNat (1 : Int)) false)] [(56, .bool (List.getD r23.1.2.1 (Int.toNat (1 : Int)) false))] [World.cell? w54 ⟨g41, 1, none⟩ = some (.slice (some ⟨b70, 0, none⟩) r23.1.2.1.length c33), 0 ≤ (1 : Int) ∧ (1 : Int) < (r23.1.2.1.length : Int), World.cell? w54 ⟨b70, 0 + (Int.toNat (1 : Int)) * 1, none⟩ = some (.bool (List.getD r23.1.2.1 (Int.toNat (1 : Int)) false))] E ⟨(H.box 7 rfl).cell (j := 1) rfl, g69, Rds.at1 (H.rd 4 rds_row) false g69⟩ ?_
       clear E; intro a E
       revert E; refine csE 56 rfl (fun hb_ E => ?_) fun hb_ E => ?_
       ·
        have h72 : (List.getD r23.1.2.1 (Int.toNat (1 : Int)) false) = true := hb_
        replace hP := ite_t h72 hP
        obtain ⟨g73, hP⟩ := ask_inv hP
        refine vq 7 [.slice (some ⟨b70, 0, none⟩) r23.1.2.1.length c33, .bool (List.getD r23.1.2.1 (Int.toNat (0 : Int)) false)] [(0, .bool (!(List.getD r23.1.2.1 (Int.toNat (0 : Int)) false)))] [World.cell? w54 ⟨g41, 1, none⟩ = some (.slice (some ⟨b70, 0, none⟩) r23.1.2.1.length c33), 0 ≤ (0 : Int) ∧ (0 : Int) < (r23.1.2.1.length : Int), World.cell? w54 ⟨b70, 0 + (Int.toNat (0 : Int)) * 1, none⟩ = some (.bool (List.getD r23.1.2.1 (Int.toNat (0 : Int)) false))] E ⟨(H.box 7 rfl).cell (j := 1) rfl, g73, Rds.at1 (H.rd 4 rds_row) false g73⟩ ?_
        clear E; intro a E
        refine nn_ <| wp_ret ?_
        obtain rfl := Option.some.inj hP
        refine ret1 E rfl rfl ?_
        exact ⟨_, rfl, rfl, H.sel [] rfl⟩
       have h74 : ¬ ((List.getD r23.1.2.1 (Int.toNat (1 : Int)) false) = true) := (ne_true_of_eq_false hb_)
       replace hP := ite_f h74 hP
       refine vp 7 [(0, .bool false)] E ?_
       clear E; intro a E
       refine nn_ <| wp_ret ?_
       obtain rfl := Option.some.inj hP
       refine ret1 E rfl rfl ?_
       exact ⟨_, rfl, rfl, H.sel [] rfl⟩
      have h75 : ¬ (((r23.1.2.1.length : Int) : Int) = 2) := ne_of_beq_false hb_
      replace hP := ite_f h75 hP
      refine vp 13 [(0, .bool false)] E ?_
      clear E; intro a E
      refine nn_ <| wp_ret ?_
      obtain rfl := Option.some.inj hP
      refine ret1 E rfl rfl ?_
      exact ⟨_, rfl, rfl, H.sel [] rfl⟩
     have h76 : ¬ (((List.getD r48.1 (Int.toNat (0 : Int)) 0) : Int) = 0) := ne_of_beq_false hb_
     replace hP := ite_f h76 hP
     refine vp 19 [(0, .bool false)] E ?_
     clear E; intro a E
     refine nn_ <| wp_ret ?_
     obtain rfl := Option.some.inj hP
     refine ret1 E rfl rfl ?_
     exact ⟨_, rfl, rfl, H.sel [] rfl⟩
    have h77 : ¬ (((r48.1.length : Int) : Int) = 1) := ne_of_beq_false hb_
    replace hP := ite_f h77 hP
    refine vp 25 [(0, .bool false)] E ?_
    clear E; intro a E
    refine nn_ <| wp_ret ?_
    obtain rfl := Option.some.inj hP
    refine ret1 E rfl rfl ?_
    exact ⟨_, rfl, rfl, H.sel [] rfl⟩
   have h78 : ¬ (r48.2.1 = true) := (ne_true_of_eq_false hb_)
   replace hP := ite_f h78 hP
   refine vp 30 [(0, .bool false)] E ?_
   clear E; intro a E
   refine nn_ <| wp_ret ?_
   obtain rfl := Option.some.inj hP
   refine ret1 E rfl rfl ?_
   exact ⟨_, rfl, rfl, H.sel [] rfl⟩
  have h79 : ¬ ((r48.2.2 : Int) = 0) := ne_of_beq_false hb_
  replace hP := ite_f h79 hP
  refine vp 33 [(0, .bool false)] E ?_
  clear E; intro a E
  refine nn_ <| wp_ret ?_
  obtain rfl := Option.some.inj hP
  refine ret1 E rfl rfl ?_
  exact ⟨_, rfl, rfl, H.sel [] rfl⟩
 have h80 : ¬ ((r23.2 : Int) = 0) := ne_of_beq_false hb_
 replace hP := ite_f h80 hP
 refine vp 37 [(0, .bool false)] E ?_
 clear E; intro a E
 refine nn_ <| wp_ret ?_
 obtain rfl := Option.some.inj hP
 refine ret1 E rfl rfl ?_
 exact ⟨_, rfl, rfl, H.sel [] rfl⟩

/-! rejoinder/rejoinderlaw20.Small -/
def law20_Small (N : Nat) (aProps : Int) (aAccept : List Bool) (aGuard : List Int) (aNodes : List Nd) : Option Bool :=
  if (aAccept.length : Int) ≤ 8 then
    if aProps ≤ 3 then
      if (aNodes.length : Int) ≤ 100 then
        some (decide ((aGuard.length : Int) ≤ 300))
      else
        some false
    else
      some false
  else
    some false
theorem law20_Small_calls {N : Nat} {S Fa : Nat → Prop} {w0 : World} {r : Bool} (A1 : Option Addr) (c2 : Nat) (A5 : Option Addr) (c6 : Nat) (A9 : Option Addr) (c10 : Nat) (aProps : Int) (aAccept : List Bool) (aGuard : List Int) (aNodes : List Nd) (hk3 : List.length aAccept ≤ c2) (hk7 : List.length aGuard ≤ c6) (hk11 : List.length aNodes ≤ c10) (H : Hp S Fa w0 w0 [.ro false cBool A1 aAccept, .ro false (cInt .i64) A5 aGuard, .ro false cNode A9 aNodes]) (hP : law20_Small N aProps aAccept aGuard aNodes = some r) :
    Calls Try.prog 8 #[.agg #[.int .i64 aProps, .slice A1 aAccept.length c2, .slice A5 aGuard.length c6, .slice A9 aNodes.length c10]] w0 fun e w' => ∃ v, e = .returned v ∧ v = .bool r ∧ Hp S Fa w0 w' [] := by
 refine enterV (n := 24) Try.func8 rfl rfl rfl ?_
 intro a E
 replace E := E.pick [(0, .agg #[.int .i64 aProps, .slice A1 aAccept.length c2, .slice A5 aGuard.length c6, .slice A9 aNodes.length c10])] ⟨rfl, trivial⟩
 rw [law20_Small] at hP
 refine sr_ <| h_box H E rfl rfl rfl ?_
 clear H E; intro w14 g13 a hc15 hg17 H E; replace E := E _ rfl; try dsimp only [setn, addE, goneL] at H
 refine vp 1 [] E ?_
 clear E; intro a E
 refine nn_ <| sr_ <| vq 5 [.slice A1 aAccept.length c2] [(7, .bool (decide ((aAccept.length : Int) ≤ 8)))] [World.cell? w14 ⟨g13, 1, none⟩ = some (.slice A1 aAccept.length c2)] E ((H.box 3 rfl).cell (j := 1) rfl) ?_
 clear E; intro a E
 revert E; refine csE 7 rfl (fun hb_ E => ?_) fun hb_ E => ?_
 ·
  have h18 : (aAccept.length : Int) ≤ 8 := of_decide_eq_true hb_
  replace hP := ite_t h18 hP
  refine vq 5 [.int .i64 aProps] [(12, .bool (decide (aProps ≤ 3)))] [World.cell? w14 ⟨g13, 0, none⟩ = some (.int .i64 aProps)] E ((H.box 3 rfl).cell (j := 0) rfl) ?_
  clear E; intro a E
  revert E; refine csE 12 rfl (fun hb_ E => ?_) fun hb_ E => ?_
  ·
   have h19 : aProps ≤ 3 := of_decide_eq_true hb_
   replace hP := ite_t h19 hP
   refine vq 6 [.slice A9 aNodes.length c10] [(18, .bool (decide ((aNodes.length : Int) ≤ 100)))] [World.cell? w14 ⟨g13, 3, none⟩ = some (.slice A9 aNodes.length c10)] E ((H.box 3 rfl).cell (j := 3) rfl) ?_
   clear E; intro a E
   revert E; refine csE 18 rfl (fun hb_ E => ?_) fun hb_ E => ?_
   ·
    have h20 : (aNodes.length : Int) ≤ 100 := of_decide_eq_true hb_
    replace hP := ite_t h20 hP
    refine vq 6 [.slice A5 aGuard.length c6] [(2, .bool (decide ((aGuard.length : Int) ≤ 300)))] [World.cell? w14 ⟨g13, 2, none⟩ = some (.slice A5 aGuard.length c6)] E ((H.box 3 rfl).cell (j := 2) rfl) ?_
    clear E; intro a E
    refine nn_ <| wp_ret ?_
    obtain rfl := Option.some.inj hP
    refine ret1 E rfl rfl ?_
    exact ⟨_, rfl, rfl, H.sel [] rfl⟩
   have h21 : ¬ ((aNodes.length : Int) ≤ 100) := of_decide_eq_false hb_
   replace hP := ite_f h21 hP
   refine vp 6 [(2, .bool false)] E ?_
   clear E; intro a E
   refine nn_ <| wp_ret ?_
   obtain rfl := Option.some.inj hP
   refine ret1 E rfl rfl ?_
   exact ⟨_, rfl, rfl, H.sel [] rfl⟩
  have h22 : ¬ (aProps ≤ 3) := of_decide_eq_false hb_
  replace hP := ite_f h22 hP
  refine vp 12 [(2, .bool false)] E ?_
  clear E; intro a E
  refine nn_ <| wp_ret ?_
  obtain rfl := Option.some.inj hP
  refine ret1 E rfl rfl ?_
  exact ⟨_, rfl, rfl, H.sel [] rfl⟩
 have h23 : ¬ ((aAccept.length : Int) ≤ 8) := of_decide_eq_false hb_
 replace hP := ite_f h23 hP
 refine vp 17 [(2, .bool false)] E ?_
 clear E; intro a E
 refine nn_ <| wp_ret ?_
 obtain rfl := Option.some.inj hP
 refine ret1 E rfl rfl ?_
 exact ⟨_, rfl, rfl, H.sel [] rfl⟩

end Go.V
