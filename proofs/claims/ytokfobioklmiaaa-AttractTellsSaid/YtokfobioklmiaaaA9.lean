/- Plain functions, and the calls that give them. -/
import Derived.Test.YtokfobioklmiaaaA8
set_option linter.all false
set_option linter.unusedVariables false
set_option linter.unnecessarySimpa false
set_option linter.unusedSimpArgs false
namespace Go.V
open Go Go.Proofs
/-! rejoinder/rejoinderkit.CopyInts -/
def kit_CopyInts (N : Nat) (ll : List Int) : Option (List Int) :=
  ask (List.length ([] : List Int) + List.length ll ≤ 1000000000) <|
  some (([] : List Int) ++ ll)
set_option maxRecDepth 100000 in
set_option maxHeartbeats 4000000 in
theorem kit_CopyInts_calls {N : Nat} {S Fa : Nat → Prop} {w0 : World} {r : List Int} (A1 : Option Addr) (c2 : Nat) (ll : List Int) (hk3 : List.length ll ≤ c2) (H : Hp S Fa w0 w0 [.ro false (cInt .i64) A1 ll]) (hP : kit_CopyInts N ll = some r) :
    Calls Try.prog 38 #[.slice A1 (List.length ll) c2] w0 fun e w' => ∃ v, e = .returned v ∧ ∃ (A16 : Option Addr) (c17 : Nat), v = .slice A16 (List.length r) c17 ∧ Hp S Fa w0 w' [.row true (cInt .i64) 3 A16 c17 r] := by
 refine enterV (n := 6) Try.func38 rfl rfl rfl ?_
 intro a E
 replace E := E.pick [(0, .slice A1 (List.length ll) c2)] ⟨rfl, trivial⟩
 rw [kit_CopyInts] at hP
 refine wp_seq ?_
 refine wp_region_lit ?_
 refine vn tbok 1 [] [] [] E (by kernel_rfl) (by kernel_rfl) trivial ?_
 clear E; intro a E
 refine wpList_nil ?_
 refine th_n ?_
 refine wp_seq ?_
 refine wp_region_lit ?_
 refine h_buildSlice (ps := []) (cs := []) H E rfl rfl tbok rfl rfl (by kernel_rfl) ?_
 intro w6 g5 a hc7 hg9 H_ E_
 replace E := E_ _ rfl; clear E_
 replace H := H_; clear H_; try dsimp only [setn, addE, goneL] at H
 refine vn tbok 1 [] [(4, .slice A1 (List.length ll) c2)] [] E (by kernel_rfl) (by kernel_rfl) trivial ?_
 clear E; intro a E
 replace H := H.boxRow (cInt .i64) true ([] : List Int) 1 rfl (fun _ _ => rfl) (Nat.le_of_ble_eq_true rfl); try dsimp only [setn, addE, goneL] at H
 replace H := H.rowx 1 rfl; try dsimp only [setn, addE, goneL] at H
 obtain ⟨g10, hP⟩ := ask_inv hP
 refine h_append (cInt .i64) (xs := ([] : List Int)) (ys := ll) (0 : Int) H 1 rfl E rfl rfl tbok rfl rfl rfl rfl rfl (fun _ _ => rfl) rfl rfl (fun _ HF_ => HF_.srcF flat_plain 0 rds_ro) g10 ?_
 intro w11 A12 c13 a hc14 hA15 H_ E_
 replace E := E_ _ rfl; clear E_
 replace H := H_; clear H_; try dsimp only [setn, addE, goneL] at H
 refine vn tbok 1 [] [(2, .slice A12 (List.length (([] : List Int) ++ ll)) c13)] [] E (by kernel_rfl) (by kernel_rfl) trivial ?_
 clear E; intro a E
 refine wpList_nil ?_
 refine th_n ?_
 refine wp_ret ?_
 obtain rfl := Option.some.inj hP
 refine ret1 E rfl rfl ?_
 exact ⟨_, rfl, A12, c13, rfl, H.sel [1] rfl⟩

end Go.V
