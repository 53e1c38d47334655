/- Traces are as far from one another both ways, at no distance just if they are the same, and never farther than by way of a third one. -/
import Derived.Test.YtldcmipgdacecaaBNearWays
import Derived.Test.YtldcmipgdacecaaDU
import Derived.Test.YtldcmipgdacecaaV9
set_option linter.all false
set_option linter.unusedVariables false
set_option maxRecDepth 1000000
namespace Go.V
open Go Go.Proofs
theorem min_four (x y z : Nat) : ∃ k : Nat, minL (x : Int) [(y : Int), (z : Int), 60] = (k : Int) ∧ k ≤ x ∧ k ≤ y ∧ k ≤ z ∧ k ≤ 60 := by
  refine ⟨min (min x y) (min z 60), ?_, by omega, by omega, by omega, by omega⟩
  simp only [minL]
  split <;> split <;> split <;> omega
theorem awake_ok : law28_awake 1000000 = some true := by kernel_rfl
theorem nearWays_true {aa b c : List Int} (ha : ∀ x ∈ aa, 0 ≤ x ∧ x ≤ 255) (hb : ∀ x ∈ b, 0 ≤ x ∧ x ≤ 255) (hc : ∀ x ∈ c, 0 ≤ x ∧ x ≤ 255) : law28_NearWays 1000000 aa b c = some true := by
  obtain ⟨k, hk, k1, k2, k3, k4⟩ := min_four aa.length b.length c.length
  unfold law28_NearWays law28_NearWays_j0
  rw [hk, Int.toNat_natCast]
  unfold ask
  rw [if_pos (by omega), if_pos (by omega), if_pos (by omega)]
  obtain ⟨u, hu, ul, hu2⟩ := letters_nat (t := aa.take k) fun x hx => ha x (List.mem_of_mem_take hx)
  obtain ⟨v, hv, vl, hv2⟩ := letters_nat (t := b.take k) fun x hx => hb x (List.mem_of_mem_take hx)
  obtain ⟨w, hw, wl, hw2⟩ := letters_nat (t := c.take k) fun x hx => hc x (List.mem_of_mem_take hx)
  rw [List.length_take] at ul vl wl
  rw [hu, hv, hw]
  have hN : 5000 ≤ 1000000 := by decide
  rw [Far_ok hN (by omega) hu2 hv2 (by omega), Option.bind_some, Far_ok hN (by omega) hv2 hu2 (by omega), Option.bind_some, Far_ok hN (by omega) hv2 hw2 (by omega), Option.bind_some, Far_ok hN (by omega) hu2 hw2 (by omega), Option.bind_some]
  have h1 := farN_symm u v
  have h2 := farN_zero u v (by omega) hu2 hv2
  have h3 := farN_tri u v w (by omega) (by omega)
  have l1 := farN_le u v
  have l2 := farN_le v w
  rw [if_pos rfl, if_pos rfl, if_pos rfl, if_pos rfl, if_pos (by show ((farN u v : Nat) : Int) = ((farN v u : Nat) : Int); rw [h1]), if_pos (by show (0 : Int) ≤ ((farN u v : Nat) : Int); omega), SameL_ok hN (by rw [List.length_map]; omega), Option.bind_some, if_pos ?_, if_pos (by show in64 (((farN u v : Nat) : Int) + ((farN v w : Nat) : Int)); unfold in64; omega), if_pos (by show ((farN u w : Nat) : Int) ≤ ((farN u v : Nat) : Int) + ((farN v w : Nat) : Int); omega), awake_ok]
  · rfl
  · show (((farN u v : Nat) : Int) == 0) = decide ((u.map fun l : Nat => (l : Int)) = v.map fun l : Nat => (l : Int))
    rw [Bool.eq_iff_iff, decide_eq_true_iff, map_inj, ← h2, beq_iff_eq]
    omega
theorem nearWays_row (w0 : World) (A1 : Option Addr) (c1 : Nat) (aa : List Int) (A2 : Option Addr) (c2 : Nat) (b : List Int) (A3 : Option Addr) (c3 : Nat) (c : List Int)
    (k1 : aa.length ≤ c1) (k2 : b.length ≤ c2) (k3 : c.length ≤ c3) (C1 : C (cInt .u8) w0 (Lo w0.heap.size) A1 aa) (C2 : C (cInt .u8) w0 (Lo w0.heap.size) A2 b) (C3 : C (cInt .u8) w0 (Lo w0.heap.size) A3 c)
    (ha : ∀ x ∈ aa, 0 ≤ x ∧ x ≤ 255) (hb : ∀ x ∈ b, 0 ≤ x ∧ x ≤ 255) (hc : ∀ x ∈ c, 0 ≤ x ∧ x ≤ 255) :
    Calls Try.prog 5 #[.slice A1 aa.length c1, .slice A2 b.length c2, .slice A3 c.length c3] w0 fun e w' => ∃ v, e = .returned v ∧ (v = .bool true ∧ Ext w0 w') :=
  (law28_NearWays_calls A1 c1 A2 c2 A3 c3 aa b c k1 k2 k3 ((((Hp.start w0).arg C1).arg C2).arg C3) (nearWays_true ha hb hc)).mono fun e w' ⟨v, he, hv, H⟩ => ⟨v, he, hv, H.chgd.own⟩
end Go.V
