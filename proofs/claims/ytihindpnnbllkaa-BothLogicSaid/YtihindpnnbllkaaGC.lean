/- Plain theory: stores of nodes, of any number of states. No program. -/
import Derived.Test.YtihindpnnbllkaaCQ
set_option linter.all false
set_option linter.unusedVariables false
set_option maxRecDepth 100000
namespace Go.V
open Go

/-! ### what a reference decides -/
def evf (nd : List Nd) (f : Int → Bool) : Nat → Int → Int
  | 0, _ => 0
  | m + 1, ref => if ref < 0 then -1 - ref else if f (nd.getD ref.toNat default).P = true then evf nd f m (nd.getD ref.toNat default).Hi else evf nd f m (nd.getD ref.toNat default).Lo
def bitf (l P : Int) : Bool := decide (andV .u8 (shrV .u8 l P) 1 = 1)
theorem goS_evf (nd : List Nd) (l : Int) : ∀ (m : Nat) (ref : Int), goS nd l m ref = evf nd (bitf l) m ref
  | 0, _ => rfl
  | m + 1, ref => by
    unfold goS evf
    rw [goS_evf nd l m, goS_evf nd l m]
    unfold bitf
    simp only [decide_eq_true_eq]
/-- a reference that may be, with a proposition above k -/
def Rf (B : Int) (nd : List Nd) (b k ref : Int) : Prop := (-B ≤ ref ∧ ref < 0) ∨ (0 ≤ ref ∧ ref < b ∧ k < (nd.getD ref.toNat default).P)
def SN (n B : Int) (nd : List Nd) : Prop := ∀ i : Nat, i < nd.length → 0 ≤ (nd.getD i default).P ∧ (nd.getD i default).P < n ∧ Rf B nd i (nd.getD i default).P (nd.getD i default).Lo ∧ Rf B nd i (nd.getD i default).P (nd.getD i default).Hi
structure SI (n B : Int) (nd : List Nd) (at_ : List (Nd × Int)) : Prop where
  ok : SN n B nd
  ne : ∀ i : Nat, i < nd.length → (nd.getD i default).Lo ≠ (nd.getD i default).Hi
  dis : ∀ i j : Nat, i < nd.length → j < nd.length → nd.getD i default = nd.getD j default → i = j
  at1 : ∀ i : Nat, i < nd.length → mget at_ (nd.getD i default) = some (i : Int)
  at2 : ∀ x v, mget at_ x = some v → ∃ i : Nat, i < nd.length ∧ v = (i : Int) ∧ nd.getD i default = x
theorem Rf.mono {B : Int} {nd : List Nd} {b b2 k k2 ref : Int} (h : Rf B nd b k ref) (h1 : b ≤ b2) (h2 : k2 ≤ k) : Rf B nd b2 k2 ref := h.imp id fun ⟨a, c, d⟩ => ⟨a, by omega, by omega⟩
theorem Rf.good {B : Int} {nd : List Nd} {b k ref : Int} (h : Rf B nd b k ref) : Good B nd ref b k := h.imp (fun ⟨a, c⟩ => ⟨c, a⟩) fun h => h
theorem Rf.of_good {B : Int} {nd : List Nd} {b k ref : Int} (h : Good B nd ref b k) : Rf B nd b k ref := h.imp (fun ⟨a, c⟩ => ⟨c, a⟩) fun h => h
theorem getD_app {nd ys : List Nd} {i : Nat} (h : i < nd.length) : (nd ++ ys).getD i default = nd.getD i default := by
  rw [List.getD_eq_getElem?_getD, List.getD_eq_getElem?_getD, List.getElem?_append_left h]
theorem Rf.app {B : Int} {nd ys : List Nd} {b k ref : Int} (h : Rf B nd b k ref) (hb : b ≤ nd.length) : Rf B (nd ++ ys) b k ref := h.imp id fun ⟨a, c, d⟩ => ⟨a, c, by rw [getD_app (by omega)]; exact d⟩
section
variable {n B : Int} {nd : List Nd} {at_ : List (Nd × Int)}
theorem evf_neg {f : Int → Bool} {m : Nat} {ref : Int} (h : ref < 0) (hm : 1 ≤ m) : evf nd f m ref = -1 - ref := by
  match m, hm with
  | m + 1, _ => unfold evf; rw [if_pos h]
theorem evf_fuel (I : SN n B nd) (f : Int → Bool) : ∀ (m m' : Nat) (k ref : Int), Rf B nd nd.length k ref → -1 ≤ k → n - k ≤ m → n - k ≤ m' → 1 ≤ m → 1 ≤ m' → evf nd f m ref = evf nd f m' ref
  | 0, _, _, _, _, _, _, _, h, _ => by omega
  | _ + 1, 0, _, _, _, _, _, _, _, h => by omega
  | m + 1, m' + 1, k, ref, hr, hk, h1, h2, _, _ => by
    unfold evf
    rcases hr with ⟨a, b⟩ | ⟨a, b, c⟩
    · rw [if_pos b, if_pos b]
    · have o := I ref.toNat (by omega)
      have hng : ¬ ref < 0 := by omega
      rw [if_neg hng, if_neg hng]
      have e : ((ref.toNat : Nat) : Int) = ref := by omega
      rw [evf_fuel I f m m' (nd.getD ref.toNat default).P (nd.getD ref.toNat default).Hi (o.2.2.2.mono (by omega) (Int.le_refl _)) (by omega) (by omega) (by omega) (by omega) (by omega),
        evf_fuel I f m m' (nd.getD ref.toNat default).P (nd.getD ref.toNat default).Lo (o.2.2.1.mono (by omega) (Int.le_refl _)) (by omega) (by omega) (by omega) (by omega) (by omega)]
theorem evf_agree (I : SN n B nd) (f g : Int → Bool) : ∀ (m : Nat) (k ref : Int), Rf B nd nd.length k ref → (∀ P, k < P → P < n → f P = g P) → evf nd f m ref = evf nd g m ref
  | 0, _, _, _, _ => rfl
  | m + 1, k, ref, hr, h => by
    unfold evf
    rcases hr with ⟨a, b⟩ | ⟨a, b, c⟩
    · rw [if_pos b, if_pos b]
    · have o := I ref.toNat (by omega)
      have hng : ¬ ref < 0 := by omega
      rw [if_neg hng, if_neg hng, h _ c o.2.1]
      rw [evf_agree I f g m (nd.getD ref.toNat default).P (nd.getD ref.toNat default).Hi (o.2.2.2.mono (by omega) (Int.le_refl _)) (fun P h1 h2 => h P (by omega) h2),
        evf_agree I f g m (nd.getD ref.toNat default).P (nd.getD ref.toNat default).Lo (o.2.2.1.mono (by omega) (Int.le_refl _)) (fun P h1 h2 => h P (by omega) h2)]
theorem evf_app (I : SN n B nd) (ys : List Nd) (f : Int → Bool) : ∀ (m : Nat) (k ref : Int), Rf B nd nd.length k ref → evf (nd ++ ys) f m ref = evf nd f m ref
  | 0, _, _, _ => rfl
  | m + 1, k, ref, hr => by
    unfold evf
    rcases hr with ⟨a, b⟩ | ⟨a, b, c⟩
    · rw [if_pos b, if_pos b]
    · have o := I ref.toNat (by omega)
      have hng : ¬ ref < 0 := by omega
      rw [if_neg hng, if_neg hng, getD_app (by omega)]
      rw [evf_app I ys f m (nd.getD ref.toNat default).P (nd.getD ref.toNat default).Hi (o.2.2.2.mono (by omega) (Int.le_refl _)),
        evf_app I ys f m (nd.getD ref.toNat default).P (nd.getD ref.toNat default).Lo (o.2.2.1.mono (by omega) (Int.le_refl _))]
/-- with fuel enough -/
def E (nd : List Nd) (f : Int → Bool) (ref : Int) : Int := evf nd f 9 ref
theorem E_neg {f : Int → Bool} {ref : Int} (h : ref < 0) : E nd f ref = -1 - ref := evf_neg h (by omega)
theorem E_node (I : SN n B nd) (hn : n ≤ 8) (f : Int → Bool) {i : Nat} (hi : i < nd.length) : E nd f (i : Int) = if f (nd.getD i default).P = true then E nd f (nd.getD i default).Hi else E nd f (nd.getD i default).Lo := by
  have o := I i hi
  show evf nd f (8 + 1) (i : Int) = _
  unfold evf
  rw [if_neg (by omega), Int.toNat_natCast]
  unfold E
  rw [evf_fuel I f 8 9 (nd.getD i default).P (nd.getD i default).Hi (o.2.2.2.mono (by omega) (Int.le_refl _)) (by omega) (by omega) (by omega) (by omega) (by omega),
    evf_fuel I f 8 9 (nd.getD i default).P (nd.getD i default).Lo (o.2.2.1.mono (by omega) (Int.le_refl _)) (by omega) (by omega) (by omega) (by omega) (by omega)]
/-- one reference for one function -/
theorem canon (I : SI n B nd at_) (hn : n ≤ 8) : ∀ (d : Nat) (k r1 r2 : Int), -1 ≤ k → n - 1 - k ≤ d → Rf B nd nd.length k r1 → Rf B nd nd.length k r2 → (∀ f, E nd f r1 = E nd f r2) → r1 = r2
  | 0, k, r1, r2, hk, hd, h1, h2, h => by
    have t : ∀ r, Rf B nd nd.length k r → r < 0 := fun r hr => by
      rcases hr with ⟨_, b⟩ | ⟨a, b, c⟩
      · exact b
      · have o := I.ok r.toNat (by omega)
        omega
    have := h fun _ => false
    rw [E_neg (t r1 h1), E_neg (t r2 h2)] at this
    omega
  | d + 1, k, r1, r2, hk, hd, h1, h2, h => by
    have up : ∀ r, Rf B nd nd.length k r → Rf B nd nd.length (k + 1) r ∨ ∃ i : Nat, i < nd.length ∧ r = (i : Int) ∧ (nd.getD i default).P = k + 1 := fun r hr => by
      rcases hr with hr | ⟨a, b, c⟩
      · exact .inl (.inl hr)
      · by_cases e : (nd.getD r.toNat default).P = k + 1
        · exact .inr ⟨r.toNat, by omega, by omega, e⟩
        · exact .inl (.inr ⟨a, b, by omega⟩)
    have set_ : ∀ (f : Int → Bool) (b : Bool) r, Rf B nd nd.length (k + 1) r → E nd (fun P => if P = k + 1 then b else f P) r = E nd f r := fun f b r hr => evf_agree I.ok _ _ 9 (k + 1) r hr fun P h1 _ => if_neg (by omega)
    have lo : ∀ i : Nat, i < nd.length → (nd.getD i default).P = k + 1 → Rf B nd nd.length (k + 1) (nd.getD i default).Lo ∧ Rf B nd nd.length (k + 1) (nd.getD i default).Hi ∧ (∀ f, E nd (fun P => if P = k + 1 then false else f P) (i : Int) = E nd f (nd.getD i default).Lo) ∧ ∀ f, E nd (fun P => if P = k + 1 then true else f P) (i : Int) = E nd f (nd.getD i default).Hi := fun i hi e => by
      have o := I.ok i hi
      have g1 : Rf B nd nd.length (k + 1) (nd.getD i default).Lo := o.2.2.1.mono (by omega) (by omega)
      have g2 : Rf B nd nd.length (k + 1) (nd.getD i default).Hi := o.2.2.2.mono (by omega) (by omega)
      refine ⟨g1, g2, fun f => ?_, fun f => ?_⟩
      · rw [E_node I.ok hn _ hi, e, if_pos rfl, if_neg (by simp), set_ f false _ g1]
      · rw [E_node I.ok hn _ hi, e, if_pos rfl, if_pos rfl, set_ f true _ g2]
    rcases up r1 h1 with u1 | ⟨i, hi, rfl, ei⟩ <;> rcases up r2 h2 with u2 | ⟨j, hj, rfl, ej⟩
    · exact canon I hn d (k + 1) r1 r2 (by omega) (by omega) u1 u2 h
    · exfalso
      obtain ⟨g1, g2, g3, g4⟩ := lo j hj ej
      have a := canon I hn d (k + 1) _ _ (by omega) (by omega) g1 u1 fun f => by rw [← g3, ← h, set_ f false _ u1]
      have b := canon I hn d (k + 1) _ _ (by omega) (by omega) g2 u1 fun f => by rw [← g4, ← h, set_ f true _ u1]
      exact I.ne j hj (by rw [a, b])
    · exfalso
      obtain ⟨g1, g2, g3, g4⟩ := lo i hi ei
      have a := canon I hn d (k + 1) _ _ (by omega) (by omega) g1 u2 fun f => by rw [← g3, h, set_ f false _ u2]
      have b := canon I hn d (k + 1) _ _ (by omega) (by omega) g2 u2 fun f => by rw [← g4, h, set_ f true _ u2]
      exact I.ne i hi (by rw [a, b])
    · obtain ⟨g1, g2, g3, g4⟩ := lo i hi ei
      obtain ⟨m1, m2, m3, m4⟩ := lo j hj ej
      have a := canon I hn d (k + 1) _ _ (by omega) (by omega) g1 m1 fun f => by rw [← g3, ← m3, h]
      have b := canon I hn d (k + 1) _ _ (by omega) (by omega) g2 m2 fun f => by rw [← g4, ← m4, h]
      have : i = j := I.dis i j hi hj (by
        have e1 : nd.getD i default = ⟨(nd.getD i default).P, (nd.getD i default).Lo, (nd.getD i default).Hi⟩ := rfl
        have e2 : nd.getD j default = ⟨(nd.getD j default).P, (nd.getD j default).Lo, (nd.getD j default).Hi⟩ := rfl
        rw [e1, e2, ei, ej, a, b])
      rw [this]
end

/-! ### lists as functions -/
def ixf (f : Int → Bool) (p : Int) : Nat → Nat
  | 0 => 0
  | d + 1 => (if f p = true then 1 else 0) + 2 * ixf f (p + 1) d
theorem ixf_lt (f : Int → Bool) : ∀ (d : Nat) (p : Int), ixf f p d < 2 ^ d
  | 0, _ => by simp [ixf]
  | d + 1, p => by
    have := ixf_lt f d (p + 1)
    unfold ixf
    rw [Nat.pow_succ]
    split <;> omega
theorem ixf_agree (f g : Int → Bool) : ∀ (d : Nat) (p : Int), (∀ P, p ≤ P → f P = g P) → ixf f p d = ixf g p d
  | 0, _, _ => rfl
  | d + 1, p, h => by
    unfold ixf
    rw [h p (Int.le_refl _), ixf_agree f g d (p + 1) fun P hP => h P (by omega)]
theorem ixf_bit : ∀ n : Fin 9, ∀ l : Fin 256, l.val < 2 ^ n.val → ixf (bitf (l.val : Int)) 0 n.val = l.val := by decide +kernel

/-! ### a list is added -/
section
variable {N : Nat}
theorem split_ok {wh : List Int} (hl : wh.length ≤ 1000) : ∀ (m : Nat) (lo hi : List Int) (i : Nat), 2 * i ≤ wh.length → wh.length < 2 * (i + m) → wh.length % 2 = 0 → lo.length = i → hi.length = i → (∀ j, j < i → lo.getD j 0 = wh.getD (2 * j) 0 ∧ hi.getD j 0 = wh.getD (2 * j + 1) 0) →
    Ok (guard_Store_add_l0 N wh m lo hi ((2 * i : Nat) : Int)) fun r => r.1.length = wh.length / 2 ∧ r.2.length = wh.length / 2 ∧ ∀ j, j < wh.length / 2 → r.1.getD j 0 = wh.getD (2 * j) 0 ∧ r.2.getD j 0 = wh.getD (2 * j + 1) 0
  | 0, lo, hi, i, h1, h2, _, _, _, _ => by omega
  | m + 1, lo, hi, i, h1, h2, h3, h4, h5, h6 => by
    unfold guard_Store_add_l0
    refine Ok.ite (fun hx => ?_) fun hx => Ok.pure ⟨by show lo.length = _; omega, by show hi.length = _; omega, fun j hj => h6 j (by omega)⟩
    have e1 : (((2 * i : Nat) : Int) + 1).toNat = 2 * i + 1 := by omega
    rw [Int.toNat_natCast, e1]
    refine Ok.ask (by unfold idx; omega) (Ok.ask (by simp; omega) (Ok.ask (by unfold in64; omega) (Ok.ask (by unfold idx; omega) (Ok.ask (by simp; omega) (Ok.ask (by unfold in64; omega) ?_)))))
    rw [show (((2 * i : Nat) : Int) + 2) = ((2 * (i + 1) : Nat) : Int) by omega]
    refine split_ok hl m _ _ (i + 1) (by omega) (by omega) h3 (by simp; omega) (by simp; omega) fun j hj => ?_
    rw [getD_snoc, getD_snoc]
    by_cases c : j = i
    · rw [if_pos (by omega), if_pos (by omega), c]
      exact ⟨rfl, rfl⟩
    · rw [if_neg (by omega), if_neg (by omega)]
      exact h6 j (by omega)
end
end Go.V
