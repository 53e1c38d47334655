/- Plain theory: stores of nodes. No program. -/
import Derived.Test.YthlbijcgnekcbaaPM
set_option linter.all false
set_option linter.unusedVariables false
set_option maxRecDepth 100000
namespace Go.V
open Go

/-! ### what a reference decides -/
def evf (nd : List Nd) (f : Int → Bool) : Nat → Int → Int
  | 0, _ => 0
  | m + 1, ref => if ref < 0 then -1 - ref else if f (nd.getD ref.toNat default).P = true then evf nd f m (nd.getD ref.toNat default).Hi else evf nd f m (nd.getD ref.toNat default).Lo
def bitf (l P : Int) : Bool := decide (andV .u8 (shrV .u8 l P) 1 = 1)
theorem goS_evf (nd : List Nd) (l : Int) : ∀ (m : Nat) (ref : Int), goS nd l m ref = evf nd (bitf l) m ref
  | 0, _ => rfl
  | m + 1, ref => by
    unfold goS evf
    rw [goS_evf nd l m, goS_evf nd l m]
    unfold bitf
    simp only [decide_eq_true_eq]
/-- a reference that may be, with a proposition above k -/
def Rf (nd : List Nd) (b k ref : Int) : Prop := (-12 ≤ ref ∧ ref < 0) ∨ (0 ≤ ref ∧ ref < b ∧ k < (nd.getD ref.toNat default).P)
structure SI (n : Int) (nd : List Nd) (at_ : List (Nd × Int)) : Prop where
  ok : ∀ i : Nat, i < nd.length → 0 ≤ (nd.getD i default).P ∧ (nd.getD i default).P < n ∧ (nd.getD i default).Lo ≠ (nd.getD i default).Hi ∧ Rf nd i (nd.getD i default).P (nd.getD i default).Lo ∧ Rf nd i (nd.getD i default).P (nd.getD i default).Hi
  dis : ∀ i j : Nat, i < nd.length → j < nd.length → nd.getD i default = nd.getD j default → i = j
  at1 : ∀ i : Nat, i < nd.length → mget at_ (nd.getD i default) = some (i : Int)
  at2 : ∀ x v, mget at_ x = some v → ∃ i : Nat, i < nd.length ∧ v = (i : Int) ∧ nd.getD i default = x
theorem Rf.mono {nd : List Nd} {b b2 k k2 ref : Int} (h : Rf nd b k ref) (h1 : b ≤ b2) (h2 : k2 ≤ k) : Rf nd b2 k2 ref := h.imp id fun ⟨a, c, d⟩ => ⟨a, by omega, by omega⟩
theorem getD_app {nd ys : List Nd} {i : Nat} (h : i < nd.length) : (nd ++ ys).getD i default = nd.getD i default := by
  rw [List.getD_eq_getElem?_getD, List.getD_eq_getElem?_getD, List.getElem?_append_left h]
theorem Rf.app {nd ys : List Nd} {b k ref : Int} (h : Rf nd b k ref) (hb : b ≤ nd.length) : Rf (nd ++ ys) b k ref := h.imp id fun ⟨a, c, d⟩ => ⟨a, c, by rw [getD_app (by omega)]; exact d⟩
section
variable {n : Int} {nd : List Nd} {at_ : List (Nd × Int)}
theorem evf_neg {f : Int → Bool} {m : Nat} {ref : Int} (h : ref < 0) (hm : 1 ≤ m) : evf nd f m ref = -1 - ref := by
  match m, hm with
  | m + 1, _ => unfold evf; rw [if_pos h]
theorem evf_fuel (I : SI n nd at_) (f : Int → Bool) : ∀ (m m' : Nat) (k ref : Int), Rf nd nd.length k ref → -1 ≤ k → n - k ≤ m → n - k ≤ m' → 1 ≤ m → 1 ≤ m' → evf nd f m ref = evf nd f m' ref
  | 0, _, _, _, _, _, _, _, h, _ => by omega
  | _ + 1, 0, _, _, _, _, _, _, _, h => by omega
  | m + 1, m' + 1, k, ref, hr, hk, h1, h2, _, _ => by
    unfold evf
    rcases hr with ⟨a, b⟩ | ⟨a, b, c⟩
    · rw [if_pos b, if_pos b]
    · have o := I.ok ref.toNat (by omega)
      have hng : ¬ ref < 0 := by omega
      rw [if_neg hng, if_neg hng]
      have e : ((ref.toNat : Nat) : Int) = ref := by omega
      rw [evf_fuel I f m m' (nd.getD ref.toNat default).P (nd.getD ref.toNat default).Hi (o.2.2.2.2.mono (by omega) (Int.le_refl _)) (by omega) (by omega) (by omega) (by omega) (by omega),
        evf_fuel I f m m' (nd.getD ref.toNat default).P (nd.getD ref.toNat default).Lo (o.2.2.2.1.mono (by omega) (Int.le_refl _)) (by omega) (by omega) (by omega) (by omega) (by omega)]
theorem evf_agree (I : SI n nd at_) (f g : Int → Bool) : ∀ (m : Nat) (k ref : Int), Rf nd nd.length k ref → (∀ P, k < P → P < n → f P = g P) → evf nd f m ref = evf nd g m ref
  | 0, _, _, _, _ => rfl
  | m + 1, k, ref, hr, h => by
    unfold evf
    rcases hr with ⟨a, b⟩ | ⟨a, b, c⟩
    · rw [if_pos b, if_pos b]
    · have o := I.ok ref.toNat (by omega)
      have hng : ¬ ref < 0 := by omega
      rw [if_neg hng, if_neg hng, h _ c o.2.1]
      rw [evf_agree I f g m (nd.getD ref.toNat default).P (nd.getD ref.toNat default).Hi (o.2.2.2.2.mono (by omega) (Int.le_refl _)) (fun P h1 h2 => h P (by omega) h2),
        evf_agree I f g m (nd.getD ref.toNat default).P (nd.getD ref.toNat default).Lo (o.2.2.2.1.mono (by omega) (Int.le_refl _)) (fun P h1 h2 => h P (by omega) h2)]
theorem evf_app (I : SI n nd at_) (ys : List Nd) (f : Int → Bool) : ∀ (m : Nat) (k ref : Int), Rf nd nd.length k ref → evf (nd ++ ys) f m ref = evf nd f m ref
  | 0, _, _, _ => rfl
  | m + 1, k, ref, hr => by
    unfold evf
    rcases hr with ⟨a, b⟩ | ⟨a, b, c⟩
    · rw [if_pos b, if_pos b]
    · have o := I.ok ref.toNat (by omega)
      have hng : ¬ ref < 0 := by omega
      rw [if_neg hng, if_neg hng, getD_app (by omega)]
      rw [evf_app I ys f m (nd.getD ref.toNat default).P (nd.getD ref.toNat default).Hi (o.2.2.2.2.mono (by omega) (Int.le_refl _)),
        evf_app I ys f m (nd.getD ref.toNat default).P (nd.getD ref.toNat default).Lo (o.2.2.2.1.mono (by omega) (Int.le_refl _))]
/-- with fuel enough -/
def E (nd : List Nd) (f : Int → Bool) (ref : Int) : Int := evf nd f 9 ref
theorem E_neg {f : Int → Bool} {ref : Int} (h : ref < 0) : E nd f ref = -1 - ref := evf_neg h (by omega)
theorem E_node (I : SI n nd at_) (hn : n ≤ 5) (f : Int → Bool) {i : Nat} (hi : i < nd.length) : E nd f (i : Int) = if f (nd.getD i default).P = true then E nd f (nd.getD i default).Hi else E nd f (nd.getD i default).Lo := by
  have o := I.ok i hi
  show evf nd f (8 + 1) (i : Int) = _
  unfold evf
  rw [if_neg (by omega), Int.toNat_natCast]
  unfold E
  rw [evf_fuel I f 8 9 (nd.getD i default).P (nd.getD i default).Hi (o.2.2.2.2.mono (by omega) (Int.le_refl _)) (by omega) (by omega) (by omega) (by omega) (by omega),
    evf_fuel I f 8 9 (nd.getD i default).P (nd.getD i default).Lo (o.2.2.2.1.mono (by omega) (Int.le_refl _)) (by omega) (by omega) (by omega) (by omega) (by omega)]
/-- one reference for one function -/
theorem canon (I : SI n nd at_) (hn : n ≤ 5) : ∀ (d : Nat) (k r1 r2 : Int), -1 ≤ k → n - 1 - k ≤ d → Rf nd nd.length k r1 → Rf nd nd.length k r2 → (∀ f, E nd f r1 = E nd f r2) → r1 = r2
  | 0, k, r1, r2, hk, hd, h1, h2, h => by
    have t : ∀ r, Rf nd nd.length k r → r < 0 := fun r hr => by
      rcases hr with ⟨_, b⟩ | ⟨a, b, c⟩
      · exact b
      · have o := I.ok r.toNat (by omega)
        omega
    have := h fun _ => false
    rw [E_neg (t r1 h1), E_neg (t r2 h2)] at this
    omega
  | d + 1, k, r1, r2, hk, hd, h1, h2, h => by
    have up : ∀ r, Rf nd nd.length k r → Rf nd nd.length (k + 1) r ∨ ∃ i : Nat, i < nd.length ∧ r = (i : Int) ∧ (nd.getD i default).P = k + 1 := fun r hr => by
      rcases hr with hr | ⟨a, b, c⟩
      · exact .inl (.inl hr)
      · by_cases e : (nd.getD r.toNat default).P = k + 1
        · exact .inr ⟨r.toNat, by omega, by omega, e⟩
        · exact .inl (.inr ⟨a, b, by omega⟩)
    have set_ : ∀ (f : Int → Bool) (b : Bool) r, Rf nd nd.length (k + 1) r → E nd (fun P => if P = k + 1 then b else f P) r = E nd f r := fun f b r hr => evf_agree I _ _ 9 (k + 1) r hr fun P h1 _ => if_neg (by omega)
    have lo : ∀ i : Nat, i < nd.length → (nd.getD i default).P = k + 1 → Rf nd nd.length (k + 1) (nd.getD i default).Lo ∧ Rf nd nd.length (k + 1) (nd.getD i default).Hi ∧ (∀ f, E nd (fun P => if P = k + 1 then false else f P) (i : Int) = E nd f (nd.getD i default).Lo) ∧ ∀ f, E nd (fun P => if P = k + 1 then true else f P) (i : Int) = E nd f (nd.getD i default).Hi := fun i hi e => by
      have o := I.ok i hi
      have g1 : Rf nd nd.length (k + 1) (nd.getD i default).Lo := o.2.2.2.1.mono (by omega) (by omega)
      have g2 : Rf nd nd.length (k + 1) (nd.getD i default).Hi := o.2.2.2.2.mono (by omega) (by omega)
      refine ⟨g1, g2, fun f => ?_, fun f => ?_⟩
      · rw [E_node I hn _ hi, e, if_pos rfl, if_neg (by simp), set_ f false _ g1]
      · rw [E_node I hn _ hi, e, if_pos rfl, if_pos rfl, set_ f true _ g2]
    rcases up r1 h1 with u1 | ⟨i, hi, rfl, ei⟩ <;> rcases up r2 h2 with u2 | ⟨j, hj, rfl, ej⟩
    · exact canon I hn d (k + 1) r1 r2 (by omega) (by omega) u1 u2 h
    · exfalso
      obtain ⟨g1, g2, g3, g4⟩ := lo j hj ej
      have a := canon I hn d (k + 1) _ _ (by omega) (by omega) g1 u1 fun f => by rw [← g3, ← h, set_ f false _ u1]
      have b := canon I hn d (k + 1) _ _ (by omega) (by omega) g2 u1 fun f => by rw [← g4, ← h, set_ f true _ u1]
      exact (I.ok j hj).2.2.1 (by rw [a, b])
    · exfalso
      obtain ⟨g1, g2, g3, g4⟩ := lo i hi ei
      have a := canon I hn d (k + 1) _ _ (by omega) (by omega) g1 u2 fun f => by rw [← g3, h, set_ f false _ u2]
      have b := canon I hn d (k + 1) _ _ (by omega) (by omega) g2 u2 fun f => by rw [← g4, h, set_ f true _ u2]
      exact (I.ok i hi).2.2.1 (by rw [a, b])
    · obtain ⟨g1, g2, g3, g4⟩ := lo i hi ei
      obtain ⟨m1, m2, m3, m4⟩ := lo j hj ej
      have a := canon I hn d (k + 1) _ _ (by omega) (by omega) g1 m1 fun f => by rw [← g3, ← m3, h]
      have b := canon I hn d (k + 1) _ _ (by omega) (by omega) g2 m2 fun f => by rw [← g4, ← m4, h]
      have : i = j := I.dis i j hi hj (by
        have e1 : nd.getD i default = ⟨(nd.getD i default).P, (nd.getD i default).Lo, (nd.getD i default).Hi⟩ := rfl
        have e2 : nd.getD j default = ⟨(nd.getD j default).P, (nd.getD j default).Lo, (nd.getD j default).Hi⟩ := rfl
        rw [e1, e2, ei, ej, a, b])
      rw [this]
end

/-! ### lists as functions -/
def ixf (f : Int → Bool) (p : Int) : Nat → Nat
  | 0 => 0
  | d + 1 => (if f p = true then 1 else 0) + 2 * ixf f (p + 1) d
theorem ixf_lt (f : Int → Bool) : ∀ (d : Nat) (p : Int), ixf f p d < 2 ^ d
  | 0, _ => by simp [ixf]
  | d + 1, p => by
    have := ixf_lt f d (p + 1)
    unfold ixf
    rw [Nat.pow_succ]
    split <;> omega
theorem ixf_agree (f g : Int → Bool) : ∀ (d : Nat) (p : Int), (∀ P, p ≤ P → f P = g P) → ixf f p d = ixf g p d
  | 0, _, _ => rfl
  | d + 1, p, h => by
    unfold ixf
    rw [h p (Int.le_refl _), ixf_agree f g d (p + 1) fun P hP => h P (by omega)]
theorem ixf_all : ∀ (d : Nat) (p : Int) (j : Nat), j < 2 ^ d → ∃ f, ixf f p d = j
  | 0, _, j, h => ⟨fun _ => false, by simp at h; simp [ixf, h]⟩
  | d + 1, p, j, h => by
    rw [Nat.pow_succ] at h
    obtain ⟨f, hf⟩ := ixf_all d (p + 1) (j / 2) (by omega)
    refine ⟨fun P => if P = p then decide (j % 2 = 1) else f P, ?_⟩
    unfold ixf
    rw [ixf_agree (fun P => if P = p then decide (j % 2 = 1) else f P) f d (p + 1) fun P hP => if_neg (by omega), hf, if_pos rfl]
    simp only [decide_eq_true_eq]
    split <;> omega
theorem ixf_bit : ∀ n : Fin 6, ∀ l : Fin 32, l.val < 2 ^ n.val → ixf (bitf (l.val : Int)) 0 n.val = l.val := by decide +kernel

/-! ### a list is added -/
section
variable {N : Nat}
theorem split_ok {wh : List Int} (hl : wh.length ≤ 1000) : ∀ (m : Nat) (lo hi : List Int) (i : Nat), 2 * i ≤ wh.length → wh.length < 2 * (i + m) → wh.length % 2 = 0 → lo.length = i → hi.length = i → (∀ j, j < i → lo.getD j 0 = wh.getD (2 * j) 0 ∧ hi.getD j 0 = wh.getD (2 * j + 1) 0) →
    Ok (guard_Store_add_l0 N wh m lo hi ((2 * i : Nat) : Int)) fun r => r.1.length = wh.length / 2 ∧ r.2.length = wh.length / 2 ∧ ∀ j, j < wh.length / 2 → r.1.getD j 0 = wh.getD (2 * j) 0 ∧ r.2.getD j 0 = wh.getD (2 * j + 1) 0
  | 0, lo, hi, i, h1, h2, _, _, _, _ => by omega
  | m + 1, lo, hi, i, h1, h2, h3, h4, h5, h6 => by
    unfold guard_Store_add_l0
    refine Ok.ite (fun hx => ?_) fun hx => Ok.pure ⟨by show lo.length = _; omega, by show hi.length = _; omega, fun j hj => h6 j (by omega)⟩
    have e1 : (((2 * i : Nat) : Int) + 1).toNat = 2 * i + 1 := by omega
    rw [Int.toNat_natCast, e1]
    refine Ok.ask (by unfold idx; omega) (Ok.ask (by simp; omega) (Ok.ask (by unfold in64; omega) (Ok.ask (by unfold idx; omega) (Ok.ask (by simp; omega) (Ok.ask (by unfold in64; omega) ?_)))))
    rw [show (((2 * i : Nat) : Int) + 2) = ((2 * (i + 1) : Nat) : Int) by omega]
    refine split_ok hl m _ _ (i + 1) (by omega) (by omega) h3 (by simp; omega) (by simp; omega) fun j hj => ?_
    rw [getD_snoc, getD_snoc]
    by_cases c : j = i
    · rw [if_pos (by omega), if_pos (by omega), c]
      exact ⟨rfl, rfl⟩
    · rw [if_neg (by omega), if_neg (by omega)]
      exact h6 j (by omega)
structure Added (n : Int) (nd : List Nd) (k : Int) (f0 : (Int → Bool) → Int) (most : Nat) (r : Int × List Nd × List (Nd × Int)) : Prop where
  si : SI n r.2.1 r.2.2
  app : ∃ ys, r.2.1 = nd ++ ys
  few : r.2.1.length ≤ nd.length + most
  rf : Rf r.2.1 r.2.1.length k r.1
  ev : ∀ f, E r.2.1 f r.1 = f0 f
theorem SI.snoc {n : Int} {nd : List Nd} {at_ : List (Nd × Int)} (I : SI n nd at_) {x : Nd} (hP : 0 ≤ x.P ∧ x.P < n) (hne : x.Lo ≠ x.Hi) (h1 : Rf nd nd.length x.P x.Lo) (h2 : Rf nd nd.length x.P x.Hi) (hm : mget at_ x = none) : SI n (nd ++ [x]) (at_ ++ [(x, (nd.length : Int))]) := by
  have new : (nd ++ [x]).getD nd.length default = x := by rw [getD_snoc, if_pos rfl]
  have old : ∀ i, i < nd.length → (nd ++ [x]).getD i default = nd.getD i default := fun i hi => getD_app hi
  have nin : ∀ i, i < nd.length → nd.getD i default ≠ x := fun i hi e => by
    have := I.at1 i hi
    rw [e, hm] at this
    cases this
  refine ⟨fun i hi => ?_, fun i j hi hj e => ?_, fun i hi => ?_, fun y v h => ?_⟩
  · have hi' : i < nd.length + 1 := by simpa using hi
    by_cases c : i = nd.length
    · subst c
      rw [new]
      exact ⟨hP.1, hP.2, hne, h1.app (Int.le_refl _), h2.app (Int.le_refl _)⟩
    · rw [old i (by omega)]
      obtain ⟨a, b, d, e, f⟩ := I.ok i (by omega)
      exact ⟨a, b, d, e.app (by omega), f.app (by omega)⟩
  · have hi' : i < nd.length + 1 := by simpa using hi
    have hj' : j < nd.length + 1 := by simpa using hj
    by_cases c : i = nd.length <;> by_cases d : j = nd.length
    · omega
    · rw [c, new, old j (by omega)] at e
      exact absurd e.symm (nin j (by omega))
    · rw [d, new, old i (by omega)] at e
      exact absurd e (nin i (by omega))
    · rw [old i (by omega), old j (by omega)] at e
      exact I.dis i j (by omega) (by omega) e
  · have hi' : i < nd.length + 1 := by simpa using hi
    by_cases c : i = nd.length
    · subst c
      rw [new, mget_app_none hm, if_pos rfl]
    · rw [old i (by omega)]
      exact mget_app_some (I.at1 i (by omega))
  · rw [mget_app] at h
    cases h2 : mget at_ y with
    | some u =>
      rw [h2] at h
      have := Option.some.inj h
      subst this
      obtain ⟨i, hi, e1, e2⟩ := I.at2 y _ h2
      exact ⟨i, by simp; omega, e1, by rw [old i hi]; exact e2⟩
    | none =>
      rw [h2] at h
      by_cases c : x = y
      · simp only [if_pos c] at h
        have := Option.some.inj h
        exact ⟨nd.length, by simp, this.symm, by rw [new]; exact c⟩
      · simp only [if_neg c] at h
        cases h
theorem add_ok (hN : 5000 ≤ N) {n : Int} (hn : 0 ≤ n ∧ n ≤ 5) : ∀ (m d : Nat) (nd : List Nd) (at_ : List (Nd × Int)) (wh : List Int) (p : Int), d < m → p = n - d → 0 ≤ p → SI n nd at_ → nd.length + 2 ^ d ≤ 3000 → wh.length = 2 ^ d → (∀ j, j < wh.length → 0 ≤ wh.getD j 0 ∧ wh.getD j 0 ≤ 11) →
    Ok (guard_Store_add N m n nd at_ wh p) fun r => Added n nd (p - 1) (fun f => wh.getD (ixf f p d) 0) (2 ^ d - 1) r
  | 0, d, nd, at_, wh, p, h, _, _, _, _, _, _ => by omega
  | m + 1, 0, nd, at_, wh, p, hm, hp, hp0, I, hs, hl, hv => by
    have hl1 : wh.length = 1 := by simpa using hl
    have h0 := hv 0 (by omega)
    unfold guard_Store_add
    have e0 : (Int.toNat (0 : Int)) = 0 := rfl
    rw [if_pos (by omega), e0]
    refine Ok.ask (by unfold idx; omega) (Ok.ask (by unfold in64; omega) (Ok.pure ⟨I, ⟨[], by simp⟩, by show nd.length ≤ _; omega, .inl ⟨by show -12 ≤ -1 - wh.getD 0 0; omega, by show -1 - wh.getD 0 0 < 0; omega⟩, fun f => ?_⟩))
    show E nd f (-1 - wh.getD 0 0) = wh.getD 0 0
    rw [E_neg (by omega)]
    omega
  | m + 1, d + 1, nd, at_, wh, p, hm, hp, hp0, I, hs, hl, hv => by
    have hpow : 2 ^ (d + 1) = 2 * 2 ^ d := by rw [Nat.pow_succ, Nat.mul_comm]
    have hd5 : 2 ^ d ≤ 16 := by
      have : d ≤ 4 := by omega
      match d, this with
      | 0, _ => decide
      | 1, _ => decide
      | 2, _ => decide
      | 3, _ => decide
      | 4, _ => decide
    have hd1 : 1 ≤ 2 ^ d := Nat.one_le_two_pow
    have hlen : wh.length = 2 * 2 ^ d := by rw [hl, hpow]
    unfold guard_Store_add
    rw [if_neg (by omega)]
    have hw : IntKind.i64.wrap (Int.tdiv (((List.length wh) : Nat) : Int) 2) = ((2 ^ d : Nat) : Int) := by
      rw [hlen]
      have : Int.tdiv (((2 * 2 ^ d : Nat)) : Int) 2 = ((2 ^ d : Nat) : Int) := by
        rw [Int.tdiv_eq_ediv_of_nonneg (by omega)]; omega
      rw [this]
      exact wrap_i64 (by omega) (by omega)
    rw [hw]
    refine Ok.ask (by omega) ?_
    refine (split_ok (N := N) (wh := wh) (by omega) N [] [] 0 (by omega) (by omega) (by omega) rfl rfl fun j hj => by omega).bind fun x ⟨x1, x2, x3⟩ => ?_
    have hdiv : wh.length / 2 = 2 ^ d := by omega
    rw [hdiv] at x1 x2 x3
    refine Ok.ask (by unfold in64; omega) ?_
    refine (add_ok hN hn m d nd at_ x.1 (p + 1) (by omega) (by omega) (by omega) I (by omega) x1 fun j hj => ?_).bind fun r A => ?_
    · rw [(x3 j (by omega)).1]; exact hv _ (by omega)
    have fewA := A.few
    refine (add_ok hN hn m d r.2.1 r.2.2 x.2 (p + 1) (by omega) (by omega) (by omega) A.si (by omega) x2 fun j hj => ?_).bind fun r2 B => ?_
    · rw [(x3 j (by omega)).2]; exact hv _ (by omega)
    have fewB := B.few
    obtain ⟨ys, hys⟩ := A.app
    obtain ⟨zs, hzs⟩ := B.app
    have rfA : Rf r2.2.1 r2.2.1.length (p + 1 - 1) r.1 := by
      rw [hzs]
      exact (A.rf.app (Int.le_refl _)).mono (by simp; omega) (Int.le_refl _)
    have evA : ∀ f, E r2.2.1 f r.1 = x.1.getD (ixf f (p + 1) d) 0 := fun f => by
      rw [← A.ev f, hzs]
      exact evf_app A.si zs f 9 _ _ A.rf
    have hix : ∀ f, wh.getD (ixf f p (d + 1)) 0 = if f p = true then x.2.getD (ixf f (p + 1) d) 0 else x.1.getD (ixf f (p + 1) d) 0 := fun f => by
      have hlt := ixf_lt f d (p + 1)
      have hu : ixf f p (d + 1) = (if f p = true then 1 else 0) + 2 * ixf f (p + 1) d := rfl
      rw [hu]
      by_cases c : f p = true
      · rw [if_pos c, if_pos c, (x3 _ hlt).2]
        congr 1; omega
      · rw [if_neg c, if_neg c, (x3 _ hlt).1]
        congr 1; omega
    have happ : ∃ ws, r2.2.1 = nd ++ ws := ⟨ys ++ zs, by rw [hzs, hys, List.append_assoc]⟩
    refine Ok.ite (fun he => Ok.pure ⟨B.si, happ, by show r2.2.1.length ≤ _; omega, rfA.mono (Int.le_refl _) (by omega), fun f => ?_⟩) fun he => ?_
    · show E r2.2.1 f r.1 = wh.getD (ixf f p (d + 1)) 0
      rw [hix f]
      split
      · rw [← B.ev f, ← he]
      · exact evA f
    have rfl1 : ∀ ref : Int, Rf r2.2.1 r2.2.1.length (p + 1 - 1) ref → Rf r2.2.1 r2.2.1.length p ref := fun ref h => h.mono (Int.le_refl _) (by omega)
    have in_ : ∀ ref : Int, Rf r2.2.1 r2.2.1.length (p + 1 - 1) ref → -12 ≤ ref ∧ ref ≤ 4000 := fun ref h => by
      rcases h with h | h <;> omega
    have i1 := in_ _ rfA
    have i2 := in_ _ B.rf
    refine Ok.ask ⟨show in64 p by unfold in64; omega, show in64 r.1 by unfold in64; omega, show in64 r2.1 by unfold in64; omega⟩ ?_
    refine Ok.ite (fun hg => ?_) fun hg => ?_
    · obtain ⟨v, hgv⟩ : ∃ v, mget r2.2.2 (⟨p, r.1, r2.1⟩ : Nd) = some v := by
        cases h : mget r2.2.2 (⟨p, r.1, r2.1⟩ : Nd) with
        | some v => exact ⟨v, rfl⟩
        | none => rw [h] at hg; cases hg
      obtain ⟨i, hi, e1, e2⟩ := B.si.at2 _ _ hgv
      rw [hgv]
      refine Ok.pure ⟨B.si, happ, by show r2.2.1.length ≤ _; omega, .inr ⟨by show (0 : Int) ≤ v; omega, by show v < _; show v < ((r2.2.1.length : Nat) : Int); omega, ?_⟩, fun f => ?_⟩
      · show p - 1 < (r2.2.1.getD v.toNat default).P
        rw [e1, Int.toNat_natCast, e2]
        show p - 1 < p
        omega
      · show E r2.2.1 f v = wh.getD (ixf f p (d + 1)) 0
        rw [e1, E_node B.si hn.2 f hi, e2, hix f]
        show (if f p = true then E r2.2.1 f r2.1 else E r2.2.1 f r.1) = _
        rw [B.ev f, evA f]
    · have hgn : mget r2.2.2 (⟨p, r.1, r2.1⟩ : Nd) = none := by
        cases h : mget r2.2.2 (⟨p, r.1, r2.1⟩ : Nd) with
        | none => rfl
        | some v => rw [h] at hg; exact absurd rfl hg
      refine Ok.ask hgn (Ok.ask (by simp; omega) ?_)
      have J := B.si.snoc (x := (⟨p, r.1, r2.1⟩ : Nd)) ⟨hp0, by show p < n; omega⟩ he (rfl1 _ rfA) (rfl1 _ B.rf) hgn
      have new : (r2.2.1 ++ [(⟨p, r.1, r2.1⟩ : Nd)]).getD r2.2.1.length default = (⟨p, r.1, r2.1⟩ : Nd) := by rw [getD_snoc, if_pos rfl]
      refine Ok.pure ⟨J, ?_, ?_, .inr ⟨by show (0 : Int) ≤ ((r2.2.1.length : Nat) : Int); omega, ?_, ?_⟩, fun f => ?_⟩
      · obtain ⟨ws, hws⟩ := happ
        exact ⟨ws ++ [(⟨p, r.1, r2.1⟩ : Nd)], by show r2.2.1 ++ _ = _; rw [hws, List.append_assoc]⟩
      · show (r2.2.1 ++ [(⟨p, r.1, r2.1⟩ : Nd)]).length ≤ _
        rw [List.length_append, List.length_singleton]
        omega
      · show ((r2.2.1.length : Nat) : Int) < (((r2.2.1 ++ [(⟨p, r.1, r2.1⟩ : Nd)]).length : Nat) : Int)
        rw [List.length_append, List.length_singleton]
        omega
      · show p - 1 < ((r2.2.1 ++ [(⟨p, r.1, r2.1⟩ : Nd)]).getD (((r2.2.1.length : Nat) : Int)).toNat default).P
        rw [Int.toNat_natCast, new]
        show p - 1 < p
        omega
      · show E (r2.2.1 ++ [(⟨p, r.1, r2.1⟩ : Nd)]) f ((r2.2.1.length : Nat) : Int) = wh.getD (ixf f p (d + 1)) 0
        rw [E_node J hn.2 f (i := r2.2.1.length) (by simp), new, hix f]
        show (if f p = true then E (r2.2.1 ++ [(⟨p, r.1, r2.1⟩ : Nd)]) f r2.1 else E (r2.2.1 ++ [(⟨p, r.1, r2.1⟩ : Nd)]) f r.1) = _
        rw [← B.ev f, ← evA f]
        have x1 : E (r2.2.1 ++ [(⟨p, r.1, r2.1⟩ : Nd)]) f r2.1 = E r2.2.1 f r2.1 := evf_app B.si _ f 9 _ _ B.rf
        have x2 : E (r2.2.1 ++ [(⟨p, r.1, r2.1⟩ : Nd)]) f r.1 = E r2.2.1 f r.1 := evf_app B.si _ f 9 _ _ rfA
        rw [x1, x2]
end
end Go.V
