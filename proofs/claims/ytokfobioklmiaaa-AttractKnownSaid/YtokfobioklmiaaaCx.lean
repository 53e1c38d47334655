/- How the program's own structs are written. -/
import Derived.Test.YtokfobioklmiaaaVM
import Derived.Test.YtokfobioklmiaaaPL
set_option linter.all false
set_option linter.unusedVariables false
set_option linter.unnecessarySimpa false
set_option linter.unusedSimpArgs false
namespace Go.V
open Go
def cNode : Cod Nd := Cod.plain 3 (fun x => [.int .i64 x.P, .int .i64 x.Lo, .int .i64 x.Hi]) (fun _ => rfl) (fun _ => rfl)
def ndV (x : Nd) : Value := .agg #[.int .i64 x.P, .int .i64 x.Lo, .int .i64 x.Hi]
theorem ndV_inj {x y : Nd} (h : ndV x = ndV y) : x = y := by
  unfold ndV at h
  simp at h
  cases x; cases y; simp_all
theorem wf64 {x : Int} (h : W64 x) : (Lit.int .i64 x).wf = true := by
  unfold W64 at h
  simp [Lit.wf, IntKind.min, IntKind.max, IntKind.signed, IntKind.bits]
  omega
theorem C.now {α : Type} {d : Cod α} {w0 w : World} {A : Option Addr} {xs : List α} (h : C d w0 (Lo w0.heap.size) A xs) (hW : Chg (Hi w0.heap.size) w0 w) : C d w (Lo w.heap.size) A xs :=
  (h.keep hW lo_hi).mono fun _ hb => Nat.lt_of_lt_of_le hb hW.size

theorem check_take {k : Nat} {nodes : List Nd} (h : k < nodes.length) :
    List.map (fun x => (ndV x, Value.bool true)) (List.take (k + 1) nodes) = List.map (fun x => (ndV x, Value.bool true)) (List.take k nodes) ++ [(.agg #[.int .i64 (List.getD nodes (Int.toNat (k : Int)) default).P, .int .i64 (List.getD nodes (Int.toNat (k : Int)) default).Lo, .int .i64 (List.getD nodes (Int.toNat (k : Int)) default).Hi], .bool true)] := by
  rw [List.take_add_one, List.map_append]
  simp [List.getD_eq_getElem?_getD, h, ndV]

theorem check_mem {k : Nat} {nodes : List Nd} {x : Nd} (h : k ≤ nodes.length) : x ∈ List.take k nodes ↔ ∃ j, j < k ∧ nodes.getD j default = x := by
  rw [List.mem_take_iff_getElem]
  constructor
  · rintro ⟨i, hi, e⟩
    exact ⟨i, by omega, by simp [List.getD_eq_getElem?_getD, show i < nodes.length by omega, e]⟩
  · rintro ⟨j, hj, e⟩
    exact ⟨j, by omega, by rw [← e]; simp [List.getD_eq_getElem?_getD, show j < nodes.length by omega]⟩

theorem check_once {p : Int} {n k : Nat} {nodes : List Nd} {x : Nd} (hk : k ≤ nodes.length) (hx : x ∈ List.take k nodes)
    (e : ndV x = .agg #[.int .i64 (List.getD nodes (Int.toNat (k : Int)) default).P, .int .i64 (List.getD nodes (Int.toNat (k : Int)) default).Lo, .int .i64 (List.getD nodes (Int.toNat (k : Int)) default).Hi]) (h : NodeOk p n nodes k) : False := by
  have := ndV_inj (y := nodes.getD k default) e
  obtain ⟨j, hj, e2⟩ := (check_mem hk).1 hx
  exact h.once j hj (e2.trans this)

theorem check_step {p : Int} {n k : Nat} {nodes : List Nd} (hI : ∀ i, i < k → NodeOk p n nodes i) (hk : k < nodes.length) (h1 : ¬ ((List.getD nodes (Int.toNat (k : Int)) default).P < 0)) (h2 : ¬ (p ≤ (List.getD nodes (Int.toNat (k : Int)) default).P))
    (h3 : ¬ ((List.getD nodes (Int.toNat (k : Int)) default).Lo = (List.getD nodes (Int.toNat (k : Int)) default).Hi))
    (h4 : ∀ v, ((.agg #[.int .i64 (List.getD nodes (Int.toNat (k : Int)) default).P, .int .i64 (List.getD nodes (Int.toNat (k : Int)) default).Lo, .int .i64 (List.getD nodes (Int.toNat (k : Int)) default).Hi] : Value), v) ∉ List.map (fun x => (ndV x, Value.bool true)) (List.take k nodes))
    (h5 : goodB n nodes (List.getD nodes (Int.toNat (k : Int)) default).Lo (k : Int) (List.getD nodes (Int.toNat (k : Int)) default).P = true)
    (h6 : goodB n nodes (List.getD nodes (Int.toNat (k : Int)) default).Hi (k : Int) (List.getD nodes (Int.toNat (k : Int)) default).P = true) : ∀ i, i < k + 1 → NodeOk p n nodes i := by
  intro i hi
  rcases Nat.lt_or_ge i k with h | h
  · exact hI i h
  · obtain rfl : i = k := by omega
    simp only [Int.toNat_natCast] at *
    refine ⟨by omega, by omega, h3, ?_, by simpa using h5, by simpa using h6⟩
    intro j hj e
    refine h4 (.bool true) (List.mem_map.2 ⟨nodes.getD i default, (check_mem (by omega)).2 ⟨j, hj, e⟩, rfl⟩)

theorem good_step {n k m : Nat} {nodes : List Nd} {gd : List Int} (hI : ∀ i, i < k → goodB n nodes (gd.getD i 0) m (-1) = true) (h : goodB n nodes (List.getD gd (Int.toNat (k : Int)) 0) (m : Int) (-1) = true) : ∀ i, i < k + 1 → goodB n nodes (gd.getD i 0) m (-1) = true := by
  intro i hi
  rcases Nat.lt_or_ge i k with h' | h'
  · exact hI i h'
  · obtain rfl : i = k := by omega
    simpa using h

theorem same_ext {α : Type} {xs ys : List α} (z : α) (h : xs.length = ys.length) (hi : ∀ i, i < xs.length → xs.getD i z = ys.getD i z) : xs = ys := by
  apply List.ext_getElem h
  intro i h1 h2
  have := hi i h1
  simpa [List.getD_eq_getElem?_getD, h1, h2] using this
theorem same_ne {α : Type} {xs ys : List α} {z : α} {i : Int} (h : ¬ (xs.getD i.toNat z = ys.getD i.toNat z)) : xs ≠ ys := fun e => h (by rw [e])
theorem same_step {α : Type} [DecidableEq α] {xs ys : List α} {z : α} {k : Nat} (hI : ∀ i, i < k → xs.getD i z = ys.getD i z) (h : List.getD xs (Int.toNat (k : Int)) z = List.getD ys (Int.toNat (k : Int)) z) : ∀ i, i < k + 1 → xs.getD i z = ys.getD i z := by
  intro i hi
  rcases Nat.lt_or_ge i k with h' | h'
  · exact hI i h'
  · obtain rfl : i = k := by omega
    exact h

/-- a list that is lent: with marks behind it -/
def lentL (l : List Int) : List Int := l ++ [7700 + (l.length : Int), 7700 + (l.length : Int) + 1, 7700 + (l.length : Int) + 2]
def lentP (l : List Int) (k : Nat) : List Int := l ++ [if l.length < k then 7700 + (l.length : Int) else 0, if l.length + 1 < k then 7700 + (l.length : Int) + 1 else 0, if l.length + 2 < k then 7700 + (l.length : Int) + 2 else 0]
theorem lentL_len (l : List Int) : (lentL l).length = l.length + 3 := by simp [lentL]
theorem lentP_start (l : List Int) : l ++ List.drop (List.length l) (List.replicate (l.length + 3) 0) = lentP l l.length := by
  simp [lentP, List.drop_replicate]
  constructor <;> intro h <;> omega
theorem lentP_step (l : List Int) {k : Nat} (h0 : l.length ≤ k) (h1 : k < l.length + 3) : List.set (lentP l k) (Int.toNat (k : Int)) (7700 + (k : Int)) = lentP l (k + 1) := by
  obtain ⟨j, rfl⟩ : ∃ j, k = l.length + j := ⟨k - l.length, by omega⟩
  have : j = 0 ∨ j = 1 ∨ j = 2 := by omega
  have e : ∀ j : Nat, Int.toNat ((l.length + j : Nat) : Int) - l.length = j := fun j => by omega
  unfold lentP
  rw [List.set_append_right _ _ (by omega), e]
  rcases this with rfl | rfl | rfl
  · rw [if_neg (by omega), if_neg (by omega), if_neg (by omega), if_pos (by omega), if_neg (by omega), if_neg (by omega)]; simp
  · rw [if_pos (by omega), if_neg (by omega), if_neg (by omega), if_pos (by omega), if_pos (by omega), if_neg (by omega)]; simp; omega
  · rw [if_pos (by omega), if_pos (by omega), if_neg (by omega), if_pos (by omega), if_pos (by omega), if_pos (by omega)]; simp; omega
theorem lentP_end (l : List Int) : lentP l (l.length + 3) = lentL l := by simp [lentP, lentL]
theorem lo_lo {B B' : Nat} (h : B ≤ B') : ∀ b, Lo B b → Lo B' b := fun _ hb => Nat.lt_of_lt_of_le hb h

/-- lists with blanks behind them -/
def bB (xs : List Bool) : List Bool := xs ++ [false, false, false]
def bN (xs : List Nd) : List Nd := xs ++ [⟨0, 0, 0⟩, ⟨0, 0, 0⟩, ⟨0, 0, 0⟩]
theorem bB_len (xs : List Bool) : (bB xs).length = xs.length + 3 := by simp [bB]
theorem bN_len (xs : List Nd) : (bN xs).length = xs.length + 3 := by simp [bN]
theorem getD_app3 {xs : List Bool} {k : Nat} (h : xs.length ≤ k) : List.getD (bB xs) (Int.toNat (k : Int)) false = false := by
  simp only [bB, bN, Int.toNat_natCast, List.getD_eq_getElem?_getD]
  rw [List.getElem?_append_right h]
  obtain ⟨j, hj⟩ : ∃ j, j = k - xs.length := ⟨_, rfl⟩
  rw [← hj]
  match j with
  | 0 => rfl
  | 1 => rfl
  | 2 => rfl
  | _ + 3 => rfl
theorem getD_app3n {xs : List Nd} {k : Nat} (h : xs.length ≤ k) (h2 : k < xs.length + 3) : List.getD (bN xs) (Int.toNat (k : Int)) default = (⟨0, 0, 0⟩ : Nd) := by
  simp only [bB, bN, Int.toNat_natCast, List.getD_eq_getElem?_getD]
  rw [List.getElem?_append_right h]
  obtain ⟨j, hj⟩ : ∃ j, j = k - xs.length := ⟨_, rfl⟩
  rw [← hj]
  match j with
  | 0 => rfl
  | 1 => rfl
  | 2 => rfl
  | _ + 3 => rfl
theorem shr_u8 {l p : Int} (h : 0 ≤ l ∧ l ≤ 255) (h0 : 0 ≤ p) (h7 : p ≤ 7) : 0 ≤ p ∧ Int.fdiv l (2 ^ (min (Int.toNat p) (IntKind.bits .u8))) = l / 2 ^ Int.toNat p := by
  refine ⟨h0, ?_⟩
  rw [show min (Int.toNat p) (IntKind.bits .u8) = Int.toNat p by simp only [IntKind.bits]; omega, Int.fdiv_eq_ediv_of_nonneg _ (Int.pow_nonneg (by omega))]
theorem and1_u8 {x : Int} (h : 0 ≤ x ∧ x ≤ 255) : IntKind.u8.wrap (BitVec.ofInt (IntKind.bits .u8) x &&& BitVec.ofInt (IntKind.bits .u8) 1).toNat = x % 2 := by
  obtain ⟨n, rfl⟩ : ∃ n : Nat, x = n := ⟨x.toNat, by omega⟩
  have h1 : (BitVec.ofInt (IntKind.bits .u8) (n : Int) &&& BitVec.ofInt (IntKind.bits .u8) 1).toNat = n % 2 := by
    rw [BitVec.toNat_and]
    simp only [IntKind.bits]
    rw [show (BitVec.ofInt 8 (n : Int)).toNat = n by simp; omega, show (BitVec.ofInt 8 1).toNat = 1 from rfl, Nat.and_one_is_mod]
  rw [h1, wrap_u8 (by omega) (by omega)]
  omega
theorem pw_shl {n : Int} (h0 : 0 ≤ n) (h8 : n ≤ 8) : 0 ≤ n ∧ IntKind.i64.wrap (1 * 2 ^ (min (Int.toNat n) (IntKind.bits .i64))) = ((pw n : Nat) : Int) := by
  refine ⟨h0, ?_⟩
  have := pw_le h8
  rw [show min (Int.toNat n) (IntKind.bits .i64) = Int.toNat n by simp only [IntKind.bits]; omega, Int.one_mul, show (2 : Int) ^ Int.toNat n = ((pw n : Nat) : Int) by unfold pw; simp, wrap_i64 (by omega) (by omega)]
theorem check_step2 {p : Int} {n k : Nat} {nodes : List Nd} (hI : ∀ i, i < k → NodeOk p n nodes i) (hk : k < nodes.length) (h1 : ¬ ((List.getD nodes (Int.toNat (k : Int)) default).P < 0)) (h2 : ¬ (p ≤ (List.getD nodes (Int.toNat (k : Int)) default).P))
    (h3 : ¬ ((List.getD nodes (Int.toNat (k : Int)) default).Lo = (List.getD nodes (Int.toNat (k : Int)) default).Hi))
    (h4 : ∀ j, j < k → nodes.getD j default ≠ nodes.getD k default)
    (h5 : goodB n nodes (List.getD nodes (Int.toNat (k : Int)) default).Lo (k : Int) (List.getD nodes (Int.toNat (k : Int)) default).P = true)
    (h6 : goodB n nodes (List.getD nodes (Int.toNat (k : Int)) default).Hi (k : Int) (List.getD nodes (Int.toNat (k : Int)) default).P = true) : ∀ i, i < k + 1 → NodeOk p n nodes i := by
  intro i hi
  rcases Nat.lt_or_ge i k with h | h
  · exact hI i h
  · obtain rfl : i = k := by omega
    simp only [Int.toNat_natCast] at *
    exact ⟨by omega, by omega, h3, h4, by simpa using h5, by simpa using h6⟩
theorem once_step {j k : Nat} {nodes : List Nd} (hJ : ∀ i, i < j → nodes.getD i default ≠ nodes.getD k default) (h : ¬ (List.getD nodes (Int.toNat (j : Int)) default = ⟨(List.getD nodes (Int.toNat (k : Int)) default).P, (List.getD nodes (Int.toNat (k : Int)) default).Lo, (List.getD nodes (Int.toNat (k : Int)) default).Hi⟩)) : ∀ i, i < j + 1 → nodes.getD i default ≠ nodes.getD k default := by
  intro i hi
  rcases Nat.lt_or_ge i j with h' | h'
  · exact hJ i h'
  · obtain rfl : i = j := by omega
    exact h
section
variable {w : World} {F : Nat → Prop} {A : Option Addr}
theorem bB_view {xs : List Bool} (h : C cBool w F A (bB xs)) : C cBool w F A xs := by have h_ := h.take xs.length; simpa [bB] using h_
theorem bN_view {xs : List Nd} (h : C cNode w F A (bN xs)) : C cNode w F A xs := by have h_ := h.take xs.length; simpa [bN] using h_
theorem lentL_view {xs : List Int} (h : C (cInt .i64) w F A (lentL xs)) : C (cInt .i64) w F A xs := by have h_ := h.take xs.length; simpa [lentL] using h_
end
theorem tableV_len (n : Int) (nodes : List Nd) (ref : Int) : (tableV n nodes ref).1.length ≤ 256 := by
  unfold tableV
  split
  · simp
  · split
    · rw [tabL_len]; exact (pw_le (by omega)).2
    · simp
theorem shr_i64 {l n : Int} (h : numB n = true) (h0 : 0 ≤ l) : 0 ≤ n ∧ Int.fdiv l (2 ^ (min (Int.toNat n) (IntKind.bits .i64))) = l / 2 ^ Int.toNat n := by
  have := numB_iff.1 h
  refine ⟨this.1, ?_⟩
  rw [show min (Int.toNat n) (IntKind.bits .i64) = Int.toNat n by simp only [IntKind.bits]; omega, Int.fdiv_eq_ediv_of_nonneg _ (Int.pow_nonneg (by omega))]
theorem xor_u8 {a b : Int} (ha : 0 ≤ a ∧ a ≤ 255) (hb : 0 ≤ b ∧ b ≤ 255) : IntKind.u8.wrap (BitVec.ofInt (IntKind.bits .u8) a ^^^ BitVec.ofInt (IntKind.bits .u8) b).toNat = ((Nat.xor a.toNat b.toNat : Nat) : Int) := by
  obtain ⟨n, rfl⟩ : ∃ n : Nat, a = n := ⟨a.toNat, by omega⟩
  obtain ⟨m, rfl⟩ : ∃ m : Nat, b = m := ⟨b.toNat, by omega⟩
  have hlt : Nat.xor n m < 2 ^ 8 := Nat.xor_lt_two_pow (show n < 2 ^ 8 by omega) (show m < 2 ^ 8 by omega)
  have h1 : (BitVec.ofInt (IntKind.bits .u8) (n : Int) ^^^ BitVec.ofInt (IntKind.bits .u8) (m : Int)).toNat = Nat.xor n m := by
    rw [BitVec.toNat_xor]
    simp only [IntKind.bits]
    rw [show (BitVec.ofInt 8 (n : Int)).toNat = n by simp; omega, show (BitVec.ofInt 8 (m : Int)).toNat = m by simp; omega]
    rfl
  rw [h1, wrap_u8 (by omega) (by omega)]
  simp
theorem xor_lt {a b : Int} (ha : 0 ≤ a ∧ a ≤ 255) (hb : 0 ≤ b ∧ b ≤ 255) : 0 ≤ ((Nat.xor a.toNat b.toNat : Nat) : Int) ∧ ((Nat.xor a.toNat b.toNat : Nat) : Int) ≤ 255 := by
  have hlt : Nat.xor a.toNat b.toNat < 2 ^ 8 := Nat.xor_lt_two_pow (show a.toNat < 2 ^ 8 by omega) (show b.toNat < 2 ^ 8 by omega)
  omega
theorem far_add {xs ys : List Int} {k : Nat} (hk : k ≤ 100000) : IntKind.i64.wrap (((farN xs ys k : Nat) : Int) + ((apartN (List.getD xs (Int.toNat (k : Int)) 0) (List.getD ys (Int.toNat (k : Int)) 0) 8 : Nat) : Int)) = ((farN xs ys (k + 1) : Nat) : Int) := by
  have h1 := farN_le xs ys k
  have h2 := apartN_le (List.getD xs (Int.toNat (k : Int)) 0) (List.getD ys (Int.toNat (k : Int)) 0) 8
  rw [wrap_i64 (by omega) (by omega), farN]
  simp only [Int.toNat_natCast]
  omega

/-- a list that is lent: with marks m behind it -/
def lentM (m : Nat → Int) (l : List Int) : List Int := l ++ [m l.length, m (l.length + 1), m (l.length + 2)]
def lentMP (m : Nat → Int) (l : List Int) (k : Nat) : List Int := l ++ [if l.length < k then m l.length else 0, if l.length + 1 < k then m (l.length + 1) else 0, if l.length + 2 < k then m (l.length + 2) else 0]
theorem lentM_len (m : Nat → Int) (l : List Int) : (lentM m l).length = l.length + 3 := by simp [lentM]
theorem lentMP_start (m : Nat → Int) (l : List Int) : l ++ List.drop (List.length l) (List.replicate (l.length + 3) 0) = lentMP m l l.length := by
  simp [lentMP, List.drop_replicate]
  constructor <;> intro h <;> omega
theorem lentMP_step (m : Nat → Int) (l : List Int) {k : Nat} (h0 : l.length ≤ k) (h1 : k < l.length + 3) : List.set (lentMP m l k) (Int.toNat (k : Int)) (m k) = lentMP m l (k + 1) := by
  obtain ⟨j, rfl⟩ : ∃ j, k = l.length + j := ⟨k - l.length, by omega⟩
  have : j = 0 ∨ j = 1 ∨ j = 2 := by omega
  have e : ∀ j : Nat, Int.toNat ((l.length + j : Nat) : Int) - l.length = j := fun j => by omega
  unfold lentMP
  rw [List.set_append_right _ _ (by omega), e]
  rcases this with rfl | rfl | rfl
  · rw [if_neg (by omega), if_neg (by omega), if_neg (by omega), if_pos (by omega), if_neg (by omega), if_neg (by omega)]; simp
  · rw [if_pos (by omega), if_neg (by omega), if_neg (by omega), if_pos (by omega), if_pos (by omega), if_neg (by omega)]; simp
  · rw [if_pos (by omega), if_pos (by omega), if_neg (by omega), if_pos (by omega), if_pos (by omega), if_pos (by omega)]; simp
theorem lentMP_end (m : Nat → Int) (l : List Int) : lentMP m l (l.length + 3) = lentM m l := by simp [lentMP, lentM]
theorem lentM_view {k : IntKind} {w : World} {F : Nat → Prop} {A : Option Addr} {m : Nat → Int} {xs : List Int} (h : C (cInt k) w F A (lentM m xs)) : C (cInt k) w F A xs := by have h_ := h.take xs.length; simpa [lentM] using h_
/-- a letter's mark -/
def mU (k : Nat) : Int := 200 + ((k % 50 : Nat) : Int)
theorem and_u8 {a b : Int} (ha : 0 ≤ a ∧ a ≤ 255) (hb : 0 ≤ b ∧ b ≤ 255) : IntKind.u8.wrap (BitVec.ofInt (IntKind.bits .u8) a &&& BitVec.ofInt (IntKind.bits .u8) b).toNat = ((Nat.land (Int.toNat a) (Int.toNat b) : Nat) : Int) := by
  obtain ⟨n, rfl⟩ : ∃ n : Nat, a = n := ⟨a.toNat, by omega⟩
  obtain ⟨m, rfl⟩ : ∃ m : Nat, b = m := ⟨b.toNat, by omega⟩
  have hle : Nat.land n m ≤ n := Nat.and_le_left
  have h1 : (BitVec.ofInt (IntKind.bits .u8) (n : Int) &&& BitVec.ofInt (IntKind.bits .u8) (m : Int)).toNat = Nat.land n m := by
    rw [BitVec.toNat_and]
    simp only [IntKind.bits]
    rw [show (BitVec.ofInt 8 (n : Int)).toNat = n by simp; omega, show (BitVec.ofInt 8 (m : Int)).toNat = m by simp; omega]
    rfl
  rw [h1, wrap_u8 (by omega) (by omega)]
  simp
theorem or_u8 {a b : Int} (ha : 0 ≤ a ∧ a ≤ 255) (hb : 0 ≤ b ∧ b ≤ 255) : IntKind.u8.wrap (BitVec.ofInt (IntKind.bits .u8) a ||| BitVec.ofInt (IntKind.bits .u8) b).toNat = ((Nat.lor (Int.toNat a) (Int.toNat b) : Nat) : Int) := by
  obtain ⟨n, rfl⟩ : ∃ n : Nat, a = n := ⟨a.toNat, by omega⟩
  obtain ⟨m, rfl⟩ : ∃ m : Nat, b = m := ⟨b.toNat, by omega⟩
  have hlt : Nat.lor n m < 2 ^ 8 := Nat.or_lt_two_pow (show n < 2 ^ 8 by omega) (show m < 2 ^ 8 by omega)
  have h1 : (BitVec.ofInt (IntKind.bits .u8) (n : Int) ||| BitVec.ofInt (IntKind.bits .u8) (m : Int)).toNat = Nat.lor n m := by
    rw [BitVec.toNat_or]
    simp only [IntKind.bits]
    rw [show (BitVec.ofInt 8 (n : Int)).toNat = n by simp; omega, show (BitVec.ofInt 8 (m : Int)).toNat = m by simp; omega]
    rfl
  rw [h1, wrap_u8 (by omega) (by omega)]
  simp
theorem or_lt {a b : Int} (ha : 0 ≤ a ∧ a ≤ 255) (hb : 0 ≤ b ∧ b ≤ 255) : 0 ≤ ((Nat.lor (Int.toNat a) (Int.toNat b) : Nat) : Int) ∧ ((Nat.lor (Int.toNat a) (Int.toNat b) : Nat) : Int) ≤ 255 := by
  have hlt : Nat.lor a.toNat b.toNat < 2 ^ 8 := Nat.or_lt_two_pow (show a.toNat < 2 ^ 8 by omega) (show b.toNat < 2 ^ 8 by omega)
  omega
theorem getD_len {xs : List (List Int)} {n : Nat} (h : ∀ l ∈ xs, l.length ≤ n) (i : Nat) : (xs.getD i []).length ≤ n := by
  rw [List.getD_eq_getElem?_getD]
  cases hi : xs[i]? with
  | none => exact Nat.zero_le _
  | some x => exact h x (List.mem_of_getElem? hi)
theorem andNot_u8 {a b : Int} (ha : 0 ≤ a ∧ a ≤ 255) (hb : 0 ≤ b ∧ b ≤ 255) : IntKind.u8.wrap (BitVec.ofInt (IntKind.bits .u8) a &&& ~~~ BitVec.ofInt (IntKind.bits .u8) b).toNat = ((Nat.land (Int.toNat a) (255 - Int.toNat b) : Nat) : Int) := by
  obtain ⟨n, rfl⟩ : ∃ n : Nat, a = n := ⟨a.toNat, by omega⟩
  obtain ⟨m, rfl⟩ : ∃ m : Nat, b = m := ⟨b.toNat, by omega⟩
  have hle : Nat.land n (255 - m) ≤ n := Nat.and_le_left
  have h1 : (BitVec.ofInt (IntKind.bits .u8) (n : Int) &&& ~~~ BitVec.ofInt (IntKind.bits .u8) (m : Int)).toNat = Nat.land n (255 - m) := by
    rw [BitVec.toNat_and, BitVec.toNat_not]
    simp only [IntKind.bits]
    rw [show (BitVec.ofInt 8 (n : Int)).toNat = n by simp; omega, show (BitVec.ofInt 8 (m : Int)).toNat = m by simp; omega]
    rfl
  rw [h1, wrap_u8 (by omega) (by omega)]
  simp
theorem pop_add {mask : Int} (h : 0 ≤ mask ∧ mask ≤ 255) {k : Nat} (hk : k < 8) : IntKind.i64.wrap (((popK mask.toNat k : Nat) : Int) + ((mask / 2 ^ Int.toNat (k : Int)) % 2)) = ((popK mask.toNat (k + 1) : Nat) : Int) := by
  have h1 := popK_le mask.toNat k
  obtain ⟨x, rfl⟩ : ∃ x : Nat, mask = x := ⟨mask.toNat, by omega⟩
  rw [Int.toNat_natCast, Int.toNat_natCast] at *
  have h2 : ((x : Int) / 2 ^ k) % 2 = ((x / 2 ^ k % 2 : Nat) : Int) := by norm_cast
  rw [h2, wrap_i64 (by omega) (by omega), pop_bit]
  omega
theorem pop_shl {m k : Nat} (hk : k = 8) : 0 ≤ ((popK m k : Nat) : Int) ∧ IntKind.i64.wrap (1 * 2 ^ (min (Int.toNat ((popK m k : Nat) : Int)) (IntKind.bits .i64))) = ((2 ^ popK m 8 : Nat) : Int) := by
  subst hk
  have h1 := popK_le m 8
  have h2 : (2 : Nat) ^ popK m 8 ≤ 2 ^ 8 := Nat.pow_le_pow_right (by omega) h1
  refine ⟨by omega, ?_⟩
  rw [show min (Int.toNat ((popK m 8 : Nat) : Int)) (IntKind.bits .i64) = popK m 8 by simp only [IntKind.bits]; omega, Int.one_mul]
  have e : ((2 : Int) ^ popK m 8) = ((2 ^ popK m 8 : Nat) : Int) := by norm_cast
  rw [e]
  generalize (2 ^ popK m 8 : Nat) = q at h2 ⊢
  exact wrap_i64 (by omega) (by omega)
theorem pick_add {x n : Int} (h1 : 1 ≤ n) (h2 : n ≤ 4611686018427387904) (h3 : Int.tmod x n < 0) : IntKind.i64.wrap (Int.tmod x n + n) = Int.tmod x n + n := by
  have := Int.tmod_lt_of_pos (-x) (show 0 < n by omega)
  rw [Int.neg_tmod] at this
  exact wrap_i64 (by omega) (by omega)
theorem p9 {p : Int} (h0 : 0 ≤ p) (h8 : p ≤ 8) : p = 0 ∨ p = 1 ∨ p = 2 ∨ p = 3 ∨ p = 4 ∨ p = 5 ∨ p = 6 ∨ p = 7 ∨ p = 8 := by omega
theorem shl_u8 {p : Int} (h0 : 0 ≤ p) (h8 : p ≤ 8) : 0 ≤ p ∧ IntKind.u8.wrap (1 * 2 ^ (min (Int.toNat p) (IntKind.bits .u8))) = ((pw p % 256 : Nat) : Int) := by
  rcases p9 h0 h8 with rfl | rfl | rfl | rfl | rfl | rfl | rfl | rfl | rfl <;> decide
theorem all_u8 {p : Int} (h0 : 0 ≤ p) (h8 : p ≤ 8) : IntKind.u8.wrap (((pw p % 256 : Nat) : Int) - 1) = ((pw p - 1 : Nat) : Int) := by
  rcases p9 h0 h8 with rfl | rfl | rfl | rfl | rfl | rfl | rfl | rfl | rfl <;> decide
theorem all_lt {p : Int} (h0 : 0 ≤ p) (h8 : p ≤ 8) : 0 ≤ ((pw p - 1 : Nat) : Int) ∧ ((pw p - 1 : Nat) : Int) ≤ 255 := by
  have := pw_le h8
  omega
theorem mul_len {a b : Nat} (ha : a ≤ 256) (hb : b ≤ 256) : IntKind.i64.wrap ((a : Int) * (b : Int)) = ((a * b : Nat) : Int) := by
  have : a * b ≤ 256 * 256 := Nat.mul_le_mul ha hb
  rw [← Int.natCast_mul]
  exact wrap_i64 (by omega) (by omega)
end Go.V
