/- Small words of the printed walks. -/
import Derived.Test.YthlbijcgnekcbaaVI
import Derived.Scope
import Derived.Test.YthlbijcgnekcbaaTb
import Derived.Test.YthlbijcgnekcbaaAN
set_option linter.all false
set_option linter.unusedVariables false
set_option linter.unnecessarySimpa false
set_option linter.unusedSimpArgs false
namespace Go.V
open Go Go.RowKit

/-! ### what a plain function asks -/
/-- asked for on the way -/
def ask (p : Prop) [Decidable p] {α : Type} (k : Option α) : Option α := if p then k else none
theorem ask_inv {p : Prop} [Decidable p] {α : Type} {k : Option α} {z : α} (h : ask p k = some z) : p ∧ k = some z := by
  unfold ask at h
  split at h
  · rename_i hp; exact ⟨hp, h⟩
  · cases h
theorem ite_t {p : Prop} [Decidable p] {α : Type} {x y : Option α} {z : α} (h : p) (H : (if p then x else y) = some z) : x = some z := by rwa [if_pos h] at H
theorem ite_f {p : Prop} [Decidable p] {α : Type} {x y : Option α} {z : α} (h : ¬ p) (H : (if p then x else y) = some z) : y = some z := by rwa [if_neg h] at H
theorem bind_inv {α β : Type} {o : Option α} {f : α → Option β} {z : β} (h : Option.bind o f = some z) : ∃ x, o = some x ∧ f x = some z := by
  cases o with
  | none => cases h
  | some x => exact ⟨x, rfl, h⟩
def in64 (x : Int) : Prop := -9223372036854775808 ≤ x ∧ x ≤ 9223372036854775807
instance (x : Int) : Decidable (in64 x) := inferInstanceAs (Decidable (_ ∧ _))
theorem wrap_in {x : Int} (h : in64 x) : IntKind.i64.wrap x = x := wrap_i64 h.1 h.2
def idx (i : Int) (n : Nat) : Prop := 0 ≤ i ∧ i < (n : Int)
instance (i : Int) (n : Nat) : Decidable (idx i n) := inferInstanceAs (Decidable (_ ∧ _))
theorem idx_pos {i : Int} {n : Nat} (h : idx i n) : 0 < n := by unfold idx at h; omega
def shlV (k : IntKind) (a b : Int) : Int := k.wrap (a * 2 ^ (min b.toNat k.bits))
/-- plain operations, in one step -/
theorem vr {P : Program} {T : List TRow} {w : World} {a : Act} {n : Nat} {l : List (Nat × Value)} {ops : Array Oper} {Q : Exit → Act → World → Prop} (hT : TbOk P T) (k : Nat) (hs : List Value) {L : List Oper} (lp : List (Nat × Value)) (φ : List Prop) (E : Fr a n l) (h : runS T w ops n k hs (lp.map Prod.fst) L l = some (lp, φ)) (hφ : AllP φ)
    (hk : ∀ a', Fr a' n lp → wpList P ops Q (L.drop k) a' w) : wpList P ops Q L a w := vrun hT k hs (lp.map Prod.fst) E h hφ hk
/-! ### control -/
section
variable {P : Program} {a : Act} {w : World} {Q : Exit → Act → World → Prop} {c : Code}
/-- a loop, and what holds where it is left -/
theorem loop_cut (M : Nat → Act → World → Prop) (h : (Code.loop c).wp P (fun e a w => (∃ i, e = .exit i ∧ M i a w) ∨ (e = .ret ∧ Q .ret a w)) a w) (k : ∀ i a w, M i a w → Q (.exit i) a w) : (Code.loop c).wp P Q a w :=
  wp_mono h fun e a w q => by
    rcases q with ⟨i, rfl, q⟩ | ⟨rfl, q⟩
    · exact k i a w q
    · exact q
/-- ways that meet -/
theorem meet_cut (M : Act → World → Prop) (h : c.wp P (fun e a w => (e = .normal ∧ M a w) ∨ (e ≠ .normal ∧ Q e a w)) a w) (k : ∀ a w, M a w → Q .normal a w) : c.wp P Q a w :=
  wp_mono h fun e a w q => by
    rcases q with ⟨rfl, q⟩ | ⟨_, q⟩
    · exact k a w q
    · exact q
end
section
variable {P : Program} {T : List TRow} {w : World} {a : Act} {n : Nat} {l l' : List (Nat × Value)} {ops : Array Oper} {Q : Exit → Act → World → Prop} {o : Oper} {rest : List Oper}
theorem e_makeFunc {f : FuncId} {cap : Array Operand} {vs : List Value} (E : Fr a n l) (ho : o.op = .makeFunc (.func f) #[] cap) (hw : want ops l o = some true) (hv : opvs l cap.toList = some vs)
    (hl : putE n l o.dst (.func (.func f) #[] vs.toArray) = some l') (k : ∀ a', Fr a' n l' → wpList P ops Q rest a' w) : wpList P ops Q (o :: rest) a w := by
  refine step_val E hw ?_ hl k
  have hm : cap.map a.eval = vs.toArray := by
    apply Array.ext'
    simpa using opvs_eval E hv
  simp [execOp, ho, Instr.makeFunc, hm, Result.andThen]
end
theorem elim_l {α β τ : Type} {f : α → Option τ} {g : β → Option τ} {v : α} {z : τ} (h : Sum.elim f g (.inl v) = some z) : f v = some z := h
theorem elim_r {α β τ : Type} {f : α → Option τ} {g : β → Option τ} {v : β} {z : τ} (h : Sum.elim f g (.inr v) = some z) : g v = some z := h

/-! ### structs that lead to more -/
theorem not_f' {b : Bool} (h : b = false) : (!b) = true := by rw [h]; rfl
theorem not_t' {b : Bool} (h : b = true) : (!b) = false := by rw [h]; rfl
theorem cut_all (n : Nat) : 0 ≤ ((n : Nat) : Int) ∧ ((n : Nat) : Int) ≤ ((n : Nat) : Int) := by omega
theorem cut_le {h : Int} {n c : Nat} (g : 0 ≤ h ∧ h ≤ (n : Int)) (hc : n ≤ c) : 0 ≤ h ∧ h ≤ (c : Int) := by omega
theorem take_len {α : Type} {xs : List α} {h : Int} (g : 0 ≤ h ∧ h ≤ (xs.length : Int)) : h.toNat = (xs.take h.toNat).length := by simp; omega
end Go.V
