/- Small words of the printed walks. -/
import Derived.Test.YtljkomkejdngcaaVI
import Derived.Scope
import Derived.Test.YtljkomkejdngcaaTb
import Derived.Test.YtljkomkejdngcaaAN
set_option linter.all false
set_option linter.unusedVariables false
set_option linter.unnecessarySimpa false
set_option linter.unusedSimpArgs false
namespace Go.V
open Go Go.RowKit

/-! ### what a plain function asks -/
/-- asked for on the way -/
def ask (p : Prop) [Decidable p] {α : Type} (k : Option α) : Option α := if p then k else none
theorem ask_inv {p : Prop} [Decidable p] {α : Type} {k : Option α} {z : α} (h : ask p k = some z) : p ∧ k = some z := by
  unfold ask at h
  split at h
  · rename_i hp; exact ⟨hp, h⟩
  · cases h
theorem ite_t {p : Prop} [Decidable p] {α : Type} {x y : Option α} {z : α} (h : p) (H : (if p then x else y) = some z) : x = some z := by rwa [if_pos h] at H
theorem ite_f {p : Prop} [Decidable p] {α : Type} {x y : Option α} {z : α} (h : ¬ p) (H : (if p then x else y) = some z) : y = some z := by rwa [if_neg h] at H
theorem bind_inv {α β : Type} {o : Option α} {f : α → Option β} {z : β} (h : Option.bind o f = some z) : ∃ x, o = some x ∧ f x = some z := by
  cases o with
  | none => cases h
  | some x => exact ⟨x, rfl, h⟩
def in64 (x : Int) : Prop := -9223372036854775808 ≤ x ∧ x ≤ 9223372036854775807
instance (x : Int) : Decidable (in64 x) := inferInstanceAs (Decidable (_ ∧ _))
theorem wrap_in {x : Int} (h : in64 x) : IntKind.i64.wrap x = x := wrap_i64 h.1 h.2
theorem neg_in {x : Int} (h : in64 (-x)) : IntKind.i64.wrap (0 - x) = -x := by rw [Int.zero_sub]; exact wrap_in h
def idx (i : Int) (n : Nat) : Prop := 0 ≤ i ∧ i < (n : Int)
instance (i : Int) (n : Nat) : Decidable (idx i n) := inferInstanceAs (Decidable (_ ∧ _))
theorem idx_pos {i : Int} {n : Nat} (h : idx i n) : 0 < n := by unfold idx at h; omega
def shlV (k : IntKind) (a b : Int) : Int := k.wrap (a * 2 ^ (min b.toNat k.bits))
def shrV (k : IntKind) (a b : Int) : Int := a.fdiv (2 ^ (min b.toNat k.bits))
def andV (k : IntKind) (a b : Int) : Int := k.wrap (BitVec.ofInt k.bits a &&& BitVec.ofInt k.bits b).toNat
def xorV (k : IntKind) (a b : Int) : Int := k.wrap (BitVec.ofInt k.bits a ^^^ BitVec.ofInt k.bits b).toNat
/-! ### control -/
section
variable {P : Program} {a : Act} {w : World} {Q : Exit → Act → World → Prop} {c : Code}
/-- a loop, and what holds where it is left -/
theorem loop_cut (M : Nat → Act → World → Prop) (h : (Code.loop c).wp P (fun e a w => (∃ i, e = .exit i ∧ M i a w) ∨ (e = .ret ∧ Q .ret a w)) a w) (k : ∀ i a w, M i a w → Q (.exit i) a w) : (Code.loop c).wp P Q a w :=
  wp_mono h fun e a w q => by
    rcases q with ⟨i, rfl, q⟩ | ⟨rfl, q⟩
    · exact k i a w q
    · exact q
/-- ways that meet -/
theorem meet_cut (M : Act → World → Prop) (h : c.wp P (fun e a w => (e = .normal ∧ M a w) ∨ (e ≠ .normal ∧ Q e a w)) a w) (k : ∀ a w, M a w → Q .normal a w) : c.wp P Q a w :=
  wp_mono h fun e a w q => by
    rcases q with ⟨rfl, q⟩ | ⟨_, q⟩
    · exact k a w q
    · exact q
end
section
variable {P : Program} {T : List TRow} {w : World} {a : Act} {n : Nat} {l l' : List (Nat × Value)} {ops : Array Oper} {Q : Exit → Act → World → Prop} {o : Oper} {rest : List Oper}
end
theorem elim_l {α β τ : Type} {f : α → Option τ} {g : β → Option τ} {v : α} {z : τ} (h : Sum.elim f g (.inl v) = some z) : f v = some z := h
theorem elim_r {α β τ : Type} {f : α → Option τ} {g : β → Option τ} {v : β} {z : τ} (h : Sum.elim f g (.inr v) = some z) : g v = some z := h

/-! ### structs that lead to more -/
def cPr {α β : Type} (d1 : Cod α) (d2 : Cod β) : Cod (α × β) where
  sz := d1.sz + d2.sz
  K := fun w F x cs => ∃ c1 c2, cs = c1 ++ c2 ∧ d1.K w F x.1 c1 ∧ d2.K w F x.2 c2
  len := fun ⟨c1, c2, e, h1, h2⟩ => by rw [e, List.length_append, d1.len h1, d2.len h2]
  mono := fun hF ⟨c1, c2, e, h1, h2⟩ => ⟨c1, c2, e, d1.mono hF h1, d2.mono hF h2⟩
  keep := fun hc hF ⟨c1, c2, e, h1, h2⟩ => ⟨c1, c2, e, d1.keep hc hF h1, d2.keep hc hF h2⟩
  one := fun ⟨c1, c2, e, h1, h2⟩ u hu => by
    rw [e] at hu
    rcases List.mem_append.1 hu with hu | hu
    · exact d1.one h1 u hu
    · exact d2.one h2 u hu
theorem idx_one {α : Type} (x : α) : idx 0 [x].length := ⟨Int.le_refl 0, show (0 : Int) < ((1 : Nat) : Int) by decide⟩
theorem Hp.frzbox {α : Type} {S Fa : Nat → Prop} {w0 w : World} {L : List Ent} (d : Cod α) (f : Bool) (x : α) (H : Hp S Fa w0 w L) (j : Nat) {g : Nat} {t : TypeId} {cs : List Value} (h : nth L j = .box g t cs) (hk : ∀ Fz, HpF S Fa Fz w0 w L → d.K w (Fset Fa Fz f) x cs) : Hp S Fa w0 w (setn L j (.ro f d (some ⟨g, 0, none⟩) [x])) := by
  obtain ⟨Fz, H⟩ := H
  have hA : ∀ q, q = g → atL L q := fun q hq => atL_nth j (by rw [h]; exact hq)
  have hF : ∀ f q, Fset Fa Fz f q → Fset Fa (fun q => Fz q ∨ q = g) f q := fun f q hq => by
    cases f with
    | true => exact .inl hq
    | false => exact hq.imp id .inl
  have hnA : ∀ q, atL (setn L j .gone) q → ¬ q = g := fun q hq h2 => apt_nth j H.ap (by rw [h]; exact h2) hq
  refine ⟨fun q => Fz q ∨ q = g, H.chg, H.hi, H.fa, fun q hq => hq.elim (H.fz q) fun hq => ⟨(H.ow q (hA q hq)).1, (H.ow q (hA q hq)).2.1⟩, fun q hq => ?_, apt_set j (apt_gone j H.ap) (fun _ h => h.elim), oks_set j (oks_mono (oks_gone j H.ok) hF fun f q hq h2 => ?_) ?_⟩
  · rcases atL_set j hq with hq | hq
    · exact hq.elim
    · have := H.ow q (atL_gone j hq)
      exact ⟨this.1, this.2.1, fun h => h.elim this.2.2 (hnA q hq)⟩
  · rcases Fset_or h2 with h3 | h3 | h3
    · exact H.ro (.inl h3) (atL_gone j hq)
    · exact H.ro (.inr h3) (atL_gone j hq)
    · exact hnA q hq h3
  · have hb := oks_nth j H.ok
    rw [h] at hb
    refine ⟨cs, ⟨cs, [], by simp, d.mono (hF f) (hk Fz H), rfl⟩, fun _ => ⟨g, 0, rfl, ?_⟩, fun b o e => by cases e; exact Bx.cells hb⟩
    cases f with
    | true => exact .inr rfl
    | false => exact .inr (.inr rfl)
theorem kSl_nil {α : Type} {d : Cod α} {w : World} {F : Nat → Prop} : (cSl d).K w F [] [.slice none 0 0] := ⟨none, 0, rfl, Nat.le_refl _, C.nil _ _ _⟩
theorem cut_all (n : Nat) : 0 ≤ ((n : Nat) : Int) ∧ ((n : Nat) : Int) ≤ ((n : Nat) : Int) := by omega
theorem cut_le {h : Int} {n c : Nat} (g : 0 ≤ h ∧ h ≤ (n : Int)) (hc : n ≤ c) : 0 ≤ h ∧ h ≤ (c : Int) := by omega
theorem take_le {α : Type} {xs : List α} {c : Nat} (N : Nat) (h : xs.length ≤ c) : (xs.take N).length ≤ c := by simp; omega
theorem take_len {α : Type} {xs : List α} {h : Int} (g : 0 ≤ h ∧ h ≤ (xs.length : Int)) : h.toNat = (xs.take h.toNat).length := by simp; omega
end Go.V
