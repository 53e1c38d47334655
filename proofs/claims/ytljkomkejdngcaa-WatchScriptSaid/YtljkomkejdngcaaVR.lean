/- Arrays in memory, and keys that are arrays or structs. -/
import Derived.Test.YtljkomkejdngcaaVK
set_option linter.all false
set_option linter.unusedVariables false
set_option linter.unnecessarySimpa false
set_option linter.unusedSimpArgs false
namespace Go.V
open Go Go.RowKit

/-! ### keys -/
def KL (P : Program) (d : Nat) (t : TypeId) (cs : List Value) : Prop := ∃ ls, P.keyLits d t cs = some ls
theorem mapM_some {α β : Type} {f : α → Option β} : ∀ {l : List α}, (∀ x ∈ l, ∃ y, f x = some y) → ∃ ys, l.mapM f = some ys
  | [], _ => ⟨[], by simp⟩
  | x :: l, h => by
    obtain ⟨y, hy⟩ := h x (by simp)
    obtain ⟨ys, hys⟩ := mapM_some (l := l) fun z hz => h z (by simp [hz])
    exact ⟨y :: ys, by simp [List.mapM_cons, hy, hys]⟩
section
variable {P : Program} {d n : Nat} {t e : TypeId} {cs : List Value}
theorem KL.int {k : IntKind} {x : Int} (h : P.underlying t = some (.int k)) (hx : (Lit.int k x).wf = true) : KL P (d + 1) t [.int k x] := by
  refine ⟨[.int k x], ?_⟩
  unfold Program.keyLits
  rw [h]
  simp [hx]
theorem KL.struct {fs : Array Field} (h : P.underlying t = some (.struct fs)) (hc : cs.length = P.cellsOf t) (hn : fs.all (·.name != "_") = true) (he : ∀ f ∈ fs.toList, KL P d f.type ((cs.drop f.offset).take (P.cellsOf f.type))) : KL P (d + 1) t cs := by
  obtain ⟨ys, hys⟩ := mapM_some (f := fun f : Field => P.keyLits d f.type ((cs.drop f.offset).take (P.cellsOf f.type))) (l := fs.toList) fun f hf => he f hf
  refine ⟨ys.flatten, ?_⟩
  unfold Program.keyLits
  rw [h]
  simp only [hc, hn, and_self, if_true, hys, Option.map_some]
def isWide (P : Program) (t : TypeId) : Bool := match P.underlying t with | some (.array _ _) | some (.struct _) => true | _ => false
theorem KL.key {xs : Array Value} (hw : isWide P t = true) (hk : P.keyType t = true) (hf : Nat.beq xs.size (P.cellsOf t) = true) (h : ∀ m, KL P (m + 2) t xs.toList) (hs : Nat.blt 0 P.types.size = true) : ∃ l, keyOf P t (.agg xs) = some l := by
  obtain ⟨m, hm⟩ : ∃ m, P.types.size + 1 = m + 2 := ⟨P.types.size - 1, by simp [Nat.blt] at hs; omega⟩
  obtain ⟨ls, hls⟩ := h m
  have hf' : xs.size = P.cellsOf t := Nat.eq_of_beq_eq_true hf
  have hfo : (Value.agg xs).formed P t = true := by
    unfold isWide at hw
    unfold Value.formed
    split at hw <;> simp_all
  refine ⟨.string (keyBytes ls), ?_⟩
  unfold isWide at hw
  unfold keyOf
  split at hw
  · rename_i h1; rw [h1]; simp only [hk, hfo, Bool.and_self, if_true, Value.cells, hm, hls, Option.map_some]
  · rename_i h1; rw [h1]; simp only [hk, hfo, Bool.and_self, if_true, Value.cells, hm, hls, Option.map_some]
  · cases hw
end

/-! ### arrays as lists -/
def arrOk (n : Nat) (xs : List Int) : Prop := xs.length = n ∧ ∀ x ∈ xs, in64 x
instance (n : Nat) (xs : List Int) : Decidable (arrOk n xs) := inferInstanceAs (Decidable (_ ∧ _))
def key2 (x : Int × Int) : Prop := in64 x.1 ∧ in64 x.2
instance (x : Int × Int) : Decidable (key2 x) := inferInstanceAs (Decidable (_ ∧ _))
/-! ### arrays in memory: a row of fixed capacity -/
section
variable {P : Program} {T : List TRow} {S Fa : Nat → Prop} {w0 w : World} {L : List Ent} {a : Act} {n : Nat} {l l' : List (Nat × Value)} {ops : Array Oper} {Q : Exit → Act → World → Prop} {o : Oper} {rest : List Oper} {t : TypeId}
end
end Go.V
