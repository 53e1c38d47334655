/- Shorter forms of the steps (squeeze.py prints them). -/
import Derived.Test.YtljkomkejdngcaaAO
import Derived.Test.YtljkomkejdngcaaVS
set_option linter.all false
namespace Go.V
open Go Go.Proofs
section
variable {w : World} {a : Act} {n : Nat} {l : List (Nat × Value)} {ops : Array Oper} {Q : Exit → Act → World → Prop}
theorem vq (k : Nat) (hs : List Value) {L : List Oper} (new : List (Nat × Value)) (φ : List Prop) (E : Fr a n l) (hφ : AllP φ)
    (hk : ∀ a', Fr a' n (new ++ l) → wpList Try.prog ops Q (L.drop k) a' w)
    (h : runS tb w ops n k hs (new.map Prod.fst) L l = some (new, φ) := by kernel_rfl) (hf : freshK (new.map Prod.fst) l k L = true := by kernel_rfl) : wpList Try.prog ops Q L a w := vn tbok k hs new φ E h hf hφ hk
theorem vp (k : Nat) {L : List Oper} (new : List (Nat × Value)) (E : Fr a n l)
    (hk : ∀ a', Fr a' n (new ++ l) → wpList Try.prog ops Q (L.drop k) a' w)
    (h : runS tb w ops n k [] (new.map Prod.fst) L l = some (new, []) := by kernel_rfl) (hf : freshK (new.map Prod.fst) l k L = true := by kernel_rfl) : wpList Try.prog ops Q L a w := vn tbok k [] new [] E h hf trivial hk
end
section
variable {P : Program} {ops : Array Oper} {w : World} {a : Act} {Q : Exit → Act → World → Prop}
theorem nn_ {K : Act → World → Prop} (h : K a w) : wpList P ops (Exit.then K Q) [] a w := h
theorem nl_ (h : Q .normal a w) : wpList P ops Q [] a w := h
theorem rl_ {id : Nat} {l : List Oper} (h : wpList P l.toArray Q l a w) : (Code.region id l.toArray false).wp P Q a w := wp_region_lit h
theorem sr_ {id : Nat} {l : List Oper} {y : Code} (h : wpList P l.toArray (Exit.then (y.wp P Q) Q) l a w) : (Code.seq (Code.region id l.toArray false) y).wp P Q a w := wp_seq (wp_region_lit h)
end
def up : Nat → List Nat
  | 0 => []
  | n + 1 => up n ++ [n]
theorem chk_map {l : List (Nat × Value)} : ∀ {l' : List (Nat × Value)}, l'.map (fun p => lkp l p.1) = l'.map (fun p => some p.2) → chk l l'
  | [], _ => trivial
  | (t, v) :: r, h => by
    simp only [List.map_cons, List.cons.injEq] at h
    exact ⟨h.1, chk_map h.2⟩
theorem Fr.pk {a : Act} {n : Nat} {l : List (Nat × Value)} (E : Fr a n l) {l' : List (Nat × Value)} (h : l'.map (fun p => lkp l p.1) = l'.map (fun p => some p.2) := by kernel_rfl) : Fr a n l' := E.pick _ (chk_map h)
theorem csE {a : Act} {n : Nat} {l : List (Nat × Value)} {G : Prop} (t : Nat) {b : Bool} (h : lkp l t = some (.bool b)) (ht : b = true → Fr a n ((t, .bool true) :: l) → G) (hf : b = false → Fr a n ((t, .bool false) :: l) → G) : Fr a n l → G := fun E => E.cases h ht hf
end Go.V
