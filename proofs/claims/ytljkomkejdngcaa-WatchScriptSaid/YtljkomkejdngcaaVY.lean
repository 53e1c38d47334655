/- Rows of rows of one's own that may be written: as an object among the others. -/
import Derived.Test.YtljkomkejdngcaaVS
set_option linter.all false
set_option linter.unusedVariables false
set_option linter.unnecessarySimpa false
set_option linter.unusedSimpArgs false
namespace Go.V
open Go Go.RowKit
section
variable {S Fa Fz : Nat → Prop} {w0 w w' : World} {L : List Ent}

theorem Hp.mat {α : Type} {d : Cod α} {e1 e2 : TypeId} {G : Nat → Prop} {g c : Nat} {xss : List (List α)} (H : Hp S Fa w0 w L) (j : Nat) (h : nth L j = .mat d e1 e2 G g c xss) : Mat d e1 e2 w 0 G g xss := by
  obtain ⟨Fz, H⟩ := H
  have := oks_nth j H.ok
  rw [h] at this
  exact this.1
/-- one of the rows -/
def MR {α : Type} (d : Cod α) (e1 e2 : TypeId) (w : World) (G : Nat → Prop) (g : Nat) (xss : List (List α)) (i : Int) (A : Option Addr) (c : Nat) : Prop :=
  Row d e1 w 0 No A c (xss.getD i.toNat []) ∧ (∀ q, At A q → G q) ∧
    ∀ (w' : World) (ys : List α), Chg (At A) w w' → Row d e1 w' 0 No A c ys → ys.length = (xss.getD i.toNat []).length → Mat d e1 e2 w' 0 G g (xss.set i.toNat ys)
theorem MR.addr {α : Type} {d : Cod α} {e1 e2 : TypeId} {G : Nat → Prop} {g c : Nat} {xss : List (List α)} {i : Int} {A : Option Addr} (h : MR d e1 e2 w G g xss i A c) (hl : 0 < (xss.getD i.toNat []).length) : ∃ b, A = some ⟨b, 0, none⟩ := h.1.addr' hl
theorem Hp.rodown {α : Type} {d : Cod α} {A : Option Addr} {xs : List α} (H : Hp S Fa w0 w L) (j : Nat) (h : nth L j = .ro true d A xs) : Hp S Fa w0 w (setn L j (.ro false d A xs)) :=
  H.set j _ (fun q h => h.elim) fun Fz HF => by
    have := oks_nth j HF.ok
    rw [h] at this
    exact C.mono this fun q hq => .inr hq
end
section
variable {P : Program} {T : List TRow} {S Fa : Nat → Prop} {w0 w : World} {L : List Ent} {a : Act} {n : Nat} {l l' : List (Nat × Value)} {ops : Array Oper} {Q : Exit → Act → World → Prop} {rest : List Oper} {o : Oper} {t : TypeId}
end
end Go.V
