/- Rows of rows of one's own that may be written: as an object among the others. -/
import Derived.Test.YtflangjkfaalkaaVS
set_option linter.all false
set_option linter.unusedVariables false
set_option linter.unnecessarySimpa false
set_option linter.unusedSimpArgs false
namespace Go.V
open Go Go.RowKit
section
variable {S Fa Fz : Nat → Prop} {w0 w w' : World} {L : List Ent}

theorem Hp.mat {α : Type} {d : Cod α} {e1 e2 : TypeId} {G : Nat → Prop} {g c : Nat} {xss : List (List α)} (H : Hp S Fa w0 w L) (j : Nat) (h : nth L j = .mat d e1 e2 G g c xss) : Mat d e1 e2 w 0 G g xss := by
  obtain ⟨Fz, H⟩ := H
  have := oks_nth j H.ok
  rw [h] at this
  exact this.1
theorem Hp.mcap {α : Type} {d : Cod α} {e1 e2 : TypeId} {G : Nat → Prop} {g c : Nat} {xss : List (List α)} (H : Hp S Fa w0 w L) (j : Nat) (h : nth L j = .mat d e1 e2 G g c xss) : xss.length ≤ c := by
  obtain ⟨Fz, H⟩ := H
  have := oks_nth j H.ok
  rw [h] at this
  exact this.2
/-- one of the rows -/
def MR {α : Type} (d : Cod α) (e1 e2 : TypeId) (w : World) (G : Nat → Prop) (g : Nat) (xss : List (List α)) (i : Int) (A : Option Addr) (c : Nat) : Prop :=
  Row d e1 w 0 No A c (xss.getD i.toNat []) ∧ (∀ q, At A q → G q) ∧
    ∀ (w' : World) (ys : List α), Chg (At A) w w' → Row d e1 w' 0 No A c ys → ys.length = (xss.getD i.toNat []).length → Mat d e1 e2 w' 0 G g (xss.set i.toNat ys)
theorem Hp.mrow {α : Type} {d : Cod α} {e1 e2 : TypeId} {G : Nat → Prop} {g c0 : Nat} {xss : List (List α)} {i : Int} (H : Hp S Fa w0 w L) (j : Nat) (h : nth L j = .mat d e1 e2 G g c0 xss) (hi : idx i xss.length) :
    ∃ A c, w.cell? ⟨g, 0 + i.toNat * 1, none⟩ = some (.slice A (xss.getD i.toNat []).length c) ∧ Rds d w A (xss.getD i.toNat []) ∧ MR d e1 e2 w G g xss i A c := by
  have M := H.mat j h
  obtain ⟨A, c, h1, h2, h3, h4⟩ := M.at hi.1 hi.2
  exact ⟨A, c, h1, ⟨G, h2.C.mono fun b hb => hb.elim (fun h => h.elim) (h3 b), M.lt⟩, h2, h3, h4⟩
theorem MR.addr {α : Type} {d : Cod α} {e1 e2 : TypeId} {G : Nat → Prop} {g c : Nat} {xss : List (List α)} {i : Int} {A : Option Addr} (h : MR d e1 e2 w G g xss i A c) (hl : 0 < (xss.getD i.toNat []).length) : ∃ b, A = some ⟨b, 0, none⟩ := h.1.addr' hl
theorem Hp.frzM {α : Type} {d : Cod α} {e1 e2 : TypeId} {G : Nat → Prop} {g c : Nat} {xss : List (List α)} (H : Hp S Fa w0 w L) (j : Nat) (h : nth L j = .mat d e1 e2 G g c xss) : Hp S Fa w0 w (setn L j (.ro true (cSl d) (some ⟨g, 0, none⟩) xss)) := by
  obtain ⟨Fz, H⟩ := H
  have hA : ∀ q, G q → atL L q := fun q hq => atL_nth j (by rw [h]; exact hq)
  have hF : ∀ f q, Fset Fa Fz f q → Fset Fa (fun q => Fz q ∨ G q) f q := fun f q hq => by
    cases f with
    | true => exact .inl hq
    | false => exact hq.imp id .inl
  have hnA : ∀ q, atL (setn L j .gone) q → ¬ G q := fun q hq h2 => apt_nth j H.ap (by rw [h]; exact h2) hq
  refine ⟨fun q => Fz q ∨ G q, H.chg, H.hi, H.fa, fun q hq => hq.elim (H.fz q) fun hq => ⟨(H.ow q (hA q hq)).1, (H.ow q (hA q hq)).2.1⟩, fun q hq => ?_, apt_set j (apt_gone j H.ap) (fun _ h => h.elim), oks_set j (oks_mono (oks_gone j H.ok) hF fun f q hq h2 => ?_) ?_⟩
  · rcases atL_set j hq with hq | hq
    · exact hq.elim
    · have := H.ow q (atL_gone j hq)
      exact ⟨this.1, this.2.1, fun h => h.elim this.2.2 (hnA q hq)⟩
  · rcases Fset_or h2 with h3 | h3 | h3
    · exact H.ro (.inl h3) (atL_gone j hq)
    · exact H.ro (.inr h3) (atL_gone j hq)
    · exact hnA q hq h3
  · have := oks_nth j H.ok
    rw [h] at this
    exact this.1.C.mono fun q hq => .inr hq
theorem Hp.rodown {α : Type} {d : Cod α} {A : Option Addr} {xs : List α} (H : Hp S Fa w0 w L) (j : Nat) (h : nth L j = .ro true d A xs) : Hp S Fa w0 w (setn L j (.ro false d A xs)) :=
  H.set j _ (fun q h => h.elim) fun Fz HF => by
    have := oks_nth j HF.ok
    rw [h] at this
    exact C.mono this fun q hq => .inr hq
theorem Hp.nilx {α : Type} {f : Bool} {d : Cod α} {e c : Nat} {xs : List α} (H : Hp S Fa w0 w L) (j : Nat) (h : nth L j = .row f d e none c xs) : Hp S Fa w0 w (setn L j (.rowx f d e none c xs [])) :=
  H.set j _ (fun q h => absurd h (At.nil q)) fun Fz HF => by
    have := oks_nth j HF.ok
    rw [h] at this
    obtain ⟨sp, this⟩ := this
    rcases this with ⟨_, h2, h3, _⟩ | ⟨g, h2, _⟩
    · subst h2 h3
      exact .inl ⟨rfl, rfl, rfl, rfl⟩
    · cases h2
theorem Hp.fullx {α : Type} {f : Bool} {d : Cod α} {e c : Nat} {A : Option Addr} {xs sp : List α} (H : Hp S Fa w0 w L) (j : Nat) (h : nth L j = .rowx f d e A c xs sp) (hs : sp = []) : Hp S Fa w0 w (setn L j (.rowx f d e A c xs [])) := by
  subst hs
  exact H.set j _ (fun q hq => by rw [h]; exact hq) fun Fz HF => by
    have := oks_nth j HF.ok
    rw [h] at this
    exact this
/-- a new one -/
theorem Hp.newM {α : Type} {d : Cod α} {e1 e2 : TypeId} {G : Nat → Prop} {g c : Nat} {xss : List (List α)} (H : Hp S Fa w0 w L) (hc : Ext w w') (h : Mat d e1 e2 w' w.heap.size G g xss) (hl : xss.length ≤ c) : Hp S Fa w0 w' (addE L [.mat d e1 e2 G g c xss]) :=
  H.new (.mat d e1 e2 G g c xss) hc (fun q hq => h.2.1 q hq) fun Fz _ => ⟨h.from_ (Nat.zero_le _), hl⟩
end
section
variable {P : Program} {T : List TRow} {S Fa : Nat → Prop} {w0 w : World} {L : List Ent} {a : Act} {n : Nat} {l l' : List (Nat × Value)} {ops : Array Oper} {Q : Exit → Act → World → Prop} {rest : List Oper} {o : Oper} {t : TypeId}
theorem h_setM {α : Type} {d : Cod α} {e1 e2 : TypeId} {G : Nat → Prop} {p x : Operand} {g c0 g2 s c : Nat} {i q : Int} {v : Value} {xss : List (List α)} (u : α) (H : Hp S Fa w0 w L) (j : Nat) (hj : nth L j = .mat d e1 e2 G g c0 xss) (hm : MR d e1 e2 w G g xss i (some ⟨g2, 0, none⟩) c) (E : Fr a n l) (ho : o.op = .store t p x) (hw : want ops l o = some true)
    (hp : opv l p = some (.pointer (some ⟨g2, 0 + q.toNat * d.sz, none⟩))) (hx : opv l x = some v) (hT : TbOk P T) (hs : tsz T t = some s) (hK : ∀ w F, d.K w F u v.cells.toList) (hsz : Nat.beq d.sz s = true) (hi : 0 ≤ q ∧ q < ((xss.getD i.toNat []).length : Int)) (hd : o.dst = none)
    (k : ∀ (w' : World) (a' : Act), Chg (nth L j).at w w' → Hp S Fa w0 w' (setn L j (.mat d e1 e2 G g c0 (xss.set i.toNat ((xss.getD i.toNat []).set q.toNat u)))) → Fr a' n l → wpList P ops Q rest a' w') : wpList P ops Q (o :: rest) a w := by
  refine e_setR u E ho hw hp hx hT hs hm.1 (hK _ _) hsz hi hd fun w' a' hc hR E' => ?_
  have hc' : Chg (nth L j).at w w' := hc.mono fun b _ hb => by rw [hj]; exact hm.2.1 b hb
  have hM := hm.2.2 w' _ hc hR List.length_set
  refine k w' a' hc' (H.put j _ hc' (fun b hb => ⟨.inl (by rw [hj]; exact hb), hM.lt b hb⟩) fun Fz HF => ⟨hM, ?_⟩) E'
  rw [List.length_set]
  exact H.mcap j hj
end
end Go.V
