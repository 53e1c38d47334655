/- Pointers that are compared. -/
import Derived.Test.YtljkomkejdngcaaVY
import Derived.LaidEql
set_option linter.all false
set_option linter.unusedVariables false
set_option linter.unusedSimpArgs false
namespace Go.V
open Go Go.RowKit
theorem nth_setn_ne : ∀ (L : List Ent) (i j : Nat) (e : Ent), i ≠ j → nth (setn L i e) j = nth L j
  | [], _, _, _, _ => rfl
  | _ :: _, 0, 0, _, h => absurd rfl h
  | _ :: _, 0, _ + 1, _, _ => rfl
  | _ :: _, _ + 1, 0, _, _ => rfl
  | _ :: L, i + 1, j + 1, e, h => nth_setn_ne L i j e fun h' => h (congrArg _ h')
section
variable {S Fa : Nat → Prop} {w0 w : World} {L : List Ent}
theorem Hp.box_ne (H : Hp S Fa w0 w L) (i j : Nat) {g g' : Nat} {t t' : TypeId} {cs cs' : List Value} (hi : nth L i = .box g t cs) (hj : nth L j = .box g' t' cs') (hij : Nat.beq i j = false) : g ≠ g' := by
  obtain ⟨Fz, H⟩ := H
  intro e
  subst e
  have hne : i ≠ j := fun h => by subst h; simp at hij
  have h1 : (nth L i).at g := by rw [hi]; exact rfl
  refine apt_nth i H.ap h1 (atL_nth j ?_)
  rw [nth_setn_ne L i j _ hne, hj]
  exact rfl
end
section
variable {P : Program} {T : List TRow} {w w0 : World} {a : Act} {n : Nat} {l l' : List (Nat × Value)} {ops : Array Oper} {Q : Exit → Act → World → Prop} {o : Oper} {rest : List Oper} {S Fa : Nat → Prop} {L : List Ent}
/-- two pointers, to variables that are two -/
theorem h_eqPtr {x y : Operand} {t ty e : TypeId} {s g g' off off' : Nat} {t1 t2 : TypeId} {cs cs' : List Value} (H : Hp S Fa w0 w L) (i j : Nat) (hi : nth L i = .box g t1 cs) (hj : nth L j = .box g' t2 cs') (hij : Nat.beq i j = false)
    (E : Fr a n l) (ho : o.op = .binOp .eql t x y ty) (hw : want ops l o = some true) (hT : TbOk P T) (ht : tdesc T t = some (.pointer e)) (hs : tsz T e = some s) (hs0 : Nat.blt 0 s = true)
    (hx : opv l x = some (.pointer (some ⟨g, off, none⟩))) (hy : opv l y = some (.pointer (some ⟨g', off', none⟩)))
    (hl : putE n l o.dst (.bool false) = some l') (k : ∀ a', Fr a' n l' → wpList P ops Q rest a' w) : wpList P ops Q (o :: rest) a w := by
  refine step_val E hw ?_ hl k
  have hne := H.box_ne i j hi hj hij
  have h1 := H.box i hi
  have h2 := H.box j hj
  have hs0' : s ≠ 0 := by simp [Nat.blt] at hs0; omega
  have hg : (eqGuard .eql t x y (.pointer (some ⟨g, off, none⟩)) (.pointer (some ⟨g', off', none⟩))).run P w = .ok () w := by
    unfold eqGuard
    split <;> simp
  have he : (Op.equal t (.pointer (some ⟨g, off, none⟩)) (.pointer (some ⟨g', off', none⟩))).run P w = .ok false w := by
    unfold Op.equal
    rw [show Op.maxDepth = 9999 + 1 from rfl]
    unfold Op.equalIn
    have hsa : (sameAddr (⟨g, off, none⟩ : Addr) (⟨g', off', none⟩ : Addr)).run P w = .ok false w := run_sameAddr_other w (fun e => hne (Addr.mk.inj e).1) h1 h2
    simp [run_underlying (tdesc_row hT ht), run_sizeOf' hT hs, hs0', hsa, Result.andThen]
  simp [execOp, ho, E.eval hx, E.eval hy, hg, binOp, he, Result.andThen]
end
end Go.V
