/- The operations that make or change memory, over the list of objects. -/
import Derived.Test.YtflangjkfaalkaaVH
set_option linter.all false
set_option linter.unusedVariables false
set_option linter.unnecessarySimpa false
set_option linter.unusedSimpArgs false
namespace Go.V
open Go Go.RowKit
section
variable {P : Program} {T : List TRow} {w w' w0 : World} {a : Act} {n : Nat} {l l' : List (Nat × Value)} {ops : Array Oper} {Q : Exit → Act → World → Prop} {o : Oper} {rest : List Oper} {t e : TypeId} {S Fa : Nat → Prop} {L : List Ent}

theorem h_box {x : Operand} {v : Value} (H : Hp S Fa w0 w L) (E : Fr a n l) (ho : o.op = .box t x) (hw : want ops l o = some true) (hx : opv l x = some v)
    (k : ∀ (w' : World) (g : Nat) (a' : Act), Ext w w' → w.heap.size ≤ g → Hp S Fa w0 w' (addE L [.box g t v.cells.toList]) → (∀ l', putE n l o.dst (.pointer (some ⟨g, 0, none⟩)) = some l' → Fr a' n l') → wpList P ops Q rest a' w') : wpList P ops Q (o :: rest) a w :=
  e_box E ho hw hx fun w' g a' hc hg hB hE => k w' g a' hc hg (H.new _ hc (fun q hq => ⟨Nat.le_trans hg (Nat.le_of_eq (Eq.symm hq)), Nat.lt_of_le_of_lt (Nat.le_of_eq hq) hB.lt⟩) fun _ _ => hB) hE

theorem h_alloc {r : TRow} (H : Hp S Fa w0 w L) (E : Fr a n l) (ho : o.op = .alloc t) (hw : want ops l o = some true) (hT : TbOk P T) (ht : tlk T t = some r)
    (k : ∀ (w' : World) (g : Nat) (a' : Act), Ext w w' → w.heap.size ≤ g → Hp S Fa w0 w' (addE L [.box g t r.z.cells.toList]) → (∀ l', putE n l o.dst (.pointer (some ⟨g, 0, none⟩)) = some l' → Fr a' n l') → wpList P ops Q rest a' w') : wpList P ops Q (o :: rest) a w :=
  e_alloc E ho hw hT ht fun w' g a' hc hg hB hE => k w' g a' hc hg (H.new _ hc (fun q hq => ⟨Nat.le_trans hg (Nat.le_of_eq (Eq.symm hq)), Nat.lt_of_le_of_lt (Nat.le_of_eq hq) hB.lt⟩) fun _ _ => hB) hE

theorem h_buildSlice {len : Nat} {parts : Array (Nat × Operand)} {ps : List (Nat × Value)} {cs : List Value} (H : Hp S Fa w0 w L) (E : Fr a n l) (ho : o.op = .buildSlice t len parts) (hw : want ops l o = some true)
    (hT : TbOk P T) (ht : tdesc T t = some (.slice e)) (hp : opps l parts.toList = some ps) (hc : rowV T e len ps = some cs)
    (k : ∀ (w' : World) (g : Nat) (a' : Act), Ext w w' → w.heap.size ≤ g → Hp S Fa w0 w' (addE L [.box g e cs]) → (∀ l', putE n l o.dst (.slice (some ⟨g, 0, none⟩) len len) = some l' → Fr a' n l') → wpList P ops Q rest a' w') : wpList P ops Q (o :: rest) a w :=
  e_buildSlice E ho hw hT ht hp hc fun w' g a' hc hg hB hE => k w' g a' hc hg (H.new _ hc (fun q hq => ⟨Nat.le_trans hg (Nat.le_of_eq (Eq.symm hq)), Nat.lt_of_le_of_lt (Nat.le_of_eq hq) hB.lt⟩) fun _ _ => hB) hE

theorem h_store {p x : Operand} {g off : Nat} {v : Value} {tt : TypeId} {cs : List Value} {s : Nat} (H : Hp S Fa w0 w L) (j : Nat) (hj : nth L j = .box g tt cs) (E : Fr a n l) (ho : o.op = .store t p x) (hw : want ops l o = some true) (hp : opv l p = some (.pointer (some ⟨g, off, none⟩))) (hx : opv l x = some v)
    (hT : TbOk P T) (hs : tsz T t = some s) (hsz : Nat.beq v.cells.size s = true) (hone : v.cells.toList.all Value.oneCell' = true) (hfit : Nat.ble (off + v.cells.size) cs.length = true) (hd : o.dst = none)
    (k : ∀ (w' : World) (a' : Act), Chg (nth L j).at w w' → Hp S Fa w0 w' (setn L j (.box g tt (splice cs off v.cells.toList))) → Fr a' n l → wpList P ops Q rest a' w') : wpList P ops Q (o :: rest) a w :=
  e_store E ho hw hp hx hT hs (H.box j hj) hsz hone hfit hd fun w' a' hc hB E' => by
    have hc' : Chg (nth L j).at w w' := by rw [hj]; exact hc
    exact k w' a' hc' (H.put j _ hc' (fun q hq => ⟨.inl (by rw [hj]; exact hq), Nat.lt_of_le_of_lt (Nat.le_of_eq hq) hB.lt⟩) fun _ _ => hB) E'

theorem h_make {α : Type} (d : Cod α) {x y : Operand} {r : TRow} {X Y : Int} (z : α) (H : Hp S Fa w0 w L) (E : Fr a n l) (ho : o.op = .makeSlice t x y) (hw : want ops l o = some true) (hT : TbOk P T) (ht : tdesc T t = some (.slice e)) (he : tlk T e = some r)
    (hx : opv l x = some (.int .i64 X)) (hy : opv l y = some (.int .i64 Y)) (hX : 0 ≤ X ∧ X ≤ Y ∧ Y ≤ 1000000000) (hb : Nat.ble r.by_ 140000 = true) (hs : Nat.beq d.sz r.sz = true) (hs0 : Nat.blt 0 r.sz = true) (hK : ∀ w F, d.K w F z r.z.cells.toList)
    (k : ∀ (w' : World) (g : Nat) (a' : Act), Ext w w' → w.heap.size ≤ g → Hp S Fa w0 w' (addE L [.rowx true d e (some ⟨g, 0, none⟩) Y.toNat (List.replicate X.toNat z) (List.replicate (Y.toNat - X.toNat) z)]) → (∀ l', putE n l o.dst (.slice (some ⟨g, 0, none⟩) (List.replicate X.toNat z).length Y.toNat) = some l' → Fr a' n l') → wpList P ops Q rest a' w') :
    wpList P ops Q (o :: rest) a w := by
  have hb' := Nat.le_of_ble_eq_true hb
  have hbm : r.by_ * Y.toNat ≤ 281474976710656 := by
    calc r.by_ * Y.toNat ≤ 140000 * 1000000000 := Nat.mul_le_mul hb' (by omega)
      _ ≤ _ := by decide
  refine e_makeL d (z := z) X.toNat Y.toNat No E ho hw hT ht he hx hy (by omega) (by omega) (by omega) hbm (by omega) hs hs0 hK (fun _ h => h.elim) fun w' g a' hc hg hB hE => ?_
  refine k w' g a' hc hg (H.new _ hc (fun q hq => ?_) fun Fz HF => ?_) fun l' h => hE l' (by rw [List.length_replicate] at h; exact h)
  · obtain rfl := At.of_g hq
    exact ⟨hg, hB.lt⟩
  · have := Rw.of_BL (hB.monoF (G := Fset Fa Fz true) (fun _ h => h.elim) (fun h => by have := HF.Fz_lt (.inr h); omega)) X.toNat (by omega) (by unfold maxLen; omega)
    rw [List.take_replicate, List.drop_replicate, Nat.min_eq_left (by omega)] at this
    exact this

theorem set_app {α : Type} {xs sp : List α} {i : Nat} {u : α} (h : i < xs.length) : (xs ++ sp).set i u = xs.set i u ++ sp := by
  rw [List.set_append_left _ _ h]

theorem h_set {α : Type} {d : Cod α} {p x : Operand} {g s c : Nat} {i : Int} {f : Bool} {v : Value} {xs : List α} (u : α) (H : Hp S Fa w0 w L) (j : Nat) (hj : nth L j = .row f d e (some ⟨g, 0, none⟩) c xs) (E : Fr a n l) (ho : o.op = .store t p x) (hw : want ops l o = some true)
    (hp : opv l p = some (.pointer (some ⟨g, 0 + i.toNat * d.sz, none⟩))) (hx : opv l x = some v) (hT : TbOk P T) (hs : tsz T t = some s) (hK : ∀ Fz, HpF S Fa Fz w0 w L → d.K w (Fset Fa Fz f) u v.cells.toList) (hsz : Nat.beq d.sz s = true) (hi : 0 ≤ i ∧ i < (xs.length : Int)) (hd : o.dst = none)
    (k : ∀ (w' : World) (a' : Act), Chg (nth L j).at w w' → Hp S Fa w0 w' (setn L j (.row f d e (some ⟨g, 0, none⟩) c (xs.set i.toNat u))) → Fr a' n l → wpList P ops Q rest a' w') : wpList P ops Q (o :: rest) a w := by
  obtain ⟨Fz, H⟩ := H
  have hk := oks_nth j H.ok
  rw [hj] at hk
  obtain ⟨sp, hk⟩ := hk
  rcases hk with ⟨h1, _⟩ | ⟨g', hA, h1, h2, hB⟩
  · cases h1
  · cases hA
    refine e_setL (M := c) u E ho hw hp hx hT hs hB (hK Fz H) hsz ⟨hi.1, by omega⟩ hd fun w' a' hc hB' E' => ?_
    have hc' : Chg (nth L j).at w w' := by rw [hj]; exact hc.mono fun q _ hq => by subst hq; exact ⟨0, none, rfl⟩
    refine k w' a' hc' ⟨Fz, H.put j _ hc' (fun q hq => ⟨.inl (by rw [hj]; exact hq), by obtain rfl := At.of_g hq; exact hB'.lt⟩) ⟨sp, .inr ⟨g, rfl, h1, by simpa using h2, ?_⟩⟩⟩ E'
    rw [set_app (by omega)] at hB'
    exact hB'

theorem h_setx {α : Type} {d : Cod α} {p x : Operand} {g s c : Nat} {i : Int} {f : Bool} {v : Value} {xs sp : List α} (u : α) (H : Hp S Fa w0 w L) (j : Nat) (hj : nth L j = .rowx f d e (some ⟨g, 0, none⟩) c xs sp) (E : Fr a n l) (ho : o.op = .store t p x) (hw : want ops l o = some true)
    (hp : opv l p = some (.pointer (some ⟨g, 0 + i.toNat * d.sz, none⟩))) (hx : opv l x = some v) (hT : TbOk P T) (hs : tsz T t = some s) (hK : ∀ Fz, HpF S Fa Fz w0 w L → d.K w (Fset Fa Fz f) u v.cells.toList) (hsz : Nat.beq d.sz s = true) (hi : 0 ≤ i ∧ i < (xs.length : Int)) (hd : o.dst = none)
    (k : ∀ (w' : World) (a' : Act), Chg (nth L j).at w w' → Hp S Fa w0 w' (setn L j (.rowx f d e (some ⟨g, 0, none⟩) c (xs.set i.toNat u) sp)) → Fr a' n l → wpList P ops Q rest a' w') : wpList P ops Q (o :: rest) a w := by
  obtain ⟨Fz, H⟩ := H
  have hk := oks_nth j H.ok
  rw [hj] at hk
  rcases hk with ⟨h1, _⟩ | ⟨g', hA, h1, h2, hB⟩
  · cases h1
  · cases hA
    refine e_setL (M := c) u E ho hw hp hx hT hs hB (hK Fz H) hsz ⟨hi.1, by omega⟩ hd fun w' a' hc hB' E' => ?_
    have hc' : Chg (nth L j).at w w' := by rw [hj]; exact hc.mono fun q _ hq => by subst hq; exact ⟨0, none, rfl⟩
    refine k w' a' hc' ⟨Fz, H.put j _ hc' (fun q hq => ⟨.inl (by rw [hj]; exact hq), by obtain rfl := At.of_g hq; exact hB'.lt⟩) (.inr ⟨g, rfl, h1, by simpa using h2, ?_⟩)⟩ E'
    rw [set_app (by omega)] at hB'
    exact hB'

theorem h_append {α : Type} (d : Cod α) {s x : Operand} {r : TRow} {A B : Option Addr} {c c2 : Nat} {xs ys : List α} {f : Bool} (z : α) (H : Hp S Fa w0 w L) (j : Nat) (hj : nth L j = .row f d e A c xs)
    (E : Fr a n l) (ho : o.op = .call { callee := .builtin .append, args := #[s, x], argTypes := #[t, t] }) (hw : want ops l o = some true)
    (hT : TbOk P T) (ht : tdesc T t = some (.slice e)) (he : tlk T e = some r) (hd : Nat.beq d.sz r.sz = true) (hs0 : Nat.blt 0 r.sz = true) (hb : Nat.ble r.by_ 140000 = true) (hK : ∀ w F, d.K w F z r.z.cells.toList)
    (hs : opv l s = some (.slice A xs.length c)) (hx : opv l x = some (.slice B ys.length c2)) (hy : ∀ Fz, HpF S Fa Fz w0 w L → Src d w (Fset Fa Fz f) B ys) (h63 : xs.length + ys.length ≤ 1000000000)
    (k : ∀ (w' : World) (A' : Option Addr) (c' : Nat) (a' : Act), Chg (nth L j).at w w' → (∀ q, At A' q → At A q ∨ w.heap.size ≤ q) → Hp S Fa w0 w' (setn L j (.row f d e A' c' (xs ++ ys))) → (∀ l', putE n l o.dst (.slice A' (xs ++ ys).length c') = some l' → Fr a' n l') → wpList P ops Q rest a' w') :
    wpList P ops Q (o :: rest) a w := by
  refine wpList_step fun K hK' => ?_
  rw [if_pos (want_spec E hw)]
  unfold Oper.wp
  obtain ⟨Fz, H⟩ := H
  have hk := oks_nth j H.ok
  rw [hj] at hk
  obtain ⟨sp, hk⟩ := hk
  obtain ⟨hu, i, hi, hsz, hbt, hzz⟩ := hT.row he
  have hd' := Nat.eq_of_beq_eq_true hd
  have hs0' : 0 < r.sz := by simp [Nat.blt] at hs0; omega
  obtain ⟨w', A', c', sp', hr, h1, h2, h3⟩ := run_appendX (P := P) (ty := o.type) (c2 := c2) d (tdesc_row hT ht) hi hzz (by rw [hd', hsz]) (by rw [hd']; exact hs0') hK hk (hy Fz H) h63 (by rw [hbt]; exact Nat.le_of_ble_eq_true hb) (fun q hq => H.Fz_lt (Fset_or hq))
  have hrun : (execOp a.eval o).run P w = .ok (.value (.slice A' (xs ++ ys).length c')) w' := by
    unfold execOp
    simp only [ho, resolve, invoke, builtin, Sem.run_bind, Sem.run_pure, Result.andThen_ok, List.map_toArray, List.map_cons, List.map_nil, E.eval hs, E.eval hx, hr]
  rw [hrun]
  have hc' : Chg (nth L j).at w w' := by rw [hj]; exact h1
  exact hK' _ _ (k w' A' c' _ hc' h3 ⟨Fz, H.put j _ hc' (fun q hq => ⟨by rw [hj]; exact h3 q hq, (h2.lt q hq).1⟩) ⟨sp', h2⟩⟩ fun l' hl => putE_spec E hl)

/-- what may be read anywhere -/
def Flat {α : Type} (d : Cod α) : Prop := ∀ w F G xs cells, Enc d w F xs cells → Enc d w G xs cells
theorem flat_plain {α : Type} {m : Nat} {f : α → List Value} {e : ∀ x, (f x).length = m} {e1 : ∀ x, (f x).all Value.oneCell' = true} : Flat (Cod.plain m f e e1) := fun _ _ _ _ cells h => Enc.anyF cells h
section
variable {α : Type} {d : Cod α} {Fz F G : Nat → Prop} {A B : Option Addr} {xs ys : List α}
theorem Src.of_C (h : C d w F B ys) : Src d w F B ys := by
  obtain ⟨cells, h1, h2, h3⟩ := h
  exact ⟨cells, h1, fun hy => by obtain ⟨b, o, e, _⟩ := h2 hy; exact ⟨b, o, e⟩, h3⟩
theorem Src.flat (hf : Flat d) (h : Src d w F B ys) : Src d w G B ys := by
  obtain ⟨cells, h1, h2⟩ := h
  exact ⟨cells, hf _ _ _ _ _ h1, h2⟩
theorem HpF.srcF (hf : Flat d) (H : HpF S Fa Fz w0 w L) (j : Nat) (h : (nth L j).rds d B ys) : Src d w G B ys := (Src.of_C (H.rds j h)).flat hf
theorem HpF.srcR {f : Bool} (H : HpF S Fa Fz w0 w L) (j : Nat) (h : nth L j = .ro f d B ys) : Src d w (Fset Fa Fz f) B ys := by
  have := oks_nth j H.ok
  rw [h] at this
  exact Src.of_C this
theorem Src.nil : Src d w F none ([] : List α) := ⟨[], rfl, fun h => absurd rfl h, fun _ _ e => by cases e⟩
theorem HpF.srcB (H : HpF S Fa Fz w0 w L) (j : Nat) {g : Nat} {t : TypeId} {cs : List Value} (h : nth L j = .box g t cs) (he : Enc d w F ys cs) : Src d w F (some ⟨g, 0, none⟩) ys := by
  have := oks_nth j H.ok
  rw [h] at this
  exact ⟨cs, he, fun _ => ⟨g, 0, rfl⟩, fun b o e => by cases e; exact Bx.cells this⟩
theorem HpF.roC {f : Bool} (H : HpF S Fa Fz w0 w L) (j : Nat) (h : nth L j = .ro f d A xs) : C d w (Fset Fa Fz f) A xs := by
  have := oks_nth j H.ok
  rw [h] at this
  exact this
end
theorem Hp.nilrow {α : Type} (H : Hp S Fa w0 w L) (d : Cod α) (e : TypeId) : Hp S Fa w0 w (addE L [.row true d e none 0 []]) :=
  H.ins _ (fun q h => absurd h (At.nil q)) fun _ _ => ⟨[], Rw.nil _ _ _ _⟩
theorem Hp.rowx {α : Type} {f : Bool} {d : Cod α} {A : Option Addr} {c : Nat} {xs sp : List α} (H : Hp S Fa w0 w L) (j : Nat) (h : nth L j = .rowx f d e A c xs sp) : Hp S Fa w0 w (setn L j (.row f d e A c xs)) :=
  H.set j _ (fun q hq => by rw [h]; exact hq) fun Fz HF => by have := oks_nth j HF.ok; rw [h] at this; exact ⟨sp, this⟩
/-- a beginning of an own row takes its place -/
theorem Hp.cutRow {α : Type} {f : Bool} {d : Cod α} {A : Option Addr} {c : Nat} {xs : List α} (H : Hp S Fa w0 w L) (j : Nat) (h : nth L j = .row f d e A c xs) (N : Nat) : Hp S Fa w0 w (setn L j (.row f d e A c (xs.take N))) :=
  H.set j _ (fun q hq => by rw [h]; exact hq) fun Fz HF => by have := oks_nth j HF.ok; rw [h] at this; obtain ⟨sp, this⟩ := this; exact ⟨_, this.take N⟩
theorem Hp.cutRowx {α : Type} {f : Bool} {d : Cod α} {A : Option Addr} {c : Nat} {xs sp : List α} (H : Hp S Fa w0 w L) (j : Nat) (h : nth L j = .rowx f d e A c xs sp) (N : Nat) : Hp S Fa w0 w (setn L j (.rowx f d e A c (xs.take N) (xs.drop N ++ sp))) :=
  H.set j _ (fun q hq => by rw [h]; exact hq) fun Fz HF => by have := oks_nth j HF.ok; rw [h] at this; exact Rw.take this N
theorem Hp.boxEq {g : Nat} {t : TypeId} {cs ds : List Value} (H : Hp S Fa w0 w L) (j : Nat) (h : nth L j = .box g t cs) (he : cs = ds) : Hp S Fa w0 w (setn L j (.box g t ds)) := by
  subst he
  exact H.set j _ (fun q hq => by rw [h]; exact hq) fun Fz HF => by have := oks_nth j HF.ok; rw [h] at this; exact this
theorem Hp.allx {α : Type} {f : Bool} {d : Cod α} {A : Option Addr} {c : Nat} {xs sp : List α} (H : Hp S Fa w0 w L) (j : Nat) (h : nth L j = .rowx f d e A c xs sp) : Hp S Fa w0 w (setn L j (.rowx f d e A c (xs ++ sp) [])) :=
  H.set j _ (fun q hq => by rw [h]; exact hq) fun Fz HF => by have := oks_nth j HF.ok; rw [h] at this; exact Rw.all this
theorem Hp.partx {α : Type} {f : Bool} {d : Cod α} {A : Option Addr} {c : Nat} {ys : List α} (H : Hp S Fa w0 w L) (j : Nat) (h : nth L j = .rowx f d e A c ys []) (N : Nat) : Hp S Fa w0 w (setn L j (.rowx f d e A c (ys.take N) (ys.drop N))) :=
  H.set j _ (fun q hq => by rw [h]; exact hq) fun Fz HF => by have := oks_nth j HF.ok; rw [h] at this; have h2 := Rw.take this N; rw [List.append_nil] at h2; exact h2
theorem Hp.rowEq {α : Type} {f : Bool} {d : Cod α} {A : Option Addr} {c : Nat} {xs ys : List α} (H : Hp S Fa w0 w L) (j : Nat) (h : nth L j = .row f d e A c xs) (he : xs = ys) : Hp S Fa w0 w (setn L j (.row f d e A c ys)) := by
  subst he
  exact H.set j _ (fun q hq => by rw [h]; exact hq) fun Fz HF => by have := oks_nth j HF.ok; rw [h] at this; exact this
/-- a literal's block is a row -/
theorem Hp.boxRow {α : Type} (d : Cod α) (f : Bool) {g : Nat} {cs : List Value} (ys : List α) (H : Hp S Fa w0 w L) (j : Nat) (h : nth L j = .box g e cs) (he : ∀ Fz, HpF S Fa Fz w0 w L → Enc d w (Fset Fa Fz f) ys cs) (hm : ys.length ≤ 1000000) :
    Hp S Fa w0 w (setn L j (.rowx f d e (some ⟨g, 0, none⟩) ys.length ys [])) :=
  H.set j _ (fun q hq => by rw [h]; exact At.of_g hq) fun Fz HF => by
    have := oks_nth j HF.ok
    rw [h] at this
    refine .inr ⟨g, rfl, by unfold maxLen; omega, by simp, by simp, fun hq => ?_, cs, by simpa using he Fz HF, this⟩
    exact HF.ro (Fset_or hq) (atL_nth j (by rw [h]; exact rfl))

theorem h_copy {α : Type} {d : Cod α} {x y : Operand} {t2 : TypeId} {g s c c2 : Nat} {f : Bool} {A : Option Addr} {xs ys : List α} (H : Hp S Fa w0 w L) (j : Nat) (hj : nth L j = .row f d e (some ⟨g, 0, none⟩) c xs) (E : Fr a n l) (ho : o.op = .call { callee := .builtin .copy, args := #[x, y], argTypes := #[t, t2] }) (hw : want ops l o = some true)
    (hT : TbOk P T) (ht : tdesc T t = some (.slice e)) (hs : tsz T e = some s) (hsz : Nat.beq d.sz s = true) (hx : opv l x = some (.slice (some ⟨g, 0, none⟩) xs.length c)) (hy : opv l y = some (.slice A ys.length c2)) (hf : Flat d) (jy : Nat) (hry : (nth L jy).rds d A ys) (hn : ys.length ≤ xs.length)
    (k : ∀ (w' : World) (a' : Act), Chg (nth L j).at w w' → Hp S Fa w0 w' (setn L j (.row f d e (some ⟨g, 0, none⟩) c (ys ++ xs.drop ys.length))) → (∀ l', putE n l o.dst (.int .i64 (ys.length : Int)) = some l' → Fr a' n l') → wpList P ops Q rest a' w') : wpList P ops Q (o :: rest) a w := by
  obtain ⟨Fz, H⟩ := H
  have hk := oks_nth j H.ok
  rw [hj] at hk
  obtain ⟨sp, hk⟩ := hk
  rcases hk with ⟨h1, _⟩ | ⟨g', hA, h1, h2, hB⟩
  · cases h1
  · cases hA
    refine e_copyL (M := c) E ho hw hT ht hs hsz hx hy hB (H.rds jy hry) (fun cells h => hf _ _ _ _ _ h) (by omega) hn fun w' a' hc hB' hE => ?_
    have hc' : Chg (nth L j).at w w' := by rw [hj]; exact hc.mono fun q _ hq => by subst hq; exact ⟨0, none, rfl⟩
    refine k w' a' hc' ⟨Fz, H.put j _ hc' (fun q hq => ⟨.inl (by rw [hj]; exact hq), by obtain rfl := At.of_g hq; exact hB'.lt⟩) ⟨sp, .inr ⟨g, rfl, h1, by simp; omega, ?_⟩⟩⟩ hE
    rw [List.drop_append_of_le_length hn, ← List.append_assoc] at hB'
    exact hB'

theorem h_copyx {α : Type} {d : Cod α} {x y : Operand} {t2 : TypeId} {g s c c2 : Nat} {f : Bool} {A : Option Addr} {xs ys sp : List α} (H : Hp S Fa w0 w L) (j : Nat) (hj : nth L j = .rowx f d e (some ⟨g, 0, none⟩) c xs sp) (E : Fr a n l) (ho : o.op = .call { callee := .builtin .copy, args := #[x, y], argTypes := #[t, t2] }) (hw : want ops l o = some true)
    (hT : TbOk P T) (ht : tdesc T t = some (.slice e)) (hs : tsz T e = some s) (hsz : Nat.beq d.sz s = true) (hx : opv l x = some (.slice (some ⟨g, 0, none⟩) xs.length c)) (hy : opv l y = some (.slice A ys.length c2)) (hf : Flat d) (jy : Nat) (hry : (nth L jy).rds d A ys) (hn : ys.length ≤ xs.length)
    (k : ∀ (w' : World) (a' : Act), Chg (nth L j).at w w' → Hp S Fa w0 w' (setn L j (.rowx f d e (some ⟨g, 0, none⟩) c (ys ++ xs.drop ys.length) sp)) → (∀ l', putE n l o.dst (.int .i64 (ys.length : Int)) = some l' → Fr a' n l') → wpList P ops Q rest a' w') : wpList P ops Q (o :: rest) a w := by
  obtain ⟨Fz, H⟩ := H
  have hk := oks_nth j H.ok
  rw [hj] at hk
  rcases hk with ⟨h1, _⟩ | ⟨g', hA, h1, h2, hB⟩
  · cases h1
  · cases hA
    refine e_copyL (M := c) E ho hw hT ht hs hsz hx hy hB (H.rds jy hry) (fun cells h => hf _ _ _ _ _ h) (by omega) hn fun w' a' hc hB' hE => ?_
    have hc' : Chg (nth L j).at w w' := by rw [hj]; exact hc.mono fun q _ hq => by subst hq; exact ⟨0, none, rfl⟩
    refine k w' a' hc' ⟨Fz, H.put j _ hc' (fun q hq => ⟨.inl (by rw [hj]; exact hq), by obtain rfl := At.of_g hq; exact hB'.lt⟩) (.inr ⟨g, rfl, h1, by simp; omega, ?_⟩)⟩ hE
    rw [List.drop_append_of_le_length hn, ← List.append_assoc] at hB'
    exact hB'
end
end Go.V
