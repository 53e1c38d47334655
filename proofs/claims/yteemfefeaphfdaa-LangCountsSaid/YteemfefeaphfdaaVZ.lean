/- An append behind which the slice that was appended to is read again. -/
import Derived.Test.YteemfefeaphfdaaVY
set_option linter.all false
set_option linter.unusedVariables false
set_option linter.unnecessarySimpa false
set_option linter.unusedSimpArgs false
namespace Go.V
open Go Go.RowKit
theorem setn_nth : ∀ (L : List Ent) (j : Nat), setn L j (nth L j) = L
  | [], _ => rfl
  | _ :: _, 0 => rfl
  | e :: L, j + 1 => congrArg (e :: ·) (setn_nth L j)
section
variable {S Fa : Nat → Prop} {w0 w w' : World} {L : List Ent}
theorem HpF.newF {Fz : Nat → Prop} (H : HpF S Fa Fz w0 w L) (e' : Ent) (hc : Ext w w') (hat : ∀ q, e'.at q → w.heap.size ≤ q ∧ q < w'.heap.size) (hok : e'.ok w' Fa Fz) : HpF S Fa Fz w0 w' (addE L [e']) := by
  have hw := hc.size
  have hno : ∀ q, atL [e'] q → e'.at q := fun q h => h.elim id fun h => h.elim
  refine ⟨H.chg.ext hc, H.hi, H.fa, fun q h => ⟨(H.fz q h).1, Nat.lt_of_lt_of_le (H.fz q h).2 hw⟩, fun q h => ?_, apt_app H.ap ⟨fun _ _ h => h, trivial⟩ (fun q h h2 => ?_), oks_app (oks_keep H.ok hc (fun _ _ h => h) (fun _ _ h => h)) ⟨hok, trivial⟩⟩
  · rcases atL_app h with h | h
    · have := H.ow q h
      exact ⟨this.1, Nat.lt_of_lt_of_le this.2.1 hw, this.2.2⟩
    · obtain ⟨h1, h2⟩ := hat q (hno q h)
      exact ⟨H.hi q (Nat.le_trans H.chg.size h1), h2, fun h => by have := (H.fz q h).2; omega⟩
  · have h1 := (H.ow q h).2.1
    have := (hat q (hno q h2)).1
    omega
end
section
variable {P : Program} {T : List TRow} {w w' : World} {a : Act} {n : Nat} {l l' : List (Nat × Value)} {ops : Array Oper} {Q : Exit → Act → World → Prop} {o : Oper} {rest : List Oper} {t e : TypeId}
theorem run_appendB {α : Type} (d : Cod α) {ty : TypeId} {i : TypeInfo} {z : Value} {F : Nat → Prop} {A B : Option Addr} {c c2 : Nat} {xs ys sp : List α} {u : α}
    (ht : P.underlying t = some (.slice e)) (hi : P.info? e = some i) (hz : i.zero = some z) (hsz : i.size = d.sz) (hs0 : 0 < d.sz) (hK : ∀ w F, d.K w F u z.cells.toList)
    (hR : Rw d e w F A c xs sp) (hy : Src d w F B ys) (h63 : xs.length + ys.length ≤ 1000000000) (hby : i.bytes ≤ 140000) (hF : ∀ q, F q → q < w.heap.size) :
    ∃ w' A' c' sp', (Builtin.append_ #[t, t] ty #[.slice A xs.length c, .slice B ys.length c2]).run P w = .ok (.slice A' (xs ++ ys).length c') w' ∧ Chg (At A) w w' ∧ Rw d e w' F A' c' (xs ++ ys) sp' ∧ (∀ q, At A' q → At A q ∨ w.heap.size ≤ q) ∧ ((A' = A ∧ c' = c) ∨ (Ext w w' ∧ ∀ q, At A' q → w.heap.size ≤ q)) := by
  obtain ⟨cells, h1, h2, h3⟩ := hy
  have hcl := h1.length
  have hbytes : (xs.length + ys.length) * i.bytes ≤ 140737488355328 := by
    calc (xs.length + ys.length) * i.bytes ≤ 1000000000 * 140000 := Nat.mul_le_mul h63 hby
      _ ≤ _ := by decide
  by_cases hy0 : ys = []
  · subst hy0
    have hc := hR.cap
    refine ⟨w, A, c, sp, ?_, Chg.refl _ _, by simpa using hR, fun q hq => .inl hq, .inl ⟨rfl, rfl⟩⟩
    cases A with
    | none =>
      rcases hR with ⟨_, rfl, rfl, _⟩ | ⟨g, hA, _⟩
      · cases B <;> simp [Builtin.append_, run_underlying ht, sizeOf, typeInfo, hi, Builtin.lenOf, Builtin.firstCells, loadCells, loadCellsFrom]
      · cases hA
    | some ad => cases B <;> simp [Builtin.append_, run_underlying ht, sizeOf, typeInfo, hi, Builtin.lenOf, Builtin.firstCells, loadCells, loadCellsFrom, hc, storeCells]
  obtain ⟨b, off, rfl⟩ := h2 hy0
  have h3' := h3 b off rfl
  have hyl : 0 < ys.length := List.length_pos_iff.2 hy0
  have hnews : ∀ j v, cells[j]? = some v → w.cell? ((⟨b, off, none⟩ : Addr).add j) = some v := fun j v hj => by rw [add_none]; exact h3'.get j v hj
  have zl : z.cells.toList.length = d.sz := d.len (hK w F)
  have hext : ∀ ob, Chg (At A) w (w.drew.alloc ob) := fun ob => ((Chg.drew w No).tr (Chg.alloc _ _)).mono fun _ _ h => h.elim
  have hxt : ∀ ob, Ext w (w.drew.alloc ob) := fun ob => (Chg.drew w No).tr (Chg.alloc _ _)
  have hnew : ∀ (m : Nat) (olds : List Value), Enc d w F xs olds → Bx (w.drew.alloc (.cells (olds.toArray ++ cells.toArray ++ Builtin.zeroCells z.cells m) e)) w.heap.size e (olds ++ cells ++ (List.replicate m z.cells.toList).flatten) := fun m olds _ => by
    have h := Bx.alloc w.drew e (olds ++ cells ++ (List.replicate m z.cells.toList).flatten)
    have e1 : (⟨olds ++ cells ++ (List.replicate m z.cells.toList).flatten⟩ : Array Value) = olds.toArray ++ cells.toArray ++ Builtin.zeroCells z.cells m := by
      apply Array.ext'; simp [zero_cells]
    rw [e1] at h
    exact h
  have grown : ∀ (m cap : Nat) (olds : List Value), Enc d w F xs olds → cap = (xs ++ ys).length + m → cap ≤ maxLen →
      Rw d e (w.drew.alloc (.cells (olds.toArray ++ cells.toArray ++ Builtin.zeroCells z.cells m) e)) F (some ⟨w.heap.size, 0, none⟩) cap (xs ++ ys) (List.replicate m u) := fun m cap olds ho hcap hm => by
    refine .inr ⟨_, rfl, hm, by simp [hcap], by simp [hcap]; omega, fun hq => by have := hF _ hq; omega, _, ?_, hnew m olds ho⟩
    exact (((ho.keep (hxt _) fun _ _ h => h.elim).append (h1.keep (hxt _) fun _ _ h => h.elim)).append (Enc.replicate (hK _ _) m))
  rcases hR with ⟨rfl, rfl, rfl, rfl⟩ | ⟨g, rfl, hm, hc, hB⟩
  · have hr := run_append_nil (P := P) w t ty e i z ht hi hz ⟨b, off, none⟩ ys.length c2 cells (by rw [hcl, hsz]) hnews hyl (by simp at h63; omega) (by simp at hbytes; omega)
    refine ⟨_, _, _, List.replicate (grownCap w ys.length 0 e - ys.length) u, by simpa using hr, ?_, ?_, fun q hq => .inr (by obtain rfl := At.of_g hq; exact Nat.le_refl _), .inr ⟨hxt _, fun q hq => by obtain rfl := At.of_g hq; exact Nat.le_refl _⟩⟩
    · exact hext _
    · have := grown (grownCap w ys.length 0 e - ys.length) (grownCap w ys.length 0 e) [] rfl (by have := grownCap_ge w ys.length 0 e; simp; omega) (grownCap_le_maxLen w _ _ _ (by unfold maxLen; simp at h63; omega))
      simpa using this
  · obtain ⟨hl, hn, all, he, hb⟩ := hB
    obtain ⟨c1, c2', rfl, he1, he2⟩ := he.split
    have l1 := he1.length
    have l2 := he2.length
    by_cases hroom : xs.length + ys.length ≤ c
    · have hfit : xs.length * i.size + cells.length ≤ (c1 ++ c2').length := by
        rw [hcl, hsz, List.length_append, l1, l2, ← Nat.add_mul, ← Nat.add_mul]; exact Nat.mul_le_mul_right _ (by omega)
      have hr := run_append_room (P := P) w t ty e i ht hi g xs.length c ⟨c1 ++ c2'⟩ hb ⟨b, off, none⟩ ys.length c2 cells (by rw [hcl, hsz]) hnews h1.ones hroom (by simpa using hfit)
      obtain ⟨k1, k2⟩ := setRow_chg hb ((c1 ++ c2').take (xs.length * i.size) ++ cells ++ (c1 ++ c2').drop (xs.length * i.size + cells.length))
      have hF' : ∀ q, F q → ¬ (q = g) := fun q hq e => hn (e ▸ hq)
      refine ⟨_, _, _, sp.drop ys.length, by simpa using hr, k1.mono fun q _ hq => by subst hq; exact ⟨0, none, rfl⟩, .inr ⟨g, rfl, hm, by simp; omega, by simp; omega, hn, _, ?_, k2⟩, fun q hq => .inl hq, .inl ⟨rfl, rfl⟩⟩
      have e1 : (c1 ++ c2').take (xs.length * i.size) = c1 := by rw [hsz, ← l1]; exact List.take_left
      have e2 : (c1 ++ c2').drop (xs.length * i.size + cells.length) = c2'.drop (ys.length * d.sz) := by rw [hsz, ← l1, hcl, List.drop_append, List.drop_of_length_le (by omega), Nat.add_sub_cancel_left, List.nil_append]
      have e3 : (c1 ++ c2').take (xs.length * i.size) ++ cells ++ (c1 ++ c2').drop (xs.length * i.size + cells.length) = c1 ++ cells ++ c2'.drop (ys.length * d.sz) := by rw [e1, e2]
      have hh := (((he1.keep k1 hF').append (h1.keep k1 hF')).append ((he2.keep k1 hF').drop ys.length))
      exact Eq.mpr (congrArg (fun cs => Enc d (w.setRow g ((c1 ++ c2').take (xs.length * i.size) ++ cells ++ (c1 ++ c2').drop (xs.length * i.size + cells.length)).toArray) F (xs ++ ys ++ sp.drop ys.length) cs) e3) hh
    · have holds : ∀ j v, c1[j]? = some v → w.cell? ((⟨g, 0, none⟩ : Addr).add j) = some v := fun j v hj => by
        rw [add_none, Nat.zero_add]
        exact hb.cell (by rw [List.getElem?_append_left (List.getElem?_eq_some_iff.1 hj).1]; exact hj)
      have hr := run_append_grow (P := P) w t ty e i z ht hi hz ⟨g, 0, none⟩ xs.length c c1 (by rw [l1, hsz]) holds ⟨b, off, none⟩ ys.length c2 cells (by rw [hcl, hsz]) hnews (by omega) (by omega) (growslice_fits (by omega) hbytes)
      refine ⟨_, _, _, List.replicate (grownCap w (xs.length + ys.length) c e - (xs.length + ys.length)) u, by rw [List.length_append]; exact hr, ?_, ?_, fun q hq => .inr (by obtain rfl := At.of_g hq; exact Nat.le_refl _), .inr ⟨hxt _, fun q hq => by obtain rfl := At.of_g hq; exact Nat.le_refl _⟩⟩
      · exact hext _
      · exact grown (grownCap w (xs.length + ys.length) c e - (xs.length + ys.length)) (grownCap w (xs.length + ys.length) c e) c1 he1 (by have := grownCap_ge w (xs.length + ys.length) c e; simp; omega) (grownCap_le_maxLen w _ _ _ (by unfold maxLen; omega))

end
section
variable {P : Program} {T : List TRow} {w w' w0 : World} {a : Act} {n : Nat} {l l' : List (Nat × Value)} {ops : Array Oper} {Q : Exit → Act → World → Prop} {o : Oper} {rest : List Oper} {t e : TypeId} {S Fa : Nat → Prop} {L : List Ent}
end
section
variable {S Fa : Nat → Prop} {w0 w w' : World} {L : List Ent}
theorem HpF.putEnd {Fz : Nat → Prop} (H : HpF S Fa Fz w0 w L) (j : Nat) (e0 e' : Ent) (hc : Chg (nth L j).at w w') (hat : ∀ q, e'.at q → ((nth L j).at q ∨ w.heap.size ≤ q) ∧ q < w'.heap.size) (h0 : ∀ q, ¬ e0.at q) (hk0 : e0.ok w' Fa Fz) (hok : e'.ok w' Fa Fz) :
    HpF S Fa Fz w0 w' (addE (setn L j e0) [e']) := by
  have hw := hc.size
  have hn : ∀ q, e'.at q → ¬ atL (setn L j .gone) q := fun q hq h2 => by
    rcases (hat q hq).1 with h | h
    · exact apt_nth j H.ap h h2
    · have := (H.ow q (atL_gone j h2)).2.1; omega
  have hg : ∀ q, atL (setn L j e0) q → atL (setn L j .gone) q := fun q h => (atL_set j h).elim (fun h => absurd h (h0 q)) id
  have h1 : ∀ q, atL [e'] q → e'.at q := fun q h => h.elim id fun h => h.elim
  refine ⟨H.chg.trans hc fun k hk hs => (H.ow k (atL_nth j hs)).1, H.hi, H.fa, fun q h => ⟨(H.fz q h).1, Nat.lt_of_lt_of_le (H.fz q h).2 hw⟩, fun q h => ?_,
    apt_app (apt_set j (apt_gone j H.ap) fun q hq => absurd hq (h0 q)) ⟨fun _ _ h => h, trivial⟩ (fun q h h2 => hn q (h1 q h2) (hg q h)), oks_app (oks_set j (oks_keep (oks_gone j H.ok) hc (fun q h h2 => apt_nth j H.ap h2 h) fun q h h2 => H.ro h (atL_nth j h2)) hk0) ⟨hok, trivial⟩⟩
  rcases atL_app h with h | h
  · have := H.ow q (atL_gone j (hg q h)); exact ⟨this.1, Nat.lt_of_lt_of_le this.2.1 hw, this.2.2⟩
  · obtain ⟨h3, h4⟩ := hat q (h1 q h)
    rcases h3 with h3 | h3
    · have := H.ow q (atL_nth j h3); exact ⟨this.1, h4, this.2.2⟩
    · exact ⟨H.hi q (Nat.le_trans H.chg.size h3), h4, fun h5 => by have := (H.fz q h5).2; omega⟩

/-- What has become of a slice that was appended to: it stays beside the new one, or the new one lies over it. -/
def Old {α : Type} (A : Option Addr) (c : Nat) (xs : List α) (A2 : Option Addr) (c2 : Nat) (xs2 : List α) (A' : Option Addr) (c' : Nat) : Prop := (A2 = A ∧ c2 = c ∧ xs2 = xs) ∨ (A2 = none ∧ c2 = 0 ∧ xs2 = [] ∧ A' = A ∧ c' = c)

theorem atL_two : ∀ {L : List Ent} (j k : Nat) {q : Nat}, atL (setn (setn L k .gone) j .gone) q → atL (setn L j .gone) q
  | [], _, _, _, h => h
  | _ :: _, 0, 0, _, h => h
  | _ :: _, 0, _ + 1, _, h => h.elim (fun h => h.elim) (fun h => .inr (atL_gone _ h))
  | _ :: _, _ + 1, 0, _, h => h.elim (fun h => h.elim) .inr
  | _ :: _, j + 1, k + 1, _, h => h.elim .inl (fun h => .inr (atL_two j k h))
theorem Hp.back {α : Type} {f : Bool} {d : Cod α} {e : TypeId} {A A2 A' : Option Addr} {c c2 c' : Nat} {xs ys xs2 : List α} (H : Hp S Fa w0 w L) (j k : Nat) (hj : nth L j = .row f d e A2 c2 xs2) (hk : nth L k = .row f d e A' c' (xs ++ ys)) (hO : Old A c xs A2 c2 xs2 A' c') :
    Hp S Fa w0 w (setn (setn L k .gone) j (.row f d e A c xs)) := by
  obtain ⟨Fz, H⟩ := H
  have hat : ∀ q, At A q → ((nth L j).at q ∨ (nth L k).at q) := fun q h => by
    rcases hO with ⟨rfl, _⟩ | ⟨_, _, _, rfl, _⟩
    · rw [hj]; exact .inl h
    · rw [hk]; exact .inr h
  have hn : ∀ q, At A q → ¬ atL (setn (setn L k .gone) j .gone) q := fun q h h2 => by
    rcases hat q h with h | h
    · exact apt_nth j H.ap h (atL_two j k h2)
    · exact apt_nth k H.ap h (atL_gone j h2)
  refine ⟨Fz, H.chg, H.hi, H.fa, H.fz, fun q h => ?_, apt_set j (apt_gone j (apt_gone k H.ap)) hn, oks_set j (oks_gone j (oks_gone k H.ok)) ?_⟩
  · rcases atL_set j h with h | h
    · rcases hat q h with h | h
      · exact H.ow q (atL_nth j h)
      · exact H.ow q (atL_nth k h)
    · exact H.ow q (atL_gone k (atL_gone j h))
  · have h1 := oks_nth j H.ok
    have h2 := oks_nth k H.ok
    rw [hj] at h1
    rw [hk] at h2
    rcases hO with ⟨rfl, rfl, rfl⟩ | ⟨_, _, _, rfl, rfl⟩
    · exact h1
    · obtain ⟨sp, h2⟩ := h2
      have := h2.take xs.length
      rw [List.take_left] at this
      exact ⟨_, this⟩
end
section
variable {P : Program} {T : List TRow} {w w' w0 : World} {a : Act} {n : Nat} {l l' : List (Nat × Value)} {ops : Array Oper} {Q : Exit → Act → World → Prop} {o : Oper} {rest : List Oper} {t e : TypeId} {S Fa : Nat → Prop} {L : List Ent}
theorem h_appendC {α : Type} (d : Cod α) {s x : Operand} {r : TRow} {A B : Option Addr} {c c2 : Nat} {xs ys : List α} {f : Bool} (z : α) (H : Hp S Fa w0 w L) (j : Nat) (hj : nth L j = .row f d e A c xs)
    (E : Fr a n l) (ho : o.op = .call { callee := .builtin .append, args := #[s, x], argTypes := #[t, t] }) (hw : want ops l o = some true)
    (hT : TbOk P T) (ht : tdesc T t = some (.slice e)) (he : tlk T e = some r) (hd : Nat.beq d.sz r.sz = true) (hs0 : Nat.blt 0 r.sz = true) (hb : Nat.ble r.by_ 140000 = true) (hK : ∀ w F, d.K w F z r.z.cells.toList)
    (hs : opv l s = some (.slice A xs.length c)) (hx : opv l x = some (.slice B ys.length c2)) (hy : ∀ Fz, HpF S Fa Fz w0 w L → Src d w (Fset Fa Fz f) B ys) (h63 : xs.length + ys.length ≤ 1000000000)
    (k1 : ∀ (w' : World) (A2 : Option Addr) (c2 : Nat) (xs2 : List α) (A' : Option Addr) (c' : Nat) (a' : Act), Chg (At A) w w' → (∀ q, At A' q → At A q ∨ w.heap.size ≤ q) → Old A c xs A2 c2 xs2 A' c' →
      Hp S Fa w0 w' (addE (setn L j (.row f d e A2 c2 xs2)) [.row f d e A' c' (xs ++ ys)]) → (∀ l', putE n l o.dst (.slice A' (xs ++ ys).length c') = some l' → Fr a' n l') → wpList P ops Q rest a' w') :
    wpList P ops Q (o :: rest) a w := by
  refine wpList_step fun K hK' => ?_
  rw [if_pos (want_spec E hw)]
  unfold Oper.wp
  obtain ⟨Fz, H⟩ := H
  have hk := oks_nth j H.ok
  rw [hj] at hk
  obtain ⟨sp, hk⟩ := hk
  obtain ⟨hu, i, hi, hsz, hbt, hzz⟩ := hT.row he
  have hd' := Nat.eq_of_beq_eq_true hd
  have hs0' : 0 < r.sz := by simp [Nat.blt] at hs0; omega
  have hk0 := hk
  obtain ⟨w', A', c', sp', hr, h1, h2, h3, h4⟩ := run_appendB (P := P) (ty := o.type) (c2 := c2) d (tdesc_row hT ht) hi hzz (by rw [hd', hsz]) (by rw [hd']; exact hs0') hK hk (hy Fz H) h63 (by rw [hbt]; exact Nat.le_of_ble_eq_true hb) (fun q hq => H.Fz_lt (Fset_or hq))
  have hrun : (execOp a.eval o).run P w = .ok (.value (.slice A' (xs ++ ys).length c')) w' := by
    unfold execOp
    simp only [ho, resolve, invoke, builtin, Sem.run_bind, Sem.run_pure, Result.andThen_ok, List.map_toArray, List.map_cons, List.map_nil, E.eval hs, E.eval hx, hr]
  rw [hrun]
  have hc' : Chg (nth L j).at w w' := by rw [hj]; exact h1
  rcases h4 with ⟨rfl, rfl⟩ | ⟨h4, h5⟩
  · exact hK' _ _ (k1 w' none 0 [] _ _ _ h1 h3 (.inr ⟨rfl, rfl, rfl, rfl, rfl⟩) ⟨Fz, H.putEnd j (.row f d e none 0 []) (.row f d e _ _ (xs ++ ys)) hc' (fun q hq => ⟨by rw [hj]; exact h3 q hq, (h2.lt q hq).1⟩) (fun q hq => At.nil q hq) ⟨[], .inl ⟨rfl, rfl, rfl, rfl⟩⟩ ⟨sp', h2⟩⟩ fun l' hl => putE_spec E hl)
  · have h6 := H.newF (.row f d e A' c' (xs ++ ys)) h4 (fun q hq => ⟨h5 q hq, (h2.lt q hq).1⟩) ⟨sp', h2⟩
    have e1 : setn L j (.row f d e A c xs) = L := by rw [← hj]; exact setn_nth L j
    exact hK' _ _ (k1 w' A c xs A' c' _ h1 h3 (.inl ⟨rfl, rfl, rfl⟩) (by rw [e1]; exact ⟨Fz, h6⟩) fun l' hl => putE_spec E hl)
end
end Go.V
