/- Soundness of the plain operations. -/
import Derived.Test.YtflangjkfaalkaaV0
set_option linter.all false
set_option linter.unusedVariables false
set_option linter.unnecessarySimpa false
set_option linter.unusedSimpArgs false
namespace Go.V
open Go
section
variable {P : Program} {T : List TRow} {w : World} {l : List (Nat × Value)} {ρ : Operand → Value}

theorem tdesc_row {t : TypeId} {d : TypeDesc} (hT : TbOk P T) (h : tdesc T t = some d) : P.underlying t = some d := by
  unfold tdesc at h
  split at h
  · rename_i r hr; simp at h; subst h; exact (hT.row hr).1
  · cases h

theorem tsz_row {t : TypeId} {s : Nat} (hT : TbOk P T) (h : tsz T t = some s) : ∃ i, P.info? t = some i ∧ i.size = s := by
  unfold tsz at h
  split at h
  · rename_i r hr; simp at h; subst h; obtain ⟨_, i, hi, hs, _⟩ := hT.row hr; exact ⟨i, hi, hs⟩
  · cases h

theorem run_sizeOf' {t : TypeId} {s : Nat} (hT : TbOk P T) (h : tsz T t = some s) : (sizeOf t).run P w = .ok s w := by
  obtain ⟨i, hi, hs⟩ := tsz_row hT h
  simp [sizeOf, typeInfo, hi, hs]

theorem binV_run {op : BinOp} {t : TypeId} {x y h v : Value} {φ : Prop} (hT : TbOk P T) (hb : binV T op t x y h = some (v, φ)) (hφ : φ) (X Y : Operand) :
    (do eqGuard op t X Y x y; binOp op t x y : Sem Value).run P w = .ok v w := by
  unfold binV at hb
  split at hb
  · rename_i k a k' b
    have hg : (eqGuard op t X Y (.int k a) (.int k' b)).run P w = .ok () w := by
      unfold eqGuard
      split <;> simp
    have key : (binOp op t (.int k a) (.int k' b)).run P w = .ok v w := by
      split at hb
      · split at hb
        · split at hb
          · rename_i k'' r he
            cases hb
            obtain ⟨h1, h2⟩ := hφ
            have h1' : ¬ b < 0 := by omega
            simp [binOp, Op.shift, h1', h2]
          · cases hb
        · cases hb
      · split at hb
        · split at hb
          · rename_i k'' r he
            cases hb
            obtain ⟨h1, h2⟩ := hφ
            have h1' : ¬ b < 0 := by omega
            simp [binOp, Op.shift, h1', h2]
          · cases hb
        · cases hb
      · rename_i hn1 hn2
        split at hb
        · rename_i hk
          subst hk
          split at hb
          · split at hb
            · split at hb
              · rename_i he; cases hb; simp [binOp, Op.intArith, hφ]
              · cases hb
            · cases hb
          · split at hb
            · split at hb
              · rename_i he; cases hb; simp [binOp, Op.intArith, hφ]
              · cases hb
            · cases hb
          · split at hb
            · split at hb
              · rename_i he; cases hb; simp [binOp, Op.intArith, hφ]
              · cases hb
            · cases hb
          · split at hb
            · split at hb
              · rename_i he; cases hb; simp [binOp, Op.intDiv, hφ.1, hφ.2]
              · cases hb
            · cases hb
          · split at hb
            · split at hb
              · rename_i he; cases hb; simp [binOp, Op.intDiv, hφ.1, hφ.2]
              · cases hb
            · cases hb
          all_goals first
            | (split at hb
               · rename_i hq
                 split at hb
                 · rename_i he; cases hb; subst hφ; simp [bitsV] at hq; subst hq; simp [binOp, Op.intBits]
                 · cases hb
               · cases hb)
            | skip
          · rename_i n1 n2 n3 n4 n5 n6 n7 n8 n9
            cases op <;> simp [cmpV] at hb <;> first | (exact absurd rfl n1) | (exact absurd rfl n2) | (exact absurd rfl n3) | (exact absurd rfl n4) | (exact absurd rfl n5) | (obtain ⟨rfl, _⟩ := hb; simp [binOp, Op.intCmp])
        · cases hb
    simp [hg, key, Result.andThen]
  · rename_i k a k' b
    split at hb
    · rename_i hk
      subst hk
      have hg : (eqGuard op t X Y (.float k a) (.float k b)).run P w = .ok () w := by
        unfold eqGuard
        split <;> simp
      have key : (binOp op t (.float k a) (.float k b)).run P w = .ok v w := by
        unfold floatV at hb
        split at hb
        · rename_i q hq
          split at hb
          · split at hb
            · rename_i he; cases hb; unfold floatA at hq
              cases op <;> simp at hq <;> subst hq <;> simp [binOp, Op.floatArith, hφ]
            · cases hb
          · cases hb
        · rename_i hq
          unfold floatC at hb
          cases op <;> simp [floatA] at hq <;> simp at hb <;> obtain ⟨rfl, _⟩ := hb <;> simp [binOp, Op.floatCmp]
      simp [hg, key, Result.andThen]
    · cases hb
  · rename_i a b
    have hg : (eqGuard op t X Y (.bool a) (.bool b)).run P w = .ok () w := by
      unfold eqGuard
      split <;> simp
    have he : ∀ h : P.underlying t = some .bool, (Op.equal t (.bool a) (.bool b)).run P w = .ok (a == b) w := by
      intro h
      unfold Op.equal
      rw [show Op.maxDepth = 9999 + 1 from rfl]
      unfold Op.equalIn
      simp [run_underlying h]
    split at hb
    · rename_i hd; cases hb
      have := he (tdesc_row hT hd)
      simp [hg, binOp, this, Result.andThen]
    · rename_i hd; cases hb
      have := he (tdesc_row hT hd)
      simp [hg, binOp, this, Result.andThen]
    · cases hb
  · rename_i a
    have hg : (eqGuard op t X Y (.pointer a) (.pointer none)).run P w = .ok () w := by
      unfold eqGuard
      split <;> simp
    have he : ∀ e, P.underlying t = some (.pointer e) → (Op.equal t (.pointer a) (.pointer none)).run P w = .ok a.isNone w := by
      intro e h
      unfold Op.equal
      rw [show Op.maxDepth = 9999 + 1 from rfl]
      unfold Op.equalIn
      cases a <;> simp [run_underlying h]
    split at hb
    · rename_i hd; cases hb
      have := he _ (tdesc_row hT hd)
      cases a <;> simp [hg, binOp, this, Result.andThen]
    · rename_i hd; cases hb
      have := he _ (tdesc_row hT hd)
      cases a <;> simp [hg, binOp, this, Result.andThen]
    · cases hb
  · rename_i a
    have hg : (eqGuard op t X Y (.map a) (.map none)).run P w = .ok () w := by
      unfold eqGuard
      split <;> simp
    have he : ∀ k e, P.underlying t = some (.map k e) → (Op.equal t (.map a) (.map none)).run P w = .ok a.isNone w := by
      intro k e h
      unfold Op.equal
      rw [show Op.maxDepth = 9999 + 1 from rfl]
      unfold Op.equalIn
      cases a <;> simp [run_underlying h]
    split at hb
    · rename_i hd; cases hb
      have := he _ _ (tdesc_row hT hd)
      cases a <;> simp [hg, binOp, this, Result.andThen]
    · rename_i hd; cases hb
      have := he _ _ (tdesc_row hT hd)
      cases a <;> simp [hg, binOp, this, Result.andThen]
    · cases hb
  · cases hb

theorem run_sliceBound {k : IntKind} {i : Int} {y : Nat} {c : BoundsCode} (h0 : 0 ≤ i) (h1 : i ≤ y) : (Instr.sliceBound (.int k i) y c).run P w = .ok i.toNat w := by
  simp [Instr.sliceBound, asIntOf, h0, h1]

theorem cutV_run {t e : TypeId} {s : Nat} {a : Option Addr} {n c : Nat} {lo hi : Option Value} {v : Value} {φ : Prop} (hT : TbOk P T) (ht : tdesc T t = some (.slice e)) (hs : tsz T e = some s)
    (hc : cutV s a n c lo hi = some (v, φ)) (hφ : φ) : (Instr.sliceAt t (.slice a n c) lo hi none).run P w = .ok v w := by
  have hu := tdesc_row hT ht
  have hz := run_sizeOf' (w := w) hT hs
  unfold Instr.sliceAt Instr.slice
  unfold cutV at hc
  split at hc
  · cases hc
    simp [run_underlying hu, Instr.sliceBounds, hz, Result.andThen]
    intro h
    cases a <;> simp [Addr.add]
  · cases hc
    obtain ⟨h0, h1⟩ := hφ
    simp [run_underlying hu, Instr.sliceBounds, run_sliceBound h0 h1, hz, Result.andThen]
    intro h
    cases a <;> simp [Addr.add]
  · cases hc
    obtain ⟨h0, h1⟩ := hφ
    simp [run_underlying hu, Instr.sliceBounds, run_sliceBound h0 h1, hz, Result.andThen, cutAddr]
  · cases hc
    obtain ⟨h0, h1, h2, h3⟩ := hφ
    rename_i k1 l1 k2 h1'
    have h3' : l1 ≤ ((h1'.toNat : Nat) : Int) := by omega
    simp [run_underlying hu, Instr.sliceBounds, run_sliceBound h0 h1, run_sliceBound h2 h3', hz, Result.andThen, cutAddr]
  · cases hc

theorem fieldPlace_run {b o : Nat} {f : Field} {s : Nat} (hT : TbOk P T) (h : tsz T f.type = some (s + 1)) : (fieldPlace ⟨b, o, none⟩ f).run P w = .ok ⟨b, o + f.offset, none⟩ w := by
  have := run_sizeOf' (w := w) hT h
  unfold fieldPlace
  simp [this, Result.andThen, Addr.add]

theorem add_none (b o k : Nat) : (⟨b, o, none⟩ : Addr).add k = ⟨b, o + k, none⟩ := by
  unfold Addr.add
  split
  · rename_i h; subst h; rfl
  · rfl

theorem plainV_run {o : Oper} {h v : Value} {φ : Prop} (hT : TbOk P T) (hρ : ∀ x u, opv l x = some u → ρ x = u) (hp : plainV T w l o.op h = some (v, φ)) (hφ : φ) : (execOp ρ o).run P w = .ok (.value v) w := by
  obtain ⟨dst, op, type, pos, after, guard⟩ := o
  dsimp only at hp
  unfold plainV at hp
  split at hp
  · cases hx : opv l _ with
    | none => rw [hx] at hp; cases hp
    | some u => rw [hx] at hp; cases hp; simp [execOp, hρ _ _ hx]
  · cases hx : opv l _ with
    | none => rw [hx] at hp; cases hp
    | some u => rw [hx] at hp; cases hp; simp [execOp, hρ _ _ hx]
  · rename_i c x y
    split at hp
    · rename_i hc
      cases hx : opv l x with
      | none => rw [hx] at hp; cases hp
      | some u => rw [hx] at hp; cases hp; simp [execOp, hρ _ _ hx, hρ _ _ hc, asBool]
    · rename_i hc
      cases hx : opv l y with
      | none => rw [hx] at hp; cases hp
      | some u => rw [hx] at hp; cases hp; simp [execOp, hρ _ _ hx, hρ _ _ hc, asBool]
    · cases hp
  · rename_i x
    split at hp
    · rename_i hx; cases hp; simp [execOp, hρ _ _ hx]
    · cases hp
  · rename_i op t x y yt
    split at hp
    · rename_i u v' hx hy
      have := binV_run hT hp hφ x y (w := w)
      simp only [execOp, hρ _ _ hx, hρ _ _ hy]
      rw [Sem.run_bind, this]
      simp [Result.andThen]
    · cases hp
  · rename_i op t x
    split at hp
    · rename_i hx; cases hp; simp [execOp, hρ _ _ hx, Op.unary]
    · rename_i hx
      split at hp
      · split at hp
        · rename_i he; cases hp; simp [execOp, hρ _ _ hx, Op.unary, Op.intArith]; simpa using hφ
        · cases hp
      · cases hp
    · rename_i hx
      split at hp
      · split at hp
        · rename_i he; cases hp; simp [execOp, hρ _ _ hx, Op.unary, Op.intBits]; simpa using hφ
        · cases hp
      · cases hp
    · cases hp
  · rename_i s d x
    split at hp
    · rename_i hx hs hd
      split at hp
      · rename_i he
        cases hp
        have h1 := (hT.row hs).1
        have h2 := tdesc_row hT hd
        simp [execOp, hρ _ _ hx, convert, run_underlying h1, run_underlying h2, Conv.intToInt, hφ]
      · cases hp
    · rename_i hx hs hd
      split at hp
      · rename_i he
        cases hp
        have h1 := (hT.row hs).1
        have h2 := tdesc_row hT hd
        simp [execOp, hρ _ _ hx, convert, run_underlying h1, run_underlying h2, Conv.intToFloat, hφ]
      · cases hp
    · cases hp
  · rename_i s x f
    split at hp
    · rename_i b o fs hx hs
      split at hp
      · rename_i fd hf
        split at hp
        · rename_i sz hz
          cases hp
          have h1 := tdesc_row hT hs
          simp [execOp, hρ _ _ hx, Instr.fieldAt, run_underlying h1, hf, Instr.sureAddr, fieldPlace_run hT hz, Result.andThen]
        · cases hp
      · cases hp
    · cases hp
  · rename_i t x i
    split at hp
    · rename_i b o n c k j e hx hi ht
      split at hp
      · rename_i s hs
        cases hp
        have h1 := tdesc_row hT ht
        have h2 := run_sizeOf' (w := w) hT hs
        simp [execOp, hρ _ _ hx, hρ _ _ hi, Instr.indexAt, asIntOf, run_underlying h1, hφ.1, hφ.2, h2, Result.andThen, add_none]
      · cases hp
    · rename_i b o k j n e hx hi ht
      split at hp
      · rename_i s hs
        cases hp
        have h1 := tdesc_row hT ht
        have h2 := run_sizeOf' (w := w) hT hs
        simp [execOp, hρ _ _ hx, hρ _ _ hi, Instr.indexAt, asIntOf, run_underlying h1, Instr.sureAddr, hφ.1, hφ.2, h2, Result.andThen, add_none]
      · cases hp
    · cases hp
  · rename_i t x
    split at hp
    · rename_i b o r hx hr
      have h1 := (hT.row hr).1
      obtain ⟨i, hi, hsz, _⟩ := (hT.row hr).2
      cases hg : isAggD r.d with
      | true =>
        rw [hg] at hp
        simp only [cond_true] at hp
        split at hp
        · rename_i cs
          cases hq : Nat.beq cs.size r.sz with
          | false => rw [hq] at hp; cases hp
          | true =>
            rw [hq] at hp
            cases hp
            have hq' := Nat.eq_of_beq_eq_true hq
            have hag : (isAgg t).run P w = .ok true w := by
              unfold isAgg
              simp [run_underlying h1, Result.andThen]
              unfold isAggD at hg
              split at hg <;> simp_all
            have hl := run_loadCells_list (P := P) (w := w) ⟨b, o, none⟩ cs.toList (fun j u hj => by rw [add_none]; exact hφ.get j u hj)
            have hs : (sizeOf t).run P w = .ok cs.size w := by simp [sizeOf, typeInfo, hi, hsz, hq']
            simp [execOp, hρ _ _ hx, Instr.loadAt, Instr.sureAddr, loadVar, hag, hs, Result.andThen]
            simp at hl
            rw [hl]
        · cases hp
      | false =>
        rw [hg] at hp
        simp only [cond_false] at hp
        cases hp
        have hag : (isAgg t).run P w = .ok false w := by
          unfold isAgg
          simp [run_underlying h1, Result.andThen]
          unfold isAggD at hg
          split <;> simp_all
        simp [execOp, hρ _ _ hx, Instr.loadAt, Instr.sureAddr, loadVar, hag, Result.andThen, load, Sem.run, hφ]
    · cases hp
  · rename_i x i
    split at hp
    · rename_i vs hx
      cases hv : vs[i]? with
      | none => rw [hv] at hp; cases hp
      | some u => rw [hv] at hp; cases hp; simp [execOp, hρ _ _ hx, Instr.extract, hv]
    · cases hp
  · rename_i t x lo hi
    split at hp
    · rename_i a n c e hx ht
      split at hp
      · rename_i s lo' hi' hs hlo hhi
        have e1 : lo.map ρ = lo' := by
          cases lo with
          | none => simp at hlo; subst hlo; rfl
          | some y =>
            cases hy : opv l y with
            | none => simp [hy] at hlo
            | some u => simp [hy] at hlo; subst hlo; simp [hρ _ _ hy]
        have e2 : hi.map ρ = hi' := by
          cases hi with
          | none => simp at hhi; subst hhi; rfl
          | some y =>
            cases hy : opv l y with
            | none => simp [hy] at hhi
            | some u => simp [hy] at hhi; subst hhi; simp [hρ _ _ hy]
        have := cutV_run (w := w) hT ht hs hp hφ
        simp only [execOp, hρ _ _ hx, e1, e2]
        rw [Sem.run_bind, show (Option.map ρ none) = none from rfl, this]
        simp [Result.andThen]
      · cases hp
    · cases hp
  · rename_i c
    obtain ⟨callee, args, argTypes⟩ := c
    dsimp only at hp
    split at hp
    · rename_i x t hargs htys
      have ha : args = #[x] := by rw [← hargs]
      have ht' : argTypes = #[t] := by rw [← htys]
      subst ha ht'
      split at hp
      · rename_i hx ht
        cases hp
        have h1 := tdesc_row hT ht
        simp [execOp, resolve, invoke, builtin, hρ _ _ hx, Builtin.len_, run_underlying h1, Result.andThen, goInt]
      · rename_i hx ht
        cases hp
        have h1 := tdesc_row hT ht
        simp [execOp, resolve, invoke, builtin, hρ _ _ hx, Builtin.len_, run_underlying h1, Result.andThen, goInt]
      · cases hp
    · rename_i x t hargs htys
      have ha : args = #[x] := by rw [← hargs]
      have ht' : argTypes = #[t] := by rw [← htys]
      subst ha ht'
      split at hp
      · rename_i hx ht
        cases hp
        have h1 := tdesc_row hT ht
        simp [execOp, resolve, invoke, builtin, hρ _ _ hx, Builtin.cap_, run_underlying h1, Result.andThen, goInt]
      · cases hp
    · cases hp
  · cases hp
end
end Go.V
