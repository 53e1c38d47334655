/- Small words of the printed walks. -/
import Derived.Test.YtflangjkfaalkaaVI
import Derived.Scope
import Derived.Test.YtflangjkfaalkaaTb
import Derived.Test.YtflangjkfaalkaaAN
set_option linter.all false
set_option linter.unusedVariables false
set_option linter.unnecessarySimpa false
set_option linter.unusedSimpArgs false
namespace Go.V
open Go Go.RowKit

/-! ### what a plain function asks -/
/-- asked for on the way -/
def ask (p : Prop) [Decidable p] {α : Type} (k : Option α) : Option α := if p then k else none
theorem ask_inv {p : Prop} [Decidable p] {α : Type} {k : Option α} {z : α} (h : ask p k = some z) : p ∧ k = some z := by
  unfold ask at h
  split at h
  · rename_i hp; exact ⟨hp, h⟩
  · cases h
theorem ask_pos {p : Prop} [Decidable p] {α : Type} {k : Option α} (h : p) : ask p k = k := by unfold ask; rw [if_pos h]
theorem ite_t {p : Prop} [Decidable p] {α : Type} {x y : Option α} {z : α} (h : p) (H : (if p then x else y) = some z) : x = some z := by rwa [if_pos h] at H
theorem ite_f {p : Prop} [Decidable p] {α : Type} {x y : Option α} {z : α} (h : ¬ p) (H : (if p then x else y) = some z) : y = some z := by rwa [if_neg h] at H
theorem bind_inv {α β : Type} {o : Option α} {f : α → Option β} {z : β} (h : Option.bind o f = some z) : ∃ x, o = some x ∧ f x = some z := by
  cases o with
  | none => cases h
  | some x => exact ⟨x, rfl, h⟩
theorem none_inv {α : Type} {z : α} {C : Prop} (h : (none : Option α) = some z) : C := by cases h

def in64 (x : Int) : Prop := -9223372036854775808 ≤ x ∧ x ≤ 9223372036854775807
instance (x : Int) : Decidable (in64 x) := inferInstanceAs (Decidable (_ ∧ _))
theorem wrap_in {x : Int} (h : in64 x) : IntKind.i64.wrap x = x := wrap_i64 h.1 h.2
theorem neg_in {x : Int} (h : in64 (-x)) : IntKind.i64.wrap (0 - x) = -x := by rw [Int.zero_sub]; exact wrap_in h
def idx (i : Int) (n : Nat) : Prop := 0 ≤ i ∧ i < (n : Int)
instance (i : Int) (n : Nat) : Decidable (idx i n) := inferInstanceAs (Decidable (_ ∧ _))
theorem idx_pos {i : Int} {n : Nat} (h : idx i n) : 0 < n := by unfold idx at h; omega
def shlV (k : IntKind) (a b : Int) : Int := k.wrap (a * 2 ^ (min b.toNat k.bits))
def shrV (k : IntKind) (a b : Int) : Int := a.fdiv (2 ^ (min b.toNat k.bits))
def andV (k : IntKind) (a b : Int) : Int := k.wrap (BitVec.ofInt k.bits a &&& BitVec.ofInt k.bits b).toNat
def orV (k : IntKind) (a b : Int) : Int := k.wrap (BitVec.ofInt k.bits a ||| BitVec.ofInt k.bits b).toNat
def xorV (k : IntKind) (a b : Int) : Int := k.wrap (BitVec.ofInt k.bits a ^^^ BitVec.ofInt k.bits b).toNat
def andNotV (k : IntKind) (a b : Int) : Int := k.wrap (BitVec.ofInt k.bits a &&& ~~~ BitVec.ofInt k.bits b).toNat
def notV (k : IntKind) (a : Int) : Int := k.wrap (BitVec.ofInt k.bits (if k.signed then -1 else k.max) ^^^ BitVec.ofInt k.bits a).toNat

/-- plain operations, in one step -/
theorem vr {P : Program} {T : List TRow} {w : World} {a : Act} {n : Nat} {l : List (Nat × Value)} {ops : Array Oper} {Q : Exit → Act → World → Prop} (hT : TbOk P T) (k : Nat) (hs : List Value) {L : List Oper} (lp : List (Nat × Value)) (φ : List Prop) (E : Fr a n l) (h : runS T w ops n k hs (lp.map Prod.fst) L l = some (lp, φ)) (hφ : AllP φ)
    (hk : ∀ a', Fr a' n lp → wpList P ops Q (L.drop k) a' w) : wpList P ops Q L a w := vrun hT k hs (lp.map Prod.fst) E h hφ hk
theorem dr {P : Program} {T : List TRow} {w : World} {a : Act} {n : Nat} {l : List (Nat × Value)} {ops : Array Oper} {Q : Exit → Act → World → Prop} {S : World → Prop} (hT : TbOk P T) (hs0 : Region.noSelect ops = true) (is : List Nat) (hs : List Value) (lp : List (Nat × Value)) (φ : World → List Prop) (fuel : Nat) {listed : Array Bool} (E : Fr a n l)
    (h : ∀ w', S w' → runHS T w' ops n is hs (lp.map Prod.fst) l = some (lp, φ w')) (hφ : ∀ w', S w' → AllP (φ w')) (hok : okOrder ops is listed = true) (hS : S w)
    (hk : ∀ a', Fr a' n lp → wpAnyH P .any ops (NoPanic Q) S fuel (listAll is listed) a' w) : wpAnyH P .any ops (NoPanic Q) S (fuel + is.length) listed a w := drun hT hs0 is hs (lp.map Prod.fst) φ E h hφ hok hS hk

/-! ### control -/
section
variable {P : Program} {a : Act} {w : World} {Q : Exit → Act → World → Prop} {c : Code}
/-- a loop, and what holds where it is left -/
theorem loop_cut (M : Nat → Act → World → Prop) (h : (Code.loop c).wp P (fun e a w => (∃ i, e = .exit i ∧ M i a w) ∨ (e = .ret ∧ Q .ret a w)) a w) (k : ∀ i a w, M i a w → Q (.exit i) a w) : (Code.loop c).wp P Q a w :=
  wp_mono h fun e a w q => by
    rcases q with ⟨i, rfl, q⟩ | ⟨rfl, q⟩
    · exact k i a w q
    · exact q
/-- ways that meet -/
theorem meet_cut (M : Act → World → Prop) (h : c.wp P (fun e a w => (e = .normal ∧ M a w) ∨ (e ≠ .normal ∧ Q e a w)) a w) (k : ∀ a w, M a w → Q .normal a w) : c.wp P Q a w :=
  wp_mono h fun e a w q => by
    rcases q with ⟨rfl, q⟩ | ⟨_, q⟩
    · exact k a w q
    · exact q
end
section
variable {P : Program} {T : List TRow} {w : World} {a : Act} {n : Nat} {l l' : List (Nat × Value)} {ops : Array Oper} {Q : Exit → Act → World → Prop} {o : Oper} {rest : List Oper}
theorem equal_nil {t e : TypeId} {A : Option Addr} {m c : Nat} (h : P.underlying t = some (.slice e)) : (Op.equal t (.slice A m c) (.slice none 0 0)).run P w = .ok A.isNone w := by
  unfold Op.equal
  rw [show Op.maxDepth = 9999 + 1 from rfl]
  unfold Op.equalIn
  cases A <;> simp [run_underlying h]
theorem e_eqNil {x y : Operand} {t ty e : TypeId} {A : Option Addr} {m c : Nat} (E : Fr a n l) (ho : o.op = .binOp .eql t x y ty) (hw : want ops l o = some true) (hT : TbOk P T) (ht : tdesc T t = some (.slice e)) (hx : opv l x = some (.slice A m c)) (hy : opv l y = some (.slice none 0 0))
    (hl : putE n l o.dst (.bool A.isNone) = some l') (k : ∀ a', Fr a' n l' → wpList P ops Q rest a' w) : wpList P ops Q (o :: rest) a w := by
  refine step_val E hw ?_ hl k
  have hg : (eqGuard .eql t x y (.slice A m c) (.slice none 0 0)).run P w = .ok () w := by
    unfold eqGuard
    split <;> simp
  simp [execOp, ho, E.eval hx, E.eval hy, hg, binOp, equal_nil (w := w) (tdesc_row hT ht), Result.andThen]
theorem e_eqNilN {x y : Operand} {t ty e : TypeId} {A : Option Addr} {m c : Nat} (E : Fr a n l) (ho : o.op = .binOp .neq t x y ty) (hw : want ops l o = some true) (hT : TbOk P T) (ht : tdesc T t = some (.slice e)) (hx : opv l x = some (.slice A m c)) (hy : opv l y = some (.slice none 0 0))
    (hl : putE n l o.dst (.bool (!A.isNone)) = some l') (k : ∀ a', Fr a' n l' → wpList P ops Q rest a' w) : wpList P ops Q (o :: rest) a w := by
  refine step_val E hw ?_ hl k
  have hg : (eqGuard .neq t x y (.slice A m c) (.slice none 0 0)).run P w = .ok () w := by
    unfold eqGuard
    split <;> simp
  simp [execOp, ho, E.eval hx, E.eval hy, hg, binOp, equal_nil (w := w) (tdesc_row hT ht), Result.andThen]
theorem e_makeFunc {f : FuncId} {cap : Array Operand} {vs : List Value} (E : Fr a n l) (ho : o.op = .makeFunc (.func f) #[] cap) (hw : want ops l o = some true) (hv : opvs l cap.toList = some vs)
    (hl : putE n l o.dst (.func (.func f) #[] vs.toArray) = some l') (k : ∀ a', Fr a' n l' → wpList P ops Q rest a' w) : wpList P ops Q (o :: rest) a w := by
  refine step_val E hw ?_ hl k
  have hm : cap.map a.eval = vs.toArray := by
    apply Array.ext'
    simpa using opvs_eval E hv
  simp [execOp, ho, Instr.makeFunc, hm, Result.andThen]
def minL (x : Int) : List Int → Int
  | [] => x
  | y :: r => minL (if y < x then y else x) r
def maxL (x : Int) : List Int → Int
  | [] => x
  | y :: r => maxL (if x < y then y else x) r
theorem run_min {k : IntKind} : ∀ (r : List Int) (x : Int), ((r.map (Value.int k)).foldlM Builtin.min2 (Value.int k x)).run P w = .ok (.int k (minL x r)) w
  | [], x => rfl
  | y :: r, x => by
    rw [List.map_cons, List.foldlM_cons]
    simp only [Builtin.min2, Sem.run_bind, Sem.run_pure, Result.andThen_ok]
    exact run_min r _
theorem run_max {k : IntKind} : ∀ (r : List Int) (x : Int), ((r.map (Value.int k)).foldlM Builtin.max2 (Value.int k x)).run P w = .ok (.int k (maxL x r)) w
  | [], x => rfl
  | y :: r, x => by
    rw [List.map_cons, List.foldlM_cons]
    simp only [Builtin.max2, Sem.run_bind, Sem.run_pure, Result.andThen_ok]
    exact run_max r _
theorem e_max {k : IntKind} {xo : List Operand} {tys : Array TypeId} {x : Int} {xs : List Int} (E : Fr a n l) (ho : o.op = .call { callee := .builtin .max, args := xo.toArray, argTypes := tys }) (hw : want ops l o = some true)
    (hx : opvs l xo = some (.int k x :: xs.map (.int k))) (hl : putE n l o.dst (.int k (maxL x xs)) = some l') (k : ∀ a', Fr a' n l' → wpList P ops Q rest a' w) : wpList P ops Q (o :: rest) a w := by
  refine step_val E hw ?_ hl k
  have hm : (xo.map a.eval) = _ := opvs_eval E hx
  simp only [execOp, ho, resolve, invoke, builtin, Builtin.max_, Sem.run_bind, Sem.run_pure, Result.andThen_ok, Array.toList_map, List.map_toArray]
  simp only [hm, run_max, Sem.run_bind, Sem.run_pure, Result.andThen_ok]
theorem e_min {k : IntKind} {xo : List Operand} {tys : Array TypeId} {x : Int} {xs : List Int} (E : Fr a n l) (ho : o.op = .call { callee := .builtin .min, args := xo.toArray, argTypes := tys }) (hw : want ops l o = some true)
    (hx : opvs l xo = some (.int k x :: xs.map (.int k))) (hl : putE n l o.dst (.int k (minL x xs)) = some l') (k : ∀ a', Fr a' n l' → wpList P ops Q rest a' w) : wpList P ops Q (o :: rest) a w := by
  refine step_val E hw ?_ hl k
  have hm : (xo.map a.eval) = _ := opvs_eval E hx
  simp only [execOp, ho, resolve, invoke, builtin, Builtin.min_, Sem.run_bind, Sem.run_pure, Result.andThen_ok, Array.toList_map, List.map_toArray]
  simp only [hm, run_min, Sem.run_bind, Sem.run_pure, Result.andThen_ok]
end
theorem all4 {p : Nat → Prop} {i j m q : Nat} (h : p i) (h2 : p j) (h3 : p m) (h4 : p q) : ∀ k ∈ [i, j, m, q], p k := fun k hk => by
  simp at hk
  rcases hk with rfl | rfl | rfl | rfl
  · exact h
  · exact h2
  · exact h3
  · exact h4
theorem ng_n {Q : Exit → Act → World → Prop} {a : Act} {w : World} (h : Q .normal a w) : Exit.noGoto Q .normal a w := h
theorem ng_ret {Q : Exit → Act → World → Prop} {a : Act} {w : World} (h : Q .ret a w) : Exit.noGoto Q .ret a w := h
theorem ng_exit {Q : Exit → Act → World → Prop} {a : Act} {w : World} {i : Nat} (h : Q (.exit i) a w) : Exit.noGoto Q (.exit i) a w := h
theorem elim_l {α β τ : Type} {f : α → Option τ} {g : β → Option τ} {v : α} {z : τ} (h : Sum.elim f g (.inl v) = some z) : f v = some z := h
theorem elim_r {α β τ : Type} {f : α → Option τ} {g : β → Option τ} {v : β} {z : τ} (h : Sum.elim f g (.inr v) = some z) : g v = some z := h

/-! ### structs that lead to more -/
def cPr {α β : Type} (d1 : Cod α) (d2 : Cod β) : Cod (α × β) where
  sz := d1.sz + d2.sz
  K := fun w F x cs => ∃ c1 c2, cs = c1 ++ c2 ∧ d1.K w F x.1 c1 ∧ d2.K w F x.2 c2
  len := fun ⟨c1, c2, e, h1, h2⟩ => by rw [e, List.length_append, d1.len h1, d2.len h2]
  mono := fun hF ⟨c1, c2, e, h1, h2⟩ => ⟨c1, c2, e, d1.mono hF h1, d2.mono hF h2⟩
  keep := fun hc hF ⟨c1, c2, e, h1, h2⟩ => ⟨c1, c2, e, d1.keep hc hF h1, d2.keep hc hF h2⟩
  one := fun ⟨c1, c2, e, h1, h2⟩ u hu => by
    rw [e] at hu
    rcases List.mem_append.1 hu with hu | hu
    · exact d1.one h1 u hu
    · exact d2.one h2 u hu
def cPt {α : Type} (d : Cod α) : Cod α where
  sz := 1
  K := fun w F x cs => ∃ b o, cs = [.pointer (some ⟨b, o, none⟩)] ∧ C d w F (some ⟨b, o, none⟩) [x]
  len := fun ⟨_, _, e, _⟩ => by rw [e]; rfl
  mono := fun hF ⟨b, o, e, h⟩ => ⟨b, o, e, h.mono hF⟩
  keep := fun hc hF ⟨b, o, e, h⟩ => ⟨b, o, e, h.keep hc hF⟩
  one := fun ⟨_, _, e, _⟩ u hu => by rw [e] at hu; simp at hu; subst hu; rfl
theorem idx_one {α : Type} (x : α) : idx 0 [x].length := ⟨Int.le_refl 0, show (0 : Int) < ((1 : Nat) : Int) by decide⟩
theorem Hp.frzbox {α : Type} {S Fa : Nat → Prop} {w0 w : World} {L : List Ent} (d : Cod α) (f : Bool) (x : α) (H : Hp S Fa w0 w L) (j : Nat) {g : Nat} {t : TypeId} {cs : List Value} (h : nth L j = .box g t cs) (hk : ∀ Fz, HpF S Fa Fz w0 w L → d.K w (Fset Fa Fz f) x cs) : Hp S Fa w0 w (setn L j (.ro f d (some ⟨g, 0, none⟩) [x])) := by
  obtain ⟨Fz, H⟩ := H
  have hA : ∀ q, q = g → atL L q := fun q hq => atL_nth j (by rw [h]; exact hq)
  have hF : ∀ f q, Fset Fa Fz f q → Fset Fa (fun q => Fz q ∨ q = g) f q := fun f q hq => by
    cases f with
    | true => exact .inl hq
    | false => exact hq.imp id .inl
  have hnA : ∀ q, atL (setn L j .gone) q → ¬ q = g := fun q hq h2 => apt_nth j H.ap (by rw [h]; exact h2) hq
  refine ⟨fun q => Fz q ∨ q = g, H.chg, H.hi, H.fa, fun q hq => hq.elim (H.fz q) fun hq => ⟨(H.ow q (hA q hq)).1, (H.ow q (hA q hq)).2.1⟩, fun q hq => ?_, apt_set j (apt_gone j H.ap) (fun _ h => h.elim), oks_set j (oks_mono (oks_gone j H.ok) hF fun f q hq h2 => ?_) ?_⟩
  · rcases atL_set j hq with hq | hq
    · exact hq.elim
    · have := H.ow q (atL_gone j hq)
      exact ⟨this.1, this.2.1, fun h => h.elim this.2.2 (hnA q hq)⟩
  · rcases Fset_or h2 with h3 | h3 | h3
    · exact H.ro (.inl h3) (atL_gone j hq)
    · exact H.ro (.inr h3) (atL_gone j hq)
    · exact hnA q hq h3
  · have hb := oks_nth j H.ok
    rw [h] at hb
    refine ⟨cs, ⟨cs, [], by simp, d.mono (hF f) (hk Fz H), rfl⟩, fun _ => ⟨g, 0, rfl, ?_⟩, fun b o e => by cases e; exact Bx.cells hb⟩
    cases f with
    | true => exact .inr rfl
    | false => exact .inr (.inr rfl)
def cStr : Cod ByteArray := Cod.plain 1 (fun x => [.string x]) (fun _ => rfl) (fun _ => rfl)
def cFl : Cod Nat := Cod.plain 1 (fun x => [.float .f64 x]) (fun _ => rfl) (fun _ => rfl)
theorem kSl_nil {α : Type} {d : Cod α} {w : World} {F : Nat → Prop} : (cSl d).K w F [] [.slice none 0 0] := ⟨none, 0, rfl, Nat.le_refl _, C.nil _ _ _⟩
theorem not_f' {b : Bool} (h : b = false) : (!b) = true := by rw [h]; rfl
theorem not_t' {b : Bool} (h : b = true) : (!b) = false := by rw [h]; rfl
theorem cut_all (n : Nat) : 0 ≤ ((n : Nat) : Int) ∧ ((n : Nat) : Int) ≤ ((n : Nat) : Int) := by omega
theorem cut_le {h : Int} {n c : Nat} (g : 0 ≤ h ∧ h ≤ (n : Int)) (hc : n ≤ c) : 0 ≤ h ∧ h ≤ (c : Int) := by omega
theorem take_le {α : Type} {xs : List α} {c : Nat} (N : Nat) (h : xs.length ≤ c) : (xs.take N).length ≤ c := by simp; omega
theorem take_len {α : Type} {xs : List α} {h : Int} (g : 0 ≤ h ∧ h ≤ (xs.length : Int)) : h.toNat = (xs.take h.toNat).length := by simp; omega
end Go.V
