/- A small calculus for walks: frames as lists of the slots that are known; a region's plain operations in one step, by computation. -/
import Derived.WalkKit
import Derived.ProofKit
import Derived.OpenShut
import Derived.Still
import Derived.StillTail
import Derived.Deep.LoopGhost
import Derived.Deep.Quiet
import Derived.KernelRfl
set_option linter.all false
set_option linter.unusedVariables false
set_option linter.unnecessarySimpa false
set_option linter.unusedSimpArgs false
namespace Go.V
open Go

/-! ### frames -/
def lkp : List (Nat × Value) → Nat → Option Value
  | [], _ => none
  | (k, v) :: r, t => bif Nat.beq k t then some v else lkp r t

/-- What is known of a frame. -/
structure Fr (a : Act) (n : Nat) (l : List (Nat × Value)) : Prop where
  nodef : a.defers = []
  size : a.tmps.size = n
  get : ∀ t v, lkp l t = some v → a.tmps[t]? = some v

def opv (l : List (Nat × Value)) : Operand → Option Value
  | .tmp t => lkp l t
  | .const v => some v
  | .global g => some (.pointer (some ⟨g, 0, none⟩))
  | .func f => some (.func (.func f) #[] #[])

section
variable {P : Program} {a : Act} {n : Nat} {l : List (Nat × Value)}

theorem Fr.eval (E : Fr a n l) {x : Operand} {v : Value} (h : opv l x = some v) : a.eval x = v := by
  cases x with
  | tmp t =>
    have := E.get t v h
    simp [Act.eval, Array.getD_eq_getD_getElem?, this]
  | const c => simpa [opv, Act.eval] using h
  | global g => simpa [opv, Act.eval] using h
  | func f => simpa [opv, Act.eval] using h

theorem Fr.put (E : Fr a n l) {d : Nat} (hd : Nat.blt d n = true) (v : Value) : Fr (a.put (some d) v) n ((d, v) :: l) := by
  have hd' : d < n := by simp [Nat.blt] at hd; omega
  refine ⟨E.nodef, by simp [Act.put, E.size], ?_⟩
  intro t u h
  unfold lkp at h
  by_cases e : d = t
  · subst e
    simp at h
    subst h
    simp [Act.put, E.size, hd']
  · have hb : Nat.beq d t = false := by
      cases hq : Nat.beq d t with
      | false => rfl
      | true => exact absurd (Nat.eq_of_beq_eq_true hq) e
    rw [hb] at h
    simp only [cond_false] at h
    simp only [Act.put]
    rw [Array.getElem?_setIfInBounds_ne e]
    exact E.get t u h

theorem Fr.putN (E : Fr a n l) (v : Value) : Fr (a.put none v) n l := E

/-- one more reading of a slot that is known -/
theorem Fr.same (E : Fr a n l) {t : Nat} {v u : Value} (h : lkp l t = some v) (e : v = u) : Fr a n ((t, u) :: l) := by
  subst e
  refine ⟨E.nodef, E.size, fun s x hs => ?_⟩
  unfold lkp at hs
  by_cases e : t = s
  · subst e; simp at hs; subst hs; exact E.get _ _ h
  · have hb : Nat.beq t s = false := by
      cases hq : Nat.beq t s with
      | false => rfl
      | true => exact absurd (Nat.eq_of_beq_eq_true hq) e
    rw [hb] at hs
    exact E.get s x hs

def chk (l : List (Nat × Value)) : List (Nat × Value) → Prop
  | [] => True
  | (t, v) :: r => lkp l t = some v ∧ chk l r

theorem Fr.pick (E : Fr a n l) (l' : List (Nat × Value)) (h : chk l l') : Fr a n l' := by
  refine ⟨E.nodef, E.size, ?_⟩
  intro t v hv
  refine E.get t v ?_
  induction l' with
  | nil => simp [lkp] at hv
  | cons p r ih =>
    obtain ⟨k, u⟩ := p
    obtain ⟨h1, h2⟩ := h
    unfold lkp at hv
    by_cases e : k = t
    · subst e; simp at hv; subst hv; exact h1
    · have hb : Nat.beq k t = false := by
        cases hq : Nat.beq k t with
        | false => rfl
        | true => exact absurd (Nat.eq_of_beq_eq_true hq) e
      rw [hb] at hv
      exact ih h2 hv
end

/-! ### what is asked of types -/
structure TRow where
  t : TypeId
  d : TypeDesc
  sz : Nat
  by_ : Nat
  z : Value

def tlk : List TRow → TypeId → Option TRow
  | [], _ => none
  | r :: rs, t => bif Nat.beq r.t t then some r else tlk rs t

def tdesc (T : List TRow) (t : TypeId) : Option TypeDesc :=
  match tlk T t with
  | some r => some r.d
  | none => none
def tsz (T : List TRow) (t : TypeId) : Option Nat :=
  match tlk T t with
  | some r => some r.sz
  | none => none

def TbOk (P : Program) : List TRow → Prop
  | [] => True
  | r :: rs => (P.underlying r.t = some r.d ∧ (P.info? r.t).map (fun i => (i.size, i.bytes, i.zero)) = some (r.sz, r.by_, some r.z)) ∧ TbOk P rs

theorem TbOk.row {P : Program} : ∀ {T : List TRow} (_ : TbOk P T) {t : TypeId} {r : TRow} (_ : tlk T t = some r),
    P.underlying t = some r.d ∧ ∃ i, P.info? t = some i ∧ i.size = r.sz ∧ i.bytes = r.by_ ∧ i.zero = some r.z
  | [], _, t, r, h => by simp [tlk] at h
  | q :: rs, ⟨h1, h2⟩, t, r, h => by
    unfold tlk at h
    by_cases e : Nat.beq q.t t = true
    · rw [e] at h
      simp at h
      subst h
      have := Nat.eq_of_beq_eq_true e
      subst this
      refine ⟨h1.1, ?_⟩
      have h3 := h1.2
      cases hi : P.info? q.t with
      | none => rw [hi] at h3; simp at h3
      | some i => rw [hi] at h3; simp at h3; exact ⟨i, rfl, h3.1, h3.2.1, h3.2.2⟩
    · simp only [Bool.not_eq_true] at e
      rw [e] at h
      exact TbOk.row h2 h

/-- cells at a place, one behind the other -/
def cellsAt (w : World) (b o : Nat) : List Value → Prop
  | [] => True
  | v :: r => w.cell? ⟨b, o, none⟩ = some v ∧ cellsAt w b (o + 1) r

theorem cellsAt.get {w : World} {b : Nat} : ∀ {o : Nat} {cs : List Value} (_ : cellsAt w b o cs) (j : Nat) (u : Value), cs[j]? = some u → w.cell? ⟨b, o + j, none⟩ = some u
  | o, [], _, j, u, h => by simp at h
  | o, v :: r, ⟨h1, h2⟩, 0, u, h => by simp at h; subst h; exact h1
  | o, v :: r, ⟨h1, h2⟩, j + 1, u, h => by
    have := cellsAt.get h2 j u (by simpa using h)
    rwa [show o + 1 + j = o + (j + 1) by omega] at this

theorem cellsAt.of_get {w : World} {b : Nat} : ∀ {o : Nat} {cs : List Value}, (∀ (j : Nat) (u : Value), cs[j]? = some u → w.cell? ⟨b, o + j, none⟩ = some u) → cellsAt w b o cs
  | o, [], _ => trivial
  | o, v :: r, h => ⟨by simpa using h 0 v rfl, cellsAt.of_get fun j u hj => by
      have := h (j + 1) u (by simpa using hj)
      rwa [show o + (j + 1) = o + 1 + j by omega] at this⟩

def isAggD : TypeDesc → Bool
  | .struct _ | .array _ _ => true
  | _ => false

/-- comparisons of whole numbers -/
def cmpV (op : BinOp) (x y : Int) : Option Value :=
  match op with
  | .eql => some (.bool (x == y))
  | .neq => some (.bool (x != y))
  | .lss => some (.bool (decide (x < y)))
  | .leq => some (.bool (decide (x ≤ y)))
  | .gtr => some (.bool (decide (y < x)))
  | .geq => some (.bool (decide (y ≤ x)))
  | _ => none

def bitsV (op : BinOp) (k : IntKind) (x y : Int) : Option Int :=
  match op with
  | .and => some (k.wrap (BitVec.ofInt k.bits x &&& BitVec.ofInt k.bits y).toNat)
  | .or => some (k.wrap (BitVec.ofInt k.bits x ||| BitVec.ofInt k.bits y).toNat)
  | .xor => some (k.wrap (BitVec.ofInt k.bits x ^^^ BitVec.ofInt k.bits y).toNat)
  | .andNot => some (k.wrap (BitVec.ofInt k.bits x &&& ~~~ BitVec.ofInt k.bits y).toNat)
  | _ => none

/-- numbers with a point -/
def floatC (op : BinOp) (k : FloatKind) (a b : Nat) : Option Bool :=
  match op with
  | .eql => some (k.format.order a b == some .eq)
  | .neq => some (k.format.order a b != some .eq)
  | .lss => some (k.format.order a b == some .lt)
  | .leq => some (k.format.order a b == some .lt || k.format.order a b == some .eq)
  | .gtr => some (k.format.order a b == some .gt)
  | .geq => some (k.format.order a b == some .gt || k.format.order a b == some .eq)
  | _ => none
def floatA (op : BinOp) (k : FloatKind) (a b : Nat) : Option (Option Nat) :=
  match op with
  | .add => some (k.format.add a b)
  | .sub => some (k.format.sub a b)
  | .mul => some (k.format.mul a b)
  | .quo => some (k.format.div a b)
  | _ => none
def floatV (op : BinOp) (k : FloatKind) (a b : Nat) (h : Value) : Option (Value × Prop) :=
  match floatA op k a b with
  | some q => match h with
    | .float k'' r => if k'' = k then some (.float k r, q = some r) else none
    | _ => none
  | none => (floatC op k a b).map fun c => (.bool c, True)

/-- the value of a plain binary operation, and what it asks; 'h': the value that is told for it -/
def binV (T : List TRow) (op : BinOp) (t : TypeId) (x y h : Value) : Option (Value × Prop) :=
  match x, y with
  | .int k a, .int k' b =>
    match op with
    | .shl => match h with
      | .int k'' r => if k'' = k then some (.int k r, 0 ≤ b ∧ k.wrap (a * 2 ^ (min b.toNat k.bits)) = r) else none
      | _ => none
    | .shr => match h with
      | .int k'' r => if k'' = k then some (.int k r, 0 ≤ b ∧ a.fdiv (2 ^ (min b.toNat k.bits)) = r) else none
      | _ => none
    | _ => if k = k' then
        match op with
        | .add => match h with
          | .int k'' r => if k'' = k then some (.int k r, k.wrap (a + b) = r) else none
          | _ => none
        | .sub => match h with
          | .int k'' r => if k'' = k then some (.int k r, k.wrap (a - b) = r) else none
          | _ => none
        | .mul => match h with
          | .int k'' r => if k'' = k then some (.int k r, k.wrap (a * b) = r) else none
          | _ => none
        | .quo => match h with
          | .int k'' r => if k'' = k then some (.int k r, b ≠ 0 ∧ k.wrap (a.tdiv b) = r) else none
          | _ => none
        | .rem => match h with
          | .int k'' r => if k'' = k then some (.int k r, b ≠ 0 ∧ a.tmod b = r) else none
          | _ => none
        | .and | .or | .xor | .andNot => match h, bitsV op k a b with
          | .int k'' r, some q => if k'' = k then some (.int k r, q = r) else none
          | _, _ => none
        | _ => (cmpV op a b).map (·, True)
      else none
  | .float k a, .float k' b => if k = k' then floatV op k a b h else none
  | .bool a, .bool b => match op, tdesc T t with
    | .eql, some .bool => some (.bool (a == b), True)
    | .neq, some .bool => some (.bool (!(a == b)), True)
    | _, _ => none
  | .pointer a, .pointer none => match op, tdesc T t with
    | .eql, some (.pointer _) => some (.bool a.isNone, True)
    | .neq, some (.pointer _) => some (.bool (!a.isNone), True)
    | _, _ => none
  | .map a, .map none => match op, tdesc T t with
    | .eql, some (.map _ _) => some (.bool a.isNone, True)
    | .neq, some (.map _ _) => some (.bool (!a.isNone), True)
    | _, _ => none
  | _, _ => none

def cutAddr (l m size : Nat) (a : Option Addr) : Option Addr := if m = l then a else a.map (·.add (l * size))

/-- a cut of a slice: low and high bounds (none: not named) -/
def cutV (size : Nat) (a : Option Addr) (len cap : Nat) (lo hi : Option Value) : Option (Value × Prop) :=
  match lo, hi with
  | none, none => some (.slice a len cap, True)
  | none, some (.int _ h) => some (.slice a h.toNat cap, 0 ≤ h ∧ h ≤ cap)
  | some (.int _ l), none => some (.slice (cutAddr l.toNat cap size a) (len - l.toNat) (cap - l.toNat), 0 ≤ l ∧ l ≤ len)
  | some (.int _ l), some (.int _ h) => some (.slice (cutAddr l.toNat cap size a) (h.toNat - l.toNat) (cap - l.toNat), 0 ≤ h ∧ h ≤ cap ∧ 0 ≤ l ∧ l ≤ h)
  | _, _ => none

/-- does an operation take a told value? -/
def takes : Op → Bool
  | .load _ _ => true
  | .convert _ _ _ => true
  | .unOp .neg _ _ => true
  | .unOp .xor _ _ => true
  | .binOp .add _ _ _ _ | .binOp .sub _ _ _ _ | .binOp .mul _ _ _ _ | .binOp .quo _ _ _ _ | .binOp .rem _ _ _ _ | .binOp .shl _ _ _ _ | .binOp .shr _ _ _ _
  | .binOp .and _ _ _ _ | .binOp .or _ _ _ _ | .binOp .xor _ _ _ _ | .binOp .andNot _ _ _ _ => true
  | _ => false

/-- A plain operation: its value, and what it asks. -/
def plainV (T : List TRow) (w : World) (l : List (Nat × Value)) (o : Op) (h : Value) : Option (Value × Prop) :=
  match o with
  | .move x | .assign x => (opv l x).map (·, True)
  | .pick c x y => match opv l c with
    | some (.bool true) => (opv l x).map (·, True)
    | some (.bool false) => (opv l y).map (·, True)
    | _ => none
  | .nilCheck x => match opv l x with
    | some (.pointer (some p)) => some (.pointer (some p), True)
    | _ => none
  | .binOp op t x y _ => match opv l x, opv l y with
    | some u, some v => binV T op t u v h
    | _, _ => none
  | .unOp op _ x => match op, opv l x with
    | .not, some (.bool b) => some (.bool (!b), True)
    | .neg, some (.int k a) => match h with
      | .int k' r => if k' = k then some (.int k r, k.wrap (0 - a) = r) else none
      | _ => none
    | .xor, some (.int k a) => match h with
      | .int k' r => if k' = k then some (.int k r, k.wrap (BitVec.ofInt k.bits (if k.signed then -1 else k.max) ^^^ BitVec.ofInt k.bits a).toNat = r) else none
      | _ => none
    | _, _ => none
  | .convert s d x => match opv l x, tlk T s, tdesc T d, h with
    | some (.int _ a), some _, some (.int k), .int k' r => if k' = k then some (.int k r, k.wrap a = r) else none
    | some (.int _ a), some _, some (.float k), .float k' r => if k' = k then some (.float k r, k.nearest a = r) else none
    | _, _, _, _ => none
  | .fieldAddr s x f => match opv l x, tdesc T s with
    | some (.pointer (some ⟨b, o, none⟩)), some (.struct fs) => match fs[f]? with
      | some fd => match tsz T fd.type with
        | some (_ + 1) => some (.pointer (some ⟨b, o + fd.offset, none⟩), True)
        | _ => none
      | none => none
    | _, _ => none
  | .indexAddr t x i => match opv l x, opv l i, tdesc T t with
    | some (.slice (some ⟨b, o, none⟩) n _), some (.int _ j), some (.slice e) => match tsz T e with
      | some s => some (.pointer (some ⟨b, o + j.toNat * s, none⟩), 0 ≤ j ∧ j < (n : Int))
      | none => none
    | some (.pointer (some ⟨b, o, none⟩)), some (.int _ j), some (.array n e) => match tsz T e with
      | some s => some (.pointer (some ⟨b, o + j.toNat * s, none⟩), 0 ≤ j ∧ j < (n : Int))
      | none => none
    | _, _, _ => none
  | .load t x => match opv l x, tlk T t with
    | some (.pointer (some ⟨b, o, none⟩)), some r =>
      bif isAggD r.d then
        match h with
        | .agg cs => bif Nat.beq cs.size r.sz then some (h, cellsAt w b o cs.toList) else none
        | _ => none
      else some (h, w.cell? ⟨b, o, none⟩ = some h)
    | _, _ => none
  | .extract x i => match opv l x with
    | some (.tuple vs) => (vs[i]?).map (·, True)
    | _ => none
  | .slice t x lo hi none => match opv l x, tdesc T t with
    | some (.slice a n c), some (.slice e) => match tsz T e, (match lo with | none => some none | some y => (opv l y).map some), (match hi with | none => some none | some y => (opv l y).map some) with
      | some s, some lo', some hi' => cutV s a n c lo' hi'
      | _, _, _ => none
    | _, _ => none
  | .call c => match c.callee, c.args.toList, c.argTypes.toList with
    | .builtin .len, [x], [t] => match opv l x, tdesc T t with
      | some (.slice _ n _), some (.slice _) => some (.int .i64 n, True)
      | some (.string s), some .string => some (.int .i64 s.size, True)
      | _, _ => none
    | .builtin .cap, [x], [t] => match opv l x, tdesc T t with
      | some (.slice _ _ c), some (.slice _) => some (.int .i64 c, True)
      | _, _ => none
    | _, _, _ => none
  | _ => none
end Go.V
