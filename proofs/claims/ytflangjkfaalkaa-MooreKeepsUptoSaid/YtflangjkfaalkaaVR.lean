/- Arrays in memory, and keys that are arrays or structs. -/
import Derived.Test.YtflangjkfaalkaaVK
set_option linter.all false
set_option linter.unusedVariables false
set_option linter.unnecessarySimpa false
set_option linter.unusedSimpArgs false
namespace Go.V
open Go Go.RowKit

/-! ### keys -/
def KL (P : Program) (d : Nat) (t : TypeId) (cs : List Value) : Prop := ∃ ls, P.keyLits d t cs = some ls
theorem mapM_some {α β : Type} {f : α → Option β} : ∀ {l : List α}, (∀ x ∈ l, ∃ y, f x = some y) → ∃ ys, l.mapM f = some ys
  | [], _ => ⟨[], by simp⟩
  | x :: l, h => by
    obtain ⟨y, hy⟩ := h x (by simp)
    obtain ⟨ys, hys⟩ := mapM_some (l := l) fun z hz => h z (by simp [hz])
    exact ⟨y :: ys, by simp [List.mapM_cons, hy, hys]⟩
section
variable {P : Program} {d n : Nat} {t e : TypeId} {cs : List Value}
theorem KL.int {k : IntKind} {x : Int} (h : P.underlying t = some (.int k)) (hx : (Lit.int k x).wf = true) : KL P (d + 1) t [.int k x] := by
  refine ⟨[.int k x], ?_⟩
  unfold Program.keyLits
  rw [h]
  simp [hx]
theorem KL.str {x : ByteArray} (h : P.underlying t = some .string) (hx : x.size ≤ maxLen) : KL P (d + 1) t [.string x] := by
  refine ⟨[.string x.data.toList], ?_⟩
  unfold Program.keyLits
  rw [h]
  simp [hx]
theorem KL.arr (h : P.underlying t = some (.array n e)) (hc : cs.length = P.cellsOf t) (he : ∀ i, i < n → KL P d e ((cs.drop (i * P.cellsOf e)).take (P.cellsOf e))) : KL P (d + 1) t cs := by
  obtain ⟨ys, hys⟩ := mapM_some (f := fun i => P.keyLits d e ((cs.drop (i * P.cellsOf e)).take (P.cellsOf e))) (l := List.range n) fun i hi => he i (List.mem_range.1 hi)
  refine ⟨ys.flatten, ?_⟩
  unfold Program.keyLits
  rw [h]
  simp only [hc, if_true, hys, Option.map_some]
theorem KL.struct {fs : Array Field} (h : P.underlying t = some (.struct fs)) (hc : cs.length = P.cellsOf t) (hn : fs.all (·.name != "_") = true) (he : ∀ f ∈ fs.toList, KL P d f.type ((cs.drop f.offset).take (P.cellsOf f.type))) : KL P (d + 1) t cs := by
  obtain ⟨ys, hys⟩ := mapM_some (f := fun f : Field => P.keyLits d f.type ((cs.drop f.offset).take (P.cellsOf f.type))) (l := fs.toList) fun f hf => he f hf
  refine ⟨ys.flatten, ?_⟩
  unfold Program.keyLits
  rw [h]
  simp only [hc, hn, and_self, if_true, hys, Option.map_some]
def isWide (P : Program) (t : TypeId) : Bool := match P.underlying t with | some (.array _ _) | some (.struct _) => true | _ => false
theorem KL.key {xs : Array Value} (hw : isWide P t = true) (hk : P.keyType t = true) (hf : Nat.beq xs.size (P.cellsOf t) = true) (h : ∀ m, KL P (m + 2) t xs.toList) (hs : Nat.blt 0 P.types.size = true) : ∃ l, keyOf P t (.agg xs) = some l := by
  obtain ⟨m, hm⟩ : ∃ m, P.types.size + 1 = m + 2 := ⟨P.types.size - 1, by simp [Nat.blt] at hs; omega⟩
  obtain ⟨ls, hls⟩ := h m
  have hf' : xs.size = P.cellsOf t := Nat.eq_of_beq_eq_true hf
  have hfo : (Value.agg xs).formed P t = true := by
    unfold isWide at hw
    unfold Value.formed
    split at hw <;> simp_all
  refine ⟨.string (keyBytes ls), ?_⟩
  unfold isWide at hw
  unfold keyOf
  split at hw
  · rename_i h1; rw [h1]; simp only [hk, hfo, Bool.and_self, if_true, Value.cells, hm, hls, Option.map_some]
  · rename_i h1; rw [h1]; simp only [hk, hfo, Bool.and_self, if_true, Value.cells, hm, hls, Option.map_some]
  · cases hw
end

/-! ### arrays as lists -/
def arrV {α : Type} (ec : α → List Value) (xs : List α) : Array Value := (xs.flatMap ec).toArray
def iV (k : IntKind) (x : Int) : List Value := [.int k x]
def arrOk (n : Nat) (xs : List Int) : Prop := xs.length = n ∧ ∀ x ∈ xs, in64 x
instance (n : Nat) (xs : List Int) : Decidable (arrOk n xs) := inferInstanceAs (Decidable (_ ∧ _))
theorem iV_len : ∀ (xs : List Int), (xs.flatMap (iV .i64)).length = xs.length
  | [] => rfl
  | x :: xs => by simp [iV, iV_len xs]
theorem iV_piece : ∀ (xs : List Int) (i : Nat) (h : i < xs.length), ((xs.flatMap (iV .i64)).drop (i * 1)).take 1 = [.int .i64 xs[i]]
  | x :: xs, 0, _ => by simp [iV]
  | x :: xs, i + 1, h => by
    have := iV_piece xs i (by simpa using h)
    simp only [Nat.mul_one] at this ⊢
    simpa [iV] using this
theorem iV_inj : ∀ {xs ys : List Int}, xs.flatMap (iV .i64) = ys.flatMap (iV .i64) → xs = ys
  | [], [], _ => rfl
  | [], y :: ys, h => by simp [iV] at h
  | x :: xs, [], h => by simp [iV] at h
  | x :: xs, y :: ys, h => by
    simp [iV] at h
    have := iV_inj (xs := xs) (ys := ys) (by simpa [iV] using h.2)
    rw [h.1, this]
theorem wfi {x : Int} (h : in64 x) : (Lit.int .i64 x).wf = true := by
  unfold in64 at h; simp [Lit.wf, IntKind.min, IntKind.max, IntKind.signed, IntKind.bits]; omega
/-- keys that are arrays of ints -/
theorem kArr {P : Program} {k e : TypeId} {n : Nat} (h : P.underlying k = some (.array n e)) (he : P.underlying e = some (.int .i64)) (hk : P.keyType k = true) (hc : P.cellsOf k = n) (hc1 : P.cellsOf e = 1) (hs : Nat.blt 0 P.types.size = true) (hK : Maps.Keyed P k) :
    Kty P k (fun xs : List Int => .agg (arrV (iV .i64) xs)) (arrOk n) := by
  refine ⟨hK, fun x y e => ?_, fun xs hx => ?_⟩
  · have e1 := congrArg Array.toList (Value.agg.inj e)
    simp [arrV] at e1
    exact iV_inj (by simpa using e1)
  · have hl : (arrV (iV .i64) xs).size = n := by simp only [arrV, List.size_toArray]; rw [iV_len]; exact hx.1
    refine KL.key (by unfold isWide; rw [h]) hk (by rw [hl, hc]; simp) (fun m => ?_) hs
    refine KL.arr h (by rw [hc]; simpa using hl) fun i hi => ?_
    rw [hc1]
    have hi' : i < xs.length := by rw [hx.1]; exact hi
    have := iV_piece xs i hi'
    simp only [arrV]
    rw [this]
    exact KL.int he (wfi (hx.2 _ (List.getElem_mem hi')))
def key2 (x : Int × Int) : Prop := in64 x.1 ∧ in64 x.2
instance (x : Int × Int) : Decidable (key2 x) := inferInstanceAs (Decidable (_ ∧ _))
theorem kArr2 {P : Program} {k e : TypeId} (h : P.underlying k = some (.array 2 e)) (he : P.underlying e = some (.int .i64)) (hk : P.keyType k = true) (hc : P.cellsOf k = 2) (hc1 : P.cellsOf e = 1) (hs : Nat.blt 0 P.types.size = true) (hK : Maps.Keyed P k) :
    Kty P k (fun x : Int × Int => .agg #[.int .i64 x.1, .int .i64 x.2]) key2 := by
  refine ⟨hK, fun x y e => ?_, fun x hx => ?_⟩
  · obtain ⟨x1, x2⟩ := x; obtain ⟨y1, y2⟩ := y; simp at e; rw [e.1, e.2]
  · refine KL.key (by unfold isWide; rw [h]) hk (by rw [hc]; rfl) (fun m => ?_) hs
    refine KL.arr h (by rw [hc]; rfl) fun i hi => ?_
    rw [hc1]
    match i, hi with
    | 0, _ => exact KL.int he (wfi hx.1)
    | 1, _ => exact KL.int he (wfi hx.2)

/-! ### arrays in memory: a row of fixed capacity -/
theorem arr_cut {α : Type} {n : Nat} {xs : List α} {j : Int} (h : n = (xs ++ []).length) (g : 0 ≤ j ∧ j ≤ (n : Int)) : j.toNat = (xs.take j.toNat).length := by
  rw [List.append_nil] at h; rw [List.length_take]; omega
theorem arr_hx {α : Type} {n : Nat} {xs : List α} {j : Int} (h : n = (xs ++ []).length) (g : idx j n) : idx j xs.length := by
  rw [List.append_nil] at h; unfold idx at *; rw [← h]; exact g
section
variable {P : Program} {T : List TRow} {S Fa : Nat → Prop} {w0 w : World} {L : List Ent} {a : Act} {n : Nat} {l l' : List (Nat × Value)} {ops : Array Oper} {Q : Exit → Act → World → Prop} {o : Oper} {rest : List Oper} {t : TypeId}
theorem h_allocArr {α : Type} (d : Cod α) (z : α) (zc : List Value) (m : Nat) {r : TRow} (H : Hp S Fa w0 w L) (E : Fr a n l) (ho : o.op = .alloc t) (hw : want ops l o = some true) (hT : TbOk P T) (ht : tlk T t = some r)
    (hK : ∀ w F, d.K w F z zc) (hz : r.z.cells.toList = (List.replicate m zc).flatten) (hm : Nat.ble m 1000000 = true)
    (k : ∀ (w' : World) (g : Nat) (a' : Act), Ext w w' → w.heap.size ≤ g → Hp S Fa w0 w' (addE L [.rowx true d t (some ⟨g, 0, none⟩) m (List.replicate m z) []]) → (∀ l', putE n l o.dst (.pointer (some ⟨g, 0, none⟩)) = some l' → Fr a' n l') → wpList P ops Q rest a' w') : wpList P ops Q (o :: rest) a w := by
  have hm' : m ≤ 1000000 := Nat.le_of_ble_eq_true hm
  refine e_alloc E ho hw hT ht fun w' g a' hc hg hB hE => k w' g a' hc hg (H.new _ hc (fun q hq => ?_) fun Fz HF => ?_) hE
  · obtain rfl := At.of_g hq
    exact ⟨hg, hB.lt⟩
  · have hbl : BL d w' (Fset Fa Fz true) g t m (List.replicate m z) := by
      refine ⟨by simp, fun h => ?_, _, Enc.replicate (hK _ _) m, by rw [← hz]; exact hB⟩
      have := HF.Fz_lt (.inr h)
      omega
    have := Rw.of_BL hbl m (Nat.le_refl _) (by unfold maxLen; omega)
    rw [List.take_replicate, List.drop_replicate, Nat.min_self, Nat.sub_self] at this
    exact this

theorem enc_plain {α : Type} {d : Cod α} {ec : α → List Value} (hK : ∀ w F x cs, d.K w F x cs → cs = ec x) {w : World} {F : Nat → Prop} : ∀ {xs : List α} {cells : List Value}, Enc d w F xs cells → cells = xs.flatMap ec
  | [], _, h => h
  | x :: xs, _, ⟨cs, rest, e, h1, h2⟩ => by subst e; rw [hK _ _ _ _ h1, enc_plain hK h2]; rfl

theorem e_loadA {x : Operand} {g s : Nat} {tt : TypeId} {d : TypeDesc} {cs : List Value} (E : Fr a n l) (ho : o.op = .load t x) (hw : want ops l o = some true) (hT : TbOk P T) (hx : opv l x = some (.pointer (some ⟨g, 0, none⟩))) (hs : tsz T t = some s) (hd : tdesc T t = some d) (ha : isAggD d = true)
    (hB : Bx w g tt cs) (hl : cs.length = s) (hp : putE n l o.dst (.agg cs.toArray) = some l') (k : ∀ a', Fr a' n l' → wpList P ops Q rest a' w) : wpList P ops Q (o :: rest) a w := by
  refine step_val E hw ?_ hp k
  have h1 := run_loadBx (P := P) (w := w) hT hB hs hd ha 0 (vs := cs) (by rw [List.drop_zero, List.take_of_length_le (by omega)]) (by rw [hl]; simp)
  simp [execOp, ho, E.eval hx, Instr.loadAt, Instr.sureAddr, h1, Result.andThen]

theorem h_loadArr {α : Type} {d : Cod α} (ec : α → List Value) {x : Operand} {g s c : Nat} {tt : TypeId} {f : Bool} {dd : TypeDesc} {xs : List α} (H : Hp S Fa w0 w L) (j : Nat) (hj : nth L j = .rowx f d tt (some ⟨g, 0, none⟩) c xs []) (E : Fr a n l) (ho : o.op = .load t x) (hw : want ops l o = some true)
    (hT : TbOk P T) (hx : opv l x = some (.pointer (some ⟨g, 0, none⟩))) (hs : tsz T t = some s) (hd : tdesc T t = some dd) (ha : isAggD dd = true) (hK : ∀ w F x cs, d.K w F x cs → cs = ec x) (hsz : Nat.beq (c * d.sz) s = true)
    (hp : putE n l o.dst (.agg (arrV ec xs)) = some l') (k : ∀ a', Fr a' n l' → wpList P ops Q rest a' w) : wpList P ops Q (o :: rest) a w := by
  have hsz' := Nat.eq_of_beq_eq_true hsz
  obtain ⟨Fz, H⟩ := H
  have h0 := oks_nth j H.ok
  rw [hj] at h0
  rcases h0 with ⟨h1, _⟩ | ⟨g', h1, h2, h3, h4, h5, cells, h6, h7⟩
  · cases h1
  · cases h1
    rw [List.append_nil] at h6 h4
    have hc := enc_plain hK h6
    have hlen := h6.length
    subst hc
    exact e_loadA E ho hw hT hx hs hd ha h7 (by rw [hlen, h4, hsz']) hp k

/-- an entry of a map's literal -/
theorem e_insert {m x y : Operand} {k0 e : TypeId} {b : Nat} {key val : Value} {kvs : List (Value × Value)} (E : Fr a n l) (ho : o.op = .insert t m x y) (hw : want ops l o = some true) (hT : TbOk P T) (ht : tdesc T t = some (.map k0 e)) (K : Maps.Keyed P k0)
    (hm : opv l m = some (.map (some b))) (hx : opv l x = some key) (hy : opv l y = some val) (hM : Mp P k0 w b kvs) (hkey : ∃ kl, keyOf P k0 key = some kl) (hnew : ∀ v, (key, v) ∉ kvs) (hd : o.dst = none)
    (k : ∀ (w' : World) (a' : Act), Chg (· = b) w w' → Mp P k0 w' b (kvs ++ [(key, val)]) → Fr a' n l → wpList P ops Q rest a' w') : wpList P ops Q (o :: rest) a w := by
  obtain ⟨kl, hkey⟩ := hkey
  obtain ⟨ob, h1, h2⟩ := hM.put_new K (tdesc_row hT ht) hkey hnew (val := val)
  have hr : (execOp a.eval o).run P w = .ok .skip (ChangeMaps.setBlock w b ob) := by
    simp [execOp, ho, E.eval hm, E.eval hx, E.eval hy, h1, Result.andThen]
  refine step_skip E hw hr (l' := l) (by rw [hd]; rfl) fun a' E' => k _ _ (setBlock_chg w b ob) h2 E'
theorem h_insert {κ ν : Type} [DecidableEq κ] (ek : κ → Value) (ev : ν → Value) {wf : κ → Prop} (x : κ) (u : ν) {kvs : List (κ × ν)} {g : Nat} {m y q : Operand} {k0 e : TypeId} (H : Hp S Fa w0 w L) (j : Nat) (hj : nth L j = .mp P k0 g (kvs.map fun p => (ek p.1, ev p.2)))
    (E : Fr a n l) (ho : o.op = .insert t m y q) (hw : want ops l o = some true) (hT : TbOk P T) (ht : tdesc T t = some (.map k0 e)) (K : Kty P k0 ek wf)
    (hm : opv l m = some (.map (some g))) (hx : opv l y = some (ek x)) (hy : opv l q = some (ev u)) (hkey : wf x) (hnew : mget kvs x = none) (hd : o.dst = none)
    (k : ∀ (w' : World) (a' : Act), Chg (nth L j).at w w' → Hp S Fa w0 w' (setn L j (.mp P k0 g ((kvs ++ [(x, u)]).map fun p => (ek p.1, ev p.2)))) → Fr a' n l → wpList P ops Q rest a' w') : wpList P ops Q (o :: rest) a w := by
  have hM := H.mp j hj
  have hno := mget_no (ev := ev) K.inj hnew
  refine e_insert E ho hw hT ht K.K hm hx hy hM.1 (K.of x hkey) hno hd fun w' a' hc hM' E' => ?_
  have hc' : Chg (nth L j).at w w' := by rw [hj]; exact hc
  refine k w' a' hc' (H.put j _ hc' (fun q hq => ⟨.inl (by rw [hj]; exact hq), Nat.lt_of_le_of_lt (Nat.le_of_eq hq) hM'.lt⟩) fun _ _ => ⟨by simpa using hM', ?_⟩) E'
  rw [List.map_append, List.map_append, List.nodup_append]
  refine ⟨hM.2, by simp, ?_⟩
  intro p hp q hq e
  simp at hq
  subst hq
  obtain ⟨y, hy1, hy2⟩ := List.mem_map.1 hp
  obtain ⟨v, rfl⟩ : ∃ v, y = (ek x, v) := ⟨y.2, by rw [← e, ← hy2]⟩
  exact hno v hy1
/-- 'arr[:hi]', the array a variable -/
theorem e_sliceArr {x hi : Operand} {g m s : Nat} {e : TypeId} {kh : IntKind} {h : Int} (E : Fr a n l) (ho : o.op = .slice t x none (some hi) none) (hw : want ops l o = some true) (hT : TbOk P T) (hp : tdesc T t = some (.array m e)) (hs : tsz T e = some s)
    (hx : opv l x = some (.pointer (some ⟨g, 0, none⟩))) (hhi : opv l hi = some (.int kh h)) (hb : 0 ≤ h ∧ h ≤ (m : Int)) (hm : m ≠ 0)
    (hl : putE n l o.dst (.slice (some ⟨g, 0, none⟩) h.toNat m) = some l') (k : ∀ a', Fr a' n l' → wpList P ops Q rest a' w) : wpList P ops Q (o :: rest) a w := by
  refine step_val E hw ?_ hl k
  have h2 := tdesc_row hT hp
  have h3 := run_sizeOf' (w := w) hT hs
  have h4 : (Instr.sliceAt t (.pointer (some ⟨g, 0, none⟩)) none (some (.int kh h)) none).run P w = .ok (.slice (some ⟨g, 0, none⟩) h.toNat m) w := by
    unfold Instr.sliceAt
    simp [run_underlying h2, h3, Instr.sliceBounds, Instr.sureAddr, run_sliceBound hb.1 hb.2, Result.andThen, hm, Addr.add]
  simp [execOp, ho, E.eval hx, E.eval hhi, h4, Result.andThen]
end
end Go.V
