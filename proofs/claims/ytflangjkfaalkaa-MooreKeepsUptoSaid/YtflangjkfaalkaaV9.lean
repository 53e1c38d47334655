/- The given rows: what the arguments hold; what is said behind the call. -/
import Derived.Test.YtflangjkfaalkaaV8
import Derived.OpenVars
import Derived.JoinedCond
set_option linter.all false
set_option linter.unusedVariables false
set_option linter.unnecessarySimpa false
set_option linter.unusedSimpArgs false
namespace Go.V
open Go Go.RowKit Go.ChangeShapes Go.WideShapes Go.ChangeAt

section
variable {H : Type} {enc : TypeId × Value → H} {P : Program} {W W' : World}

/-- What is read as type e is written as d's elements are, each as 'ok' says. -/
def Rd {α : Type} (enc : TypeId × Value → H) (P : Program) (W : World) (d : Cod α) (e : TypeId) (ok : α → Prop) : Prop :=
  ∀ (fuel : Nat) (cs : List Value) (x : DataW H × List MemPlace), DataW.trod enc P W 0 (fun _ => true) true fuel e cs = some x → ∃ a, d.K W (Lo W.heap.size) a cs ∧ ok a

theorem rd_int {e : TypeId} {k : IntKind} (he : P.underlying e = some (.int k)) : Rd enc P W (cInt k) e (fun n => (Lit.int k n).wf = true) := by
  intro fuel cs x h
  obtain ⟨m, rfl, rfl, hw⟩ := DataW.trod_int he h
  exact ⟨m, rfl, hw⟩
theorem rd_bool {e : TypeId} (he : P.underlying e = some .bool) : Rd enc P W cBool e (fun _ => True) := by
  intro fuel cs x h
  obtain ⟨b, rfl, rfl⟩ := DataW.trod_bool he h
  exact ⟨b, rfl, trivial⟩

theorem rd_row {α : Type} {d : Cod α} {t e : TypeId} {ok : α → Prop} (ht : P.underlying t = some (.slice e)) (hc : P.cellsOf e = d.sz) (h0 : 0 < d.sz) (hd : Rd enc P W d e ok) {fuel : Nat} {cs : List Value} {x : DataW H × List MemPlace}
    (h : DataW.trod enc P W 0 (fun _ => true) true fuel t cs = some x) : ∃ A c xs, cs = [.slice A xs.length c] ∧ xs.length ≤ c ∧ c ≤ maxLen ∧ C d W (Lo W.heap.size) A xs ∧ ∀ y ∈ xs, ok y := by
  rcases DataW.trod_slice ht h with ⟨rfl, rfl⟩ | ⟨a, len, cap, elems, rest, n, _, rfl, rfl, hb, hl, hm, hlen, hel, hsp, hns⟩
  · exact ⟨none, 0, [], rfl, Nat.le_refl _, Nat.zero_le _, C.nil _ _ _, fun y hy => by cases hy⟩
  have each : ∀ i, i < len → ∃ y cs, W.cells? 0 (a.add (i * d.sz)) d.sz = some cs ∧ d.K W (Lo W.heap.size) y cs ∧ ok y := by
    intro i hi
    have h1 := hel i hi
    obtain ⟨z, hz⟩ : ∃ z, elems[i]? = some z := ⟨elems[i]'(by omega), List.getElem?_eq_getElem (by omega)⟩
    rw [hz, hc, Option.bind_eq_some_iff] at h1
    obtain ⟨cs, h2, h3⟩ := h1
    obtain ⟨y, h4, h5⟩ := hd _ _ _ h3
    exact ⟨y, cs, h2, h4, h5⟩
  obtain ⟨b, o, s⟩ := a
  have build : ∀ m, m ≤ len → ∃ (xs : List α) (cells : List Value), xs.length = m ∧ Enc d W (Lo W.heap.size) xs cells ∧ (∀ y ∈ xs, ok y) ∧ (∀ j u, cells[j]? = some u → W.cell? ((⟨b, o, s⟩ : Addr).add j) = some u) := by
    intro m
    induction m with
    | zero => intro _; exact ⟨[], [], rfl, rfl, (fun y hy => by cases hy), fun j u hj => by simp at hj⟩
    | succ m ih =>
      intro hm'
      obtain ⟨xs, cells, e1, e2, e3, e4⟩ := ih (by omega)
      obtain ⟨y, cs, h2, h4, h5⟩ := each m (by omega)
      refine ⟨xs ++ [y], cells ++ cs, by simp [e1], e2.append (Enc.one h4), ?_, ?_⟩
      · intro z hz
        rcases List.mem_append.1 hz with hz | hz
        · exact e3 z hz
        · simp at hz; subst hz; exact h5
      · intro j u hj
        have hcl : cells.length = m * d.sz := by rw [e2.length, e1]
        rcases Nat.lt_or_ge j cells.length with q | q
        · rw [List.getElem?_append_left q] at hj; exact e4 j u hj
        · rw [List.getElem?_append_right q] at hj
          have hjl : j - cells.length < cs.length := (List.getElem?_eq_some_iff.1 hj).1
          have hq := (World.cells?_some h2).2.2 (j - cells.length) (by rw [← (World.cells?_some h2).2.1]; exact hjl)
          rw [hj] at hq
          have hadd : ((⟨b, o, s⟩ : Addr).add (m * d.sz)).add (j - cells.length) = (⟨b, o, s⟩ : Addr).add j := by
            rw [hcl] at q ⊢
            unfold Addr.add
            by_cases z1 : m * d.sz = 0
            · simp [z1]
            · by_cases z2 : j - m * d.sz = 0
              · have : j = m * d.sz := by omega
                simp [z1, z2, this]
              · have : j ≠ 0 := by omega
                rw [if_neg z1, if_neg z2, if_neg this]
                simp only [Addr.mk.injEq, true_and, and_true]
                omega
          rw [hadd] at hq
          exact hq
  obtain ⟨xs, cells, e1, e2, e3, e4⟩ := build len (Nat.le_refl _)
  have hspot : xs ≠ [] → s = none ∧ b < W.heap.size := by
    intro hx
    have : 0 < cells.length := by
      rw [e2.length]
      exact Nat.mul_pos (List.length_pos_iff.2 hx) h0
    have h1 := e4 0 cells[0] (List.getElem?_eq_getElem this)
    have h2 := World.cell?_spot h1
    have h3 := World.block_lt_of_cell? W _ h1
    simp [Addr.add] at h2 h3
    exact ⟨h2, h3⟩
  refine ⟨some ⟨b, o, s⟩, cap, xs, by rw [e1], by omega, hm, ⟨cells, e2, fun hx => ⟨b, o, by rw [(hspot hx).1], (hspot hx).2⟩, fun b' o' e => ?_⟩, e3⟩
  injection e with e
  injection e with e5 e6 e7
  subst e5 e6 e7
  exact cellsAt.of_get fun j u hj => by rw [← add_none]; exact e4 j u hj

/-- slices of slices -/
theorem rd_slice {α : Type} {d : Cod α} {t e : TypeId} {ok : α → Prop} (ht : P.underlying t = some (.slice e)) (hc : P.cellsOf e = d.sz) (h0 : 0 < d.sz) (hd : Rd enc P W d e ok) :
    Rd enc P W (cSl d) t (fun xs => xs.length ≤ maxLen ∧ ∀ y ∈ xs, ok y) := by
  intro fuel cs x h
  obtain ⟨A, c, xs, rfl, h1, h2, h3, h4⟩ := rd_row ht hc h0 hd h
  exact ⟨xs, ⟨A, c, rfl, h1, h3⟩, by omega, h4⟩

theorem wf_i64 {n : Int} (h : (Lit.int .i64 n).wf = true) : -9223372036854775808 ≤ n ∧ n ≤ 9223372036854775807 := by
  simpa [Lit.wf, IntKind.min, IntKind.max, IntKind.signed, IntKind.bits] using h
theorem wf_u8 {n : Int} (h : (Lit.int .u8 n).wf = true) : 0 ≤ n ∧ n ≤ 255 := by
  simpa [Lit.wf, IntKind.min, IntKind.max, IntKind.signed, IntKind.bits] using h

/-- the arguments read as before -/
theorem trodAll_below (hl : laidOutB P = true) (hb : Below W.heap.size W W') : ∀ {ts : List TypeId} {vs : List Value} {ds : List (DataW H)} {ps : List MemPlace}, (∀ t ∈ ts, P.readableRec t = true ∧ t < P.types.size) →
    DataW.TrodAll enc P W 0 (fun _ => true) true ts vs ds ps → (∀ p ∈ ps, p.block < W.heap.size) → ∀ sp : Nat → Bool, (∀ p ∈ ps, sp p.block = true) → DataW.TrodAll enc P W' 0 sp true ts vs ds ps
  | [], _, _, _, _, h, _, _, _ => by
    obtain ⟨rfl, rfl, rfl⟩ := trodAll_nil h
    exact trodAll_mk0
  | t :: ts, _, _, _, ht, h, hlt, sp, hs => by
    obtain ⟨v, vs1, d, ds1, p, q, rfl, rfl, rfl, ⟨n, h1⟩, h2⟩ := trodAll_cons h
    have ht' := ht t (by simp)
    exact ⟨p, q, ⟨n, DataW.trod_stays (kids_book hl ht'.1) (book_sized ht'.1) (fun h => by cases h) ⟨ht'.2, book_self t⟩ h1 (fun x hx => hb.same (hlt x (by simp [hx]))) (fun x hx => hs x (by simp [hx]))⟩,
      trodAll_below hl hb (fun t h => ht t (by simp [h])) h2 (fun p hp => hlt p (by simp [hp])) sp (fun p hp => hs p (by simp [hp])), rfl⟩

/-- A LAW'S POST: it has returned true, and what was there is as it was. -/
theorem law_post {f : Func} {s : ChangeSpec} {tb : TypeId} {args : Array Value} {ds gs : List (DataW H)} {before : List MemPlace} (hl : laidOutB P = true) (hp0 : f.params.toList.all (fun t => P.readableRec t && decide (t < P.types.size)) = true)
    (hr : f.resultTypes = #[tb]) (hb : P.underlying tb = some .bool) (hv : s.vars = []) (hW : DataW.Whole enc P f.params.toList s.vars false W args.toList ds gs before)
    (hs : (s.fn H (ds ++ gs)).results = [.lit (.bool true)] ∧ (s.fn H (ds ++ gs)).args = ds ∧ (s.fn H (ds ++ gs)).vars = []) (hx : Ext W W') :
    s.post enc P f false true false false W args (.bool true) W' := by
  have hp : ∀ t ∈ f.params.toList, P.readableRec t = true ∧ t < P.types.size := fun t ht => by simpa using List.all_eq_true.1 hp0 t ht
  have hlt := hW.lt
  have hW' := hW
  obtain ⟨p, q, hA, hV, rfl, hfz, hnd⟩ := hW
  rw [hv] at hV
  obtain ⟨rfl, rfl⟩ := trodVars_none hV
  have hbl := hx.below
  have hargs : ∀ sp : Nat → Bool, (∀ p' ∈ p, sp p'.block = true) → DataW.TrodAll enc P W' 0 sp true f.params.toList args.toList (s.fn H (ds ++ [])).args p := fun sp hsp => by
    rw [hs.2.1]
    exact trodAll_below hl hbl hp hA (fun x hx => hlt x (by simp [hx])) sp hsp
  have hres : ∀ (b : Nat) (sp : Nat → Bool) (hd : Bool), DataW.TrodAll enc P W' b sp hd f.resultTypes.toList ((Value.bool true).resultList f.resultTypes.size) (s.fn H (ds ++ [])).results [] := fun b sp hd => by
    rw [hs.1, hr]
    exact trodAll_cons_mk (shut_bool hb _) trodAll_mk0
  have hvars : ∀ sp : Nat → Bool, DataW.TrodVars enc P W' sp s.vars (s.fn H (ds ++ [])).vars [] := fun sp => by
    rw [hv, hs.2.2]; rfl
  refine ⟨ds, [], p ++ [], [], p, [], hW', hres _ _ _, hargs _ (fun x hx => by simpa using hlt x (by simp [hx])), hvars _, World.keptBut_mono (fun x hx => ⟨hx, Or.inr (by simpa using hx)⟩) (hbl.frame _), fun _ => ?_⟩
  refine ⟨ok_one hr rfl (okWide_bool_mk hb _), _, _, ([] ++ p) ++ [], ⟨[] ++ p, [], trodAll_append (hargs _ (fun _ _ => rfl)) (hres _ _ _), hvars _, rfl, ?_, fun ha => by cases ha⟩, ?_⟩
  · intro b off hx
    have hx' : MemPlace.cell b off ∈ p ++ [] := by simpa using hx
    have := hlt _ hx'
    rw [hbl.frozen (p := ⟨b, off, none⟩) this]
    exact hfz b off hx'
  · intro x hx _
    simpa using hx

theorem trod_field {t : TypeId} {fs : Array Field} {fuel : Nat} {cs : List Value} {x : DataW H × List MemPlace} {base : Nat} {sp : Nat → Bool} {held : Bool} (ht : P.underlying t = some (.struct fs)) (h : DataW.trod enc P W base sp held fuel t cs = some x) (i : Nat) (e : TypeId) (o m : Nat) {f : Field} (hf : fs[i]? = some f) (he : f.type = e) (ho : f.offset = o) (hm : P.cellsOf e = m) :
    ∃ n y, DataW.trod enc P W base sp held n e ((cs.drop o).take m) = some y := by
  subst he ho hm
  obtain ⟨xs, n, _, _, _, hl, hx⟩ := DataW.trod_struct ht h
  have hi : i < xs.length := by rw [hl]; exact (Array.getElem?_eq_some_iff.1 hf).1
  exact ⟨n, xs[i], by rw [hx i f hf, List.getElem?_eq_getElem hi]⟩
theorem trod_len {t : TypeId} {fs : Array Field} {fuel : Nat} {cs : List Value} {x : DataW H × List MemPlace} {base : Nat} {sp : Nat → Bool} {held : Bool} (ht : P.underlying t = some (.struct fs)) (h : DataW.trod enc P W base sp held fuel t cs = some x) : cs.length = P.cellsOf t := by
  obtain ⟨xs, n, _, _, hl, _⟩ := DataW.trod_struct ht h
  exact hl
theorem len3 {α : Type} {l : List α} (h : l.length = 3) : ∃ a b c, l = [a, b, c] := by
  match l, h with
  | [a, b, c], _ => exact ⟨a, b, c, rfl⟩
theorem len4 {α : Type} {l : List α} (h : l.length = 4) : ∃ a b c d, l = [a, b, c, d] := by
  match l, h with
  | [a, b, c, d], _ => exact ⟨a, b, c, d, rfl⟩

/-- an argument that is a slice -/
theorem open_sl {α : Type} {d : Cod α} {t e : TypeId} {ok : α → Prop} {r : Reach} {b0 : Nat} {v : Value} {dd : DataW H} {ps : List MemPlace} (ht : P.underlying t = some (.slice e)) (hc : P.cellsOf e = d.sz) (h0 : 0 < d.sz) (hr : Rd enc P W d e ok)
    (hval : Value.okWide P W r b0 t v) (hd : DataW.Trod enc P W 0 (fun _ => true) true t v dd ps) : ∃ A c xs, v = .slice A xs.length c ∧ xs.length ≤ c ∧ xs.length ≤ 9223372036854775807 ∧ C d W (Lo W.heap.size) A xs ∧ ∀ y ∈ xs, ok y := by
  obtain ⟨a, len, cap, rfl⟩ := okWide_slice ht hval
  obtain ⟨fuel, h⟩ := hd
  obtain ⟨A, c, xs, e1, l1, m1, c1, o1⟩ := rd_row ht hc h0 hr h
  simp [Value.cells] at e1
  obtain ⟨rfl, rfl, rfl⟩ := e1
  unfold maxLen at m1
  exact ⟨_, _, xs, rfl, l1, by omega, c1, o1⟩
end
end Go.V
