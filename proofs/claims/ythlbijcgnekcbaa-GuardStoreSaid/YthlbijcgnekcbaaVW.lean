/- maps.DeleteFunc over a store's map: what is below a number stays. -/
import Derived.Test.YthlbijcgnekcbaaKN
import Derived.Maps.RangeRun
set_option linter.all false
set_option linter.unusedVariables false
set_option linter.unnecessarySimpa false
set_option linter.unusedSimpArgs false
set_option maxRecDepth 100000
namespace Go.V
open Go Go.Proofs Go.RowKit
open Go.Maps (Keyed)
open Go.ChangeMaps (setBlock)
theorem setBlock_same {w : World} {b : Nat} {o : Obj} (h : w.heap[b]? = some o) (o' : Obj) : (setBlock w b o').heap[b]? = some o' := by
  have hl := (Array.getElem?_eq_some_iff.1 h).1
  simp [setBlock, hl]
section
variable {P : Program} {T : List TRow} {w w' : World} {a : Act} {n : Nat} {l l' : List (Nat × Value)} {ops : Array Oper} {Q : Exit → Act → World → Prop} {o : Oper} {rest : List Oper} {t k0 e : TypeId}
theorem e_range {m : Operand} {b : Nat} {es : Array MapEntry} {c : Nat} (E : Fr a n l) (ho : o.op = .range t m) (hw : want ops l o = some true) (hT : TbOk P T) (ht : tdesc T t = some (.map k0 e)) (hm : opv l m = some (.map (some b))) (hb : w.heap[b]? = some (.map es c))
    (hl : putE n l o.dst (.pointer (some ⟨w.heap.size, 0, none⟩)) = some l') (k : ∀ (a' : Act), Fr a' n l' → wpList P ops Q rest a' (w.alloc (.mapIter (some b) c #[] c))) : wpList P ops Q (o :: rest) a w := by
  refine step_val E hw ?_ hl k
  simp [execOp, ho, E.eval hm, run_range_map w t k0 e b es c (tdesc_row hT ht) hb, Result.andThen]
theorem e_next {x : Operand} {it g since c0 : Nat} {seen : Array Nat} {es : Array MapEntry} {clock : Nat} (E : Fr a n l) (ho : o.op = .next x false) (hw : want ops l o = some true) (hx : opv l x = some (.pointer (some ⟨it, 0, none⟩)))
    (hr : w.heap[it]? = some (.mapIter (some g) since seen c0)) (hb : w.heap[g]? = some (.map es clock)) (hold : ∀ x ∈ es.toList, x.born < since) (hsc : since ≤ c0)
    (kn : (leftOf es seen).size = 0 → ∀ a', (∀ l', putE n l o.dst (.tuple #[.bool false]) = some l' → Fr a' n l') → wpList P ops Q rest a' w)
    (ky : ∀ en, en ∈ (leftOf es seen).toList → ∀ w1 : World, Chg (· = it) w w1 → w1.heap[it]? = some (.mapIter (some g) since (seen.push en.born) clock) → ∀ a', (∀ l', putE n l o.dst (.tuple #[.bool true, en.key, en.val]) = some l' → Fr a' n l') → wpList P ops Q rest a' w1) :
    wpList P ops Q (o :: rest) a w := by
  refine wpList_step fun K hK => ?_
  rw [if_pos (want_spec E hw)]
  unfold Oper.wp
  rcases run_next_at (P := P) w o.type it g since c0 seen es clock hr hb hold hsc with ⟨h0, h1⟩ | ⟨en, hen, w1, hw1, h1⟩
  · have hrun : (execOp a.eval o).run P w = .ok (.value (.tuple #[.bool false])) w := by
      simp [execOp, ho, E.eval hx, h1, Result.andThen]
    rw [hrun]
    exact hK _ _ (kn h0 _ fun l' hl => putE_spec E hl)
  · have hrun : (execOp a.eval o).run P w = .ok (.value (.tuple #[.bool true, en.key, en.val])) (setBlock w1 it (.mapIter (some g) since (seen.push en.born) clock)) := by
      simp [execOp, ho, E.eval hx, h1, Result.andThen]
    rw [hrun]
    have hr1 : w1.heap[it]? = some (.mapIter (some g) since seen c0) := by rcases hw1 with rfl | rfl <;> exact hr
    have hc : Chg (· = it) w (setBlock w1 it (.mapIter (some g) since (seen.push en.born) clock)) := by
      rcases hw1 with rfl | rfl
      · exact setBlock_chg _ _ _
      · exact (Chg.drew w (· = it)).tr (setBlock_chg _ _ _)
    exact hK _ _ (ky en hen _ hc (setBlock_same hr1 _) _ fun l' hl => putE_spec E hl)
theorem e_entry {x : Operand} {it g since : Nat} {seen : Array Nat} {es : Array MapEntry} {clock : Nat} {en : MapEntry} (E : Fr a n l) (ho : o.op = .entry x) (hw : want ops l o = some true) (hx : opv l x = some (.pointer (some ⟨it, 0, none⟩)))
    (hr : w.heap[it]? = some (.mapIter (some g) since (seen.push en.born) clock)) (hb : w.heap[g]? = some (.map es clock)) (he : en ∈ es.toList) (hn : (es.toList.map (·.born)).Nodup) {kv vv : Value} (hkv : en.key = kv) (hvv : en.val = vv)
    (hl : putE n l o.dst (.tuple #[kv, vv]) = some l') (k : ∀ a', Fr a' n l' → wpList P ops Q rest a' w) : wpList P ops Q (o :: rest) a w := by
  subst hkv hvv
  refine step_val E hw ?_ hl k
  simp [execOp, ho, E.eval hx, run_entry_at (P := P) w it g since seen es clock en hr hb he hn, Result.andThen]
theorem e_delete {m x : Operand} {g : Nat} {es : Array MapEntry} {clock : Nat} {key : Value} (E : Fr a n l) (ho : o.op = .call { callee := .builtin .delete, args := #[m, x], argTypes := #[t, k0] }) (hw : want ops l o = some true) (hT : TbOk P T) (ht : tdesc T t = some (.map k0 e)) (K : Keyed P k0)
    (hm : opv l m = some (.map (some g))) (hx : opv l x = some key) (hkey : ∃ kl, keyOf P k0 key = some kl) (hb : w.heap[g]? = some (.map es clock)) (hes : ∀ e ∈ es.toList, ∃ l, keyOf P k0 e.key = some l) {en : MapEntry} (hen : en ∈ es.toList) (hk : en.key = key) (hd : o.dst = none)
    (k : ∀ (a' : Act) (j : Nat) (e0 : MapEntry), es.toList[j]? = some e0 → e0.key = key → Fr a' n l → wpList P ops Q rest a' (setBlock w g (.map (es.eraseIdxIfInBounds j) clock))) : wpList P ops Q (o :: rest) a w := by
  obtain ⟨kl, hkey⟩ := hkey
  have ht' := tdesc_row hT ht
  rcases K.find w hkey es.toList hes with ⟨_, h2⟩ | ⟨j, e0, h1, h2, h3⟩
  · exact absurd hk (h2 en hen)
  · refine step_val (v := .tuple #[]) (l' := l) E hw (w' := setBlock w g (.map (es.eraseIdxIfInBounds j) clock)) ?_ (by rw [hd]; rfl) fun a' E' => k a' j e0 h2 h3 E'
    have hr : (Builtin.delete_ #[t, k0] o.type #[.map (some g), key]).run P w = .ok (.tuple #[]) (setBlock w g (.map (es.eraseIdxIfInBounds j) clock)) := by
      simp [Builtin.delete_, run_underlying ht', MapKept.run_getObj_map hb, K.check w _ hkey, h1, MapKept.run_setObj_map _ hb, Result.andThen, setBlock]
    unfold execOp
    simp only [ho, resolve, invoke, builtin, Sem.run_bind, Sem.run_pure, Result.andThen_ok, List.map_toArray, List.map_cons, List.map_nil, E.eval hm, E.eval hx, hr]
end

/-! ### lists of entries -/
theorem erase_born : ∀ {es : List MapEntry} {j : Nat} {e0 : MapEntry}, (es.map (·.born)).Nodup → es[j]? = some e0 → es.eraseIdx j = es.filter fun e => e.born != e0.born
  | [], j, e0, _, h => by simp at h
  | x :: es, 0, e0, hn, h => by
    have : x = e0 := by simpa using h
    subst this
    have hn' := List.nodup_cons.1 hn
    rw [List.eraseIdx_zero, List.tail_cons, List.filter_cons, if_neg (by simp)]
    exact (List.filter_eq_self.2 fun y hy => by
      have : y.born ≠ x.born := fun e => hn'.1 (List.mem_map.2 ⟨y, hy, e⟩)
      simpa using this).symm
  | x :: es, j + 1, e0, hn, h => by
    have hn' := List.nodup_cons.1 hn
    have h' : es[j]? = some e0 := by simpa using h
    have hm : e0 ∈ es := List.mem_of_getElem? h'
    have : x.born ≠ e0.born := fun e => hn'.1 (List.mem_map.2 ⟨e0, hm, e.symm⟩)
    rw [List.eraseIdx_cons_succ, List.filter_cons, if_pos (by simpa using this), erase_born hn'.2 h']
theorem filter_less {α : Type} {p q : α → Bool} : ∀ {xs : List α}, (∀ x, q x = true → p x = true) → ∀ {y : α}, y ∈ xs → p y = true → q y = false → (xs.filter q).length < (xs.filter p).length
  | [], _, y, h, _, _ => by cases h
  | x :: xs, hpq, y, h, h1, h2 => by
    have le : ∀ ys : List α, (ys.filter q).length ≤ (ys.filter p).length := fun ys => by
      rw [← List.countP_eq_length_filter, ← List.countP_eq_length_filter]
      exact List.countP_mono_left fun x _ => hpq x
    rw [List.filter_cons, List.filter_cons]
    rcases List.mem_cons.1 h with rfl | h
    · rw [h1, h2]
      have := le xs
      simp
      omega
    · have ih := filter_less hpq h h1 h2
      cases hq : q x with
      | true => rw [hpq x hq]; simpa using ih
      | false =>
        cases hp : p x with
        | true => simp; omega
        | false => simpa using ih
def evI (e : MapEntry) : Int := match e.val with | .int _ v => v | _ => 0
theorem filter_kvs {was : Int} : ∀ {es : List MapEntry} {kvs : List (Nd × Int)}, es.map (fun e => (e.key, e.val)) = kvs.map (fun p => (ndV p.1, .int .i64 p.2)) →
    (es.filter fun e => decide (evI e < was)).map (fun e => (e.key, e.val)) = (kvs.filter fun p => decide (p.2 < was)).map (fun p => (ndV p.1, .int .i64 p.2))
  | [], [], _ => rfl
  | [], _ :: _, h => by cases h
  | _ :: _, [], h => by cases h
  | x :: es, y :: kvs, h => by
    rw [List.map_cons, List.map_cons] at h
    obtain ⟨h1, h2⟩ := List.cons.inj h
    have ih := filter_kvs (was := was) h2
    have hv : evI x = y.2 := by unfold evI; rw [(Prod.mk.inj h1).2]
    rw [List.filter_cons, List.filter_cons, hv]
    cases decide (y.2 < was) with
    | true => rw [if_pos rfl, if_pos rfl, List.map_cons, List.map_cons, ih, h1]
    | false => rw [if_neg (by simp), if_neg (by simp), ih]

/-! ### the closure, and the walk -/
theorem add1_calls {w : World} {gb : Nat} {was v : Int} (x : Nd) (hB : Bx w gb 3 [.int .i64 was]) :
    Calls Try.prog 34 #[ndV x, .int .i64 v, .pointer (some ⟨gb, 0, none⟩)] w fun e w' => ∃ u, e = .returned u ∧ u = .bool (decide (was ≤ v)) ∧ Ext w w' := by
  refine enterV (n := 9) Try.func34 rfl rfl rfl ?_
  intro a E
  replace E := E.pick [(0, ndV x), (1, .int .i64 v), (2, .pointer (some ⟨gb, 0, none⟩))] ⟨rfl, rfl, rfl, trivial⟩
  refine wp_seq ?_
  refine wp_region_lit ?_
  refine e_box E rfl rfl rfl ?_
  intro w1 g1 a hc hg hB1 E_
  replace E := E_ _ rfl; clear E_
  refine vr tbok 1 [] [(1, .int .i64 v), (2, .pointer (some ⟨gb, 0, none⟩)), (5, .bool false)] [] E (by kernel_rfl) trivial ?_
  clear E; intro a E
  refine wpList_nil ?_
  refine th_n ?_
  refine wp_seq ?_
  refine wp_region_lit ?_
  have hB' : Bx w1 gb 3 [.int .i64 was] := hB.chg hc (fun h => h.elim)
  refine vr tbok 4 [.int .i64 was] [(5, .bool (decide (was ≤ v)))] [World.cell? w1 ⟨gb, 0, none⟩ = some (.int .i64 was)] E (by kernel_rfl) (hB'.cell (j := 0) rfl) ?_
  clear E; intro a E
  refine wpList_nil ?_
  refine th_n ?_
  refine wp_ret ?_
  refine ret1 E rfl rfl ?_
  exact ⟨_, rfl, rfl, hc⟩

/-- what the walk knows -/
structure DI (w w1 : World) (g it clock : Nat) (es : List MapEntry) (was : Int) (seen : Array Nat) (es1 : Array MapEntry) : Prop where
  chg : Chg (· = g) w w1
  iter : w1.heap[it]? = some (.mapIter (some g) clock seen clock)
  map : w1.heap[g]? = some (.map es1 clock)
  left : es1.toList = es.filter fun e => decide (evI e < was) || !seen.contains e.born
theorem delFunc_calls {w : World} {g gb : Nat} {was : Int} {kvs : List (Nd × Int)} (hM : Mq Try.prog 64 w g (kvs.map fun p => (ndV p.1, .int .i64 p.2))) (hB : Bx w gb 3 [.int .i64 was]) :
    Calls Try.prog 33 #[.map (some g), .func (.func 34) #[] #[.pointer (some ⟨gb, 0, none⟩)]] w fun e w' => ∃ u, e = .returned u ∧ u = .tuple #[] ∧ Chg (· = g) w w' ∧ Mq Try.prog 64 w' g ((kvs.filter fun p => decide (p.2 < was)).map fun p => (ndV p.1, .int .i64 p.2)) := by
  obtain ⟨⟨es, clock, hb, hk, hes, hnd, hlt⟩, hnk⟩ := hM
  have hgl : g < w.heap.size := (Array.getElem?_eq_some_iff.1 hb).1
  have hgb : gb ≠ g := fun e => by rw [e] at hB; unfold Bx at hB; rw [hb] at hB; cases hB
  have hbl := hB.lt
  -- an entry's key and value
  have hkv : ∀ e ∈ es.toList, ∃ x v, e.key = ndV x ∧ e.val = .int .i64 v := fun e he => by
    have : (e.key, e.val) ∈ es.toList.map (fun e => (e.key, e.val)) := List.mem_map.2 ⟨e, he, rfl⟩
    rw [hk] at this
    obtain ⟨p, _, hp⟩ := List.mem_map.1 this
    exact ⟨p.1, p.2, (Prod.mk.inj hp).1.symm, (Prod.mk.inj hp).2.symm⟩
  have hkn : (es.toList.map (·.key)).Nodup := by
    have : es.toList.map (·.key) = (es.toList.map (fun e => (e.key, e.val))).map Prod.fst := by rw [List.map_map]; rfl
    rw [this, hk]; exact hnk
  have huniq : ∀ e ∈ es.toList, ∀ e' ∈ es.toList, e.key = e'.key → e = e' := fun e he e' he' h => by
    obtain ⟨i, hi, rfl⟩ := List.mem_iff_getElem.1 he
    obtain ⟨j, hj, rfl⟩ := List.mem_iff_getElem.1 he'
    have := (List.getElem_inj (h₀ := by simpa using hi) (h₁ := by simpa using hj) hkn).1 (by simpa using h)
    subst this; rfl
  refine enterV (n := 19) Try.func33 rfl rfl rfl ?_
  intro a E
  replace E := E.pick [(0, .map (some g)), (1, .func (.func 34) #[] #[.pointer (some ⟨gb, 0, none⟩)])] ⟨rfl, rfl, trivial⟩
  refine wp_seq ?_
  refine wp_region_lit ?_
  refine vr tbok 1 [] [(0, .map (some g)), (1, .func (.func 34) #[] #[.pointer (some ⟨gb, 0, none⟩)]), (6, .map (some g))] [] E (by kernel_rfl) trivial ?_
  clear E; intro a E
  refine e_range E rfl rfl tbok rfl rfl hb rfl ?_
  intro a E
  have hcr : Chg (· = g) w (w.alloc (.mapIter (some g) clock #[] clock)) := (Chg.alloc _ _).mono fun _ _ h => h.elim
  have hit : (w.alloc (.mapIter (some g) clock #[] clock)).heap[w.heap.size]? = some (.mapIter (some g) clock #[] clock) := heap_alloc_new _ _
  have hgr : (w.alloc (.mapIter (some g) clock #[] clock)).heap[g]? = some (.map es clock) := ((Chg.alloc w _).block g hgl (fun h => h.elim)).trans hb
  replace E := E.pick [(0, .map (some g)), (1, .func (.func 34) #[] #[.pointer (some ⟨gb, 0, none⟩)]), (7, .pointer (some ⟨w.heap.size, 0, none⟩))] ⟨rfl, rfl, rfl, trivial⟩
  have hD : DI w (w.alloc (.mapIter (some g) clock #[] clock)) g w.heap.size clock es.toList was #[] es := ⟨hcr, hit, hgr, (List.filter_eq_self.2 fun e _ => by simp).symm⟩
  generalize w.alloc (.mapIter (some g) clock #[] clock) = w1 at hD ⊢
  clear hcr hit hgr
  refine wpList_nil ?_
  refine th_n ?_
  refine wp_block ?_
  refine loopV (fun m a w1 => ∃ (seen : Array Nat) (es1 : Array MapEntry), Fr a 19 [(0, .map (some g)), (1, .func (.func 34) #[] #[.pointer (some ⟨gb, 0, none⟩)]), (7, .pointer (some ⟨w.heap.size, 0, none⟩))] ∧ DI w w1 g w.heap.size clock es.toList was seen es1 ∧ m = (es.toList.filter fun e => !seen.contains e.born).length) _ ⟨#[], es, E, hD, rfl⟩ ?_
  clear hD E
  rintro m a w1 ⟨seen, es1, E, hD, hm⟩
  have sub : ∀ e ∈ es1.toList, e ∈ es.toList := fun e he => by rw [hD.left] at he; exact (List.mem_filter.1 he).1
  have hnd1 : (es1.toList.map (·.born)).Nodup := by
    rw [hD.left]
    exact (List.Sublist.map _ List.filter_sublist).nodup hnd
  have hszw : w.heap.size ≤ w1.heap.size := hD.chg.size
  refine wp_seq ?_
  refine wp_region_lit ?_
  refine e_next E rfl rfl rfl hD.iter hD.map (fun e he => hlt e (sub e he)) (Nat.le_refl _) ?_ ?_
  · -- nothing is left
    intro h0 a E_
    replace E := E_ _ rfl; clear E_
    refine vr tbok 1 [] [(0, .map (some g)), (9, .bool false)] [] E (by kernel_rfl) trivial ?_
    clear E; intro a E
    refine wpList_nil ?_
    refine th_n ?_
    refine wp_seq ?_
    refine c_false E rfl ?_
    refine wp_exit ?_
    refine th_exit ?_
    refine th_exit ?_
    refine bl_hit ?_
    refine bodyPost_end (v := .tuple #[]) (results_none rfl _ _ _) E.nodef ?_
    have hall : ∀ e ∈ es1.toList, seen.contains e.born = true := fun e he => by
      refine Classical.byContradiction fun hc => ?_
      have h1 : e ∈ (leftOf es1 seen).toList := by
        unfold leftOf
        rw [Array.toList_filter]
        exact List.mem_filter.2 ⟨he, by simpa using hc⟩
      have h2 := List.length_pos_of_mem h1
      rw [Array.length_toList] at h2
      omega
    have hleft : es1.toList = es.toList.filter fun e => decide (evI e < was) := by
      have h1 := hD.left
      have h2 : es1.toList = es1.toList.filter fun e => decide (evI e < was) || !seen.contains e.born := by rw [h1, List.filter_filter]; congr 1; funext e; simp
      have h3 : es1.toList.filter (fun e => decide (evI e < was) || !seen.contains e.born) = es1.toList.filter fun e => decide (evI e < was) := List.filter_congr fun e he => by rw [hall e he]; simp
      have h4 : es.toList.filter (fun e => decide (evI e < was)) = es1.toList.filter fun e => decide (evI e < was) := by
        rw [h1, List.filter_filter]; congr 1; funext e; cases decide (evI e < was) <;> simp
      rw [h4, ← h3, ← h2]
    refine ⟨_, rfl, rfl, hD.chg, ⟨⟨es1, clock, hD.map, by rw [hleft]; exact filter_kvs hk, fun e he => hes e (sub e he), hnd1, fun e he => hlt e (sub e he)⟩, ?_⟩⟩
    exact (List.Sublist.map _ (List.Sublist.map _ List.filter_sublist)).nodup hnk
  · -- an entry has come
    intro en hen w2 hc2 hit2 a E_
    have hen1 : en ∈ es1.toList ∧ seen.contains en.born = false := by
      unfold leftOf at hen
      rw [Array.toList_filter] at hen
      have := List.mem_filter.1 hen
      exact ⟨this.1, by simpa using this.2⟩
    obtain ⟨x, v, hx, hv⟩ := hkv en (sub en hen1.1)
    have hev : evI en = v := by unfold evI; rw [hv]
    rw [hx, hv] at E_
    replace E := E_ _ rfl; clear E_
    have hmap2 : w2.heap[g]? = some (.map es1 clock) := (hc2.block g (Nat.lt_of_lt_of_le hgl hszw) (fun h => by omega)).trans hD.map
    refine vr tbok 1 [] [(0, .map (some g)), (1, .func (.func 34) #[] #[.pointer (some ⟨gb, 0, none⟩)]), (7, .pointer (some ⟨w.heap.size, 0, none⟩)), (9, .bool true)] [] E (by kernel_rfl) trivial ?_
    clear E; intro a E
    refine wpList_nil ?_
    refine th_n ?_
    refine wp_seq ?_
    refine c_true E rfl ?_
    refine wp_skip ?_
    refine th_n ?_
    refine wp_block ?_
    refine wp_seq ?_
    refine wp_region_lit ?_
    refine e_entry E rfl rfl rfl hit2 hmap2 hen1.1 hnd1 hx hv rfl ?_
    clear E; intro a E
    refine vr tbok 2 [] [(0, .map (some g)), (1, .func (.func 34) #[] #[.pointer (some ⟨gb, 0, none⟩)]), (7, .pointer (some ⟨w.heap.size, 0, none⟩)), (11, ndV x), (12, .int .i64 v)] [] E (by kernel_rfl) trivial ?_
    clear E; intro a E
    refine e_alloc E rfl rfl tbok rfl ?_
    intro w3 g3 a hc3 hg3 hB3 E_
    replace E := E_ _ rfl; clear E_
    refine e_store (g := g3) (off := 0) E rfl rfl rfl rfl tbok rfl hB3 rfl rfl rfl rfl ?_
    clear E; intro w4 a hc4 hB4 E
    refine vr tbok 1 [] [(0, .map (some g)), (1, .func (.func 34) #[] #[.pointer (some ⟨gb, 0, none⟩)]), (4, .pointer (some ⟨g3, 0, none⟩)), (5, .int .i64 v), (7, .pointer (some ⟨w.heap.size, 0, none⟩))] [] E (by kernel_rfl) trivial ?_
    clear E; intro a E
    refine wpList_nil ?_
    refine th_n ?_
    refine wp_seq ?_
    refine wp_region_lit ?_
    have hcells : cellsAt w4 g3 0 [.int .i64 x.P, .int .i64 x.Lo, .int .i64 x.Hi] := hB4.sub 0 _ rfl
    refine vr tbok 3 [.agg #[.int .i64 x.P, .int .i64 x.Lo, .int .i64 x.Hi]] [(0, .map (some g)), (4, .pointer (some ⟨g3, 0, none⟩)), (7, .pointer (some ⟨w.heap.size, 0, none⟩)), (13, .func (.func 34) #[] #[.pointer (some ⟨gb, 0, none⟩)]), (1, .func (.func 34) #[] #[.pointer (some ⟨gb, 0, none⟩)]), (14, ndV x), (15, .int .i64 v)] [cellsAt w4 g3 0 [.int .i64 x.P, .int .i64 x.Lo, .int .i64 x.Hi]] E (by kernel_rfl) hcells ?_
    clear E; intro a E
    have hs2 := hc2.size
    have hs3 := hc3.size
    have hs4 := hc4.size
    have c24 : Chg (· = w.heap.size) w1 w4 := (hc2.trans hc3 fun k hk h => h.elim).trans hc4 fun k hk h => by omega
    have hB4' : Bx w4 gb 3 [.int .i64 was] := ((hB.chg hD.chg (fun h => hgb h)).chg c24 (fun h => by omega))
    refine e_callv (vs := [ndV x, .int .i64 v]) E rfl rfl rfl Try.func34 rfl rfl rfl (add1_calls x hB4') ?_
    rintro _ w5 a ⟨rfl, hc5⟩ E_
    replace E := E_ _ rfl; clear E_
    have c25 : Chg (· = w.heap.size) w1 w5 := c24.ext hc5
    have hs5 := hc5.size
    have hcells5 : cellsAt w5 g3 0 [.int .i64 x.P, .int .i64 x.Lo, .int .i64 x.Hi] := hc5.cellsAt (fun h => h) hcells
    have hmap5 : w5.heap[g]? = some (.map es1 clock) := (c25.block g (Nat.lt_of_lt_of_le hgl hszw) (fun h => by omega)).trans hD.map
    have hiw : w.heap.size < w2.heap.size := (Array.getElem?_eq_some_iff.1 hit2).1
    have hit5 : w5.heap[w.heap.size]? = some (.mapIter (some g) clock (seen.push en.born) clock) := by
      have c35 : Chg (· = g3) w2 w5 := (((hc3.mono fun _ _ h => h.elim) : Chg (· = g3) w2 w3).tr hc4).ext hc5
      exact (c35.block w.heap.size hiw (fun h => by omega)).trans hit2
    have cps : ∀ b : Nat, (seen.push en.born).contains b = (seen.contains b || b == en.born) := fun b => by rw [Bool.eq_iff_iff]; simp [Array.mem_push, or_comm]
    have hless : (es.toList.filter fun e => !(seen.push en.born).contains e.born).length < (es.toList.filter fun e => !seen.contains e.born).length := by
      refine filter_less (fun e h => ?_) (sub en hen1.1) (by rw [hen1.2]; rfl) (by rw [cps]; simp)
      rw [cps] at h
      cases hs : seen.contains e.born with
      | true => rw [hs] at h; simp at h
      | false => rfl
    refine wpList_nil ?_
    refine th_n ?_
    by_cases hcmp : was ≤ v
    · -- struck
      rw [decide_eq_true hcmp] at E
      refine c_true E rfl ?_
      refine wp_region_lit ?_
      refine vr tbok 2 [.agg #[.int .i64 x.P, .int .i64 x.Lo, .int .i64 x.Hi]] [(0, .map (some g)), (1, .func (.func 34) #[] #[.pointer (some ⟨gb, 0, none⟩)]), (7, .pointer (some ⟨w.heap.size, 0, none⟩)), (17, .map (some g)), (18, ndV x)] [cellsAt w5 g3 0 [.int .i64 x.P, .int .i64 x.Lo, .int .i64 x.Hi]] E (by kernel_rfl) hcells5 ?_
      clear E; intro a E
      refine e_delete E rfl rfl tbok rfl keyNd rfl rfl (hx ▸ hes en (sub en hen1.1)) hmap5 (fun e he => hes e (sub e he)) hen1.1 hx rfl ?_
      intro a j e0 hj hk0 E
      have he0 : e0 = en := huniq e0 (sub e0 (List.mem_of_getElem? hj)) en (sub en hen1.1) (hk0.trans hx.symm)
      subst he0
      have cs : Chg (· = g) w5 (setBlock w5 g (.map (es1.eraseIdxIfInBounds j) clock)) := setBlock_chg _ _ _
      refine wpList_nil ?_
      refine bl_n ?_
      refine th_n ?_
      refine ⟨_, Nat.lt_of_lt_of_eq hless hm.symm, seen.push e0.born, es1.eraseIdxIfInBounds j, E.pick _ ⟨rfl, rfl, rfl, trivial⟩, ⟨(hD.chg.trans c25 fun k hk h => by omega).tr cs, (cs.block _ (by omega) (fun h => by omega)).trans hit5, setBlock_same hmap5 _, ?_⟩, rfl⟩
      rw [show (es1.eraseIdxIfInBounds j).toList = es1.toList.eraseIdx j by simp, erase_born hnd1 hj, hD.left, List.filter_filter]
      refine List.filter_congr fun e he => ?_
      rw [cps]
      by_cases hb2 : e.born = e0.born
      · have hee : e = e0 := by
          obtain ⟨i, hi, rfl⟩ := List.mem_iff_getElem.1 he
          obtain ⟨k, hk2, hk3⟩ := List.mem_iff_getElem.1 (sub e0 hen1.1)
          have := (List.getElem_inj (h₀ := by simpa using hi) (h₁ := by simpa using hk2) hnd).1 (by simpa [hk3] using hb2)
          subst this; exact hk3
        rw [hee, hev, decide_eq_false (by omega)]
        simp
      · have : (e.born == e0.born) = false := by simpa using hb2
        have h2 : (e.born != e0.born) = true := by simpa using hb2
        rw [this, h2, Bool.or_false, Bool.true_and]
    · -- it stays
      rw [decide_eq_false hcmp] at E
      refine c_false E rfl ?_
      refine wp_skip ?_
      refine bl_n ?_
      refine th_n ?_
      refine ⟨_, Nat.lt_of_lt_of_eq hless hm.symm, seen.push en.born, es1, E.pick _ ⟨rfl, rfl, rfl, trivial⟩, ⟨hD.chg.trans c25 fun k hk h => by omega, hit5, hmap5, ?_⟩, rfl⟩
      rw [hD.left]
      refine List.filter_congr fun e he => ?_
      rw [cps]
      by_cases hb2 : e.born = en.born
      · have hee : e = en := by
          obtain ⟨i, hi, rfl⟩ := List.mem_iff_getElem.1 he
          obtain ⟨k, hk2, hk3⟩ := List.mem_iff_getElem.1 (sub en hen1.1)
          have := (List.getElem_inj (h₀ := by simpa using hi) (h₁ := by simpa using hk2) hnd).1 (by simpa [hk3] using hb2)
          subst this; exact hk3
        rw [hee, hev, decide_eq_true (by omega)]
        simp
      · have : (e.born == en.born) = false := by simpa using hb2
        rw [this, Bool.or_false]
section
variable {w w0 : World} {a : Act} {n : Nat} {l l' : List (Nat × Value)} {ops : Array Oper} {Q : Exit → Act → World → Prop} {o : Oper} {rest : List Oper} {S Fa : Nat → Prop} {L : List Ent}
/-- the call of maps.DeleteFunc -/
theorem h_delFunc {was : Int} {g gb : Nat} {kvs : List (Nd × Int)} {x y : Operand} {tys : Array TypeId} (H : Hp S Fa w0 w L) (j i : Nat) (hj : nth L j = .mp Try.prog 64 g (kvs.map fun p => (ndV p.1, .int .i64 p.2))) (hi : nth L i = .box gb 3 [.int .i64 was])
    (E : Fr a n l) (ho : o.op = .call { callee := .value (.func 33), args := #[x, y], argTypes := tys }) (hw : want ops l o = some true)
    (hx : opv l x = some (.map (some g))) (hy : opv l y = some (.func (.func 34) #[] #[.pointer (some ⟨gb, 0, none⟩)]))
    (k : ∀ (w' : World) (a' : Act), Chg (nth L j).at w w' → Hp S Fa w0 w' (setn L j (.mp Try.prog 64 g ((kvs.filter fun p_ => decide (p_.2 < was)).map fun p => (ndV p.1, .int .i64 p.2)))) → (∀ l', putE n l o.dst (.tuple #[]) = some l' → Fr a' n l') → wpList Try.prog ops Q rest a' w') :
    wpList Try.prog ops Q (o :: rest) a w := by
  refine e_call E ho hw Try.func33 rfl rfl (vs := [.map (some g), .func (.func 34) #[] #[.pointer (some ⟨gb, 0, none⟩)]]) ?_ (delFunc_calls (H.mp j hj) (H.box i hi)) ?_
  · simp [opvs, hx, hy]
  · rintro _ w' a' ⟨rfl, hc, hM⟩ E'
    have hc' : Chg (nth L j).at w w' := by rw [hj]; exact hc
    exact k w' a' hc' (H.put j _ hc' (fun q hq => ⟨.inl (by rw [hj]; exact hq), Nat.lt_of_le_of_lt (Nat.le_of_eq hq) hM.1.lt⟩) fun _ _ => hM) E'
end
end Go.V
