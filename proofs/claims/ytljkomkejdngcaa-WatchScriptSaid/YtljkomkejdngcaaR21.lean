/- Plain theory: the document's watch answers as the program's does. No program. -/
import Derived.Test.YtljkomkejdngcaaWT
import Derived.Test.YtljkomkejdngcaaRF
set_option linter.all false
set_option linter.unusedVariables false
set_option maxRecDepth 100000
namespace Go.V
open Go Go.Proofs
theorem getD_repR {n j : Nat} : (List.replicate n (-1 : Int)).getD j 0 = if j < n then -1 else 0 := by
  rw [List.getD_eq_getElem?_getD, List.getElem?_replicate]
  by_cases h : j < n <;> simp [h]
theorem pigeonR (f : Nat → Nat) (n : Nat) (hf : ∀ i, i ≤ n → f i < n) : ∃ i j, i < j ∧ j ≤ n ∧ f i = f j := by
  refine Classical.byContradiction fun hno => ?_
  have key : ∀ k, k ≤ n + 1 → ∃ ms : List Int, ms.length = n ∧ k ≤ cnt ms ∧ ∀ v, v < n → (0 ≤ ms.getD v 0 → ∃ i, i < k ∧ f i = v) := by
    intro k
    induction k with
    | zero =>
      intro _
      refine ⟨List.replicate n (-1), by simp, by omega, fun v hv h => ?_⟩
      rw [getD_repR] at h
      split at h <;> omega
    | succ k ih =>
      intro hk
      obtain ⟨ms, h1, h2, h3⟩ := ih (by omega)
      have hfk := hf k (by omega)
      have hneg : ms.getD (f k) 0 < 0 := by
        refine Classical.byContradiction fun c => ?_
        obtain ⟨i, hi, e⟩ := h3 (f k) hfk (by omega)
        exact hno ⟨i, k, hi, by omega, e⟩
      have hset : ∀ j, (ms.set (f k) 0).getD j 0 = if f k = j then 0 else ms.getD j 0 := fun j => getD_set (by omega)
      refine ⟨ms.set (f k) 0, by simpa using h1, ?_, fun v hv h => ?_⟩
      · have := cnt_lt ms (ms.set (f k) 0) (by simp) (fun i hi h0 => by rw [hset]; split <;> omega) (f k) (by omega) hneg (by rw [hset, if_pos rfl]; omega)
        omega
      · rw [hset] at h
        by_cases c : f k = v
        · exact ⟨k, by omega, c⟩
        · rw [if_neg c] at h
          obtain ⟨i, hi, e⟩ := h3 v hv h
          exact ⟨i, by omega, e⟩
  obtain ⟨ms, h1, h2, _⟩ := key (n + 1) (by omega)
  have := cnt_le ms
  omega

/-! ### what is reached -/
structure RI (nd : List Nd) (gd : List Int) (n L q0 : Nat) (out far : List Int) (seen : List Bool) (i l : Nat) : Prop where
  fl : far.length = out.length
  sl : seen.length = n
  one : 1 ≤ out.length
  zero : out.getD 0 0 = (q0 : Int)
  st : ∀ k, k < out.length → ∃ q : Nat, q < n ∧ out.getD k 0 = (q : Int)
  inj : ∀ a b, a < out.length → b < out.length → out.getD a 0 = out.getD b 0 → a = b
  sn : ∀ q, q < n → (seen.getD q false = true ↔ ∃ k, k < out.length ∧ out.getD k 0 = (q : Int))
  rch : ∀ k, k < out.length → ∃ t : List Nat, (∀ l ∈ t, l < L) ∧ out.getD k 0 = (runT nd gd q0 t : Int)
  fr : ∀ k, k < out.length → 0 ≤ far.getD k 0 ∧ far.getD k 0 ≤ (k : Int)
  done : ∀ k l', (k < i ∨ k = i ∧ l' < l) → k < out.length → l' < L → ∃ j, j < out.length ∧ out.getD j 0 = (stp nd gd (out.getD k 0).toNat l' : Int)
section
variable {N : Nat} {p : Int} {acc : List Bool} {gd : List Int} {nd : List Nd} {n L q0 : Nat} {out far : List Int} {seen : List Bool} {i l : Nat}
theorem RI.few (I : RI nd gd n L q0 out far seen i l) : out.length ≤ n := by
  refine Classical.byContradiction fun h => ?_
  obtain ⟨a, b, h1, h2, h3⟩ := pigeonR (fun i => (out.getD i 0).toNat) n fun i hi => by
    obtain ⟨q, hq, e⟩ := I.st i (by omega)
    show (out.getD i 0).toNat < n
    omega
  have h3 : (out.getD a 0).toNat = (out.getD b 0).toNat := h3
  obtain ⟨q, hq, e⟩ := I.st a (by omega)
  obtain ⟨q', hq', e'⟩ := I.st b (by omega)
  have := I.inj a b (by omega) (by omega) (by omega)
  omega
theorem RI.old (I : RI nd gd n L q0 out far seen i l) {a : Nat} (e : out.getD i 0 = (a : Int)) (hn : stp nd gd a l < n) (h : seen.getD (stp nd gd a l) false = true) : RI nd gd n L q0 out far seen i (l + 1) :=
  ⟨I.fl, I.sl, I.one, I.zero, I.st, I.inj, I.sn, I.rch, I.fr, fun k l' hk h1 h2 => by
    by_cases c : k = i ∧ l' = l
    · obtain ⟨rfl, rfl⟩ := c
      rw [e, Int.toNat_natCast]
      exact (I.sn _ hn).1 h
    · exact I.done k l' (by omega) h1 h2⟩
theorem RI.row (I : RI nd gd n L q0 out far seen i L) : RI nd gd n L q0 out far seen (i + 1) 0 :=
  ⟨I.fl, I.sl, I.one, I.zero, I.st, I.inj, I.sn, I.rch, I.fr, fun k l' hk h1 h2 => I.done k l' (by omega) h1 h2⟩
theorem RI.new (I : RI nd gd n L q0 out far seen i l) {a : Nat} (hi : i < out.length) (hl : l < L) (e : out.getD i 0 = (a : Int)) (hn : stp nd gd a l < n) (h : ¬ seen.getD (stp nd gd a l) false = true) :
    RI nd gd n L q0 (out ++ [(stp nd gd a l : Int)]) (far ++ [far.getD i 0 + 1]) (seen.set (stp nd gd a l) true) i (l + 1) := by
  have hno : ∀ k, k < out.length → out.getD k 0 ≠ (stp nd gd a l : Int) := fun k hk c => h ((I.sn _ hn).2 ⟨k, hk, c⟩)
  have ln : (out ++ [(stp nd gd a l : Int)]).length = out.length + 1 := by simp
  have fl := I.fl
  refine ⟨by simp [fl], by rw [List.length_set]; exact I.sl, by omega, ?_, fun k hk => ?_, fun x y hx hy hxy => ?_, fun q hq => ?_, fun k hk => ?_, fun k hk => ?_, fun k l' hk h1 h2 => ?_⟩
  · rw [getD_snoc, if_neg (by have := I.one; omega)]; exact I.zero
  · rw [getD_snoc]
    by_cases c : k = out.length
    · rw [if_pos c]; exact ⟨_, hn, rfl⟩
    · rw [if_neg c]; exact I.st k (by omega)
  · rw [getD_snoc, getD_snoc] at hxy
    by_cases c1 : x = out.length
    · by_cases c2 : y = out.length
      · omega
      · rw [if_pos c1, if_neg c2] at hxy
        exact absurd hxy.symm (hno y (by omega))
    · by_cases c2 : y = out.length
      · rw [if_neg c1, if_pos c2] at hxy
        exact absurd hxy (hno x (by omega))
      · rw [if_neg c1, if_neg c2] at hxy
        exact I.inj x y (by omega) (by omega) hxy
  · rw [getD_set (by rw [I.sl]; exact hn)]
    by_cases c : stp nd gd a l = q
    · rw [if_pos c]
      refine ⟨fun _ => ⟨out.length, by omega, ?_⟩, fun _ => rfl⟩
      rw [getD_snoc, if_pos rfl, c]
    · rw [if_neg c, I.sn q hq]
      constructor
      · rintro ⟨k, hk, hk2⟩
        exact ⟨k, by omega, by rw [getD_snoc, if_neg (by omega)]; exact hk2⟩
      · rintro ⟨k, hk, hk2⟩
        rw [getD_snoc] at hk2
        by_cases c2 : k = out.length
        · rw [if_pos c2] at hk2; omega
        · rw [if_neg c2] at hk2; exact ⟨k, by omega, hk2⟩
  · rw [getD_snoc]
    by_cases c : k = out.length
    · rw [if_pos c]
      obtain ⟨t, h1, h2⟩ := I.rch i hi
      refine ⟨t ++ [l], fun y hy => ?_, ?_⟩
      · rcases List.mem_append.1 hy with hy | hy
        · exact h1 y hy
        · rw [List.mem_singleton.1 hy]; exact hl
      · rw [runT_snoc, show a = runT nd gd q0 t by omega]
    · rw [if_neg c]; exact I.rch k (by omega)
  · rw [getD_snoc]
    by_cases c : k = far.length
    · rw [if_pos c]
      have := I.fr i hi
      omega
    · rw [if_neg c]; exact I.fr k (by omega)
  · by_cases c : k = out.length
    · omega
    · have e2 : (out ++ [(stp nd gd a l : Int)]).getD k 0 = out.getD k 0 := by rw [getD_snoc, if_neg c]
      rw [e2]
      by_cases c2 : k = i ∧ l' = l
      · obtain ⟨rfl, rfl⟩ := c2
        refine ⟨out.length, by omega, ?_⟩
        rw [getD_snoc, if_pos rfl, e, Int.toNat_natCast]
      · obtain ⟨j, hj, ej⟩ := I.done k l' (by omega) (by omega) h2
        exact ⟨j, by omega, by rw [getD_snoc, if_neg (by omega)]; exact ej⟩
theorem reached_l1_ok (hN : 5000 ≤ N) (V : Valid p acc gd nd) {a : Nat} (ha : a < acc.length) : ∀ (m l : Nat) (out far : List Int) (seen : List Bool), l ≤ two p → two p - l < m → RI nd gd acc.length (two p) q0 out far seen i l → i < out.length → out.getD i 0 = (a : Int) →
    Ok (ref21_reached_l1 N p acc gd nd (i : Int) m out far seen (l : Int)) fun r => RI nd gd acc.length (two p) q0 r.1 r.2.1 r.2.2 i (two p) ∧ i < r.1.length
  | 0, l, out, far, seen, _, h, _, _, _ => by omega
  | m + 1, l, out, far, seen, k0, k1, I, hi, e => by
    have sh := shl_two ⟨V.p0, V.p8⟩
    have a2 := V.a2
    have hfew := I.few
    have hfl := I.fl
    have hsl := I.sl
    unfold ref21_reached_l1
    refine Ok.ask V.p0 ?_
    rw [sh.1]
    by_cases hl : l < two p
    · have hs := (stp_eq V ha l).2
      rw [if_pos (by omega), show IntKind.u8.wrap (l : Int) = (l : Int) from wrap_u8 (by omega) (by omega), Int.toNat_natCast i, e, rNext_ok hN V (by omega) ha, Option.bind_some, Int.toNat_natCast, show ((l : Int) + 1) = ((l + 1 : Nat) : Int) by omega]
      refine Ok.ask (by unfold idx; omega) (Ok.ask (by unfold idx; omega) ?_)
      by_cases c : seen.getD (stp nd gd a l) false = true
      · rw [if_pos c]
        exact Ok.ask (by unfold in64; omega) (reached_l1_ok hN V ha m (l + 1) out far seen (by omega) (by omega) (I.old e hs c) hi e)
      · rw [if_neg c]
        have hf := I.fr i hi
        refine Ok.ask (by simp; omega) (Ok.ask (by unfold idx; omega) (Ok.ask (by unfold in64; omega) (Ok.ask (by simp; omega) (Ok.ask (by unfold in64; omega) ?_))))
        refine reached_l1_ok hN V ha m (l + 1) _ _ _ (by omega) (by omega) (I.new hi hl e hs c) (by simp; omega) ?_
        rw [getD_snoc, if_neg (by omega)]
        exact e
    · rw [if_neg (by omega)]
      obtain rfl : l = two p := by omega
      exact Ok.pure ⟨I, hi⟩
theorem reached_l0_ok (hN : 5000 ≤ N) (V : Valid p acc gd nd) : ∀ (m i : Nat) (out far : List Int) (seen : List Bool), i ≤ out.length → acc.length - i < m → RI nd gd acc.length (two p) q0 out far seen i 0 →
    Ok (ref21_reached_l0 N p acc gd nd m out far seen (i : Int)) fun r => ∃ s, RI nd gd acc.length (two p) q0 r.1 r.2 s r.1.length 0
  | 0, i, out, far, seen, _, h, _ => by omega
  | m + 1, i, out, far, seen, k0, k1, I => by
    have sh := shl_two ⟨V.p0, V.p8⟩
    have a2 := V.a2
    have hfew := I.few
    unfold ref21_reached_l0
    by_cases hi : i < out.length
    · obtain ⟨a, ha, e⟩ := I.st i hi
      have h1 := reached_l1_ok (N := N) hN V ha N 0 out far seen (by omega) (by omega) I hi e
      rw [if_pos (show (i : Int) < ((out.length : Nat) : Int) by omega)]
      refine Ok.bind h1 fun r hr => Ok.ask (by unfold in64; omega) ?_
      have hfew2 := hr.1.few
      rw [show ((i : Int) + 1) = ((i + 1 : Nat) : Int) by omega]
      exact reached_l0_ok hN V m (i + 1) _ _ _ (by have := hr.2; omega) (by omega) hr.1.row
    · rw [if_neg (by omega)]
      obtain rfl : i = out.length := by omega
      exact Ok.pure ⟨seen, I⟩
/-- all that is reached, and no more -/
structure Rch (nd : List Nd) (gd : List Int) (n L q0 : Nat) (out : List Int) : Prop where
  few : out.length ≤ n
  one : 1 ≤ out.length
  st : ∀ k, k < out.length → ∃ q : Nat, q < n ∧ out.getD k 0 = (q : Int)
  rch : ∀ k, k < out.length → ∃ t : List Nat, (∀ l ∈ t, l < L) ∧ out.getD k 0 = (runT nd gd q0 t : Int)
  all : ∀ t : List Nat, (∀ l ∈ t, l < L) → ∃ k, k < out.length ∧ out.getD k 0 = (runT nd gd q0 t : Int)
theorem RI.all (I : RI nd gd n L q0 out far seen out.length 0) : ∀ (t : List Nat), (∀ l ∈ t, l < L) → ∀ k, k < out.length → ∃ j, j < out.length ∧ out.getD j 0 = (runT nd gd (out.getD k 0).toNat t : Int)
  | [], _, k, hk => by
    obtain ⟨q, hq, e⟩ := I.st k hk
    refine ⟨k, hk, ?_⟩
    show out.getD k 0 = (((out.getD k 0).toNat : Nat) : Int)
    omega
  | l :: t, h, k, hk => by
    obtain ⟨j, hj, e⟩ := I.done k l (by omega) hk (h l List.mem_cons_self)
    obtain ⟨j2, hj2, e2⟩ := I.all t (fun y hy => h y (List.mem_cons_of_mem _ hy)) j hj
    rw [e, Int.toNat_natCast] at e2
    exact ⟨j2, hj2, e2⟩
theorem reached_ok (hN : 5000 ≤ N) (V : Valid p acc gd nd) {q : Nat} (hq : q < acc.length) : Ok (ref21_reached N p acc gd nd (q : Int)) fun r => Rch nd gd acc.length (two p) q r.1 := by
  have a2 := V.a2
  unfold ref21_reached
  rw [Int.toNat_natCast, Int.toNat_natCast]
  refine Ok.ask (by omega) (Ok.ask (by unfold idx; simp; omega) ?_)
  have hs : ∀ k, (List.set (List.replicate acc.length false) q true).getD k false = true ↔ q = k := fun k => by
    rw [getD_set (by simp; exact hq)]
    by_cases c : q = k
    · rw [if_pos c]; simp [c]
    · rw [if_neg c, getD_rep]; simp [c]
  have I : RI nd gd acc.length (two p) q [(q : Int)] [0] (List.set (List.replicate acc.length false) q true) 0 0 := by
    refine ⟨rfl, by simp, by simp, rfl, fun k hk => ?_, fun a b ha hb _ => ?_, fun k hk => ?_, fun k hk => ?_, fun k hk => ?_, fun k l' hk _ _ => by omega⟩
    · obtain rfl : k = 0 := by simp at hk; exact hk
      exact ⟨q, hq, rfl⟩
    · simp at ha hb; omega
    · rw [hs]
      constructor
      · rintro rfl; exact ⟨0, by simp, rfl⟩
      · rintro ⟨j, hj, e⟩
        obtain rfl : j = 0 := by simp at hj; exact hj
        have e : (q : Int) = (k : Int) := e
        omega
    · obtain rfl : k = 0 := by simp at hk; exact hk
      exact ⟨[], (fun l h => by cases h), rfl⟩
    · obtain rfl : k = 0 := by simp at hk; exact hk
      exact ⟨Int.le_refl _, Int.le_refl _⟩
  refine Ok.bind (reached_l0_ok (N := N) hN V N 0 _ _ _ (by simp) (by omega) I) fun r ⟨s, hr⟩ => Ok.pure ?_
  refine ⟨hr.few, hr.one, hr.st, hr.rch, fun t ht => ?_⟩
  obtain ⟨j, hj, e⟩ := hr.all t ht 0 hr.one
  rw [hr.zero, Int.toNat_natCast] at e
  exact ⟨j, hj, e⟩
/-! ### verdicts -/
theorem Far.never {good : List Bool} {off : List Int} (V : Valid p acc gd nd) (F : Far nd gd acc.length (two p) good off) : ∀ (t : List Nat) (q : Nat), (∀ l ∈ t, l < two p) → q < acc.length → off.getD q 0 < 0 → good.getD (runT nd gd q t) false = false
  | [], q, _, hq, h => by
    show good.getD q false = false
    cases c : good.getD q false with
    | false => rfl
    | true => have := (F.zero q hq).2 c; omega
  | l :: t, q, ht, hq, h => by
    have h1 := F.lo q hq
    have h2 := F.closed q hq (by omega) l (ht l List.mem_cons_self)
    exact F.never V t (stp nd gd q l) (fun y hy => ht y (List.mem_cons_of_mem _ hy)) (stp_eq V hq l).2 (by omega)
theorem Far.hit {good : List Bool} {off : List Int} (V : Valid p acc gd nd) (F : Far nd gd acc.length (two p) good off) : ∀ (k q : Nat), q < acc.length → off.getD q 0 = (k : Int) → ∃ t : List Nat, (∀ l ∈ t, l < two p) ∧ good.getD (runT nd gd q t) false = true
  | 0, q, hq, h => ⟨[], (fun l h => by cases h), (F.zero q hq).1 h⟩
  | k + 1, q, hq, h => by
    obtain ⟨l, hl, e⟩ := F.way q hq (by omega)
    obtain ⟨t, h1, h2⟩ := F.hit V k (stp nd gd q l) (stp_eq V hq l).2 (by omega)
    refine ⟨l :: t, fun y hy => ?_, h2⟩
    rcases List.mem_cons.1 hy with rfl | hy
    · exact hl
    · exact h1 y hy
theorem Verdict_l0_ok {r : List Int × List Int} (ha : acc.length ≤ 256) (hl : r.1.length ≤ 256) (hst : ∀ k, k < r.1.length → ∃ q : Nat, q < acc.length ∧ r.1.getD k 0 = (q : Int)) : ∀ (m i n : Nat), i ≤ r.1.length → r.1.length - i < m → n ≤ i → (n = i ↔ ∀ k, k < i → acc.getD (r.1.getD k 0).toNat false = true) → (n = 0 ↔ ∀ k, k < i → acc.getD (r.1.getD k 0).toNat false = false) →
    ∃ c : Nat, ref21_Verdict_l0 N acc r m (n : Int) (i : Int) = some (c : Int) ∧ (c = r.1.length ↔ ∀ k, k < r.1.length → acc.getD (r.1.getD k 0).toNat false = true) ∧ (c = 0 ↔ ∀ k, k < r.1.length → acc.getD (r.1.getD k 0).toNat false = false)
  | 0, i, n, _, h, _, _, _ => by omega
  | m + 1, i, n, k0, k1, h1, h2, h3 => by
    unfold ref21_Verdict_l0 ask
    rw [Int.toNat_natCast i]
    by_cases hi : i < r.1.length
    · obtain ⟨q, hq, e⟩ := hst i hi
      rw [if_pos (show (i : Int) < ((r.1.length : Nat) : Int) by omega), if_pos (by unfold idx; omega), if_pos (by rw [e]; unfold idx; omega)]
      by_cases c : acc.getD (r.1.getD i 0).toNat false = true
      · rw [if_pos c, if_pos (by unfold in64; omega), if_pos (by unfold in64; omega), show ((n : Int) + 1) = ((n + 1 : Nat) : Int) by omega, show ((i : Int) + 1) = ((i + 1 : Nat) : Int) by omega]
        refine Verdict_l0_ok ha hl hst m (i + 1) (n + 1) (by omega) (by omega) (by omega) ⟨fun h k hk => ?_, fun h => ?_⟩ ⟨fun h => by omega, fun h => ?_⟩
        · by_cases ck : k = i
          · rw [ck]; exact c
          · exact h2.1 (by omega) k (by omega)
        · have := h2.2 fun k hk => h k (by omega)
          omega
        · have := h i (by omega)
          rw [c] at this
          cases this
      · have c' : acc.getD (r.1.getD i 0).toNat false = false := by
          cases h : acc.getD (r.1.getD i 0).toNat false with
          | false => rfl
          | true => exact absurd h c
        rw [if_neg c, if_pos (by unfold in64; omega), show ((i : Int) + 1) = ((i + 1 : Nat) : Int) by omega]
        refine Verdict_l0_ok ha hl hst m (i + 1) n (by omega) (by omega) (by omega) ⟨fun h => by omega, fun h => absurd (h i (by omega)) c⟩ ⟨fun h k hk => ?_, fun h => h3.2 fun k hk => h k (by omega)⟩
        by_cases ck : k = i
        · rw [ck]; exact c'
        · exact h3.1 h k (by omega)
    · rw [if_neg (show ¬ (i : Int) < ((r.1.length : Nat) : Int) by omega)]
      obtain rfl : i = r.1.length := by omega
      exact ⟨n, rfl, h2, h3⟩
theorem rVerdict_ok (hN : 5000 ≤ N) (V : Valid p acc gd nd) {off lost : List Int} {nt : List Bool} (F : Far nd gd acc.length (two p) acc off) (G : Far nd gd acc.length (two p) nt lost) (hnt : ∀ q, q < acc.length → nt.getD q false = !(acc.getD q false)) {q : Nat} (hq : q < acc.length) :
    ref21_Verdict N p acc gd nd (q : Int) = some (told acc off lost q) := by
  have a2 := V.a2
  obtain ⟨r, er, R⟩ := reached_ok (N := N) hN V hq
  have hfew := R.few
  obtain ⟨c, ec, c1, c2⟩ := Verdict_l0_ok (N := N) (acc := acc) (r := r) a2 (by omega) R.st N 0 0 (by omega) (by omega) (by omega) ⟨fun _ k hk => by omega, fun _ => rfl⟩ ⟨fun _ k hk => by omega, fun _ => rfl⟩
  have ec' : ref21_Verdict_l0 N acc r N 0 0 = some (c : Int) := ec
  have hone := R.one
  have all1 : (c = r.1.length) ↔ lost.getD q 0 < 0 := by
    rw [c1]
    constructor
    · intro h
      refine Classical.byContradiction fun hc => ?_
      obtain ⟨k, hk⟩ := Int.eq_ofNat_of_zero_le (show 0 ≤ lost.getD q 0 by omega)
      obtain ⟨t, h1, h2⟩ := G.hit V k q hq hk
      have hlt := runT_lt V t q hq
      rw [hnt _ hlt] at h2
      obtain ⟨j, hj, ej⟩ := R.all t h1
      have := h j hj
      rw [ej, Int.toNat_natCast] at this
      rw [this] at h2
      cases h2
    · intro h k hk
      obtain ⟨t, h1, h2⟩ := R.rch k hk
      have hlt := runT_lt V t q hq
      have h3 := G.never V t q h1 hq h
      rw [hnt _ hlt] at h3
      rw [h2, Int.toNat_natCast]
      cases hb : acc.getD (runT nd gd q t) false with
      | true => rfl
      | false => rw [hb] at h3; cases h3
  have all2 : (c = 0) ↔ off.getD q 0 < 0 := by
    rw [c2]
    constructor
    · intro h
      refine Classical.byContradiction fun hc => ?_
      obtain ⟨k, hk⟩ := Int.eq_ofNat_of_zero_le (show 0 ≤ off.getD q 0 by omega)
      obtain ⟨t, h1, h2⟩ := F.hit V k q hq hk
      obtain ⟨j, hj, ej⟩ := R.all t h1
      have := h j hj
      rw [ej, Int.toNat_natCast, h2] at this
      cases this
    · intro h k hk
      obtain ⟨t, h1, h2⟩ := R.rch k hk
      rw [h2, Int.toNat_natCast]
      exact F.never V t q h1 hq h
  unfold ref21_Verdict told
  rw [er, Option.bind_some, ec', Option.bind_some]
  by_cases d1 : lost.getD q 0 < 0
  · rw [if_pos d1, if_pos (by have := all1.2 d1; omega)]
  · rw [if_neg d1, if_neg (fun h => d1 (all1.1 (by omega)))]
    by_cases d2 : off.getD q 0 < 0
    · rw [if_pos d2, if_pos (by have := all2.2 d2; omega)]
    · rw [if_neg d2, if_neg (fun h => d2 (all2.1 (by omega)))]
      unfold ask
      rw [if_pos (by unfold idx; omega), Int.toNat_natCast]
      by_cases d3 : acc.getD q false = true
      · rw [if_pos d3, if_pos d3]
      · rw [if_neg d3, if_neg d3]
end
end Go.V
