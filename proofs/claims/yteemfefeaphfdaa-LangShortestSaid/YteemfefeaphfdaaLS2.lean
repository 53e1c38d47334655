/- Plain theory: the first trace that leads to what is wanted. No program. -/
import Derived.Test.YteemfefeaphfdaaLS
set_option linter.all false
set_option linter.unusedVariables false
set_option maxRecDepth 100000
namespace Go.V
open Go
abbrev QE := Int × List Int
def enc (nd : List Nd) (gd : List Int) (b : List Nat) : QE := (((runT nd gd 0 b : Nat) : Int), b.map fun l : Nat => (l : Int))
theorem getD_map_enc {nd : List Nd} {gd : List Int} {bs : List (List Nat)} {i : Nat} (h : i < bs.length) : (bs.map (enc nd gd)).getD i (0, []) = enc nd gd (bs.getD i []) := by
  rw [List.getD_eq_getElem?_getD, List.getD_eq_getElem?_getD, List.getElem?_map, List.getElem?_eq_getElem h]
  rfl
/-- the queue, at the letter l of its i-th trace -/
structure BI (nd : List Nd) (gd : List Int) (acc : List Bool) (L : Nat) (want : Bool) (bs : List (List Nat)) (seen : List (Int × Bool)) (i l : Nat) : Prop where
  one : 1 ≤ bs.length
  nil : bs.getD 0 [] = []
  sorted : ∀ j k, j < k → k < bs.length → slt (bs.getD j []) (bs.getD k [])
  lets : ∀ j, j < bs.length → ∀ x ∈ bs.getD j [], x < L
  vals : ∀ y ∈ seen, y.2 = true
  seen : ∀ s : Nat, s < acc.length → (mget seen (s : Int) = some true ↔ ∃ j, 1 ≤ j ∧ j < bs.length ∧ runT nd gd 0 (bs.getD j []) = s)
  min : ∀ j, 1 ≤ j → j < bs.length → ∀ v : List Nat, v ≠ [] → (∀ x ∈ v, x < L) → runT nd gd 0 v = runT nd gd 0 (bs.getD j []) → ¬ slt v (bs.getD j [])
  no : ∀ j, 1 ≤ j → j < bs.length → acc.getD (runT nd gd 0 (bs.getD j [])) false ≠ want
  par : ∀ j, 1 ≤ j → j < bs.length → ∃ k m, m < L ∧ k < bs.length ∧ bs.getD j [] = bs.getD k [] ++ [m] ∧ (k < i ∨ (k = i ∧ m < l))
  proc : ∀ j, j < i → j < bs.length → ∀ m, m < L → ∃ k, 1 ≤ k ∧ k < bs.length ∧ runT nd gd 0 (bs.getD k []) = stp nd gd (runT nd gd 0 (bs.getD j [])) m
  row : ∀ m, m < l → ∃ k, 1 ≤ k ∧ k < bs.length ∧ runT nd gd 0 (bs.getD k []) = stp nd gd (runT nd gd 0 (bs.getD i [])) m
section
variable {N : Nat} {p : Int} {acc : List Bool} {gd : List Int} {nd : List Nd} {wh : List (List Int)} {want : Bool}
theorem list_snoc {v : List Nat} (h : v ≠ []) : ∃ u m, v = u ++ [m] := ⟨v.dropLast, v.getLast h, (List.dropLast_concat_getLast h).symm⟩
theorem BI.few {L : Nat} {bs : List (List Nat)} {seen : List (Int × Bool)} {i l : Nat} (V : Valid p acc gd nd) (I : BI nd gd acc L want bs seen i l) : bs.length ≤ acc.length + 1 := by
  refine Classical.byContradiction fun hc => ?_
  have a1 := V.a1
  obtain ⟨j, k, hjk, hk, e⟩ := pigeon (fun j => runT nd gd 0 (bs.getD (j + 1) [])) acc.length fun j hj => runT_lt V _ 0 (by omega)
  refine I.min (k + 1) (by omega) (by omega) (bs.getD (j + 1) []) ?_ (I.lets _ (by omega)) e (I.sorted _ _ (by omega) (by omega))
  intro h
  have := I.sorted 0 (j + 1) (by omega) (by omega)
  rw [I.nil, h] at this
  exact slt_irrefl _ this
theorem BI.below {L : Nat} {bs : List (List Nat)} {seen : List (Int × Bool)} {i l : Nat} (V : Valid p acc gd nd) (I : BI nd gd acc L want bs seen i l) (hi : i < bs.length) : ∀ (n : Nat) (u : List Nat), u.length ≤ n → (∀ x ∈ u, x < L) → slt u (bs.getD i []) → ∃ j, j < i ∧ runT nd gd 0 (bs.getD j []) = runT nd gd 0 u
  | n, u, hn, hL, hu => by
    by_cases hne : u = []
    · subst hne
      refine ⟨0, ?_, by rw [I.nil]⟩
      refine Nat.pos_of_ne_zero fun h => ?_
      rw [h, I.nil] at hu
      exact slt_irrefl _ hu
    · obtain ⟨w, x, rfl⟩ := list_snoc hne
      match n, hn with
      | 0, hn => simp at hn
      | n + 1, hn =>
        have hx : x < L := hL x (by simp)
        have hw : ∀ y ∈ w, y < L := fun y hy => hL y (by simp [hy])
        have h1 : slt w (w ++ [x]) := .inl (by simp)
        obtain ⟨j, hj, ej⟩ := BI.below V I hi n w (by simp at hn; omega) hw (slt_trans h1 hu)
        obtain ⟨k, k1, k2, ek⟩ := I.proc j hj (by omega) x hx
        rw [ej, ← runT_snoc] at ek
        refine ⟨k, ?_, ek⟩
        have hm := I.min k k1 k2 (w ++ [x]) hne hL ek.symm
        have hki : slt (bs.getD k []) (bs.getD i []) := by
          by_cases c : bs.getD k [] = w ++ [x]
          · rw [c]; exact hu
          · exact slt_trans ((slt_total c).resolve_right hm) hu
        rcases Nat.lt_trichotomy k i with c | c | c
        · exact c
        · rw [c] at hki; exact absurd hki (slt_irrefl _)
        · exact absurd (slt_trans hki (I.sorted i k c k2)) (slt_irrefl _)
theorem BI.low {L : Nat} {bs : List (List Nat)} {seen : List (Int × Bool)} {i l : Nat} (V : Valid p acc gd nd) (I : BI nd gd acc L want bs seen i l) (hi : i < bs.length) {v : List Nat} (hv : v ≠ []) (hL : ∀ x ∈ v, x < L) (h : slt v (bs.getD i [] ++ [l])) : ∃ j, 1 ≤ j ∧ j < bs.length ∧ runT nd gd 0 (bs.getD j []) = runT nd gd 0 v := by
  obtain ⟨u, m, rfl⟩ := list_snoc hv
  have hm : m < L := hL m (by simp)
  have hu : ∀ y ∈ u, y < L := fun y hy => hL y (by simp [hy])
  rcases slt_snoc.1 h with h1 | ⟨h1, h2⟩
  · obtain ⟨j, hj, ej⟩ := I.below V hi u.length u (Nat.le_refl _) hu h1
    obtain ⟨k, k1, k2, ek⟩ := I.proc j hj (by omega) m hm
    exact ⟨k, k1, k2, by rw [ek, ej, runT_snoc]⟩
  · obtain ⟨k, k1, k2, ek⟩ := I.row m h2
    exact ⟨k, k1, k2, by rw [ek, runT_snoc, h1]⟩
theorem BI.all {L : Nat} {bs : List (List Nat)} {seen : List (Int × Bool)} {i : Nat} (V : Valid p acc gd nd) (I : BI nd gd acc L want bs seen i 0) (hi : bs.length ≤ i) : ∀ (n : Nat) (u : List Nat), u.length ≤ n → (∀ x ∈ u, x < L) → ∃ j, j < bs.length ∧ runT nd gd 0 (bs.getD j []) = runT nd gd 0 u ∧ (u ≠ [] → 1 ≤ j)
  | n, u, hn, hL => by
    by_cases hne : u = []
    · subst hne
      exact ⟨0, I.one, by rw [I.nil], fun h => absurd rfl h⟩
    · obtain ⟨w, x, rfl⟩ := list_snoc hne
      match n, hn with
      | 0, hn => simp at hn
      | n + 1, hn =>
        obtain ⟨j, hj, ej, _⟩ := BI.all V I hi n w (by simp at hn; omega) (fun y hy => hL y (by simp [hy]))
        obtain ⟨k, k1, k2, ek⟩ := I.proc j (by omega) hj x (hL x (by simp))
        exact ⟨k, k2, by rw [ek, ej, runT_snoc], fun _ => k1⟩
theorem mget_true' {m : List (Int × Bool)} {k : Int} (hv : ∀ y ∈ m, y.2 = true) (h : ¬ Option.getD (mget m k) false = true) : mget m k = none := by
  cases e : mget m k with
  | none => rfl
  | some u =>
    exfalso
    rw [e] at h
    have mem : ∀ (mm : List (Int × Bool)) k v, mget mm k = some v → (k, v) ∈ mm := fun mm => by
      induction mm with
      | nil => intro k v h; cases h
      | cons z r ih =>
        intro k v h
        unfold mget at h
        by_cases c : z.1 = k
        · rw [if_pos c] at h
          have := Option.some.inj h
          rw [← c, ← this]
          exact List.mem_cons_self
        · rw [if_neg c] at h
          exact List.mem_cons_of_mem _ (ih k v h)
    exact h (hv _ (mem m k u e))
theorem BI.short {L : Nat} {bs : List (List Nat)} {seen : List (Int × Bool)} {i l : Nat} (V : Valid p acc gd nd) (I : BI nd gd acc L want bs seen i l) {j : Nat} (hj : j < bs.length) : (bs.getD j []).length ≤ 100000 := by
  have few := I.few V
  have a2 := V.a2
  have key : ∀ (n j : Nat), j ≤ n → j < bs.length → (bs.getD j []).length ≤ j := by
    intro n
    induction n with
    | zero =>
      intro j h1 h2
      have : j = 0 := by omega
      rw [this, I.nil]
      simp
    | succ n ih =>
      intro j h1 h2
      by_cases c : j = 0
      · rw [c, I.nil]; simp
      · obtain ⟨k, m, _, hk, e, _⟩ := I.par j (by omega) h2
        have hkj : k < j := by
          rcases Nat.lt_trichotomy k j with h | h | h
          · exact h
          · rw [← h] at e
            have := congrArg List.length e
            simp at this
          · have h3 := I.sorted j k h hk
            rw [e] at h3
            rcases h3 with h3 | ⟨h3, _⟩ <;> rw [List.length_append, List.length_singleton] at h3 <;> omega
        have := ih k (by omega) hk
        rw [e, List.length_append, List.length_singleton]
        omega
  have := key j j (Nat.le_refl _) hj
  omega
/-- what is found -/
def Found (nd : List Nd) (gd : List Int) (acc : List Bool) (L : Nat) (want : Bool) (b : List Nat) : Prop :=
  b ≠ [] ∧ (∀ x ∈ b, x < L) ∧ acc.getD (runT nd gd 0 b) false = want ∧ ∀ v : List Nat, v ≠ [] → (∀ x ∈ v, x < L) → acc.getD (runT nd gd 0 v) false = want → ¬ slt v b
theorem search_l3_ok (hN : 5000 ≤ N) (V : Valid p acc gd nd) {r18 : List (List Int) × Int} (T : Tab nd gd acc.length (two p) r18.1) {bs0 : List (List Nat)} {i : Nat} (hi : i < bs0.length) : ∀ (m : Nat) (bs : List (List Nat)) (seen : List (Int × Bool)) (l : Nat), l ≤ two p → two p - l < m → BI nd gd acc (two p) want bs seen i l → bs0.length ≤ bs.length → bs.getD i [] = bs0.getD i [] →
    Ok (lang_search_l3 N acc want r18 (bs0.map (enc nd gd)) (i : Int) m seen (bs.map (enc nd gd)) (l : Int)) fun r => (∃ seen' bs', r = .inl (seen', bs'.map (enc nd gd)) ∧ BI nd gd acc (two p) want bs' seen' i (two p) ∧ i < bs'.length) ∨ ∃ b, r = .inr (b.map (fun l : Nat => (l : Int)), true, 0) ∧ Found nd gd acc (two p) want b
  | 0, bs, seen, l, _, h, _, _, _ => by omega
  | m + 1, bs, seen, l, k1, k2, I, hle, hsame => by
    have a1 := V.a1
    have a2 := V.a2
    have sh := shl_two ⟨V.p0, V.p8⟩
    have few := I.few V
    have hq := runT_lt V (bs0.getD i []) 0 (by omega)
    have hblen : (bs.getD i []).length ≤ 100000 := BI.short V I (by omega)
    unfold lang_search_l3
    rw [Int.toNat_natCast, getD_map_enc hi]
    have e1 : (enc nd gd (bs0.getD i [])).1 = ((runT nd gd 0 (bs0.getD i []) : Nat) : Int) := rfl
    have e2 : (enc nd gd (bs0.getD i [])).2 = (bs0.getD i []).map fun l : Nat => (l : Int) := rfl
    rw [e1, e2, Int.toNat_natCast, T.row _ hq]
    refine Ok.ite (fun hl => ?_) fun hl => Ok.pure (.inl ⟨seen, bs, rfl, (show l = two p by omega) ▸ I, by omega⟩)
    have hl' : l < two p := by omega
    rw [Int.toNat_natCast, T.at_ _ l hq hl', Int.toNat_natCast, show IntKind.u8.wrap (l : Int) = (l : Int) from wrap_u8 (by omega) (by omega)]
    have hs := (stp_eq V hq l).2
    rw [← hsame] at hq hs
    rw [← hsame]
    have enew : ([] : List Int) ++ ((bs.getD i []).map fun l : Nat => (l : Int)) ++ ([(l : Int)] : List Int) = (bs.getD i [] ++ [l]).map fun l : Nat => (l : Int) := by simp
    have ebs : ∀ b : List Nat, (bs.map (enc nd gd)) ++ [enc nd gd b] = (bs ++ [b]).map (enc nd gd) := fun b => by simp
    have erun : runT nd gd 0 (bs.getD i [] ++ [l]) = stp nd gd (runT nd gd 0 (bs.getD i [])) l := runT_snoc _ _ _ _ _
    have el : ((l : Int) + 1) = ((l + 1 : Nat) : Int) := by omega
    refine Ok.ask (by unfold idx; omega) (Ok.ask (by unfold in64; omega) ?_)
    have hmem : ∀ x ∈ bs.getD i [] ++ [l], x < two p := fun x hx => by
      rcases List.mem_append.1 hx with h | h
      · exact I.lets i (by omega) x h
      · rw [List.mem_singleton] at h; omega
    refine Ok.ite (fun hm => ?_) fun hm => ?_
    · have hst : mget seen ((stp nd gd (runT nd gd 0 (bs.getD i [])) l : Nat) : Int) = some true := by
        cases h : mget seen ((stp nd gd (runT nd gd 0 (bs.getD i [])) l : Nat) : Int) with
        | none => rw [h] at hm; cases hm
        | some u => rw [h] at hm; rw [show u = true from hm]
      obtain ⟨j, j1, j2, ej⟩ := (I.seen _ hs).1 hst
      refine Ok.ask (by unfold in64; omega) ?_
      rw [el]
      refine search_l3_ok hN V T hi m bs seen (l + 1) (by omega) (by omega) ⟨I.one, I.nil, I.sorted, I.lets, I.vals, I.seen, I.min, I.no, fun j h1 h2 => ?_, I.proc, fun x hx => ?_⟩ hle hsame
      · obtain ⟨k, x, hx, hk, e, h⟩ := I.par j h1 h2
        exact ⟨k, x, hx, hk, e, h.imp id fun h => ⟨h.1, by omega⟩⟩
      · by_cases c : x = l
        · rw [c]; exact ⟨j, j1, j2, ej⟩
        · exact I.row x (by omega)
    · have hnone : mget seen ((stp nd gd (runT nd gd 0 (bs.getD i [])) l : Nat) : Int) = none := mget_true' I.vals hm
      have hun : ¬ ∃ j, 1 ≤ j ∧ j < bs.length ∧ runT nd gd 0 (bs.getD j []) = stp nd gd (runT nd gd 0 (bs.getD i [])) l := fun h => by
        rw [(I.seen _ hs).2 h] at hnone
        cases hnone
      refine Ok.ask hnone (Ok.ask (by rw [List.length_nil, List.length_map]; omega) (Ok.ask (by rw [List.nil_append, List.length_map, List.length_singleton]; omega) (Ok.ask (by unfold idx; omega) ?_)))
      rw [enew]
      refine Ok.ite (fun hw => Ok.pure (.inr ⟨_, rfl, by simp, hmem, by rw [erun]; exact hw, fun v v1 v2 v3 v4 => ?_⟩)) fun hw => ?_
      · obtain ⟨j, j1, j2, ej⟩ := I.low V (by omega) v1 v2 v4
        have := I.no j j1 j2
        rw [ej] at this
        exact this v3
      · refine Ok.ask (by simp; omega) (Ok.ask (by unfold in64; omega) ?_)
        have enc1 : (((stp nd gd (runT nd gd 0 (bs.getD i [])) l : Nat) : Int), (bs.getD i [] ++ [l]).map fun l : Nat => (l : Int)) = enc nd gd (bs.getD i [] ++ [l]) := by
          unfold enc; rw [erun]
        rw [enc1, ebs, el]
        have new : (bs ++ [bs.getD i [] ++ [l]]).getD bs.length [] = bs.getD i [] ++ [l] := by rw [getD_snoc, if_pos rfl]
        have old : ∀ j, j < bs.length → (bs ++ [bs.getD i [] ++ [l]]).getD j [] = bs.getD j [] := fun j hj => by rw [getD_snoc, if_neg (by omega)]
        have hil : i < bs.length := by omega
        refine search_l3_ok hN V T hi m _ _ (l + 1) (by omega) (by omega) ⟨by simp, by rw [old 0 I.one]; exact I.nil, fun j k h1 h2 => ?_, fun j hj => ?_, fun y hy => ?_, fun s hsn => ?_, fun j j1 j2 v v1 v2 v3 => ?_, fun j j1 j2 => ?_, fun j j1 j2 => ?_, fun j j1 j2 x hx => ?_, fun x hx => ?_⟩ (by simp; omega) (by rw [old i hil]; exact hsame)
        · have h2' : k < bs.length + 1 := by simpa using h2
          rw [old j (by omega)]
          by_cases c : k = bs.length
          · subst c
            rw [new]
            by_cases j0 : j = 0
            · rw [j0, I.nil]; exact slt_nil (by simp)
            · obtain ⟨k2, x, hx, hk2, e, h⟩ := I.par j (by omega) (by omega)
              rw [e]
              refine slt_snoc.2 ?_
              rcases h with h | ⟨h, h3⟩
              · exact .inl (I.sorted k2 i h hil)
              · exact .inr ⟨by rw [h], h3⟩
          · rw [old k (by omega)]
            exact I.sorted j k h1 (by omega)
        · have hj' : j < bs.length + 1 := by simpa using hj
          by_cases c : j = bs.length
          · subst c; rw [new]; exact hmem
          · rw [old j (by omega)]; exact I.lets j (by omega)
        · rcases List.mem_append.1 hy with h | h
          · exact I.vals y h
          · rw [List.mem_singleton] at h; rw [h]
        · rw [mget_app]
          constructor
          · intro h
            cases h2 : mget seen (s : Int) with
            | some u =>
              rw [h2] at h
              have hu : u = true := Option.some.inj h
              rw [hu] at h2
              obtain ⟨j, j1, j2, ej⟩ := (I.seen s hsn).1 h2
              exact ⟨j, j1, by simp; omega, by rw [old j j2]; exact ej⟩
            | none =>
              rw [h2] at h
              by_cases c : ((stp nd gd (runT nd gd 0 (bs.getD i [])) l : Nat) : Int) = (s : Int)
              · exact ⟨bs.length, I.one, by simp, by rw [new, erun]; omega⟩
              · simp only [if_neg c] at h
                cases h
          · rintro ⟨j, j1, j2, ej⟩
            have j2' : j < bs.length + 1 := by simpa using j2
            by_cases c : j = bs.length
            · subst c
              rw [new, erun] at ej
              rw [← ej, hnone]
              simp
            · rw [old j (by omega)] at ej
              rw [(I.seen s hsn).2 ⟨j, j1, by omega, ej⟩]
        · have j2' : j < bs.length + 1 := by simpa using j2
          by_cases c : j = bs.length
          · subst c
            rw [new] at v3 ⊢
            intro h
            rw [erun] at v3
            obtain ⟨k, k1, k2, ek⟩ := I.low V hil v1 v2 h
            exact hun ⟨k, k1, k2, by rw [ek, v3]⟩
          · rw [old j (by omega)] at v3 ⊢
            exact I.min j j1 (by omega) v v1 v2 v3
        · have j2' : j < bs.length + 1 := by simpa using j2
          by_cases c : j = bs.length
          · subst c
            rw [new, erun]
            exact hw
          · rw [old j (by omega)]
            exact I.no j j1 (by omega)
        · have j2' : j < bs.length + 1 := by simpa using j2
          by_cases c : j = bs.length
          · subst c
            exact ⟨i, l, hl', by simp; omega, by rw [new, old i hil], .inr ⟨rfl, by omega⟩⟩
          · obtain ⟨k, x, hx, hk, e, h⟩ := I.par j j1 (by omega)
            exact ⟨k, x, hx, by simp; omega, by rw [old j (by omega), old k hk]; exact e, h.imp id fun h => ⟨h.1, by omega⟩⟩
        · have hjb : j < bs.length := by omega
          obtain ⟨k, k1, k2, ek⟩ := I.proc j j1 hjb x hx
          exact ⟨k, k1, by simp; omega, by rw [old k k2, old j hjb]; exact ek⟩
        · rw [old i hil]
          by_cases c : x = l
          · rw [c]
            exact ⟨bs.length, I.one, by simp, by rw [new, erun]⟩
          · obtain ⟨k, k1, k2, ek⟩ := I.row x (by omega)
            exact ⟨k, k1, by simp; omega, by rw [old k k2]; exact ek⟩
theorem search_l2_ok (hN : 5000 ≤ N) (V : Valid p acc gd nd) {r18 : List (List Int) × Int} (T : Tab nd gd acc.length (two p) r18.1) : ∀ (m : Nat) (bs : List (List Nat)) (seen : List (Int × Bool)) (i : Nat), i ≤ bs.length → acc.length + 1 - i < m → BI nd gd acc (two p) want bs seen i 0 →
    Ok (lang_search_l2 N acc want r18 m seen (bs.map (enc nd gd)) (i : Int)) fun r => (r = .inl () ∧ ∀ v : List Nat, v ≠ [] → (∀ x ∈ v, x < two p) → acc.getD (runT nd gd 0 v) false ≠ want) ∨ ∃ b, r = .inr (b.map (fun l : Nat => (l : Int)), true, 0) ∧ Found nd gd acc (two p) want b := by
  have a1 := V.a1
  have a2 := V.a2
  have sh := shl_two ⟨V.p0, V.p8⟩
  intro m
  induction m with
  | zero => intro bs seen i _ h _; omega
  | succ m ih =>
    intro bs seen i k1 k2 I
    have few := I.few V
    unfold lang_search_l2
    rw [List.length_map]
    refine Ok.ite (fun hx => ?_) fun hx => Ok.pure (.inl ⟨rfl, fun v v1 v2 => ?_⟩)
    · have hi : i < bs.length := by omega
      rw [Int.toNat_natCast, getD_map_enc hi]
      have e1 : (enc nd gd (bs.getD i [])).1 = ((runT nd gd 0 (bs.getD i []) : Nat) : Int) := rfl
      have hq := runT_lt V (bs.getD i []) 0 (by omega)
      refine Ok.ask (by unfold idx; omega) (Ok.ask (by rw [e1]; unfold idx; have := T.len; omega) ?_)
      obtain ⟨r, er, hr⟩ := search_l3_ok (N := N) hN V T hi N bs seen 0 (by omega) (by omega) I (Nat.le_refl _) rfl
      have er' : lang_search_l3 N acc want r18 (bs.map (enc nd gd)) (i : Int) N seen (bs.map (enc nd gd)) 0 = some r := er
      rw [er', Option.bind_some]
      rcases hr with ⟨seen', bs', hre, J, hib⟩ | ⟨b, hre, F⟩
      · rw [hre, Sum.elim_inl]
        have few' := J.few V
        have K : BI nd gd acc (two p) want bs' seen' (i + 1) 0 := by
          refine ⟨J.one, J.nil, J.sorted, J.lets, J.vals, J.seen, J.min, J.no, fun j j1 j2 => ?_, fun j j1 j2 x hx => ?_, fun x hx => by omega⟩
          · obtain ⟨k, x, hx, hk, e, h⟩ := J.par j j1 j2
            exact ⟨k, x, hx, hk, e, .inl (by rcases h with h | h <;> omega)⟩
          · by_cases c : j = i
            · rw [c]; exact J.row x hx
            · exact J.proc j (by omega) j2 x hx
        have h := ih bs' seen' (i + 1) (by omega) (by omega) K
        have e3 : ((i : Int) + 1) = ((i + 1 : Nat) : Int) := by omega
        rw [e3]
        exact Ok.ask (by unfold in64; omega) h
      · rw [hre, Sum.elim_inr]
        exact Ok.pure (.inr ⟨b, rfl, F⟩)
    · obtain ⟨j, j1, ej, j2⟩ := I.all V (by omega) v.length v (Nat.le_refl _) v2
      have := I.no j (j2 v1) j1
      rw [ej] at this
      exact this
theorem search_l1 {r18 : List (List Int) × Int} {qu : List QE} {i : Int} : ∀ (m : Nat) (seen : List (Int × Bool)) (q : List QE) (x : Int), lang_search_l1 N acc want r18 qu i m seen q x = lang_search_l3 N acc want r18 qu i m seen q x
  | 0, _, _, _ => rfl
  | m + 1, seen, q, x => by unfold lang_search_l1 lang_search_l3; simp only [search_l1 m]
theorem search_l0 {r18 : List (List Int) × Int} : ∀ (m : Nat) (seen : List (Int × Bool)) (q : List QE) (x : Int), lang_search_l0 N acc want r18 m seen q x = lang_search_l2 N acc want r18 m seen q x := by
  intro m
  induction m with
  | zero => intro seen q x; rfl
  | succ m ih =>
    intro seen q x
    unfold lang_search_l0 lang_search_l2
    rw [search_l1]
    have e : (fun x507 : ((List (Int × Bool)) × (List QE)) ⊕ ((List Int) × Bool × Int) => Sum.elim (fun y : (List (Int × Bool)) × (List QE) => ask (in64 (x + 1)) <| lang_search_l0 N acc want r18 m y.1 y.2 (x + 1)) (fun z => some (Sum.inr z)) x507) = fun x507 => Sum.elim (fun y : (List (Int × Bool)) × (List QE) => ask (in64 (x + 1)) <| lang_search_l2 N acc want r18 m y.1 y.2 (x + 1)) (fun z => some (Sum.inr z)) x507 := by
      funext s
      cases s with
      | inl y => exact congrArg (fun t => ask (in64 (x + 1)) t) (ih y.1 y.2 (x + 1))
      | inr z => rfl
    have e2 := congrArg (fun k => ask (idx x (List.length q)) <| ask (idx ((List.getD q (Int.toNat x) (0, [])).1) (List.length r18.1)) <| Option.bind (lang_search_l3 N acc want r18 q x N seen q 0) k) e
    by_cases c : x < (((List.length q) : Nat) : Int)
    · rw [if_pos c, if_pos c]; exact e2
    · rw [if_neg c, if_neg c]
theorem BI.start (V : Valid p acc gd nd) {L : Nat} : BI nd gd acc L want [[]] [] 0 0 := by
  refine ⟨by simp, rfl, fun j k h1 h2 => ?_, fun j hj => ?_, fun y hy => (by cases hy), fun s hs => ⟨fun h => (by cases h), fun ⟨j, j1, j2, _⟩ => ?_⟩, fun j j1 j2 => ?_, fun j j1 j2 => ?_, fun j j1 j2 => ?_, fun j j1 => by omega, fun m hm => by omega⟩
  · simp at h2; omega
  · have : j = 0 := by simpa using hj
    subst this
    intro x hx
    cases hx
  · simp at j2; omega
  · simp at j2; omega
  · simp at j2; omega
  · simp at j2; omega

/-! ### how long -/
theorem cut (V : Valid p acc gd nd) {b : List Nat} {i j : Nat} (e : runT nd gd 0 (b.take i) = runT nd gd 0 (b.take j)) : runT nd gd 0 (b.take i ++ b.drop j) = runT nd gd 0 b := by
  rw [runT_append, e, ← runT_append, List.take_append_drop]
theorem Found.len {L : Nat} {b : List Nat} (V : Valid p acc gd nd) (F : Found nd gd acc L want b) : b.length ≤ acc.length ∧ (acc.getD 0 false ≠ want → b.length < acc.length) := by
  obtain ⟨f1, f2, f3, f4⟩ := F
  have a1 := V.a1
  have inb : ∀ (i j : Nat), ∀ x ∈ b.take i ++ b.drop j, x < L := fun i j x hx => by
    rcases List.mem_append.1 hx with h | h
    · exact f2 x (List.mem_of_mem_take h)
    · exact f2 x (List.mem_of_mem_drop h)
  constructor
  · refine Classical.byContradiction fun hc => ?_
    obtain ⟨i, j, hij, hj, e⟩ := pigeon (fun i => runT nd gd 0 (b.take (i + 1))) acc.length fun i hi => runT_lt V _ 0 (by omega)
    have hl : (b.take (i + 1) ++ b.drop (j + 1)).length < b.length := by simp; omega
    refine f4 (b.take (i + 1) ++ b.drop (j + 1)) ?_ (inb _ _) (by rw [cut V e]; exact f3) (.inl hl)
    intro h
    have hz := congrArg List.length h
    rw [List.length_append, List.length_take, List.length_drop, List.length_nil] at hz
    have hb0 : b ≠ [] := f1
    have : 0 < b.length := by
      cases b with
      | nil => exact absurd rfl hb0
      | cons x r => simp
    omega
  · intro h0
    refine Classical.byContradiction fun hc => ?_
    obtain ⟨i, j, hij, hj, e⟩ := pigeon (fun i => runT nd gd 0 (b.take i)) acc.length fun i hi => runT_lt V _ 0 (by omega)
    have hl : (b.take i ++ b.drop j).length < b.length := by simp; omega
    by_cases hn : b.take i ++ b.drop j = []
    · have := cut V e
      rw [hn] at this
      have h2 : acc.getD (runT nd gd 0 []) false = want := by rw [this]; exact f3
      exact h0 h2
    · exact f4 _ hn (inb _ _) (by rw [cut V e]; exact f3) (.inl hl)
end
end Go.V
