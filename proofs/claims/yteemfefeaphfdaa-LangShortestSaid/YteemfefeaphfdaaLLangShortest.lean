/- The plain law LangShortest. No condition. -/
import Derived.Test.YteemfefeaphfdaaBLangShortest
import Derived.Test.YteemfefeaphfdaaLS2
import Derived.Test.YteemfefeaphfdaaV9
set_option linter.all false
set_option linter.unusedVariables false
set_option maxRecDepth 1000000
namespace Go.V
open Go Go.Proofs
theorem awake19 : law19_awake 1000000 = some true := by kernel_rfl
abbrev cs (u : List Nat) : List Int := u.map fun l : Nat => (l : Int)
theorem cs_len (u : List Nat) : (cs u).length = u.length := List.length_map ..
theorem cs_getD {u : List Nat} {i : Nat} (h : i < u.length) : (cs u).getD i 0 = ((u.getD i 0 : Nat) : Int) := by
  unfold cs
  rw [List.getD_eq_getElem?_getD, List.getD_eq_getElem?_getD, List.getElem?_map, List.getElem?_eq_getElem h]
  rfl
theorem drop_cons {u : List Nat} {i : Nat} (h : i < u.length) : u.drop i = u.getD i 0 :: u.drop (i + 1) := by
  rw [List.drop_eq_getElem_cons h, List.getD_eq_getElem?_getD, List.getElem?_eq_getElem h]
  rfl
section
variable {N : Nat} {p : Int} {acc : List Bool} {gd : List Int} {nd : List Nd}
theorem table_l0_ok (hN : 5000 ≤ N) (V : Valid p acc gd nd) : ∀ (m : Nat) (wh : List (List Int)) (x : Int), 0 ≤ x → x ≤ acc.length → (acc.length : Int) - x < m → (wh.length : Int) = x →
    (∀ q : Nat, (q : Int) < x → (wh.getD q []).length = two p ∧ ∀ l, l < two p → (wh.getD q []).getD l 0 = (stp nd gd q l : Int)) →
    Ok (lang_table_l0 N p gd nd m wh x) fun r => ∃ w, r = .inl w ∧ Tab nd gd acc.length (two p) w := by
  intro m
  induction m with
  | zero => intro wh x _ _ h _ _; omega
  | succ m ih =>
    intro wh x k0 k1 k2 k3 k5
    have a2 := V.a2
    have gl := V.gl
    unfold lang_table_l0
    rw [gl]
    refine Ok.ite (fun hx => ?_) fun hx => Ok.pure ⟨wh, rfl, by omega, fun q hq => (k5 q (by omega)).1, fun q l hq hl => (k5 q (by omega)).2 l hl⟩
    obtain ⟨a, rfl⟩ := Int.eq_ofNat_of_zero_le k0
    rw [Int.toNat_natCast]
    refine Ok.ask (by unfold idx; omega) ?_
    refine (Table_ok hN V (q := a) (by omega)).bind fun r ⟨r1, r2, r3⟩ => ?_
    rw [if_pos r1]
    refine Ok.ask (by simp; omega) (Ok.ask (by unfold in64; omega) ?_)
    refine ih _ ((a : Int) + 1) (by omega) (by omega) (by omega) (by simp; omega) fun q hq => ?_
    rw [getD_snoc]
    by_cases c : q = a
    · rw [if_pos (by omega), c]
      exact ⟨r2, r3⟩
    · rw [if_neg (by omega)]
      exact k5 q (by omega)
theorem table_ok (hN : 5000 ≤ N) (V : Valid p acc gd nd) (hC : guard_Check N p acc gd nd = some 0) : Ok (lang_table N p acc gd nd) fun r => r.2 = 0 ∧ Tab nd gd acc.length (two p) r.1 := by
  have a2 := V.a2
  unfold lang_table
  rw [hC, Option.bind_some, if_pos rfl]
  refine (table_l0_ok hN V N [] 0 (by omega) (by omega) (by omega) rfl fun q h => by omega).bind fun r ⟨w, e, T⟩ => ?_
  rw [e, Sum.elim_inl]
  exact Ok.pure ⟨rfl, T⟩
theorem Accepts_l0_ok (hN : 5000 ≤ N) (V : Valid p acc gd nd) {r22 : List (List Int) × Int} (T : Tab nd gd acc.length (two p) r22.1) {t : List Nat} (ht : ∀ l ∈ t, l < two p) (hl : t.length ≤ 100000) : ∀ (m q i : Nat), i ≤ t.length → t.length - i < m → q < acc.length → lang_Accepts_l0 N (cs t) r22 m (q : Int) (i : Int) = some ((runT nd gd q (t.drop i) : Nat) : Int) := by
  intro m
  induction m with
  | zero => intro q i _ h _; omega
  | succ m ih =>
    intro q i k1 k2 hq
    have tl := T.len
    unfold lang_Accepts_l0
    rw [cs_len]
    by_cases hx : (i : Int) < (t.length : Int)
    · have hi : i < t.length := by omega
      have hm : t.getD i 0 < two p := ht _ (by rw [List.getD_eq_getElem?_getD, List.getElem?_eq_getElem hi]; exact List.getElem_mem hi)
      have h := ih (stp nd gd q (t.getD i 0)) (i + 1) (by omega) (by omega) (stp_eq V hq _).2
      have e : runT nd gd q (t.drop i) = runT nd gd (stp nd gd q (t.getD i 0)) (t.drop (i + 1)) := by
        rw [drop_cons hi]; rfl
      rw [if_pos hx, Int.toNat_natCast, Int.toNat_natCast, cs_getD hi, Int.toNat_natCast, T.row q hq, T.at_ q _ hq hm]
      unfold ask
      rw [if_pos (by unfold idx; omega), if_pos (by unfold idx; omega), if_pos (by unfold idx; omega), if_pos (by unfold in64; omega), show ((i : Int) + 1) = ((i + 1 : Nat) : Int) by omega, h, e]
    · rw [if_neg hx, List.drop_eq_nil_of_le (by omega)]
      rfl
theorem Accepts_ok (hN : 200000 ≤ N) (V : Valid p acc gd nd) (hC : guard_Check N p acc gd nd = some 0) {t : List Nat} (ht : ∀ l ∈ t, l < two p) (hl : t.length ≤ 1024) : lang_Accepts N p acc gd nd (cs t) = some (acc.getD (runT nd gd 0 t) false, 0) := by
  have a1 := V.a1
  obtain ⟨r, e, r1, T⟩ := table_ok (by omega) V hC
  have hlt := runT_lt V t 0 (by omega)
  have h0 := Accepts_l0_ok (N := N) (by omega) V T ht (by omega) N 0 0 (by omega) (by omega) (by omega)
  have e0 : lang_Accepts_l0 N (cs t) r N 0 0 = some ((runT nd gd 0 (t.drop 0) : Nat) : Int) := h0
  unfold lang_Accepts
  rw [e, Option.bind_some, if_pos r1, Trace_ok (by omega) ⟨V.p0, V.p8⟩ ht hl, Option.bind_some, if_pos rfl, e0, Option.bind_some, List.drop_zero, Int.toNat_natCast]
  unfold ask
  rw [if_pos (by unfold idx; omega)]
theorem ahead_l0_ok {u v : List Nat} (hl : u.length = v.length) (h : u.length ≤ 100000) : ∀ (m i : Nat), i ≤ u.length → u.length - i < m →
    Ok (law19_ahead_l0 N (cs u) (cs v) m (i : Int)) fun r => (r = .inl () ∧ u.drop i = v.drop i) ∨ ∃ c, r = .inr c ∧ (c = true ↔ llt (u.drop i) (v.drop i)) := by
  intro m
  induction m with
  | zero => intro i _ h; omega
  | succ m ih =>
    intro i k1 k2
    unfold law19_ahead_l0
    rw [cs_len]
    refine Ok.ite (fun hx => ?_) fun hx => Ok.pure (.inl ⟨rfl, by rw [List.drop_eq_nil_of_le (by omega), List.drop_eq_nil_of_le (by omega)]⟩)
    have hi : i < u.length := by omega
    have hi2 : i < v.length := by omega
    rw [Int.toNat_natCast, cs_getD hi, cs_getD hi2, cs_len]
    refine Ok.ask (by unfold idx; omega) (Ok.ask (by unfold idx; omega) ?_)
    rw [drop_cons hi, drop_cons hi2]
    refine Ok.ite (fun he => ?_) fun he => Ok.pure (.inr ⟨_, rfl, ?_⟩)
    · have he' : u.getD i 0 = v.getD i 0 := by omega
      refine Ok.ask (by unfold in64; omega) ?_
      rw [show ((i : Int) + 1) = ((i + 1 : Nat) : Int) by omega]
      refine (ih (i + 1) (by omega) (by omega)).mono fun r hr => ?_
      rcases hr with ⟨r1, r2⟩ | ⟨c, r1, r2⟩
      · exact .inl ⟨r1, by rw [r2, he']⟩
      · refine .inr ⟨c, r1, r2.trans ⟨fun h => .inr ⟨he', h⟩, fun h => ?_⟩⟩
        rcases h with h | h
        · omega
        · exact h.2
    · rw [decide_eq_true_eq]
      constructor
      · intro h
        exact .inl (by omega)
      · rintro (h | ⟨h, _⟩)
        · omega
        · omega
theorem ahead_ok (hN : 200000 ≤ N) {u v : List Nat} (h : u.length ≤ 100000) : Ok (law19_ahead N (cs u) (cs v)) fun r => r = true ↔ slt u v := by
  unfold law19_ahead
  rw [cs_len, cs_len]
  refine Ok.ite (fun hl => ?_) fun hl => Ok.pure ?_
  · obtain ⟨r, e, hr⟩ := ahead_l0_ok (N := N) (u := u) (v := v) (by omega) h N 0 (by omega) (by omega)
    have e' : law19_ahead_l0 N (cs u) (cs v) N 0 = some r := e
    rw [e', Option.bind_some]
    rw [List.drop_zero, List.drop_zero] at hr
    rcases hr with ⟨r1, r2⟩ | ⟨c, r1, r2⟩
    · rw [r1, Sum.elim_inl]
      refine Ok.pure ⟨fun h => (by cases h), fun h => ?_⟩
      rw [r2] at h
      exact absurd h (slt_irrefl _)
    · rw [r1, Sum.elim_inr]
      refine Ok.pure (r2.trans ⟨fun h => .inr ⟨by omega, h⟩, fun h => ?_⟩)
      rcases h with h | h
      · omega
      · exact h.2
  · rw [decide_eq_true_eq]
    constructor
    · intro h
      exact .inl (by omega)
    · rintro (h | ⟨h, _⟩)
      · omega
      · omega
/-- what a search tells -/
theorem search_ok (hN : 5000 ≤ N) (V : Valid p acc gd nd) (hC : guard_Check N p acc gd nd = some 0) (empty want : Bool) : Ok (lang_search N p acc gd nd empty want) fun r => r.2.2 = 0 ∧
    ((r.2.1 = true ∧ empty = true ∧ acc.getD 0 false = want ∧ r.1 = []) ∨ ((empty = true → acc.getD 0 false ≠ want) ∧ ((r.2.1 = false ∧ r.1 = [] ∧ ∀ v : List Nat, v ≠ [] → (∀ x ∈ v, x < two p) → acc.getD (runT nd gd 0 v) false ≠ want) ∨ ∃ b, r.2.1 = true ∧ r.1 = cs b ∧ Found nd gd acc (two p) want b))) := by
  have a1 := V.a1
  unfold lang_search
  refine (table_ok hN V hC).bind fun r ⟨r1, T⟩ => ?_
  rw [if_pos r1]
  have e0 : (Int.toNat (0 : Int)) = 0 := rfl
  have S := search_l2_ok (want := want) hN V T N [[]] [] 0 (by simp) (by have := V.a2; omega) (BI.start V)
  have S' : Ok (lang_search_l2 N acc want r N ([] : List (Int × Bool)) ([(0, [])] : List (Int × List Int)) 0) _ := S
  refine Ok.ite (fun he => ?_) fun he => ?_
  · refine Ok.ask (by unfold idx; omega) ?_
    rw [e0]
    refine Ok.ite (fun hw => Ok.pure ⟨rfl, .inl ⟨rfl, he, hw, rfl⟩⟩) fun hw => ?_
    rw [search_l0]
    refine S'.bind fun x hx => ?_
    rcases hx with ⟨e, h⟩ | ⟨b, e, F⟩
    · rw [e, Sum.elim_inl]
      exact Ok.pure ⟨rfl, .inr ⟨fun _ => hw, .inl ⟨rfl, rfl, h⟩⟩⟩
    · rw [e, Sum.elim_inr]
      exact Ok.pure ⟨rfl, .inr ⟨fun _ => hw, .inr ⟨b, rfl, rfl, F⟩⟩⟩
  · refine S'.bind fun x hx => ?_
    rcases hx with ⟨e, h⟩ | ⟨b, e, F⟩
    · rw [e, Sum.elim_inl]
      exact Ok.pure ⟨rfl, .inr ⟨fun h2 => absurd h2 he, .inl ⟨rfl, rfl, h⟩⟩⟩
    · rw [e, Sum.elim_inr]
      exact Ok.pure ⟨rfl, .inr ⟨fun h2 => absurd h2 he, .inr ⟨b, rfl, rfl, F⟩⟩⟩
theorem Large_ok : Ok (law19_Large N p acc gd nd) fun _ => True := by
  unfold law19_Large
  repeat' (first | exact Ok.pure trivial | refine Ok.ite (fun _ => ?_) fun _ => ?_)
theorem j2_ok {x y : List Int} {one two_ P q : Bool} (h1 : one = true → P = true ∧ x.length < acc.length) (h2 : one = false → x.length = 0) (h3 : two_ = true → q = false ∧ y.length ≠ 0 ∧ y.length ≤ acc.length) (h4 : two_ = false → y.length = 0) : law19_LangShortest_j2 N acc (x, one, 0) (y, two_, 0) (P, 0) (q, 0) = some false := by
  unfold law19_LangShortest_j2
  dsimp only
  rw [if_pos rfl, if_pos rfl]
  cases one with
  | true =>
    obtain ⟨a, b⟩ := h1 rfl
    subst a
    rw [if_pos rfl, if_pos rfl, if_neg (by omega)]
    cases two_ with
    | true =>
      obtain ⟨c, d, e⟩ := h3 rfl
      subst c
      rw [if_pos rfl, if_neg (by simp), if_neg (by omega), if_neg (by omega), if_pos rfl, if_pos rfl]
    | false =>
      have := h4 rfl
      rw [if_neg (by simp), if_pos rfl, if_neg (by simp), decide_eq_false (by omega)]
  | false =>
    have hx := h2 rfl
    rw [if_neg (by simp)]
    cases two_ with
    | true =>
      obtain ⟨c, d, e⟩ := h3 rfl
      subst c
      rw [if_pos rfl, if_neg (by simp), if_neg (by omega), if_neg (by omega), if_neg (by simp), if_neg (by omega), if_pos rfl]
    | false =>
      have := h4 rfl
      rw [if_neg (by simp), if_neg (by simp), if_neg (by omega), if_neg (by simp), decide_eq_false (by omega)]
end

theorem langShortest_true {p : Int} {acc : List Bool} {gd : List Int} {nd : List Nd} {t : List Int} (hw : ∀ x ∈ nd, x.wf) (ht : ∀ x ∈ t, 0 ≤ x ∧ x ≤ 255) :
    law19_LangShortest 1000000 p acc gd nd t = some true := by
  have hN : 5000 ≤ 1000000 := by omega
  refine Ok.eq ?_
  unfold law19_LangShortest
  rw [awake19, Option.bind_some]
  obtain ⟨e, hC, he⟩ := guard_Check_ok (N := 1000000) (p := p) (acc := acc) (gd := gd) hN hw
  have hj0 : Ok (law19_LangShortest_j0 1000000 p acc gd nd t) fun x => x = false → t.length ≤ 40 ∧ e = 0 ∧ letter_Trace 1000000 p t = some 0 := by
    unfold law19_LangShortest_j0
    refine Large_ok.bind fun L _ => ?_
    refine Ok.ite (fun _ => Ok.pure fun h => by cases h) fun _ => ?_
    refine Ok.ite (fun _ => Ok.pure fun h => by cases h) fun hlen => ?_
    rw [hC, Option.bind_some]
    refine Ok.ite (fun h0 => ?_) fun _ => Ok.pure fun h => by cases h
    have V := he.2 h0
    obtain ⟨f, ef, hf⟩ := Trace_inv (N := 1000000) hN ⟨V.p0, V.p8⟩ ht
    rw [ef, Option.bind_some]
    refine Ok.pure fun h => ⟨by omega, h0, ?_⟩
    have : f = 0 := by simpa using h
    rw [this]
  refine hj0.bind fun x hx => ?_
  refine Ok.ite (fun _ => Ok.pure rfl) fun hxf => ?_
  obtain ⟨hlen, h0, hTr⟩ := hx (by simpa using hxf)
  rw [h0] at hC
  have V := he.2 h0
  have a1 := V.a1
  have a2 := V.a2
  have gl := V.gl
  obtain ⟨f, ef, hf⟩ := Trace_inv (N := 1000000) hN ⟨V.p0, V.p8⟩ ht
  rw [hTr] at ef
  obtain ⟨u, hu, hul⟩ := hf (Option.some.inj ef).symm
  have hu' : t = cs u := hu
  rw [hu'] at hlen ⊢
  rw [cs_len] at hlen
  have hReal : law19_Real 1000000 p acc gd nd = some true := by
    unfold law19_Real
    rw [if_pos (by omega)]
    simp [gl]
  rw [hReal, Option.bind_some, if_pos rfl, Accepts_ok (by omega) V hC hul (by omega), Option.bind_some]
  unfold lang_Shortest lang_Missing
  obtain ⟨⟨x, one, ex⟩, eS, s1, s2⟩ := search_ok (N := 1000000) hN V hC true true
  obtain ⟨⟨y, two_, ey⟩, eM, m1, m2⟩ := search_ok (N := 1000000) hN V hC false false
  dsimp only at s1 s2 m1 m2
  subst s1 m1
  rw [eS, eM]
  simp only [Option.bind_some]
  have hj1 : law19_LangShortest_j1 1000000 (acc.getD (runT nd gd 0 u) false, 0) (x, one, 0) (y, two_, 0) = some false := rfl
  rw [hj1, Option.bind_some, if_neg Bool.false_ne_true]
  -- the shortest one
  have sx : ∃ bx : List Nat, x = cs bx ∧ (∀ l ∈ bx, l < two p) ∧ bx.length ≤ 256 ∧ (one = true → acc.getD (runT nd gd 0 bx) false = true ∧ bx.length < acc.length) ∧ (one = false → bx.length = 0) ∧ (acc.getD (runT nd gd 0 u) false = true → one = true ∧ ¬ slt u bx) := by
    rcases s2 with ⟨h1, _, h3, h4⟩ | ⟨h1, ⟨h2, h3, h4⟩ | ⟨b, h2, h3, F⟩⟩
    · exact ⟨[], h4, fun l hl => (by cases hl), by simp, fun _ => ⟨h3, by simp; omega⟩, fun h => (by rw [h1] at h; cases h), fun _ => ⟨h1, not_slt_nil⟩⟩
    · refine ⟨[], h3, fun l hl => (by cases hl), by simp, fun h => (by rw [h2] at h; cases h), fun _ => rfl, fun h => ?_⟩
      by_cases hun : u = []
      · rw [hun] at h
        exact absurd h (h1 rfl)
      · exact absurd h (h4 u hun hul)
    · have fl := F.len V
      refine ⟨b, h3, F.2.1, by omega, fun _ => ⟨F.2.2.1, fl.2 (h1 rfl)⟩, fun h => (by rw [h2] at h; cases h), fun h => ⟨h2, ?_⟩⟩
      by_cases hun : u = []
      · rw [hun] at h
        exact absurd h (h1 rfl)
      · exact F.2.2.2 u hun hul h
  have sy : ∃ b : List Nat, y = cs b ∧ (∀ l ∈ b, l < two p) ∧ b.length ≤ 256 ∧ (two_ = true → acc.getD (runT nd gd 0 b) false = false ∧ b.length ≠ 0 ∧ b.length ≤ acc.length) ∧ (two_ = false → b.length = 0) ∧ (acc.getD (runT nd gd 0 u) false = false → u ≠ [] → two_ = true ∧ ¬ slt u b) := by
    rcases m2 with ⟨_, h2, _⟩ | ⟨_, ⟨h2, h3, h4⟩ | ⟨b, h2, h3, F⟩⟩
    · cases h2
    · exact ⟨[], h3, fun l hl => (by cases hl), by simp, fun h => (by rw [h2] at h; cases h), fun _ => rfl, fun h hun => absurd h (h4 u hun hul)⟩
    · have fl := F.len V
      refine ⟨b, h3, F.2.1, by omega, fun _ => ⟨F.2.2.1, fun h => F.1 (List.eq_nil_of_length_eq_zero h), fl.1⟩, fun h => (by rw [h2] at h; cases h), fun h hun => ⟨h2, F.2.2.2 u hun hul h⟩⟩
  obtain ⟨bx, ex, x1, x2, x3, x4, x5⟩ := sx
  obtain ⟨b, ey, y1, y2, y3, y4, y5⟩ := sy
  subst ex ey
  rw [Accepts_ok (by omega) V hC x1 (by omega), Accepts_ok (by omega) V hC y1 (by omega), Option.bind_some, Option.bind_some]
  have hj2 := j2_ok (N := 1000000) (acc := acc) (x := cs bx) (y := cs b) (one := one) (two_ := two_) (P := acc.getD (runT nd gd 0 bx) false) (q := acc.getD (runT nd gd 0 b) false) (by rw [cs_len]; exact x3) (by rw [cs_len]; exact x4) (by rw [cs_len]; exact y3) (by rw [cs_len]; exact y4)
  rw [hj2, Option.bind_some, if_neg Bool.false_ne_true]
  refine Ok.ite (fun his => ?_) fun his => ?_
  · obtain ⟨h1, h2⟩ := x5 his
    unfold law19_LangShortest_j3
    dsimp only
    rw [if_pos rfl, if_pos h1]
    obtain ⟨r, er, hr⟩ := ahead_ok (N := 1000000) (by omega) (u := u) (v := bx) (by omega)
    have : r = false := by
      cases r with
      | false => rfl
      | true => exact absurd (hr.1 rfl) h2
    rw [er, this]
    exact Ok.pure rfl
  · have his' : acc.getD (runT nd gd 0 u) false = false := by simpa using his
    unfold law19_LangShortest_j4
    dsimp only
    rw [if_pos rfl, cs_len]
    by_cases hun : u = []
    · rw [hun]
      exact Ok.pure rfl
    · obtain ⟨h1, h2⟩ := y5 his' hun
      have : ¬ ((u.length : Nat) : Int) = 0 := fun h => hun (List.eq_nil_of_length_eq_zero (by omega))
      rw [if_neg this, if_pos h1]
      obtain ⟨r, er, hr⟩ := ahead_ok (N := 1000000) (by omega) (u := u) (v := b) (by omega)
      have : r = false := by
        cases r with
        | false => rfl
        | true => exact absurd (hr.1 rfl) h2
      rw [er, this]
      exact Ok.pure rfl

theorem langShortest_row (w0 : World) (p : Int) (A1 A2 A3 : Option Addr) (c1 c2 c3 : Nat) (acc : List Bool) (gd : List Int) (nd : List Nd) (A4 : Option Addr) (c4 : Nat) (ll : List Int)
    (k1 : acc.length ≤ c1) (k2 : gd.length ≤ c2) (k3 : nd.length ≤ c3) (k4 : ll.length ≤ c4)
    (C1 : C cBool w0 (Lo w0.heap.size) A1 acc) (C2 : C (cInt .i64) w0 (Lo w0.heap.size) A2 gd) (C3 : C cNode w0 (Lo w0.heap.size) A3 nd) (C4 : C (cInt .u8) w0 (Lo w0.heap.size) A4 ll) (hw : ∀ x ∈ nd, x.wf) (hl : ∀ x ∈ ll, 0 ≤ x ∧ x ≤ 255) :
    Calls Try.prog 3 #[.agg #[.int .i64 p, .slice A1 acc.length c1, .slice A2 gd.length c2, .slice A3 nd.length c3], .slice A4 ll.length c4] w0 fun e w' => ∃ v, e = .returned v ∧ (v = .bool true ∧ Ext w0 w') :=
  (law19_LangShortest_calls A1 c1 A2 c2 A3 c3 A4 c4 p acc gd nd ll k1 k2 k3 k4 ((((Hp.start w0).arg C1).arg C2).arg C3 |>.arg C4) (langShortest_true hw hl)).mono fun e w' ⟨v, he, hv, H⟩ => ⟨v, he, hv, H.chgd.own⟩
end Go.V
