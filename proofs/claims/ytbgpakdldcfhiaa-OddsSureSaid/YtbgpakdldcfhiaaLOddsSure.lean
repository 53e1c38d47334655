/- The plain law OddsSure. No condition. -/
import Derived.Test.YtbgpakdldcfhiaaBOddsSure
import Derived.Test.YtbgpakdldcfhiaaLT
import Derived.Test.YtbgpakdldcfhiaaV9
set_option linter.all false
set_option linter.unusedVariables false
set_option maxRecDepth 1000000
namespace Go.V
open Go Go.Proofs
theorem awake27 : law27_awake 1000000 = some true := by kernel_rfl
theorem and_small (x : Int) (m : Nat) (hm : m ≤ 255) : ∃ l : Nat, l ≤ m ∧ andV .u8 x (m : Int) = (l : Int) := by
  refine ⟨(BitVec.ofInt 8 x &&& BitVec.ofInt 8 (m : Int)).toNat, ?_, ?_⟩
  · have e : (BitVec.ofInt 8 (m : Int)).toNat = m := by simp; omega
    rw [BitVec.toNat_and, e]
    exact Nat.and_le_right
  · have h : (BitVec.ofInt 8 x &&& BitVec.ofInt 8 (m : Int)).toNat < 256 := (BitVec.ofInt 8 x &&& BitVec.ofInt 8 (m : Int)).isLt
    show IntKind.u8.wrap ((BitVec.ofInt 8 x &&& BitVec.ofInt 8 (m : Int)).toNat : Int) = _
    exact wrap_u8 (by omega) (by omega)
theorem mask_ok {p : Int} (hp : 0 ≤ p ∧ p ≤ 4) (x : Int) : ∃ l : Nat, l < two p ∧ andV .u8 x (IntKind.u8.wrap (shlV .u8 1 p - 1)) = (l : Int) := by
  have key : ∀ m : Nat, m ≤ 255 → IntKind.u8.wrap (shlV .u8 1 p - 1) = (m : Int) → m + 1 = two p → ∃ l : Nat, l < two p ∧ andV .u8 x (IntKind.u8.wrap (shlV .u8 1 p - 1)) = (l : Int) := fun m h1 h2 h3 => by
    obtain ⟨l, h4, h5⟩ := and_small x m h1
    exact ⟨l, by omega, by rw [h2]; exact h5⟩
  obtain ⟨c, rfl⟩ := Int.eq_ofNat_of_zero_le hp.1
  have hc : c ≤ 4 := by omega
  match c, hc with
  | 0, _ => exact key 0 (by omega) (by decide) (by decide)
  | 1, _ => exact key 1 (by omega) (by decide) (by decide)
  | 2, _ => exact key 3 (by omega) (by decide) (by decide)
  | 3, _ => exact key 7 (by omega) (by decide) (by decide)
  | 4, _ => exact key 15 (by omega) (by decide) (by decide)

/-! ### nought and one -/
def bf (b : Bool) : Nat := if b = true then 4607182418800017408 else 0
theorem fA0 : ∀ b : Bool, fAdd (bf b) 0 = some (bf b) := by decide +kernel
theorem fA1 : ∀ b : Bool, fAdd 0 (bf b) = some (bf b) := by decide +kernel
theorem fM : ∀ b c : Bool, fMul (bf b) (bf c) = some (bf (b && c)) := by decide +kernel
theorem fS : ∀ b : Bool, fSub 4607182418800017408 (bf b) = some (bf (!b)) := by decide +kernel
theorem fGe0 : ∀ b : Bool, fGe (bf b) 0 = true := by decide +kernel
theorem fLe1 : ∀ b : Bool, fLe (bf b) 4607182418800017408 = true := by decide +kernel
theorem fEq1 : ∀ b : Bool, fEq (bf b) 4607182418800017408 = b := by decide +kernel
theorem fEq0 : ∀ b : Bool, fEq (bf b) 0 = !b := by decide +kernel
theorem fNe0 : ∀ b : Bool, fNe (bf b) 0 = b := by decide +kernel
theorem fNe1 : ∀ b : Bool, fNe (bf b) 4607182418800017408 = !b := by decide +kernel
theorem bf1 : bf true = 4607182418800017408 := rfl
theorem bf0 : bf false = 0 := rfl
/-- does a proposition hold in a letter? -/
def bt (l i : Nat) : Bool := !decide (andV .i64 (shrV .i64 (l : Int) (i : Int)) 1 = 0)
theorem bt8 : ∀ l : Fin 16, ∀ i : Fin 4, FloatKind.nearest .f64 (andV .u8 (shrV .u8 ((l.val : Nat) : Int) ((i.val : Nat) : Int)) 1) = bf (bt l.val i.val) := by decide +kernel
theorem bt_eq : ∀ P : Fin 5, ∀ l k : Fin 16, l.val < 2 ^ P.val → k.val < 2 ^ P.val → ((List.range P.val).all fun i => bt l.val i == bt k.val i) = (l.val == k.val) := by decide +kernel
section
variable {N : Nat} {p : Int} {acc : List Bool} {gd : List Int} {nd : List Nd}
theorem Pick_ok {N : Nat} {x n : Int} (h1 : 1 ≤ n) (h2 : n ≤ 1000000) : Ok (kit_Pick N x n) fun r => 0 ≤ r ∧ r < n := by
  have k1 := Int.tmod_lt_of_pos x (show 0 < n by omega)
  have k2 := Int.lt_tmod_of_pos x (show 0 < n by omega)
  unfold kit_Pick
  refine Ok.ite (fun h => by omega) fun _ => Ok.ask (by omega) (Ok.ite (fun h => Ok.ask (by unfold in64; omega) (Ok.pure (by omega))) fun h => Ok.pure (by omega))
theorem Run_l0_ok (hN : 5000 ≤ N) (V : Valid p acc gd nd) {t : List Nat} (ht : t.length ≤ 2000) : ∀ (m : Nat) (q : Nat) (x : Nat), x ≤ t.length → t.length - x < m → q < acc.length → canon_Run_l0 N gd nd (t.map fun l : Nat => (l : Int)) m (q : Int) (x : Int) = some ((runT nd gd q (t.drop x) : Nat) : Int)
  | 0, q, x, _, h, _ => by omega
  | m + 1, q, x, k0, k1, k2 => by
    have gl := V.gl
    unfold canon_Run_l0
    rw [List.length_map]
    by_cases hx : (x : Int) < (t.length : Int)
    · have ha : x < t.length := by omega
      have e : (t.map fun l : Nat => (l : Int)).getD (x : Int).toNat 0 = ((t.getD x 0 : Nat) : Int) := by
        rw [Int.toNat_natCast, List.getD_eq_getElem?_getD, List.getD_eq_getElem?_getD, List.getElem?_map, List.getElem?_eq_getElem ha]
        rfl
      rw [if_pos hx, e, Int.toNat_natCast]
      unfold ask
      have ih := Run_l0_ok hN V ht m (stp nd gd q (t.getD x 0)) (x + 1) (by omega) (by omega) (stp_eq V k2 _).2
      have e3 : ((x : Int) + 1) = ((x + 1 : Nat) : Int) := by omega
      have e4 : runT nd gd (stp nd gd q (t.getD x 0)) (t.drop (x + 1)) = runT nd gd q (t.drop x) := by
        rw [List.drop_eq_getElem_cons ha, List.getD_eq_getElem?_getD, List.getElem?_eq_getElem ha]
        unfold runT
        rw [List.foldl_cons, Option.getD_some]
      rw [if_pos (by unfold idx; omega), if_pos (by unfold idx; omega), stp_go hN V k2, Option.bind_some, if_pos (by unfold in64; omega)]
      show canon_Run_l0 N gd nd (t.map fun l : Nat => (l : Int)) m (stp nd gd q (t.getD x 0) : Int) ((x : Int) + 1) = _
      rw [e3, ih, e4]
    · rw [if_neg hx, List.drop_eq_nil_of_le (by omega)]
      unfold runT
      rw [List.foldl_nil]
theorem Run_ok (hN : 5000 ≤ N) (V : Valid p acc gd nd) (hC : guard_Check N p acc gd nd = some 0) {t : List Nat} (h : ∀ l ∈ t, l < two p) (ht : t.length ≤ 1024) : canon_Run N p acc gd nd (t.map fun l : Nat => (l : Int)) = some (((runT nd gd 0 t : Nat) : Int), 0) := by
  unfold canon_Run
  rw [hC]
  simp only [Option.bind_some, if_true]
  rw [Trace_ok hN ⟨V.p0, V.p8⟩ h ht]
  simp only [Option.bind_some, if_true]
  have := Run_l0_ok hN V (t := t) (by omega) N 0 0 (by omega) (by omega) (by have := V.a1; omega)
  rw [List.drop_zero] at this
  have e : canon_Run_l0 N gd nd (t.map fun l : Nat => (l : Int)) N 0 0 = some ((runT nd gd 0 t : Nat) : Int) := this
  rw [e]
  rfl
theorem chances_ok (hN : 5000 ≤ N) {f : Nat → Bool} {ps : List Nat} (h8 : ps.length ≤ 8) (hp : ∀ i, i < ps.length → ps.getD i 0 = bf (f i)) : odds_chances N ps = some 0 := by
  have key : ∀ (m i : Nat), i ≤ ps.length → ps.length - i < m → odds_chances_l0 N ps m (i : Int) = some (.inl ()) := by
    intro m
    induction m with
    | zero => intro i _ h; omega
    | succ m ih =>
      intro i k1 k2
      unfold odds_chances_l0
      by_cases hx : (i : Int) < (ps.length : Int)
      · rw [if_pos hx, Int.toNat_natCast, hp i (by omega), fGe0, if_pos rfl, fLe1, if_pos rfl]
        unfold ask
        rw [if_pos (by unfold idx; omega), if_pos (by unfold in64; omega), show ((i : Int) + 1) = ((i + 1 : Nat) : Int) by omega]
        exact ih (i + 1) (by omega) (by omega)
      · rw [if_neg hx]
  have h := key N 0 (by omega) (by omega)
  have e : odds_chances_l0 N ps N 0 = some (.inl ()) := h
  unfold odds_chances
  rw [if_neg (by omega), e, Option.bind_some, Sum.elim_inl]
/-- the chance of a letter -/
theorem let1_ok {f : Nat → Bool} {ps : List Nat} (h8 : ps.length ≤ 4) (hp : ∀ i, i < ps.length → ps.getD i 0 = bf (f i)) {k : Nat} : ∀ (m i : Nat) (c : Bool), i ≤ ps.length → ps.length - i < m → c = ((List.range i).all fun j => f j == bt k j) →
    odds_letters_l1 N ps (k : Int) m (bf c) (i : Int) = some (bf ((List.range ps.length).all fun j => f j == bt k j)) := by
  intro m
  induction m with
  | zero => intro i c _ h; omega
  | succ m ih =>
    intro i c k1 k2 hc
    unfold odds_letters_l1
    by_cases hx : (i : Int) < (ps.length : Int)
    · have hr : (List.range (i + 1)).all (fun j => f j == bt k j) = (c && (f i == bt k i)) := by
        rw [List.range_succ, List.all_append, ← hc]; simp
      have e3 : ((i : Int) + 1) = ((i + 1 : Nat) : Int) := by omega
      rw [if_pos hx, Int.toNat_natCast, hp i (by omega)]
      unfold ask
      rw [if_pos (by unfold idx; omega), if_pos (by omega)]
      by_cases hb : andV .i64 (shrV .i64 (k : Int) (i : Int)) 1 = 0
      · have hbt : bt k i = false := by unfold bt; rw [decide_eq_true hb]; rfl
        rw [if_pos hb, fS, Option.bind_some, fM, Option.bind_some, if_pos (by unfold in64; omega), e3]
        refine ih (i + 1) _ (by omega) (by omega) ?_
        rw [hr, hbt]
        cases f i <;> rfl
      · have hbt : bt k i = true := by unfold bt; rw [decide_eq_false hb]; rfl
        rw [if_neg hb, fM, Option.bind_some, if_pos (by unfold in64; omega), e3]
        refine ih (i + 1) _ (by omega) (by omega) ?_
        rw [hr, hbt]
        cases f i <;> rfl
    · rw [if_neg hx, hc, show i = ps.length by omega]
theorem letters_ok (hN : 5000 ≤ N) {l : Nat} {ps : List Nat} (h8 : ps.length ≤ 4) (hl : l < 2 ^ ps.length) (hp : ∀ i, i < ps.length → ps.getD i 0 = bf (bt l i)) : Ok (odds_letters N ps) fun r => r.length = 2 ^ ps.length ∧ ∀ k, k < 2 ^ ps.length → r.getD k 0 = bf (l == k) := by
  have hpow : 1 ≤ 2 ^ ps.length ∧ 2 ^ ps.length ≤ 16 := ⟨Nat.one_le_two_pow, (Nat.pow_le_pow_right (by omega) h8 : 2 ^ ps.length ≤ 2 ^ 4)⟩
  have sh : shlV .i64 1 ((ps.length : Nat) : Int) = ((2 ^ ps.length : Nat) : Int) := (shl_two (p := ((ps.length : Nat) : Int)) ⟨by omega, by omega⟩).1
  have key : ∀ (m : Nat) (out : List Nat) (x : Nat), x ≤ 2 ^ ps.length → 2 ^ ps.length - x < m → out.length = 2 ^ ps.length → (∀ k, k < x → out.getD k 0 = bf (l == k)) → Ok (odds_letters_l0 N ps m out (x : Int)) fun r => r.length = 2 ^ ps.length ∧ ∀ k, k < 2 ^ ps.length → r.getD k 0 = bf (l == k) := by
    intro m
    induction m with
    | zero => intro out x _ h; omega
    | succ m ih =>
      intro out x k1 k2 k3 k4
      unfold odds_letters_l0
      rw [sh, Int.toNat_natCast, List.length_replicate]
      refine Ok.ite (fun hx => ?_) fun hx => Ok.pure ⟨k3, fun k hk => k4 k (by omega)⟩
      have hx' : x < 2 ^ ps.length := by omega
      have h1 := let1_ok (N := N) h8 hp (k := x) N 0 true (by omega) (by omega) rfl
      have e1 : odds_letters_l1 N ps (x : Int) N 4607182418800017408 0 = some (bf ((List.range ps.length).all fun j => bt l j == bt x j)) := h1
      have hp5 : ps.length < 5 := by omega
      have hall : ((List.range ps.length).all fun j => bt l j == bt x j) = (l == x) := bt_eq ⟨ps.length, hp5⟩ ⟨l, by omega⟩ ⟨x, by omega⟩ hl hx'
      rw [e1, hall, Option.bind_some, fA0, Option.bind_some, Int.toNat_natCast]
      refine Ok.ask (by unfold idx; omega) (Ok.ask (by unfold in64; omega) ?_)
      rw [show ((x : Int) + 1) = ((x + 1 : Nat) : Int) by omega]
      refine ih _ (x + 1) (by omega) (by omega) (by rw [List.length_set]; exact k3) fun k hk => ?_
      rw [getD_set (by omega)]
      by_cases d : x = k
      · subst d; rw [if_pos rfl]
      · rw [if_neg d]; exact k4 k (by omega)
  unfold odds_letters
  refine Ok.ask (by omega) (Ok.ask (by rw [sh]; omega) ?_)
  refine (key N _ 0 (by omega) (by omega) (by rw [sh, Int.toNat_natCast, List.length_replicate]) fun k hk => by omega).bind fun r hr => Ok.pure hr
theorem orows_ok (hN : 5000 ≤ N) (V : Valid p acc gd nd) : ∀ (m : Nat) (wh : List (List Int)) (x : Int), 0 ≤ x → x ≤ acc.length → (acc.length : Int) - x < m → (wh.length : Int) = x →
    (∀ q : Nat, (q : Int) < x → (wh.getD q []).length = two p ∧ ∀ l, l < two p → (wh.getD q []).getD l 0 = (stp nd gd q l : Int)) →
    Ok (odds_run_l0 N p gd nd m wh x) fun r => Tab nd gd acc.length (two p) r
  | 0, wh, x, _, _, h, _, _ => by omega
  | m + 1, wh, x, k0, k1, k2, k3, k5 => by
    have a2 := V.a2
    have gl := V.gl
    unfold odds_run_l0
    rw [gl]
    refine Ok.ite (fun hx => ?_) fun hx => Ok.pure ⟨by omega, fun q hq => (k5 q (by omega)).1, fun q l hq hl => (k5 q (by omega)).2 l hl⟩
    obtain ⟨a, rfl⟩ := Int.eq_ofNat_of_zero_le k0
    rw [Int.toNat_natCast]
    refine Ok.ask (by unfold idx; omega) ?_
    refine (Table_ok hN V (q := a) (by omega)).bind fun r ⟨r1, r2, r3⟩ => ?_
    refine Ok.ask (by simp; omega) (Ok.ask (by unfold in64; omega) ?_)
    refine orows_ok hN V m _ ((a : Int) + 1) (by omega) (by omega) (by omega) (by simp; omega) fun q hq => ?_
    rw [getD_snoc]
    by_cases c : q = a
    · rw [if_pos (by omega), c]
      exact ⟨r2, r3⟩
    · rw [if_neg (by omega)]
      exact k5 q (by omega)
variable {wh : List (List Int)} {ch : List Nat} {l q : Nat}
/-- one state alone -/
def Hot (n : Nat) (xs : List Nat) (f : Nat → Bool) : Prop := xs.length = n ∧ ∀ k, k < n → xs.getD k 0 = bf (f k)
theorem run3_ok (hN : 5000 ≤ N) (V : Valid p acc gd nd) (T : Tab nd gd acc.length (two p) wh) (hcl : ch.length = two p) (hch : ∀ k, k < two p → ch.getD k 0 = bf (l == k)) (hl : l < two p) {now : List Nat} (hnow : Hot acc.length now fun k => q == k) {x : Nat} (hx : x < acc.length) {t0 : Nat} : ∀ (m : Nat) (next : List Nat) (y : Nat), y ≤ two p → two p - y < m → Hot acc.length next (fun k => decide (q < x ∨ q = x ∧ l < y) && (stp nd gd q l == k)) →
    Ok (odds_run_l3 N acc false ch wh now (x : Int) m next t0 (y : Int)) fun r => r.2 = t0 ∧ Hot acc.length r.1 (fun k => decide (q < x + 1) && (stp nd gd q l == k)) := by
  intro m
  induction m with
  | zero => intro next y _ h; omega
  | succ m ih =>
    intro next y k1 k2 k3
    have a2 := V.a2
    have sh := shl_two ⟨V.p0, V.p8⟩
    unfold odds_run_l3
    rw [Int.toNat_natCast, T.row x hx]
    refine Ok.ite (fun hy => ?_) fun hy => Ok.pure ⟨rfl, k3.1, fun k hk => ?_⟩
    · have hy' : y < two p := by omega
      have hlt := (stp_eq V hx y).2
      rw [Int.toNat_natCast, hnow.2 x hx, hch y hy', fM, Option.bind_some, T.at_ x y hx hy', Int.toNat_natCast]
      refine Ok.ask (by unfold idx; omega) (Ok.ask (by unfold idx; omega) ?_)
      have hj4 : odds_run_j4 N acc false wh (x : Int) (y : Int) = some false := by
        unfold odds_run_j4
        rw [if_neg (by simp)]
      rw [hj4, Option.bind_some, if_neg (by simp)]
      refine Ok.ask (by have := k3.1; unfold idx; omega) ?_
      rw [k3.2 _ hlt]
      dsimp only
      by_cases c : q = x ∧ l = y
      · obtain ⟨rfl, rfl⟩ := c
        have e1 : (decide (q < q ∨ q = q ∧ l < l) && (stp nd gd q l == stp nd gd q l)) = false := by
          rw [decide_eq_false (by omega)]; rfl
        have e2 : ((q == q) && (l == l)) = true := by simp
        rw [e1, bf0, fA1, Option.bind_some, e2]
        refine Ok.ask (by unfold in64; omega) ?_
        rw [show ((l : Int) + 1) = ((l + 1 : Nat) : Int) by omega]
        refine ih _ (l + 1) (by omega) (by omega) ⟨by rw [List.length_set]; exact k3.1, fun k hk => ?_⟩
        rw [getD_set (by have := k3.1; omega)]
        dsimp only
        rw [decide_eq_true (show q < q ∨ q = q ∧ l < l + 1 by omega), Bool.true_and]
        by_cases d : stp nd gd q l = k
        · rw [if_pos d, show (stp nd gd q l == k) = true by simp [d]]
        · rw [if_neg d, k3.2 k hk]
          dsimp only
          rw [decide_eq_false (by omega), Bool.false_and, show (stp nd gd q l == k) = false by simp [d]]
      · have e2 : ((q == x) && (l == y)) = false := by
          rw [Bool.and_eq_false_iff]
          by_cases d : q = x
          · exact .inr (by simp; omega)
          · exact .inl (by simp [d])
        rw [e2, bf0, fA0, Option.bind_some]
        refine Ok.ask (by unfold in64; omega) ?_
        rw [show ((y : Int) + 1) = ((y + 1 : Nat) : Int) by omega]
        refine ih _ (y + 1) (by omega) (by omega) ⟨by rw [List.length_set]; exact k3.1, fun k hk => ?_⟩
        have e4 : decide (q < x ∨ q = x ∧ l < y + 1) = decide (q < x ∨ q = x ∧ l < y) := by
          by_cases d : q < x ∨ q = x ∧ l < y
          · rw [decide_eq_true d, decide_eq_true (by omega)]
          · rw [decide_eq_false d, decide_eq_false (by omega)]
        rw [getD_set (by have := k3.1; omega)]
        dsimp only
        rw [e4]
        by_cases d : stp nd gd x y = k
        · subst d; rw [if_pos rfl]
        · rw [if_neg d, k3.2 k hk]
    · rw [k3.2 k hk]
      dsimp only
      by_cases d : q < x + 1
      · rw [decide_eq_true d, decide_eq_true (by omega)]
      · rw [decide_eq_false d, decide_eq_false (by omega)]
theorem run2_ok (hN : 5000 ≤ N) (V : Valid p acc gd nd) (T : Tab nd gd acc.length (two p) wh) (hcl : ch.length = two p) (hch : ∀ k, k < two p → ch.getD k 0 = bf (l == k)) (hl : l < two p) {now : List Nat} (hnow : Hot acc.length now fun k => q == k) (hq : q < acc.length) {t0 : Nat} : ∀ (m : Nat) (next : List Nat) (x : Nat), x ≤ acc.length → acc.length - x < m → Hot acc.length next (fun k => decide (q < x) && (stp nd gd q l == k)) →
    Ok (odds_run_l2 N acc false ch wh now m next t0 (x : Int)) fun r => r.2 = t0 ∧ Hot acc.length r.1 (fun k => stp nd gd q l == k) := by
  intro m
  induction m with
  | zero => intro next x _ h; omega
  | succ m ih =>
    intro next x k1 k2 k3
    have a2 := V.a2
    have sh := shl_two ⟨V.p0, V.p8⟩
    unfold odds_run_l2
    rw [hnow.1]
    refine Ok.ite (fun hx => ?_) fun hx => Ok.pure ⟨rfl, k3.1, fun k hk => ?_⟩
    · have hx' : x < acc.length := by omega
      refine Ok.ask (by unfold idx; omega) (Ok.ask (by unfold idx; have := T.len; omega) ?_)
      refine (run3_ok (N := N) hN V T hcl hch hl hnow hx' N next 0 (by omega) (by omega) ⟨k3.1, fun k hk => ?_⟩).bind fun r ⟨r1, r2⟩ => ?_
      · rw [k3.2 k hk]
        dsimp only
        by_cases d : q < x
        · rw [decide_eq_true d, decide_eq_true (by omega)]
        · rw [decide_eq_false d, decide_eq_false (by omega)]
      rw [r1]
      refine Ok.ask (by unfold in64; omega) ?_
      rw [show ((x : Int) + 1) = ((x + 1 : Nat) : Int) by omega]
      exact ih r.1 (x + 1) (by omega) (by omega) r2
    · rw [k3.2 k hk]
      dsimp only
      rw [decide_eq_true (show q < x by omega), Bool.true_and]
theorem run1_ok (hN : 5000 ≤ N) (V : Valid p acc gd nd) (T : Tab nd gd acc.length (two p) wh) (hcl : ch.length = two p) (hch : ∀ k, k < two p → ch.getD k 0 = bf (l == k)) (hl : l < two p) {n : Nat} (hn : n ≤ 1024) {t0 : Nat} : ∀ (m : Nat) (now next : List Nat) (x q : Nat), x ≤ n → n - x < m → q < acc.length → Hot acc.length now (fun k => q == k) → next.length = acc.length →
    Ok (odds_run_l1 N acc (n : Int) false ch wh m now next t0 (x : Int)) fun r => Hot acc.length r.1 (fun k => runT nd gd q (List.replicate (n - x) l) == k) := by
  intro m
  induction m with
  | zero => intro now next x q _ h; omega
  | succ m ih =>
    intro now next x q k1 k2 k3 k4 k5
    have a2 := V.a2
    unfold odds_run_l1
    refine Ok.ite (fun hx => ?_) fun hx => Ok.pure ?_
    · refine (run2_ok (N := N) hN V T hcl hch hl k4 k3 N _ 0 (by omega) (by omega) ⟨by rw [List.length_replicate]; exact k5, fun k hk => ?_⟩).bind fun r ⟨r1, r2⟩ => ?_
      · rw [getD_rep]
        dsimp only
        rw [decide_eq_false (by omega), Bool.false_and]
        rfl
      rw [r1]
      refine Ok.ask (by unfold in64; omega) ?_
      rw [show ((x : Int) + 1) = ((x + 1 : Nat) : Int) by omega]
      refine (ih r.1 now (x + 1) (stp nd gd q l) (by omega) (by omega) (stp_eq V k3 l).2 r2 k4.1).mono fun s hs => ?_
      have e : List.replicate (n - x) l = l :: List.replicate (n - (x + 1)) l := by
        rw [show n - x = (n - (x + 1)) + 1 by omega]; rfl
      rw [e]
      exact hs
    · have e : n - x = 0 := by omega
      rw [e]
      exact k4
theorem run_ok (hN : 5000 ≤ N) (V : Valid p acc gd nd) {ps : List Nat} (hp4 : p ≤ 4) (hpl : (ps.length : Int) = p) (hl : l < two p) (hp : ∀ i, i < ps.length → ps.getD i 0 = bf (bt l i)) {n : Nat} (hn : n ≤ 1024) : Ok (odds_run N p acc gd nd ps (n : Int) false) fun r => Hot acc.length r.1 (fun k => runT nd gd 0 (List.replicate n l) == k) := by
  have a1 := V.a1
  have a2 := V.a2
  have htwo : two p = 2 ^ ps.length := by unfold two; rw [← hpl, Int.toNat_natCast]
  unfold odds_run
  refine (letters_ok hN (by omega) (by omega) hp).bind fun ch ⟨c1, c2⟩ => ?_
  refine (orows_ok (N := N) hN V N [] 0 (by omega) (by omega) (by omega) rfl fun q h => by omega).bind fun wh T => ?_
  refine Ok.ask (by omega) (Ok.ask (by unfold idx; simp; omega) ?_)
  refine (run1_ok (N := N) hN V T (by omega) (fun k hk => c2 k (by omega)) hl hn N _ _ 0 0 (by omega) (by omega) (by omega) ⟨by simp, fun k hk => ?_⟩ (by simp)).bind fun r hr => Ok.pure hr
  rw [getD_set (by simp; omega), getD_rep]
  show (if 0 = k then 4607182418800017408 else 0) = bf (0 == k)
  by_cases d : 0 = k
  · subst d; rfl
  · rw [if_neg d, show ((0 : Nat) == k) = false by simpa using d]
    rfl
theorem asked_ok (hN : 5000 ≤ N) (hC : guard_Check N p acc gd nd = some 0) {ps : List Nat} (h8 : ps.length ≤ 8) (hpl : (ps.length : Int) = p) (hp : ∀ i, i < ps.length → ps.getD i 0 = bf (bt l i)) {n : Nat} (hn : n ≤ 1024) : odds_asked N p acc gd nd ps (n : Int) = some 0 := by
  unfold odds_asked
  rw [hC, Option.bind_some, if_pos rfl, if_pos hpl, chances_ok hN h8 hp, Option.bind_some, if_pos rfl, if_neg (by omega), if_neg (by omega)]
theorem asked_no {e : Int} (hC : guard_Check N p acc gd nd = some e) (he : e ≠ 0) (ps : List Nat) (n : Int) : odds_asked N p acc gd nd ps n = some e := by
  unfold odds_asked
  rw [hC, Option.bind_some, if_neg he]
theorem acc0_ok {v : List Nat} {q : Nat} (hv : Hot acc.length v fun k => q == k) (hn : acc.length ≤ 1000) : ∀ (m x : Nat), x ≤ acc.length → acc.length - x < m → odds_Accept_l0 N acc (v, 0) m (bf (decide (q < x) && acc.getD q false)) (x : Int) = some (bf (decide (q < acc.length) && acc.getD q false)) := by
  intro m
  induction m with
  | zero => intro x _ h; omega
  | succ m ih =>
    intro x k1 k2
    have hl := hv.1
    unfold odds_Accept_l0
    by_cases hx : (x : Int) < (((List.length ((v, (0 : Int)).1)) : Nat) : Int)
    · have hx' : x < acc.length := by have hx : (x : Int) < ((v.length : Nat) : Int) := hx; omega
      have h1 : idx (x : Int) (List.length ((v, (0 : Int)).1)) := ⟨by omega, hx⟩
      have h2 : idx (x : Int) acc.length := ⟨by omega, by omega⟩
      have e3 : ((x : Int) + 1) = ((x + 1 : Nat) : Int) := by omega
      have hv2 : List.getD ((v, (0 : Int)).1) x 0 = bf (q == x) := hv.2 x hx'
      have h64 : in64 (((x + 1 : Nat) : Int)) := by unfold in64; omega
      have ih2 := ih (x + 1) (by omega) (by omega)
      rw [if_pos hx, Int.toNat_natCast, e3]
      unfold ask
      rw [if_pos h1, if_pos h2]
      by_cases c : acc.getD x false = true
      · rw [if_pos c, hv2]
        by_cases d : q = x
        · subst d
          have e1 : (decide (q < q) && acc.getD q false) = false := by rw [decide_eq_false (by omega)]; rfl
          have e2 : (decide (q < q + 1) && acc.getD q false) = (q == q) := by rw [decide_eq_true (by omega), c]; simp
          rw [e1, bf0, fA1, Option.bind_some, if_pos h64, ← e2, ih2]
        · have e1 : (q == x) = false := by simp [d]
          have e2 : decide (q < x) = decide (q < x + 1) := by
            by_cases g : q < x
            · rw [decide_eq_true g, decide_eq_true (by omega)]
            · rw [decide_eq_false g, decide_eq_false (by omega)]
          rw [e1, bf0, fA0, Option.bind_some, if_pos h64, e2, ih2]
      · rw [if_neg c, if_pos h64]
        have e2 : (decide (q < x) && acc.getD q false) = (decide (q < x + 1) && acc.getD q false) := by
          by_cases d : q = x
          · subst d
            have : acc.getD q false = false := by cases h : acc.getD q false with | true => exact absurd h c | false => rfl
            rw [this, Bool.and_false, Bool.and_false]
          · by_cases g : q < x
            · rw [decide_eq_true g, decide_eq_true (by omega)]
            · rw [decide_eq_false g, decide_eq_false (by omega)]
        rw [e2, ih2]
    · rw [if_neg hx]
      have hx : ¬ (x : Int) < ((v.length : Nat) : Int) := hx
      rw [show x = acc.length by omega]
theorem ps_ok {L : Nat} (hp : 0 ≤ p ∧ p ≤ 4) (hL : L < 16) {ll : Int} (hll : andV .u8 ll (IntKind.u8.wrap ((shlV .u8 1 p) - 1)) = (L : Int)) : ∀ (m : Nat) (ps : List Nat) (i : Nat), (i : Int) ≤ p → p - i < m → ps.length = i → (∀ j, j < i → ps.getD j 0 = bf (bt L j)) →
    Ok (law27_OddsSure_l1 N p ll m ps (i : Int)) fun r => (r.length : Int) = p ∧ ∀ j, j < r.length → r.getD j 0 = bf (bt L j) := by
  intro m
  induction m with
  | zero => intro ps i _ h; omega
  | succ m ih =>
    intro ps i k1 k2 k3 k4
    unfold law27_OddsSure_l1
    refine Ok.ite (fun hx => ?_) fun hx => Ok.pure ⟨by omega, fun j hj => k4 j (by omega)⟩
    have hb : FloatKind.nearest .f64 (andV .u8 (shrV .u8 (L : Int) (i : Int)) 1) = bf (bt L i) := bt8 ⟨L, hL⟩ ⟨i, by omega⟩
    rw [hll, hb]
    refine Ok.ask (by omega) (Ok.ask (by simp; omega) (Ok.ask (by unfold in64; omega) ?_))
    rw [show ((i : Int) + 1) = ((i + 1 : Nat) : Int) by omega]
    refine ih _ (i + 1) (by omega) (by omega) (by rw [List.length_append, List.length_singleton]; omega) fun j hj => ?_
    rw [getD_snoc]
    by_cases d : j = ps.length
    · rw [if_pos d, d, k3]
    · rw [if_neg d]; exact k4 j (by omega)
theorem ts_ok {L : Nat} {ll : Int} (hll : andV .u8 ll (IntKind.u8.wrap ((shlV .u8 1 p) - 1)) = (L : Int)) {n : Nat} (hn : n ≤ 1024) : ∀ (m : Nat) (i : Nat), i ≤ n → n - i < m → law27_OddsSure_l2 N p ll (n : Int) m ((List.replicate i L).map fun l : Nat => (l : Int)) (i : Int) = some ((List.replicate n L).map fun l : Nat => (l : Int)) := by
  intro m
  induction m with
  | zero => intro i _ h; omega
  | succ m ih =>
    intro i k1 k2
    unfold law27_OddsSure_l2
    by_cases hx : (i : Int) < (n : Int)
    · have e : ((List.replicate i L).map fun l : Nat => (l : Int)) ++ [(L : Int)] = (List.replicate (i + 1) L).map fun l : Nat => (l : Int) := by
        rw [List.replicate_succ']; simp
      rw [if_pos hx, hll]
      unfold ask
      rw [if_pos (by simp; omega), if_pos (by unfold in64; omega), e, show ((i : Int) + 1) = ((i + 1 : Nat) : Int) by omega]
      exact ih (i + 1) (by omega) (by omega)
    · rw [if_neg hx, show i = n by omega]
theorem l6_ok {v : List Nat} {q n : Nat} (hv : Hot n v fun k => q == k) (hn : n ≤ 1000) : ∀ (m x : Nat), x ≤ n → n - x < m → law27_OddsSure_l6 N ((q : Int), 0) (v, 0) m (x : Int) = some (.inl ()) := by
  intro m
  induction m with
  | zero => intro x _ h; omega
  | succ m ih =>
    intro x k1 k2
    have hl := hv.1
    unfold law27_OddsSure_l6
    by_cases hx : (x : Int) < (((List.length ((v, (0 : Int)).1)) : Nat) : Int)
    · have hx' : x < n := by have hx : (x : Int) < ((v.length : Nat) : Int) := hx; omega
      have h1 : idx (x : Int) (List.length ((v, (0 : Int)).1)) := ⟨by omega, hx⟩
      have hv2 : List.getD ((v, (0 : Int)).1) x 0 = bf (q == x) := hv.2 x hx'
      have hj : law27_OddsSure_j7 N ((q : Int), 0) (v, 0) (x : Int) = some false := by
        unfold law27_OddsSure_j7 ask
        rw [if_pos h1, Int.toNat_natCast, hv2, fEq1, fNe0, fNe1]
        by_cases d : q = x
        · subst d
          simp
        · have e1 : (q == x) = false := by simp [d]
          have e2 : ((x : Int) == (q : Int)) = false := by simp; omega
          rw [e1]
          show (if false = ((x : Int) == (q : Int)) then _ else _) = _
          rw [e2]
          rfl
      have h64 : in64 (((x + 1 : Nat) : Int)) := by unfold in64; omega
      rw [if_pos hx, hj, Option.bind_some, if_neg (by simp), show ((x : Int) + 1) = ((x + 1 : Nat) : Int) by omega]
      unfold ask
      rw [if_pos h64]
      exact ih (x + 1) (by omega) (by omega)
    · rw [if_neg hx]
end

theorem oddsSure_true {p : Int} {acc : List Bool} {gd : List Int} {nd : List Nd} {ll n : Int} (hw : ∀ x ∈ nd, x.wf) :
    law27_OddsSure 1000000 p acc gd nd ll n = some true := by
  have hN : 5000 ≤ 1000000 := by omega
  refine Ok.eq ?_
  unfold law27_OddsSure
  rw [awake27, Option.bind_some]
  obtain ⟨e, hC, he⟩ := guard_Check_ok (N := 1000000) (p := p) (acc := acc) (gd := gd) hN hw
  have hS : Ok (law27_OddsSure_j0 1000000 p acc gd nd) fun r => r = false → 0 ≤ p ∧ p ≤ 4 := by
    unfold law27_OddsSure_j0
    have hS : Ok (law16_Small 1000000 p acc gd nd) fun r => True := by
      unfold law16_Small
      repeat' (first | exact Ok.pure trivial | refine Ok.ite (fun _ => ?_) fun _ => ?_)
    refine hS.bind fun b _ => Ok.ite (fun _ => Ok.ite (fun _ => Ok.pure fun h => by cases h) fun h1 => Ok.pure fun h2 => ?_) fun _ => Ok.pure fun h => by cases h
    have := of_decide_eq_false h2
    omega
  refine hS.bind fun b hb => ?_
  refine Ok.ite (fun _ => Ok.pure rfl) fun hbf => ?_
  have hp := hb (by cases b <;> simp_all)
  refine (Pick_ok (by omega) (by omega)).bind fun r ⟨r0, r1⟩ => ?_
  obtain ⟨k, rfl⟩ := Int.eq_ofNat_of_zero_le r0
  refine Ok.ask hp.1 ?_
  obtain ⟨L, hL, hll⟩ := mask_ok hp ll
  have hL16 : L < 16 := by
    have : two p ≤ 2 ^ 4 := Nat.pow_le_pow_right (by omega) (by omega)
    omega
  refine (ps_ok (N := 1000000) hp hL16 hll 1000000 [] 0 (by omega) (by omega) rfl fun j hj => by omega).bind fun ps ⟨p1, p2⟩ => ?_
  have hts := ts_ok (N := 1000000) hll (n := k) (by omega) 1000000 0 (by omega) (by omega)
  have ets : law27_OddsSure_l2 1000000 p ll (k : Int) 1000000 [] 0 = some ((List.replicate k L).map fun l : Nat => (l : Int)) := hts
  rw [ets, Option.bind_some]
  by_cases h0 : e = 0
  · have V := he.2 h0
    rw [h0] at hC
    have a1 := V.a1
    have a2 := V.a2
    have hlet : ∀ l ∈ List.replicate k L, l < two p := fun l hl => by rw [List.eq_of_mem_replicate hl]; exact hL
    rw [Run_ok hN V hC hlet (by rw [List.length_replicate]; omega), Option.bind_some]
    have hask := asked_ok (l := L) hN hC (ps := ps) (by omega) p1 p2 (n := k) (by omega)
    obtain ⟨r, hr, hot⟩ := run_ok (l := L) hN V hp.2 p1 hL p2 (n := k) (by omega)
    have hAfter : odds_After 1000000 p acc gd nd ps (k : Int) = some (r.1, 0) := by
      unfold odds_After
      rw [hask, Option.bind_some, if_pos rfl, hr, Option.bind_some]
    have hlt := runT_lt V (List.replicate k L) 0 (by omega)
    generalize hq : runT nd gd 0 (List.replicate k L) = q at *
    have hAcc : odds_Accept 1000000 p acc gd nd ps (k : Int) = some (bf (acc.getD q false), 0) := by
      have h := acc0_ok (N := 1000000) hot (by omega) 1000000 0 (by omega) (by omega)
      have e1 : (decide (q < 0) && acc.getD q false) = false := by rw [decide_eq_false (by omega)]; rfl
      have e2 : (decide (q < acc.length) && acc.getD q false) = acc.getD q false := by rw [decide_eq_true hlt, Bool.true_and]
      rw [e1, e2] at h
      have h' : odds_Accept_l0 1000000 acc (r.1, 0) 1000000 0 0 = some (bf (acc.getD q false)) := h
      unfold odds_Accept
      rw [hAfter, Option.bind_some, h', Option.bind_some]
    rw [hAfter, hAcc, Option.bind_some, Option.bind_some]
    have hj3 : law27_OddsSure_j3 1000000 ((q : Int), 0) (r.1, 0) (bf (acc.getD q false), 0) = some false := rfl
    have hv := hot.1
    have hj5 : law27_OddsSure_j5 1000000 acc ((q : Int), 0) (r.1, 0) = some false := by
      unfold law27_OddsSure_j5
      dsimp only
      rw [if_pos (by omega), if_neg (by omega), decide_eq_false (by omega)]
    have h6 := l6_ok (N := 1000000) hot (by omega) 1000000 0 (by omega) (by omega)
    have e6 : law27_OddsSure_l6 1000000 ((q : Int), 0) (r.1, 0) 1000000 0 = some (.inl ()) := h6
    have hj8 : law27_OddsSure_j8 1000000 acc true ((q : Int), 0) (bf (acc.getD q false), 0) = some true := by
      unfold law27_OddsSure_j8 ask
      dsimp only
      rw [if_pos rfl, if_pos (by unfold idx; omega), Int.toNat_natCast, fEq1, fEq0, if_pos rfl]
      cases acc.getD q false <;> rfl
    rw [hj3, Option.bind_some, if_neg (by simp), hj5, Option.bind_some, if_neg (by simp), e6, Option.bind_some, Sum.elim_inl, hj8, Option.bind_some]
    exact Ok.pure rfl
  · have hRun : ∀ t, canon_Run 1000000 p acc gd nd t = some (0, e) := fun t => by
      unfold canon_Run
      rw [hC, Option.bind_some, if_neg h0]
    have hask := asked_no hC h0 ps (k : Int)
    have hAfter : odds_After 1000000 p acc gd nd ps (k : Int) = some ([], e) := by
      unfold odds_After
      rw [hask, Option.bind_some, if_neg h0]
    have hAcc : Ok (odds_Accept 1000000 p acc gd nd ps (k : Int)) fun r => r.2 = e := by
      unfold odds_Accept
      rw [hAfter, Option.bind_some]
      have : odds_Accept_l0 1000000 acc ([], e) 1000000 0 0 = some 0 := rfl
      rw [this]
      exact Ok.pure rfl
    rw [hRun, hAfter, Option.bind_some, Option.bind_some]
    refine hAcc.bind fun r hr => ?_
    have hj3 : law27_OddsSure_j3 1000000 (0, e) ([], e) r = some true := by
      unfold law27_OddsSure_j3
      rw [if_neg h0]
    have hj4 : law27_OddsSure_j4 1000000 true (0, e) ([], e) = some true := by
      unfold law27_OddsSure_j4
      dsimp only
      rw [if_pos rfl, if_pos rfl]
      rfl
    rw [hj3, Option.bind_some, if_pos rfl, hj4, Option.bind_some]
    exact Ok.pure rfl

theorem oddsSure_row (w0 : World) (p : Int) (A1 A2 A3 : Option Addr) (c1 c2 c3 : Nat) (acc : List Bool) (gd : List Int) (nd : List Nd) (ll n : Int)
    (k1 : acc.length ≤ c1) (k2 : gd.length ≤ c2) (k3 : nd.length ≤ c3)
    (C1 : C cBool w0 (Lo w0.heap.size) A1 acc) (C2 : C (cInt .i64) w0 (Lo w0.heap.size) A2 gd) (C3 : C cNode w0 (Lo w0.heap.size) A3 nd) (hw : ∀ x ∈ nd, x.wf) :
    Calls Try.prog 5 #[.agg #[.int .i64 p, .slice A1 acc.length c1, .slice A2 gd.length c2, .slice A3 nd.length c3], .int .u8 ll, .int .i64 n] w0 fun e w' => ∃ v, e = .returned v ∧ (v = .bool true ∧ Ext w0 w') :=
  (law27_OddsSure_calls A1 c1 A2 c2 A3 c3 p acc gd nd ll n k1 k2 k3 (((Hp.start w0).arg C1).arg C2 |>.arg C3) (oddsSure_true hw)).mono fun e w' ⟨v, he, hv, H⟩ => ⟨v, he, hv, H.chgd.own⟩
end Go.V
