/- What is told of beginnings and of states is what the document says. -/
import Derived.Test.YtljkomkejdngcaaBWatchTells
import Derived.Test.YtljkomkejdngcaaR21
import Derived.Test.YtljkomkejdngcaaLK
import Derived.Test.YtljkomkejdngcaaV9
set_option linter.all false
set_option linter.unusedVariables false
set_option maxRecDepth 1000000
namespace Go.V
open Go Go.Proofs
section
variable {N : Nat} {p : Int} {acc : List Bool} {gd : List Int} {nd : List Nd}
theorem Fits_inv (hp : 0 ≤ p ∧ p ≤ 8) {x : Int} (hx : 0 ≤ x ∧ x ≤ 255) : Ok (letter_Fits N p x) fun b => b = true → x < two p := by
  have sh := shl_two hp
  unfold letter_Fits letter_number
  rw [if_pos hp.1]
  simp only [Option.bind_some]
  rw [if_pos (decide_eq_true hp.2)]
  refine Ok.ask (by unfold in64; omega) (Ok.ask hp.1 (Ok.pure fun h => ?_))
  have h2 : shrV .i64 x p = 0 := by simpa using h
  unfold shrV at h2
  have hb : min p.toNat IntKind.i64.bits = p.toNat := Nat.min_eq_left (by show p.toNat ≤ 64; omega)
  rw [hb, show ((2 : Int) ^ p.toNat) = (two p : Int) by unfold two; simp, Int.fdiv_eq_ediv_of_nonneg _ (by omega)] at h2
  have h3 := Int.emod_lt_of_pos x (show (0 : Int) < (two p : Int) by omega)
  have h4 := Int.emod_add_mul_ediv x (two p : Int)
  rw [h2] at h4
  omega
theorem Trace_l0_inv (hp : 0 ≤ p ∧ p ≤ 8) {t : List Int} (ht : ∀ x ∈ t, 0 ≤ x ∧ x ≤ 255) (hl : t.length ≤ 100000) : ∀ (m : Nat) (i : Nat), i ≤ t.length → t.length - i < m → (∀ j, j < i → t.getD j 0 < two p) →
    Ok (letter_Trace_l0 N p t m (i : Int)) fun r => (r = .inl () ∧ ∀ j, j < t.length → t.getD j 0 < two p) ∨ r = .inr 2
  | 0, i, _, h, _ => by omega
  | m + 1, i, k1, k2, k3 => by
    unfold letter_Trace_l0
    refine Ok.ite (fun hx => ?_) fun hx => Ok.pure (.inl ⟨rfl, fun j hj => k3 j (by omega)⟩)
    rw [Int.toNat_natCast]
    refine Ok.ask (by unfold idx; omega) ?_
    have hm := ht _ (getD_mem (d := 0) (i := (i : Int)) (by omega) hx)
    rw [Int.toNat_natCast] at hm
    refine (Fits_inv hp hm).bind fun b hb => ?_
    refine Ok.ite (fun hbt => Ok.ask (by unfold in64; omega) ?_) fun _ => Ok.pure (.inr rfl)
    rw [show ((i : Int) + 1) = ((i + 1 : Nat) : Int) by omega]
    refine Trace_l0_inv hp ht hl m (i + 1) (by omega) (by omega) fun j hj => ?_
    by_cases c : j = i
    · rw [c]; exact hb hbt
    · exact k3 j (by omega)
theorem Trace_inv (hN : 5000 ≤ N) (hp : 0 ≤ p ∧ p ≤ 8) {t : List Int} (ht : ∀ x ∈ t, 0 ≤ x ∧ x ≤ 255) : Ok (letter_Trace N p t) fun e => e = 0 → ∃ u : List Nat, t = u.map (fun l : Nat => (l : Int)) ∧ ∀ l ∈ u, l < two p := by
  unfold letter_Trace letter_number
  rw [if_pos hp.1]
  simp only [Option.bind_some]
  rw [if_pos (decide_eq_true hp.2)]
  refine Ok.ite (fun _ => Ok.pure fun h => by cases h) fun hl => ?_
  obtain ⟨r, e, hr⟩ := Trace_l0_inv (N := N) hp ht (by omega) N 0 (by omega) (by omega) fun j h => by omega
  have e' : letter_Trace_l0 N p t N 0 = some r := e
  rw [e']
  simp only [Option.bind_some]
  rcases hr with ⟨rfl, h⟩ | rfl
  · refine Ok.pure fun _ => ⟨t.map Int.toNat, ?_, fun l hl2 => ?_⟩
    · rw [List.map_map]
      have : ∀ x ∈ t, ((fun l : Nat => (l : Int)) ∘ Int.toNat) x = x := fun x hx => by
        have := ht x hx
        show ((x.toNat : Nat) : Int) = x
        omega
      rw [List.map_congr_left this, List.map_id']
    · obtain ⟨x, hx2, rfl⟩ := List.mem_map.1 hl2
      obtain ⟨j, hj, rfl⟩ := List.mem_iff_getElem.1 hx2
      have := h j hj
      rw [List.getD_eq_getElem?_getD, List.getElem?_eq_getElem hj, Option.getD_some] at this
      have := ht _ hx2
      omega
  · exact Ok.pure fun h => by cases h

/-- what is told behind each letter -/
def tl (f : Nat → Int) (nd : List Nd) (gd : List Int) (q : Nat) : List Nat → List Int
  | [] => []
  | l :: u => f (stp nd gd q l) :: tl f nd gd (stp nd gd q l) u
theorem tl_len (f : Nat → Int) : ∀ (u : List Nat) (q : Nat), (tl f nd gd q u).length = u.length
  | [], q => rfl
  | l :: u, q => by unfold tl; rw [List.length_cons, List.length_cons, tl_len f u]
theorem tl_congr {f g : Nat → Int} (V : Valid p acc gd nd) (h : ∀ q, q < acc.length → f q = g q) : ∀ (u : List Nat) (q : Nat), q < acc.length → tl f nd gd q u = tl g nd gd q u
  | [], q, _ => rfl
  | l :: u, q, hq => by
    have hs := (stp_eq V hq l).2
    unfold tl
    rw [h _ hs, tl_congr V h u _ hs]
theorem dropW {t : List Nat} {x : Nat} (ha : x < t.length) : t.drop x = t.getD x 0 :: t.drop (x + 1) := by
  rw [List.drop_eq_getElem_cons ha, List.getD_eq_getElem?_getD, List.getElem?_eq_getElem ha]
  rfl
theorem getD_mw {t : List Nat} {x : Nat} (ha : x < t.length) : (t.map fun l : Nat => (l : Int)).getD x 0 = ((t.getD x 0 : Nat) : Int) := by
  rw [List.getD_eq_getElem?_getD, List.getD_eq_getElem?_getD, List.getElem?_map, List.getElem?_eq_getElem ha]
  rfl
theorem getD_ltw {t : List Nat} {K : Nat} (h : ∀ l ∈ t, l < K) {x : Nat} (ha : x < t.length) : t.getD x 0 < K := h _ (by rw [List.getD_eq_getElem?_getD, List.getElem?_eq_getElem ha]; exact List.getElem_mem ha)
theorem wAll_l0_ok (hN : 5000 ≤ N) (V : Valid p acc gd nd) {b : WB} (B : Board p acc gd nd b) {u : List Nat} (hu : ∀ l ∈ u, l < two p) (hl : u.length ≤ 60) : ∀ (m x : Nat) (w out : List Int) (q : Nat), x ≤ u.length → u.length - x < m → w.length = x → cameQ w = (q : Int) → q < acc.length → out.length ≤ 100 + x →
    watch_All_l0 N (u.map fun l : Nat => (l : Int)) b m w out (x : Int) = some (out ++ tl (fun q => b.2.2.getD q 0) nd gd q (u.drop x))
  | 0, x, w, out, q, _, h, _, _, _, _ => by omega
  | m + 1, x, w, out, q, k0, k1, hw, hc, hq, ho => by
    unfold watch_All_l0
    rw [List.length_map, Int.toNat_natCast x]
    by_cases hx : x < u.length
    · have hs := (stp_eq V hq (u.getD x 0)).2
      unfold ask
      rw [if_pos (show (x : Int) < ((u.length : Nat) : Int) by omega), if_pos (by unfold idx; omega), getD_mw hx, Feed_ok hN V B (by omega) hc hq (getD_ltw hu hx), Option.bind_some, if_pos (by simp; omega), if_pos (by unfold in64; omega), show ((x : Int) + 1) = ((x + 1 : Nat) : Int) by omega]
      show watch_All_l0 N (u.map fun l : Nat => (l : Int)) b m (w ++ [(stp nd gd q (u.getD x 0) : Int)]) (out ++ [b.2.2.getD (stp nd gd q (u.getD x 0)) 0]) ((x + 1 : Nat) : Int) = _
      rw [wAll_l0_ok hN V B hu hl m (x + 1) _ _ (stp nd gd q (u.getD x 0)) (by omega) (by omega) (by simp; omega) cameQ_snoc hs (by simp; omega), dropW hx, List.append_assoc]
      rfl
    · rw [if_neg (show ¬ (x : Int) < ((u.length : Nat) : Int) by omega), List.drop_eq_nil_of_le (by omega)]
      unfold tl
      rw [List.append_nil]
theorem State_l0_ok (hN : 5000 ≤ N) (V : Valid p acc gd nd) {u : List Nat} (hu : ∀ l ∈ u, l < two p) (hl : u.length ≤ 2000) : ∀ (m q i : Nat), i ≤ u.length → u.length - i < m → q < acc.length →
    ref21_Watch_State_l0 N p acc gd nd (u.map fun l : Nat => (l : Int)) m (q : Int) (i : Int) = some ((runT nd gd q (u.drop i) : Nat) : Int)
  | 0, q, i, _, h, _ => by omega
  | m + 1, q, i, k0, k1, hq => by
    have sh := shl_two ⟨V.p0, V.p8⟩
    unfold ref21_Watch_State_l0
    rw [List.length_map, Int.toNat_natCast i]
    by_cases hx : i < u.length
    · have hs := (stp_eq V hq (u.getD i 0)).2
      have hlt := getD_ltw hu hx
      unfold ask
      rw [if_pos (show (i : Int) < ((u.length : Nat) : Int) by omega), if_pos (by unfold idx; omega), getD_mw hx, rNext_ok hN V (by omega) hq, Option.bind_some, if_pos (by unfold in64; omega), show ((i : Int) + 1) = ((i + 1 : Nat) : Int) by omega, State_l0_ok hN V hu hl m _ (i + 1) (by omega) (by omega) hs, dropW hx]
      rfl
    · rw [if_neg (show ¬ (i : Int) < ((u.length : Nat) : Int) by omega), List.drop_eq_nil_of_le (by omega)]
      rfl
theorem State_ok (hN : 5000 ≤ N) (V : Valid p acc gd nd) {u : List Nat} (hu : ∀ l ∈ u, l < two p) (hl : u.length ≤ 2000) : ref21_Watch_State N p acc gd nd (u.map fun l : Nat => (l : Int)) = some ((runT nd gd 0 u : Nat) : Int) := by
  have h := State_l0_ok (N := N) hN V hu hl N 0 0 (by omega) (by omega) (by have := V.a1; omega)
  rw [show ((0 : Nat) : Int) = 0 from rfl, List.drop_zero] at h
  unfold ref21_Watch_State
  rw [h]
  rfl
theorem rAll_l0_ok (hN : 5000 ≤ N) (V : Valid p acc gd nd) {off lost : List Int} {nt : List Bool} (F : Far nd gd acc.length (two p) acc off) (G : Far nd gd acc.length (two p) nt lost) (hnt : ∀ q, q < acc.length → nt.getD q false = !(acc.getD q false)) {u : List Nat} (hu : ∀ l ∈ u, l < two p) (hl : u.length ≤ 60) : ∀ (m x : Nat) (w out : List Int), x ≤ u.length → u.length - x < m → out.length ≤ 100 + x →
    ref21_All_l0 N p acc gd nd (u.map fun l : Nat => (l : Int)) m w out (x : Int) = some (out ++ tl (told acc off lost) nd gd (runT nd gd 0 (u.take x)) (u.drop x))
  | 0, x, w, out, _, h, _ => by omega
  | m + 1, x, w, out, k0, k1, ho => by
    have a1 := V.a1
    unfold ref21_All_l0
    rw [List.length_map]
    by_cases hx : x < u.length
    · have e1 : ((x : Int) + 1) = ((x + 1 : Nat) : Int) := by omega
      have e2 : (u.map fun l : Nat => (l : Int)).take (x + 1) = (u.take (x + 1)).map fun l : Nat => (l : Int) := List.map_take.symm
      have e3 : u.take (x + 1) = u.take x ++ [u.getD x 0] := by
        rw [List.take_add_one, List.getElem?_eq_getElem hx, List.getD_eq_getElem?_getD, List.getElem?_eq_getElem hx]
        rfl
      have hr : runT nd gd 0 (u.take (x + 1)) = stp nd gd (runT nd gd 0 (u.take x)) (u.getD x 0) := by rw [e3, runT_snoc]
      have hlt := runT_lt V (u.take (x + 1)) 0 (by omega)
      unfold ask
      rw [if_pos (show (x : Int) < ((u.length : Nat) : Int) by omega), e1, if_pos (by unfold in64; omega), if_pos (by omega), Int.toNat_natCast (x + 1), e2, State_ok hN V (fun l h => hu l (List.mem_of_mem_take h)) (by rw [List.length_take]; omega), Option.bind_some, rVerdict_ok hN V F G hnt hlt, Option.bind_some, if_pos (by simp; omega), rAll_l0_ok hN V F G hnt hu hl m (x + 1) _ _ (by omega) (by omega) (by simp; omega), dropW hx, hr, List.append_assoc]
      rfl
    · rw [if_neg (show ¬ (x : Int) < ((u.length : Nat) : Int) by omega), List.drop_eq_nil_of_le (by omega)]
      unfold tl
      rw [List.append_nil]
theorem Told_l0_ok (hN : 5000 ≤ N) (V : Valid p acc gd nd) {off lost : List Int} {nt : List Bool} (F : Far nd gd acc.length (two p) acc off) (G : Far nd gd acc.length (two p) nt lost) (hnt : ∀ q, q < acc.length → nt.getD q false = !(acc.getD q false)) : ∀ (m x : Nat) (out : List Int), x ≤ acc.length → acc.length - x < m → out.length = x → (∀ q, q < x → out.getD q 0 = told acc off lost q) →
    Ok (ref21_Told_l0 N p acc gd nd m out (x : Int)) fun r => r.length = acc.length ∧ ∀ q, q < acc.length → r.getD q 0 = told acc off lost q
  | 0, x, out, _, h, _, _ => by omega
  | m + 1, x, out, k0, k1, hl, hv => by
    have a2 := V.a2
    unfold ref21_Told_l0
    by_cases hx : x < acc.length
    · rw [if_pos (show (x : Int) < ((acc.length : Nat) : Int) by omega), rVerdict_ok hN V F G hnt hx, Option.bind_some, show ((x : Int) + 1) = ((x + 1 : Nat) : Int) by omega]
      refine Ok.ask (by simp; omega) (Ok.ask (by unfold in64; omega) (Told_l0_ok hN V F G hnt m (x + 1) _ (by omega) (by omega) (by simp; omega) fun q hq => ?_))
      rw [getD_snoc]
      by_cases c : q = out.length
      · rw [if_pos c, show x = q by omega]
      · rw [if_neg c]; exact hv q (by omega)
    · rw [if_neg (show ¬ (x : Int) < ((acc.length : Nat) : Int) by omega)]
      obtain rfl : x = acc.length := by omega
      exact Ok.pure ⟨hl, hv⟩
theorem eqTold (hN : 5000 ≤ N) (hw : ∀ x ∈ nd, x.wf) : ∃ Y e, watch_Told N p acc gd nd = some (Y, e) ∧ ref21_Told N p acc gd nd = some (Y, e) ∧ Y.length ≤ 256 := by
  obtain ⟨e, hC, he⟩ := guard_Check_ok (N := N) (p := p) (acc := acc) (gd := gd) hN hw
  unfold watch_Told ref21_Told
  rw [rCheck_eq hN hw, hC, Option.bind_some, Option.bind_some]
  by_cases h0 : e = 0
  · have V := he.2 h0
    have a2 := V.a2
    obtain ⟨b, eb, B⟩ := made_ok (N := N) hN V
    obtain ⟨lost, ⟨nt, hnt, G⟩, bl, bt⟩ := B.told
    obtain ⟨r, er, r1, r2⟩ := Told_l0_ok (N := N) hN V B.off G hnt N 0 [] (by omega) (by omega) rfl fun q hq => by omega
    have er' : ref21_Told_l0 N p acc gd nd N [] 0 = some r := er
    have e2 : r = b.2.2 := ext_getD 0 (by rw [r1, bl]) fun q hq => by rw [r2 q (by omega), bt q (by omega)]
    rw [if_pos h0, if_pos h0, eb, Option.bind_some, er', Option.bind_some]
    exact ⟨b.2.2, 0, rfl, by rw [e2], by omega⟩
  · rw [if_neg h0, if_neg h0]
    have : e = 12 := he.1.resolve_right h0
    subst this
    exact ⟨[], 12, rfl, rfl, by simp⟩
theorem eqAll (hN : 5000 ≤ N) (hw : ∀ x ∈ nd, x.wf) {t : List Int} (ht : ∀ x ∈ t, 0 ≤ x ∧ x ≤ 255) (hl : t.length ≤ 60 ∨ 1024 < t.length) : ∃ X e, watch_All N p acc gd nd t = some (X, e) ∧ ref21_All N p acc gd nd t = some (X, e) ∧ X.length ≤ 100 := by
  obtain ⟨e, hC, he⟩ := guard_Check_ok (N := N) (p := p) (acc := acc) (gd := gd) hN hw
  unfold watch_All ref21_All ref21_New
  rw [rCheck_eq hN hw, hC, Option.bind_some, Option.bind_some]
  by_cases h0 : e = 0
  · have V := he.2 h0
    have hp : 0 ≤ p ∧ p ≤ 8 := ⟨V.p0, V.p8⟩
    have a1 := V.a1
    rw [if_pos h0, if_pos h0, Option.bind_some, Sum.elim_inr, if_pos (show (0 : Int) = 0 from rfl), rTrace_eq hN hp ht]
    by_cases hl2 : 1024 < t.length
    · have e3 : letter_Trace N p t = some 3 := by
        unfold letter_Trace letter_number
        rw [if_pos hp.1, Option.bind_some, if_pos (decide_eq_true hp.2), if_pos (by omega)]
      rw [e3, Option.bind_some, Option.bind_some]
      exact ⟨[], 3, rfl, rfl, by simp⟩
    · have hl3 : t.length ≤ 60 := by omega
      obtain ⟨e2, et, hu⟩ := Trace_inv (N := N) hN hp ht
      rw [et, Option.bind_some, Option.bind_some]
      by_cases h2 : e2 = 0
      · obtain ⟨u, rfl, hul⟩ := hu h2
        rw [List.length_map] at hl3
        obtain ⟨b, eb, B⟩ := made_ok (N := N) hN V
        obtain ⟨lost, ⟨nt, hnt, G⟩, bl, bt⟩ := B.told
        have hv0 : watch_Watch_Verdict N b [] = some (b.2.2.getD 0 0) := WVerdict_ok B (by simp) (by unfold cameQ; simp) (by unfold cameQ; simp; omega)
        have h3 := wAll_l0_ok (N := N) hN V B hul hl3 N 0 [] [b.2.2.getD 0 0] 0 (by omega) (by omega) rfl rfl (by omega) (by simp)
        have h4 := rAll_l0_ok (N := N) hN V B.off G hnt hul hl3 N 0 [] [told acc b.2.1 lost 0] (by omega) (by omega) (by simp)
        have hq0 := rVerdict_ok (N := N) hN V B.off G hnt (q := 0) (by omega)
        rw [show ((0 : Nat) : Int) = 0 from rfl, List.drop_zero] at h3
        rw [show ((0 : Nat) : Int) = 0 from rfl, List.drop_zero] at h4
        rw [show ((0 : Nat) : Int) = 0 from rfl] at hq0
        have h5 : tl (fun q => b.2.2.getD q 0) nd gd 0 u = tl (told acc b.2.1 lost) nd gd 0 u := tl_congr V bt u 0 (by omega)
        rw [if_pos h2, if_pos h2, eb, Option.bind_some, hv0, Option.bind_some, h3, Option.bind_some, hq0, Option.bind_some, h4, Option.bind_some]
        refine ⟨_, 0, rfl, ?_, ?_⟩
        · show some ([told acc b.2.1 lost 0] ++ tl (told acc b.2.1 lost) nd gd 0 u, (0 : Int)) = some ([b.2.2.getD 0 0] ++ tl (fun q => b.2.2.getD q 0) nd gd 0 u, 0)
          rw [h5, bt 0 (by omega)]
        · rw [List.length_append, tl_len]; simp; omega
      · rw [if_neg h2, if_neg h2]
        exact ⟨[], e2, rfl, rfl, by simp⟩
  · rw [if_neg h0, if_neg h0, Option.bind_some]
    have : e = 12 := he.1.resolve_right h0
    subst this
    exact ⟨[], 12, rfl, rfl, by simp⟩
theorem same_self_l0 {a : List Int} (h : a.length ≤ 200000) : ∀ (m i : Nat), i ≤ a.length → a.length - i < m → law21_same_l0 N a a m (i : Int) = some (.inl ())
  | 0, i, _, h => by omega
  | m + 1, i, k0, k1 => by
    unfold law21_same_l0 ask
    by_cases hi : (i : Int) < (a.length : Int)
    · rw [if_pos hi, if_pos (by unfold idx; omega), if_pos (by unfold idx; omega), if_pos rfl, if_pos (by unfold in64; omega), show ((i : Int) + 1) = ((i + 1 : Nat) : Int) by omega, same_self_l0 h m (i + 1) (by omega) (by omega)]
    · rw [if_neg hi]
theorem same_self {a : List Int} (h : a.length ≤ 200000) (hN : a.length < N) : law21_same N a a = some true := by
  have h2 := same_self_l0 (N := N) h N 0 (by omega) (by omega)
  rw [show ((0 : Nat) : Int) = 0 from rfl] at h2
  unfold law21_same
  rw [if_pos rfl, h2]
  rfl
theorem l2_ok : ∀ (m i : Nat) (x : List Int), x.length ≤ 1000 → i ≤ x.length → x.length - i < m → ∃ u, law21_WatchTells_l2 N m x (i : Int) = some u
  | 0, i, x, _, _, h => by omega
  | m + 1, i, x, h, k0, k1 => by
    unfold law21_WatchTells_l2 ask
    by_cases hi : (i : Int) < (x.length : Int)
    · rw [if_pos hi, if_pos (by unfold idx; omega), if_pos (by unfold in64; omega), show ((i : Int) + 1) = ((i + 1 : Nat) : Int) by omega]
      exact l2_ok m (i + 1) _ (by simp; omega) (by simp; omega) (by simp; omega)
    · rw [if_neg hi]
      exact ⟨_, rfl⟩
theorem j0_ok {t : List Int} : Ok (law21_WatchTells_j0 N p acc gd nd t) fun b => b = false → acc.length ≤ 24 ∧ nd.length ≤ 400 ∧ gd.length ≤ 300 ∧ (t.length ≤ 60 ∨ 1024 < t.length) ∧ t.length ≤ 1033 := by
  unfold law21_WatchTells_j0 law16_Small
  by_cases c1 : ((acc.length : Nat) : Int) ≤ 24
  · by_cases c2 : p ≤ 4
    · by_cases c3 : ((nd.length : Nat) : Int) ≤ 400
      · rw [if_pos c1, if_pos c2, if_pos c3, Option.bind_some]
        refine Ok.ite (fun hb => ?_) fun _ => Ok.pure fun h => by cases h
        have c4 := of_decide_eq_true hb
        refine Ok.ite (fun c5 => Ok.ite (fun _ => Ok.pure fun h => by cases h) fun c6 => Ok.pure fun h2 => ?_) fun c5 => Ok.pure fun h2 => ?_
        · have h3 := of_decide_eq_false h2
          omega
        · have h3 := of_decide_eq_false h2
          omega
      · rw [if_pos c1, if_pos c2, if_neg c3, Option.bind_some, if_neg (by simp)]
        exact Ok.pure fun h => by cases h
    · rw [if_pos c1, if_neg c2, Option.bind_some, if_neg (by simp)]
      exact Ok.pure fun h => by cases h
  · rw [if_neg c1, Option.bind_some, if_neg (by simp)]
    exact Ok.pure fun h => by cases h
end
theorem watchTells_true {p : Int} {acc : List Bool} {gd : List Int} {nd : List Nd} {t : List Int} (hw : ∀ x ∈ nd, x.wf) (ht : ∀ x ∈ t, 0 ≤ x ∧ x ≤ 255) : law21_WatchTells 3000000 p acc gd nd t = some true := by
  have hN : 5000 ≤ 3000000 := by decide
  unfold law21_WatchTells
  obtain ⟨b, eb, hb⟩ := j0_ok (N := 3000000) (p := p) (acc := acc) (gd := gd) (nd := nd) (t := t)
  rw [eb, Option.bind_some]
  cases b with
  | true => rfl
  | false =>
  obtain ⟨ha, hn, hg, hl, hl2⟩ := hb rfl
  obtain ⟨X, e, w1, w2, wl⟩ := eqAll (N := 3000000) (p := p) (acc := acc) (gd := gd) hN hw ht hl
  obtain ⟨Y, e2, t1, t2, tl⟩ := eqTold (N := 3000000) (p := p) (acc := acc) (gd := gd) hN hw
  rw [if_neg (by simp), LentAuto_ok hN (by omega) (by omega) (by omega), Option.bind_some, LentLetters_ok hN (by omega), Option.bind_some]
  dsimp only
  rw [w1, Option.bind_some, Option.bind_some, w2, Option.bind_some, t1, Option.bind_some, t2, Option.bind_some]
  have j1 : law21_WatchTells_j1 3000000 (X, e) (X, e) (X, e) (Y, e2) (Y, e2) = some false := by
    unfold law21_WatchTells_j1
    dsimp only
    rw [same_self (by omega) (by omega), Option.bind_some, if_pos rfl, if_pos rfl, if_pos rfl, same_self (by omega) (by omega), Option.bind_some, if_pos rfl, bne_self_eq_false]
    rfl
  obtain ⟨u, eu⟩ := l2_ok (N := 3000000) 3000000 0 X (by omega) (by omega) (by omega)
  have eu' : law21_WatchTells_l2 3000000 3000000 X 0 = some u := eu
  rw [j1, Option.bind_some, if_neg (by simp)]
  dsimp only
  rw [eu', Option.bind_some]
  have j3 : law21_WatchTells_j3 3000000 p acc gd nd t (p, (acc, [false, false, false]), (gd, spI gd.length), (nd, [default, default, default])) (t, spL t.length) (X, e) (X, e) = some true := by
    unfold law21_WatchTells_j3
    dsimp only
    rw [same_self (by omega) (by omega), Option.bind_some, if_pos rfl, KeptAuto_ok hN (by omega) (by omega) (by omega), Option.bind_some, if_pos rfl, KeptLetters_ok hN (by omega) (by omega), Option.bind_some]
  rw [j3, Option.bind_some]
theorem watchTells_row (w0 : World) (p : Int) (A1 A2 A3 : Option Addr) (c1 c2 c3 : Nat) (acc : List Bool) (gd : List Int) (nd : List Nd) (A4 : Option Addr) (c4 : Nat) (t : List Int)
    (k1 : acc.length ≤ c1) (k2 : gd.length ≤ c2) (k3 : nd.length ≤ c3) (k4 : t.length ≤ c4)
    (C1 : C cBool w0 (Lo w0.heap.size) A1 acc) (C2 : C (cInt .i64) w0 (Lo w0.heap.size) A2 gd) (C3 : C cNode w0 (Lo w0.heap.size) A3 nd) (C4 : C (cInt .u8) w0 (Lo w0.heap.size) A4 t) (hw : ∀ x ∈ nd, x.wf) (ht : ∀ x ∈ t, 0 ≤ x ∧ x ≤ 255) :
    Calls Try.prog 4 #[.agg #[.int .i64 p, .slice A1 acc.length c1, .slice A2 gd.length c2, .slice A3 nd.length c3], .slice A4 t.length c4] w0 fun e w' => ∃ v, e = .returned v ∧ (v = .bool true ∧ Ext w0 w') :=
  (law21_WatchTells_calls A1 c1 A2 c2 A3 c3 A4 c4 p acc gd nd t k1 k2 k3 k4 ((((Hp.start w0).arg C1).arg C2).arg C3 |>.arg C4) (watchTells_true hw ht)).mono fun e w' ⟨v, he, hv, H⟩ => ⟨v, he, hv, H.chgd.own⟩
end Go.V
