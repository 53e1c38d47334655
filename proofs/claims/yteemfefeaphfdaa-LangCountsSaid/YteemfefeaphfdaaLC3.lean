/- Plain theory: the walk over the accepted traces. No program. -/
import Derived.Test.YteemfefeaphfdaaLC2
set_option linter.all false
set_option linter.unusedVariables false
set_option maxRecDepth 1000000
namespace Go.V
open Go
theorem ask_t {α : Type} {p : Prop} [Decidable p] {o : Option α} (h : p) : ask p o = o := if_pos h
section
variable {N : Nat} {p : Int} {acc : List Bool} {gd : List Int} {nd : List Nd} {r18 : List (List Int) × Int} {x206 : List (List (Int × Bool)) × Int × Bool} {most : Nat}
structure WC (N : Nat) (p : Int) (acc : List Bool) (gd : List Int) (nd : List Nd) (r18 : List (List Int) × Int) (x206 : List (List (Int × Bool)) × Int × Bool) (most : Nat) : Prop where
  V : Valid p acc gd nd
  T : Tab nd gd acc.length (two p) r18.1
  Lf : Lefts p acc gd nd (most + 1) x206.1
  hm : most ≤ 3
  hN : 5000 ≤ N
theorem WC.lef (W : WC N p acc gd nd r18 x206 most) {k q : Nat} (hk : k ≤ most) (hq : q < acc.length) : (x206.1.getD k []).getD q (0, false) = (((wds nd gd acc (two p) k q).length : Int), false) := (W.Lf.at_ k (by omega)).2 q hq
theorem toNat0 : Int.toNat (0 : Int) = 0 := rfl
theorem Wf8_ok (W : WC N p acc gd nd r18 x206 most) {n k : Nat} (hn : n = k + 3) (hk : n ≤ most) {l1 l2 l3 : Nat} (h1 : l1 < two p) (h2 : l2 < two p) (h3 : l3 < two p) (hne : wds nd gd acc (two p) k (stp nd gd (stp nd gd (stp nd gd 0 l1) l2) l3) ≠ []) (out : List (List Int)) (h : out.length + (wds nd gd acc (two p) k (stp nd gd (stp nd gd (stp nd gd 0 l1) l2) l3)).length ≤ 500000000) :
    lang_Words_f8 N r18 x206 (n : Int) ((l1 : Nat) : Int) ((l2 : Nat) : Int) out ((l3 : Nat) : Int) = some (out ++ (wds nd gd acc (two p) k (stp nd gd (stp nd gd (stp nd gd 0 l1) l2) l3)).map fun u => cs ([l1, l2, l3] ++ u)) := by
  have a1 := W.V.a1
  have sh := shl_two ⟨W.V.p0, W.V.p8⟩
  have hN := W.hN
  have hm := W.hm
  have q0 : 0 < acc.length := by omega
  have q1 : (stp nd gd 0 l1) < acc.length := (stp_eq W.V q0 l1).2
  have e1 : (r18.1.getD 0 []).getD l1 0 = (((stp nd gd 0 l1) : Nat) : Int) := W.T.at_ _ _ q0 h1
  have w1 : IntKind.u8.wrap ((l1 : Nat) : Int) = ((l1 : Nat) : Int) := wrap_u8 (by omega) (by omega)
  have q2 : (stp nd gd (stp nd gd 0 l1) l2) < acc.length := (stp_eq W.V q1 l2).2
  have e2 : (r18.1.getD (stp nd gd 0 l1) []).getD l2 0 = (((stp nd gd (stp nd gd 0 l1) l2) : Nat) : Int) := W.T.at_ _ _ q1 h2
  have w2 : IntKind.u8.wrap ((l2 : Nat) : Int) = ((l2 : Nat) : Int) := wrap_u8 (by omega) (by omega)
  have q3 : (stp nd gd (stp nd gd (stp nd gd 0 l1) l2) l3) < acc.length := (stp_eq W.V q2 l3).2
  have e3 : (r18.1.getD (stp nd gd (stp nd gd 0 l1) l2) []).getD l3 0 = (((stp nd gd (stp nd gd (stp nd gd 0 l1) l2) l3) : Nat) : Int) := W.T.at_ _ _ q2 h3
  have w3 : IntKind.u8.wrap ((l3 : Nat) : Int) = ((l3 : Nat) : Int) := wrap_u8 (by omega) (by omega)
  rw [lang_Words_f8]
  cases k with
  | zero =>
    have en : ((((n : Int) - 1) - 1) - 1) = 0 := by omega
    rw [wds0 hne] at h ⊢
    simp only [en, toNat0, Int.toNat_natCast, e1, e2, e3, w1, w2, w3]
    rw [if_pos trivial, ask_t (by simp), ask_t (by have h' : out.length + 1 ≤ 500000000 := h; show out.length + 1 ≤ 1000000000; omega)]
    rfl
  | succ k =>
    have en : ¬ (((((n : Int) - 1) - 1) - 1) = 0) := by omega
    omega
theorem Wl7_ok (W : WC N p acc gd nd r18 x206 most) {n k : Nat} (hn : n = k + 3) (hk : n ≤ most) {l1 l2 : Nat} (h1 : l1 < two p) (h2 : l2 < two p) (out : List (List Int)) (h : out.length + (wds nd gd acc (two p) (k + 1) (stp nd gd (stp nd gd 0 l1) l2)).length ≤ 500000000) :
    lang_Words_l7 N r18 x206 (n : Int) ((l1 : Nat) : Int) ((l2 : Nat) : Int) N out 0 = some (out ++ (wds nd gd acc (two p) (k + 1) (stp nd gd (stp nd gd 0 l1) l2)).map fun u => cs ([l1, l2] ++ u)) := by
  have a1 := W.V.a1
  have sh := shl_two ⟨W.V.p0, W.V.p8⟩
  have hN := W.hN
  have hm := W.hm
  have q0 : 0 < acc.length := by omega
  have q1 : (stp nd gd 0 l1) < acc.length := (stp_eq W.V q0 l1).2
  have e1 : (r18.1.getD 0 []).getD l1 0 = (((stp nd gd 0 l1) : Nat) : Int) := W.T.at_ _ _ q0 h1
  have w1 : IntKind.u8.wrap ((l1 : Nat) : Int) = ((l1 : Nat) : Int) := wrap_u8 (by omega) (by omega)
  have q2 : (stp nd gd (stp nd gd 0 l1) l2) < acc.length := (stp_eq W.V q1 l2).2
  have e2 : (r18.1.getD (stp nd gd 0 l1) []).getD l2 0 = (((stp nd gd (stp nd gd 0 l1) l2) : Nat) : Int) := W.T.at_ _ _ q1 h2
  have w2 : IntKind.u8.wrap ((l2 : Nat) : Int) = ((l2 : Nat) : Int) := wrap_u8 (by omega) (by omega)
  have en : ((((n : Int) - 1) - 1) - 1) = ((k : Nat) : Int) := by omega
  have rl : (r18.1.getD (stp nd gd (stp nd gd 0 l1) l2) []).length = two p := W.T.row _ q2
  have tl := W.T.len
  have ll : (x206.1.getD k []).length = acc.length := (W.Lf.at_ k (by omega)).1
  have lx := W.Lf.len
  have key := walk_loop (nd := nd) (gd := gd) (acc := acc) (L := two p) (k := k) (q := (stp nd gd (stp nd gd 0 l1) l2)) (B := 500000000) (by_ := [l1, l2]) (F := fun m o_ x_ => lang_Words_l7 N r18 x206 (n : Int) ((l1 : Nat) : Int) ((l2 : Nat) : Int) m o_ x_) (G := fun o_ x_ => lang_Words_f8 N r18 x206 (n : Int) ((l1 : Nat) : Int) ((l2 : Nat) : Int) o_ x_) ?_ ?_ ?_ ?_ N out 0 (by omega) (by omega) (by rw [← wds_succ]; exact h)
  · rw [← wds_succ] at key; exact key
  · intro m o l hl hne
    have ql := (stp_eq W.V q2 l).2
    have e : (r18.1.getD (stp nd gd (stp nd gd 0 l1) l2) []).getD l 0 = (((stp nd gd (stp nd gd (stp nd gd 0 l1) l2) l) : Nat) : Int) := W.T.at_ _ _ q2 hl
    have lf := W.lef (k := k) (q := (stp nd gd (stp nd gd (stp nd gd 0 l1) l2) l)) (by omega) ql
    have wl : IntKind.u8.wrap ((l : Nat) : Int) = ((l : Nat) : Int) := wrap_u8 (by omega) (by omega)
    show lang_Words_l7 N r18 x206 (n : Int) ((l1 : Nat) : Int) ((l2 : Nat) : Int) (m + 1) o ((l : Nat) : Int) = _
    rw [lang_Words_l7]
    simp only [toNat0, Int.toNat_natCast, e1, e2, w1, w2, en, rl, e, lf, ll, lx, wl]
    rw [if_pos (by omega), ask_t (by unfold idx; omega), ask_t (by unfold in64; omega), ask_t (by unfold idx; omega), ask_t (by unfold idx; omega), if_pos (pos_len.2 hne), ask_t (by simp)]
    refine congrArg (Option.bind _) (funext fun o => ?_)
    rw [ask_t (by unfold in64; omega), show ((l : Int) + 1) = ((l + 1 : Nat) : Int) by omega]
  · intro m o l hl hne
    have ql := (stp_eq W.V q2 l).2
    have e : (r18.1.getD (stp nd gd (stp nd gd 0 l1) l2) []).getD l 0 = (((stp nd gd (stp nd gd (stp nd gd 0 l1) l2) l) : Nat) : Int) := W.T.at_ _ _ q2 hl
    have lf := W.lef (k := k) (q := (stp nd gd (stp nd gd (stp nd gd 0 l1) l2) l)) (by omega) ql
    show lang_Words_l7 N r18 x206 (n : Int) ((l1 : Nat) : Int) ((l2 : Nat) : Int) (m + 1) o ((l : Nat) : Int) = _
    rw [lang_Words_l7]
    simp only [toNat0, Int.toNat_natCast, e1, e2, w1, w2, en, rl, e, lf, ll, lx]
    rw [if_pos (by omega), ask_t (by unfold idx; omega), ask_t (by unfold in64; omega), ask_t (by unfold idx; omega), ask_t (by unfold idx; omega), if_neg (fun h => pos_len.1 h hne), ask_t (by unfold in64; omega), show ((l : Int) + 1) = ((l + 1 : Nat) : Int) by omega]
  · intro m o
    show lang_Words_l7 N r18 x206 (n : Int) ((l1 : Nat) : Int) ((l2 : Nat) : Int) (m + 1) o ((two p : Nat) : Int) = _
    rw [lang_Words_l7]
    simp only [toNat0, Int.toNat_natCast, e1, e2, w1, w2, rl]
    rw [if_neg (by omega)]
  · intro o l hl hne hb
    have hb' := hb
    show lang_Words_f8 N r18 x206 (n : Int) ((l1 : Nat) : Int) ((l2 : Nat) : Int) o ((l : Nat) : Int) = _
    exact Wf8_ok W (n := n) (k := k) (by omega) hk h1 h2 hl hne o hb'
theorem Wf6_ok (W : WC N p acc gd nd r18 x206 most) {n k : Nat} (hn : n = k + 2) (hk : n ≤ most) {l1 l2 : Nat} (h1 : l1 < two p) (h2 : l2 < two p) (hne : wds nd gd acc (two p) k (stp nd gd (stp nd gd 0 l1) l2) ≠ []) (out : List (List Int)) (h : out.length + (wds nd gd acc (two p) k (stp nd gd (stp nd gd 0 l1) l2)).length ≤ 500000000) :
    lang_Words_f6 N r18 x206 (n : Int) ((l1 : Nat) : Int) out ((l2 : Nat) : Int) = some (out ++ (wds nd gd acc (two p) k (stp nd gd (stp nd gd 0 l1) l2)).map fun u => cs ([l1, l2] ++ u)) := by
  have a1 := W.V.a1
  have sh := shl_two ⟨W.V.p0, W.V.p8⟩
  have hN := W.hN
  have hm := W.hm
  have q0 : 0 < acc.length := by omega
  have q1 : (stp nd gd 0 l1) < acc.length := (stp_eq W.V q0 l1).2
  have e1 : (r18.1.getD 0 []).getD l1 0 = (((stp nd gd 0 l1) : Nat) : Int) := W.T.at_ _ _ q0 h1
  have w1 : IntKind.u8.wrap ((l1 : Nat) : Int) = ((l1 : Nat) : Int) := wrap_u8 (by omega) (by omega)
  have q2 : (stp nd gd (stp nd gd 0 l1) l2) < acc.length := (stp_eq W.V q1 l2).2
  have e2 : (r18.1.getD (stp nd gd 0 l1) []).getD l2 0 = (((stp nd gd (stp nd gd 0 l1) l2) : Nat) : Int) := W.T.at_ _ _ q1 h2
  have w2 : IntKind.u8.wrap ((l2 : Nat) : Int) = ((l2 : Nat) : Int) := wrap_u8 (by omega) (by omega)
  rw [lang_Words_f6]
  cases k with
  | zero =>
    have en : (((n : Int) - 1) - 1) = 0 := by omega
    rw [wds0 hne] at h ⊢
    simp only [en, toNat0, Int.toNat_natCast, e1, e2, w1, w2]
    rw [if_pos trivial, ask_t (by simp), ask_t (by have h' : out.length + 1 ≤ 500000000 := h; show out.length + 1 ≤ 1000000000; omega)]
    rfl
  | succ k =>
    have en : ¬ ((((n : Int) - 1) - 1) = 0) := by omega
    have tl := W.T.len
    rw [if_neg en]
    simp only [toNat0, Int.toNat_natCast, e1, e2, w1, w2, tl]
    rw [ask_t (by unfold idx; omega), Wl7_ok W (n := n) (k := k) (by omega) hk h1 h2 out h, Option.bind_some]
theorem Wl5_ok (W : WC N p acc gd nd r18 x206 most) {n k : Nat} (hn : n = k + 2) (hk : n ≤ most) {l1 : Nat} (h1 : l1 < two p) (out : List (List Int)) (h : out.length + (wds nd gd acc (two p) (k + 1) (stp nd gd 0 l1)).length ≤ 500000000) :
    lang_Words_l5 N r18 x206 (n : Int) ((l1 : Nat) : Int) N out 0 = some (out ++ (wds nd gd acc (two p) (k + 1) (stp nd gd 0 l1)).map fun u => cs ([l1] ++ u)) := by
  have a1 := W.V.a1
  have sh := shl_two ⟨W.V.p0, W.V.p8⟩
  have hN := W.hN
  have hm := W.hm
  have q0 : 0 < acc.length := by omega
  have q1 : (stp nd gd 0 l1) < acc.length := (stp_eq W.V q0 l1).2
  have e1 : (r18.1.getD 0 []).getD l1 0 = (((stp nd gd 0 l1) : Nat) : Int) := W.T.at_ _ _ q0 h1
  have w1 : IntKind.u8.wrap ((l1 : Nat) : Int) = ((l1 : Nat) : Int) := wrap_u8 (by omega) (by omega)
  have en : (((n : Int) - 1) - 1) = ((k : Nat) : Int) := by omega
  have rl : (r18.1.getD (stp nd gd 0 l1) []).length = two p := W.T.row _ q1
  have tl := W.T.len
  have ll : (x206.1.getD k []).length = acc.length := (W.Lf.at_ k (by omega)).1
  have lx := W.Lf.len
  have key := walk_loop (nd := nd) (gd := gd) (acc := acc) (L := two p) (k := k) (q := (stp nd gd 0 l1)) (B := 500000000) (by_ := [l1]) (F := fun m o_ x_ => lang_Words_l5 N r18 x206 (n : Int) ((l1 : Nat) : Int) m o_ x_) (G := fun o_ x_ => lang_Words_f6 N r18 x206 (n : Int) ((l1 : Nat) : Int) o_ x_) ?_ ?_ ?_ ?_ N out 0 (by omega) (by omega) (by rw [← wds_succ]; exact h)
  · rw [← wds_succ] at key; exact key
  · intro m o l hl hne
    have ql := (stp_eq W.V q1 l).2
    have e : (r18.1.getD (stp nd gd 0 l1) []).getD l 0 = (((stp nd gd (stp nd gd 0 l1) l) : Nat) : Int) := W.T.at_ _ _ q1 hl
    have lf := W.lef (k := k) (q := (stp nd gd (stp nd gd 0 l1) l)) (by omega) ql
    have wl : IntKind.u8.wrap ((l : Nat) : Int) = ((l : Nat) : Int) := wrap_u8 (by omega) (by omega)
    show lang_Words_l5 N r18 x206 (n : Int) ((l1 : Nat) : Int) (m + 1) o ((l : Nat) : Int) = _
    rw [lang_Words_l5]
    simp only [toNat0, Int.toNat_natCast, e1, w1, en, rl, e, lf, ll, lx, wl]
    rw [if_pos (by omega), ask_t (by unfold idx; omega), ask_t (by unfold in64; omega), ask_t (by unfold idx; omega), ask_t (by unfold idx; omega), if_pos (pos_len.2 hne), ask_t (by simp)]
    refine congrArg (Option.bind _) (funext fun o => ?_)
    rw [ask_t (by unfold in64; omega), show ((l : Int) + 1) = ((l + 1 : Nat) : Int) by omega]
  · intro m o l hl hne
    have ql := (stp_eq W.V q1 l).2
    have e : (r18.1.getD (stp nd gd 0 l1) []).getD l 0 = (((stp nd gd (stp nd gd 0 l1) l) : Nat) : Int) := W.T.at_ _ _ q1 hl
    have lf := W.lef (k := k) (q := (stp nd gd (stp nd gd 0 l1) l)) (by omega) ql
    show lang_Words_l5 N r18 x206 (n : Int) ((l1 : Nat) : Int) (m + 1) o ((l : Nat) : Int) = _
    rw [lang_Words_l5]
    simp only [toNat0, Int.toNat_natCast, e1, w1, en, rl, e, lf, ll, lx]
    rw [if_pos (by omega), ask_t (by unfold idx; omega), ask_t (by unfold in64; omega), ask_t (by unfold idx; omega), ask_t (by unfold idx; omega), if_neg (fun h => pos_len.1 h hne), ask_t (by unfold in64; omega), show ((l : Int) + 1) = ((l + 1 : Nat) : Int) by omega]
  · intro m o
    show lang_Words_l5 N r18 x206 (n : Int) ((l1 : Nat) : Int) (m + 1) o ((two p : Nat) : Int) = _
    rw [lang_Words_l5]
    simp only [toNat0, Int.toNat_natCast, e1, w1, rl]
    rw [if_neg (by omega)]
  · intro o l hl hne hb
    have hb' := hb
    show lang_Words_f6 N r18 x206 (n : Int) ((l1 : Nat) : Int) o ((l : Nat) : Int) = _
    exact Wf6_ok W (n := n) (k := k) (by omega) hk h1 hl hne o hb'
theorem Wf4_ok (W : WC N p acc gd nd r18 x206 most) {n k : Nat} (hn : n = k + 1) (hk : n ≤ most) {l1 : Nat} (h1 : l1 < two p) (hne : wds nd gd acc (two p) k (stp nd gd 0 l1) ≠ []) (out : List (List Int)) (h : out.length + (wds nd gd acc (two p) k (stp nd gd 0 l1)).length ≤ 500000000) :
    lang_Words_f4 N r18 x206 (n : Int)  out ((l1 : Nat) : Int) = some (out ++ (wds nd gd acc (two p) k (stp nd gd 0 l1)).map fun u => cs ([l1] ++ u)) := by
  have a1 := W.V.a1
  have sh := shl_two ⟨W.V.p0, W.V.p8⟩
  have hN := W.hN
  have hm := W.hm
  have q0 : 0 < acc.length := by omega
  have q1 : (stp nd gd 0 l1) < acc.length := (stp_eq W.V q0 l1).2
  have e1 : (r18.1.getD 0 []).getD l1 0 = (((stp nd gd 0 l1) : Nat) : Int) := W.T.at_ _ _ q0 h1
  have w1 : IntKind.u8.wrap ((l1 : Nat) : Int) = ((l1 : Nat) : Int) := wrap_u8 (by omega) (by omega)
  rw [lang_Words_f4]
  cases k with
  | zero =>
    have en : ((n : Int) - 1) = 0 := by omega
    rw [wds0 hne] at h ⊢
    simp only [en, toNat0, Int.toNat_natCast, e1, w1]
    rw [if_pos trivial, ask_t (by simp), ask_t (by have h' : out.length + 1 ≤ 500000000 := h; show out.length + 1 ≤ 1000000000; omega)]
    rfl
  | succ k =>
    have en : ¬ (((n : Int) - 1) = 0) := by omega
    have tl := W.T.len
    rw [if_neg en]
    simp only [toNat0, Int.toNat_natCast, e1, w1, tl]
    rw [ask_t (by unfold idx; omega), Wl5_ok W (n := n) (k := k) (by omega) hk h1 out h, Option.bind_some]
theorem Wl3_ok (W : WC N p acc gd nd r18 x206 most) {n k : Nat} (hn : n = k + 1) (hk : n ≤ most) (out : List (List Int)) (h : out.length + (wds nd gd acc (two p) (k + 1) 0).length ≤ 500000000) :
    lang_Words_l3 N r18 x206 (n : Int)  N out 0 = some (out ++ (wds nd gd acc (two p) (k + 1) 0).map fun u => cs ([] ++ u)) := by
  have a1 := W.V.a1
  have sh := shl_two ⟨W.V.p0, W.V.p8⟩
  have hN := W.hN
  have hm := W.hm
  have q0 : 0 < acc.length := by omega
  have en : ((n : Int) - 1) = ((k : Nat) : Int) := by omega
  have rl : (r18.1.getD 0 []).length = two p := W.T.row _ q0
  have tl := W.T.len
  have ll : (x206.1.getD k []).length = acc.length := (W.Lf.at_ k (by omega)).1
  have lx := W.Lf.len
  have key := walk_loop (nd := nd) (gd := gd) (acc := acc) (L := two p) (k := k) (q := 0) (B := 500000000) (by_ := []) (F := fun m o_ x_ => lang_Words_l3 N r18 x206 (n : Int)  m o_ x_) (G := fun o_ x_ => lang_Words_f4 N r18 x206 (n : Int)  o_ x_) ?_ ?_ ?_ ?_ N out 0 (by omega) (by omega) (by rw [← wds_succ]; exact h)
  · rw [← wds_succ] at key; exact key
  · intro m o l hl hne
    have ql := (stp_eq W.V q0 l).2
    have e : (r18.1.getD 0 []).getD l 0 = (((stp nd gd 0 l) : Nat) : Int) := W.T.at_ _ _ q0 hl
    have lf := W.lef (k := k) (q := (stp nd gd 0 l)) (by omega) ql
    have wl : IntKind.u8.wrap ((l : Nat) : Int) = ((l : Nat) : Int) := wrap_u8 (by omega) (by omega)
    show lang_Words_l3 N r18 x206 (n : Int)  (m + 1) o ((l : Nat) : Int) = _
    rw [lang_Words_l3]
    simp only [toNat0, Int.toNat_natCast, en, rl, e, lf, ll, lx, wl]
    rw [if_pos (by omega), ask_t (by unfold idx; omega), ask_t (by unfold in64; omega), ask_t (by unfold idx; omega), ask_t (by unfold idx; omega), if_pos (pos_len.2 hne), ask_t (by simp)]
    refine congrArg (Option.bind _) (funext fun o => ?_)
    rw [ask_t (by unfold in64; omega), show ((l : Int) + 1) = ((l + 1 : Nat) : Int) by omega]
  · intro m o l hl hne
    have ql := (stp_eq W.V q0 l).2
    have e : (r18.1.getD 0 []).getD l 0 = (((stp nd gd 0 l) : Nat) : Int) := W.T.at_ _ _ q0 hl
    have lf := W.lef (k := k) (q := (stp nd gd 0 l)) (by omega) ql
    show lang_Words_l3 N r18 x206 (n : Int)  (m + 1) o ((l : Nat) : Int) = _
    rw [lang_Words_l3]
    simp only [toNat0, Int.toNat_natCast, en, rl, e, lf, ll, lx]
    rw [if_pos (by omega), ask_t (by unfold idx; omega), ask_t (by unfold in64; omega), ask_t (by unfold idx; omega), ask_t (by unfold idx; omega), if_neg (fun h => pos_len.1 h hne), ask_t (by unfold in64; omega), show ((l : Int) + 1) = ((l + 1 : Nat) : Int) by omega]
  · intro m o
    show lang_Words_l3 N r18 x206 (n : Int)  (m + 1) o ((two p : Nat) : Int) = _
    rw [lang_Words_l3]
    simp only [toNat0, Int.toNat_natCast, rl]
    rw [if_neg (by omega)]
  · intro o l hl hne hb
    have hb' := hb
    show lang_Words_f4 N r18 x206 (n : Int)  o ((l : Nat) : Int) = _
    exact Wf4_ok W (n := n) (k := k) (by omega) hk  hl hne o hb'
theorem Wf2_ok (W : WC N p acc gd nd r18 x206 most) {n k : Nat} (hn : n = k + 0) (hk : n ≤ most) (hne : wds nd gd acc (two p) k 0 ≠ []) (out : List (List Int)) (h : out.length + (wds nd gd acc (two p) k 0).length ≤ 500000000) :
    lang_Words_f2 N r18 x206 out (n : Int) = some (out ++ (wds nd gd acc (two p) k 0).map fun u => cs ([] ++ u)) := by
  have a1 := W.V.a1
  have sh := shl_two ⟨W.V.p0, W.V.p8⟩
  have hN := W.hN
  have hm := W.hm
  have q0 : 0 < acc.length := by omega
  rw [lang_Words_f2]
  cases k with
  | zero =>
    have en : (n : Int) = 0 := by omega
    rw [wds0 hne] at h ⊢
    simp only [en, toNat0, Int.toNat_natCast]
    rw [if_pos trivial, ask_t (by simp), ask_t (by have h' : out.length + 1 ≤ 500000000 := h; show out.length + 1 ≤ 1000000000; omega)]
    rfl
  | succ k =>
    have en : ¬ ((n : Int) = 0) := by omega
    have tl := W.T.len
    rw [if_neg en]
    simp only [toNat0, Int.toNat_natCast, tl]
    rw [ask_t (by unfold idx; omega), Wl3_ok W (n := n) (k := k) (by omega) hk  out h, Option.bind_some]
theorem Words_l1_ok (W : WC N p acc gd nd r18 x206 most) (hb : (allN nd gd acc (two p) (most + 1)).length ≤ 100000000) : ∀ (m n : Nat), n ≤ most + 1 → most + 1 - n < m →
    lang_Words_l1 N (most : Int) r18 x206 m ((allN nd gd acc (two p) n).map cs) (n : Int) = some ((allN nd gd acc (two p) (most + 1)).map cs) := by
  have a1 := W.V.a1
  have hm := W.hm
  have lx := W.Lf.len
  have mono : ∀ j n : Nat, n + j = most + 1 → (allN nd gd acc (two p) n).length ≤ 100000000 := by
    intro j
    induction j with
    | zero => intro n h; rw [show n = most + 1 by omega]; exact hb
    | succ j ih =>
      intro n h
      have := ih (n + 1) (by omega)
      rw [allN_succ, List.length_append] at this
      omega
  intro m
  induction m with
  | zero => intro n _ h; omega
  | succ m ih =>
    intro n k1 k2
    rw [lang_Words_l1]
    by_cases hx : (n : Int) ≤ (most : Int)
    · have lf := W.lef (k := n) (q := 0) (by omega) (by omega)
      have ll : (x206.1.getD n []).length = acc.length := (W.Lf.at_ n (by omega)).1
      have mo := mono (most + 1 - (n + 1)) (n + 1) (by omega)
      rw [allN_succ, List.length_append] at mo
      have ih' := ih (n + 1) (by omega) (by omega)
      rw [allN_succ, List.map_append] at ih'
      rw [if_pos hx]
      simp only [toNat0, Int.toNat_natCast, lf, ll, lx]
      rw [ask_t (by unfold idx; omega), ask_t (by unfold idx; omega)]
      by_cases hne : wds nd gd acc (two p) n 0 = []
      · rw [if_neg (fun h => pos_len.1 h hne), ask_t (by unfold in64; omega), show ((n : Int) + 1) = ((n + 1 : Nat) : Int) by omega]
        rw [hne, List.map_nil, List.append_nil] at ih'
        exact ih'
      · rw [if_pos (pos_len.2 hne), Wf2_ok W (k := n) (by omega) (by omega) hne _ (by rw [List.length_map]; omega), Option.bind_some, ask_t (by unfold in64; omega), show ((n : Int) + 1) = ((n + 1 : Nat) : Int) by omega]
        exact ih'
    · have : n = most + 1 := by omega
      rw [if_neg hx, this]
/-- what Words tells -/
theorem Words_ok (hN : 5000 ≤ N) (V : Valid p acc gd nd) (hC : guard_Check N p acc gd nd = some 0) (hm : most ≤ 3) :
    lang_Words N p acc gd nd (most : Int) = some ([], 15) ∨ (lang_Words N p acc gd nd (most : Int) = some ((allN nd gd acc (two p) (most + 1)).map cs, 0) ∧ (allN nd gd acc (two p) (most + 1)).length ≤ 4096) := by
  obtain ⟨r, er, r1, T⟩ := table_ok hN V hC
  obtain ⟨x, ex, x1, x2, x3⟩ := Words_l0_ok hN V T hm N 0 [] (by omega) (by omega) ⟨rfl, fun k hk => (by omega)⟩
  have ex' : lang_Words_l0 N p acc gd nd (most : Int) r N [] 0 false 0 = some x := ex
  unfold lang_Words
  rw [er, Option.bind_some, if_pos r1, if_neg (by omega), if_neg (by omega), ex', Option.bind_some, if_neg (by rw [x3]; simp), x2]
  by_cases h : (4096 : Int) < ((allN nd gd acc (two p) (most + 1)).length : Nat)
  · rw [if_pos h]; exact .inl rfl
  · have h2 := Words_l1_ok (N := N) (r18 := r) (x206 := x) ⟨V, T, x1, hm, hN⟩ (by omega) N 0 (by omega) (by omega)
    have h3 : lang_Words_l1 N (most : Int) r x N [] 0 = some ((allN nd gd acc (two p) (most + 1)).map cs) := h2
    rw [if_neg h, h3]
    exact .inr ⟨rfl, by omega⟩
end
end Go.V
