/- A part of the proof of 'shareEfficient_holds', for every input, without a condition. -/
import Derived.Test.YtiafiebalibkdaaSEfQi
import Derived.Test.YtiafiebalibkdaaSEfQd
import Derived.Test.YtiafiebalibkdaaSEfOAllx0
import Derived.Test.YtiafiebalibkdaaSEfOAllx1
import Derived.Test.YtiafiebalibkdaaSEfOAllx4
import Derived.Test.YtiafiebalibkdaaSEfOAllx7
import Derived.Test.YtiafiebalibkdaaSEfOAllx8
import Derived.Test.YtiafiebalibkdaaSEfOAllx10
import Derived.Test.YtiafiebalibkdaaSEfOAllx11
namespace Go.Proofs.Ytiafiebalibkdaa.OAll
open Go.RowKit Go.Proofs.YtiafiebalibkdaaW.PrintWords Go.Proofs.YtiafiebalibkdaaW.PrintLast Go.Proofs.YtiafiebalibkdaaW.PrintMore
set_option linter.unusedVariables false
set_option linter.unusedSimpArgs false
theorem rd_map_mul (l : List Int) (d i : Int) : rd (l.map (· * d)) i = rd l i * d := by
  simp only [rd, List.getD_eq_getElem?_getD, List.getElem?_map]
  cases l[i.toNat]? <;> simp
theorem set_same {l : List Int} {i : Nat} (hi : i < l.length) {v : Int} (h : rd l (i : Int) = v) : l.set i v = l := by
  rw [rd_get hi] at h
  rw [← h, List.set_getElem_self]
theorem pskip {Z : List S76} {nums : List Int} {den p q : Int} (L : List S78) (hL : L.length ≤ 8) (hpq : q ≤ p) {r : List Int × Int × Int × Int × Int}
    (hr : Ev (fun k => (ratio_Parts.f k nums den).bind fun bt148 => ((share_scores.f k Z bt148.1 bt148.2).bind fun bt153 => ((ratio_Of.f k bt153.1 bt148.2).bind fun bt155 => (some (bt148.1, bt148.2, bt155.1, bt155.2, 0))))) r) : ∀ (t pre : List S78), L = pre ++ t → Ev (fun k => share_Winner.l0 k Z nums den p q L (L.length : Int) pre.length) r
  | [], pre, e => by
    refine Ev.succ ?_
    have e3 : ¬ (pre.length : Int) < (L.length : Int) := by rw [e]; simp
    simp only [share_Winner.l0, e3, if_false]
    exact hr
  | x :: t, pre, e => by
    refine Ev.succ ?_
    have e3 : (pre.length : Int) < (L.length : Int) := by rw [e]; exact mid_lt _ _ _
    have e4 : p ≥ q := hpq
    have e1 : wrap64 ((pre.length : Int) + 1) = (((pre ++ [x]).length : Nat) : Int) := by rw [w64s _ (by omega)]; simp
    simp only [share_Winner.l0, e3, e4, if_true, nonneg_len, e1]
    exact pskip L hL hpq hr t (pre ++ [x]) (by rw [e]; simp)
theorem pscale {Z : List S76} {l : List Int} {d p q pos a0 b0 i : Int} (L : List S78) (hl : l.length ≤ 8) (h01 : ∀ x ∈ l, x = 0 ∨ x = 1) (hd : 0 ≤ d) (hd' : d ≤ 200) (hi : 0 ≤ i) (hi' : i < (l.length : Int)) (hq : 0 ≤ q - p) (hq' : q - p ≤ 100) {r : List Int × Int × Int × Int × Int}
    (hr : Ev (fun k => share_Winner.l0 k Z ((l.map (· * d)).set i.toNat (q - p)) d 1 0 L (L.length : Int) (wrap64 (pos + 1))) r) : ∀ (suf pre : List Int), l = pre ++ suf →
    Ev (fun k => share_Winner.l1 k Z (pre.map (· * d) ++ suf) d p q L (L.length : Int) pos (l.length : Int) pre.length a0 b0 i) r
  | [], pre, e => by
    refine Ev.succ ?_
    rw [List.append_nil] at e
    subst e
    have e3 : ¬ (l.length : Int) < (l.length : Int) := by omega
    have e4 : i < ((l.map (· * d)).length : Int) := by rw [List.length_map]; exact hi'
    simp only [List.append_nil, share_Winner.l1, e3, e4, if_false, if_true, hi]
    rw [w64 (show -9223372036854775808 ≤ q - p by omega) (by omega)]
    exact hr
  | u :: suf, pre, e => by
    refine Ev.succ ?_
    have hlen : l.length = pre.length + suf.length + 1 := by rw [e]; simp; omega
    have eM : (pre.map (· * d)).length = pre.length := List.length_map _
    have e0 : (pre.length : Int) < (l.length : Int) := by omega
    have e3 : (pre.length : Int) < ((pre.map (· * d) ++ u :: suf).length : Int) := by rw [List.length_append, eM, List.length_cons]; omega
    have e2 : rd (pre.map (· * d) ++ u :: suf) (pre.length : Int) = u := by rw [← eM]; exact rd_mid _ _ _
    have e1 : wrap64 ((pre.length : Int) + 1) = (((pre ++ [u]).length : Nat) : Int) := by rw [w64s _ (by omega)]; simp
    have hu := h01 u (by rw [e]; simp)
    have w1 : wrap64 (u * d) = u * d := by rcases hu with rfl | rfl <;> exact w64 (by omega) (by omega)
    have e5 : (pre.map (· * d) ++ u :: suf).set pre.length (u * d) = (pre ++ [u]).map (· * d) ++ suf := by
      rw [List.set_append_right _ _ (by rw [eM]; exact Nat.le_refl _), eM, Nat.sub_self, List.set_cons_zero]; simp
    simp only [share_Winner.l1, e0, e3, if_true, nonneg_len, e2, w1, e1, Int.toNat_natCast, e5]
    exact pscale L hl h01 hd hd' hi hi' hq hq' hr suf (pre ++ [u]) (by rw [e]; simp)
theorem win_l0 {a b : List Int} (hc : codeP a b = 0) (L : List S78) (hL : L.length ≤ 8) : ∀ (t pre : List S78) (p q : Int) (nums : List Int), L = pre ++ t → Inv a b p q nums t →
    Ev (fun k => share_Winner.l0 k (zipS a b) nums 1 p q L (L.length : Int) pre.length) (outW (winGo p q nums t))
  | [], pre, p, q, nums, _, h => absurd h.no_end id
  | x :: t, pre, p, q, nums, e, h => by
    have h8 := codeP_ok hc
    have hx := h.at_ x List.mem_cons_self
    have hv := hx.vl
    unfold Vl at hv
    have hd := h.head
    have h3 := h.p0; have h4 := h.pq; have h5 := h.q1
    have hn0 := hx.n0; have hna := hx.na; have hln := h.ln
    have hi : x.f1.toNat < nums.length := by omega
    have hie : ((x.f1.toNat : Nat) : Int) = x.f1 := by omega
    have hz := h.zr x List.mem_cons_self
    have hzm : rd (nums.map (· * (x.f0.f0 + x.f0.f1))) x.f1 = 0 := by rw [rd_map_mul, hz, Int.zero_mul]
    have hdt : dotA (zipS a b) ((nums.map (· * (x.f0.f0 + x.f0.f1))).set x.f1.toNat (q - p)) = p * (x.f0.f0 + x.f0.f1) + x.f0.f0 * (q - p) := by
      rw [dotA_set a b _ x.f1.toNat (q - p) h8.2.2.2 (by rw [List.length_map]; exact hln) (by omega), dotA_scale, h.dt, hie, hx.ra, hzm, Int.sub_zero]
    by_cases hpq : p ≥ q
    · have hpe : q = p := by omega
      have hcn : ¬ p + x.f0.f0 ≤ q - x.f0.f1 := by omega
      rw [winGo, if_neg hcn]
      have hb : ∀ y ∈ nums, 0 ≤ y ∧ y ≤ 1 := fun y hy => by rcases h.b01 y hy with rfl | rfl <;> omega
      have := pskip (Z := zipS a b) (p := p) (q := q) L hL hpq (fin_ev hc nums 1 hln (by decide) (by decide) hb) (x :: t) pre e
      rw [h.dt] at this
      have es : (nums.map (· * (x.f0.f0 + x.f0.f1))).set x.f1.toNat (q - p) = nums.map (· * (x.f0.f0 + x.f0.f1)) := by
        rw [show q - p = 0 by omega]
        exact set_same (by rw [List.length_map]; exact hi) (by rw [hie]; exact hzm)
      have e2 : lowR (p * (x.f0.f0 + x.f0.f1) + x.f0.f0 * (q - p)) (x.f0.f0 + x.f0.f1) = lowR p 1 := by
        have := lowR_scale p 1 hd
        rw [Int.one_mul] at this
        rw [show q - p = 0 by omega, Int.mul_zero, Int.add_zero, this]
      unfold outW
      rw [es, e2, lowN_scale nums hd]
      rw [lowN_one] at this
      exact this
    · have e3 : (pre.length : Int) < (L.length : Int) := by rw [e]; exact mid_lt _ _ _
      have e2 : rd_T78 L (pre.length : Int) = x := by rw [e]; simp [rd_T78]
      have e1 : wrap64 ((pre.length : Int) + 1) = (((pre ++ [x]).length : Nat) : Int) := by rw [w64s _ (by omega)]; simp
      have w1 : wrap64 (p + x.f0.f0) = p + x.f0.f0 := w64 (by omega) (by omega)
      have w2 : wrap64 (q - x.f0.f1) = q - x.f0.f1 := w64 (by omega) (by omega)
      have w3 : wrap64 (x.f0.f0 + x.f0.f1) = x.f0.f0 + x.f0.f1 := w64 (by omega) (by omega)
      have e6 : x.f1 < (nums.length : Int) := by omega
      refine Ev.succ ?_
      simp only [share_Winner.l0, e3, if_true, nonneg_len, hpq, if_false, e2, w1, w2, w3, e6, hn0]
      rw [winGo]
      by_cases hcn : p + x.f0.f0 ≤ q - x.f0.f1
      · simp only [hcn, if_true]
        rw [e1]
        exact win_l0 hc L hL t (pre ++ [x]) _ _ _ (by rw [e]; simp) (h.take h8.2.2.2 hcn)
      · simp only [hcn, if_false]
        have hs := scaled_in (i := x.f1.toNat) hd h.b01 (show 0 ≤ q - p by omega) (by omega)
        refine pscale L (by omega) h.b01 (by omega) (by omega) hn0 (by omega) (by omega) (by omega) ?_ nums [] rfl
        rw [e1]
        have := fin_ev hc _ _ (by rw [List.length_set, List.length_map]; exact hln) hd (by omega) hs
        rw [hdt] at this
        exact pskip L hL (by decide) this t (pre ++ [x]) (by rw [e]; simp)
theorem codeP_pos {a b : List Int} (h : codeP a b = 0) : 1 ≤ a.length := by
  have := codeP_ok h
  have h2 := this.2.1
  rw [okP, Bool.and_eq_true, decide_eq_true_eq] at h2
  cases a with
  | nil => simp at h2
  | cons x t => simp
theorem Inv.start {a b : List Int} (hc : codeP a b = 0) : Inv a b 0 100 (List.replicate a.length 0) (isort [] (ordIn 0 (zipS a b))) := by
  have h8 := codeP_ok hc
  have hz := all_zip hc
  have hA := h8.2.1
  have hB := h8.2.2.1
  rw [okP, Bool.and_eq_true, decide_eq_true_eq] at hA hB
  have hp := isort_perm (ordIn 0 (zipS a b)) []
  rw [List.nil_append] at hp
  have hat : ∀ x ∈ ordIn 0 (zipS a b), At a b x := fun x hx => (at_ordIn a b [] [] x h8.2.2.2 rfl hz.1 hz.2 hx).1
  refine ⟨Int.le_refl _, by decide, Int.le_refl _, ?_, ?_, ?_, perm_ne hp (ordIn_lt (zipS a b) 0).2, fun x hx => hat x (hp.mem_iff.mp hx), fun x hx => ?_, by rw [List.length_replicate], dotA_zero a b _, fun x hx => .inl (List.eq_of_mem_replicate hx)⟩
  · rw [sumA_perm hp, sumA_ordIn a b 0 h8.2.2.2, hA.2]; rfl
  · rw [sumB_perm hp, sumB_ordIn a b 0 h8.2.2.2, hB.2]
  · exact isort_ord _ [] (fun y hy => by cases hy) (fun y hy => (hat y hy).vl) List.Pairwise.nil
  · have := hat x (hp.mem_iff.mp hx)
    have h1 := this.n0; have h2 := this.na
    have hj : x.f1.toNat < (List.replicate a.length (0 : Int)).length := by rw [List.length_replicate]; omega
    have := rd_get hj
    rw [show ((x.f1.toNat : Nat) : Int) = x.f1 by omega] at this
    rw [this]; simp
def winR (a b : List Int) : List Int × Int × Int × Int × Int := if codeP a b = 0 then outW (winGo 0 100 (List.replicate a.length 0) (isort [] (ordIn 0 (zipS a b)))) else ([], 0, 0, 0, codeP a b)
theorem win_ev (a b : List Int) : Ev (fun k => share_Winner.f k a b) (winR a b) := by
  unfold share_Winner.f winR
  refine Ev.bind (read_ev a b) ?_
  unfold readN
  by_cases h : codeP a b = 0
  · have h8 := codeP_ok h
    have hl := zipS_len a b h8.2.2.2
    have hpos := codeP_pos h
    simp only [h, if_true]
    have e1 : ((zipS a b).length : Int).toNat = a.length := by rw [hl, Int.toNat_natCast]
    have e2 : a.length ≤ 35184372088832 := by omega
    simp only [nonneg_len, if_true, e1, e2]
    have ho : Ev (fun k => share_order.f k (zipS a b)) (isort [] (ordIn 0 (zipS a b))) := by
      refine ⟨0, fun k _ => ?_⟩
      unfold share_order.f
      rw [if_pos (by omega)]
    refine Ev.bind ho ?_
    have hp := isort_perm (ordIn 0 (zipS a b)) []
    rw [List.nil_append] at hp
    have hlen : (isort [] (ordIn 0 (zipS a b))).length ≤ 8 := by
      rw [hp.length_eq, ordIn_len, hl]; omega
    exact win_l0 h _ hlen _ [] 0 100 _ rfl (Inv.start h)
  · simp only [h, if_false]; exact Ev.pure _
theorem winGo_len : ∀ (t : List S78) (p q : Int) (nums : List Int), (winGo p q nums t).1.length = nums.length
  | [], _, _, _ => rfl
  | x :: t, p, q, nums => by
    rw [winGo]
    split
    · rw [winGo_len t, List.length_set]
    · simp
end Go.Proofs.Ytiafiebalibkdaa.OAll
