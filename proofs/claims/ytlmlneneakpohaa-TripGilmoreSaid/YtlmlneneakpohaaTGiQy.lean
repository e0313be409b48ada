/- A part of the proof of 'tripGilmore_holds', for every input, without a condition. -/
import Derived.Test.YtlmlneneakpohaaTGiQv
import Derived.Test.YtlmlneneakpohaaTGiOAllx0
import Derived.Test.YtlmlneneakpohaaTGiOAllx3
import Derived.Test.YtlmlneneakpohaaTGiOAllx8
import Derived.Test.YtlmlneneakpohaaTGiOAllx9
import Derived.Test.YtlmlneneakpohaaTGiQf
import Derived.Test.YtlmlneneakpohaaTGiOAllx22
namespace Go.Proofs.Ytlmlneneakpohaa.OAll
open Go.RowKit Go.Proofs.YtlmlneneakpohaaW.PrintWords Go.Proofs.YtlmlneneakpohaaW.PrintLast Go.Proofs.YtlmlneneakpohaaW.PrintMore
set_option linter.unusedVariables false
set_option linter.unusedSimpArgs false
theorem pickT_first (c : List Nat → Int) : ∀ (L : List (List Nat)) (m0 : List Nat), (∀ x ∈ L, 0 ≤ c x) → 0 ≤ c m0 → ∃ A m B, m0 :: L = A ++ m :: B ∧ pickT c (m0, c m0) L = (m, c m) ∧ (∀ x ∈ A, c m < c x) ∧ ∀ x ∈ B, c m ≤ c x
  | [], m0, _, _ => ⟨[], m0, [], rfl, rfl, by simp, by simp⟩
  | x :: L, m0, h, h0 => by
    have hx := h x (by simp)
    have e : pickT c (m0, c m0) (x :: L) = pickT c (stepT c (m0, c m0) x) L := rfl
    rw [e, stepT]
    by_cases hc : (m0, c m0).2 < 0 ∨ c x < (m0, c m0).2
    · have hlt : c x < c m0 := by
        rcases hc with hc | hc
        · exact absurd h0 (by show ¬ 0 ≤ c m0; have : c m0 < 0 := hc; omega)
        · exact hc
      rw [if_pos hc]
      obtain ⟨A, m, B, e1, e2, h1, h2⟩ := pickT_first c L x (fun y hy => h y (by simp [hy])) hx
      refine ⟨m0 :: A, m, B, by rw [e1]; rfl, e2, ?_, h2⟩
      have hmx : c m ≤ c x := by
        have hm : x ∈ A ++ m :: B := by rw [← e1]; simp
        rcases List.mem_append.mp hm with hm | hm
        · exact Int.le_of_lt (h1 x hm)
        · rcases List.mem_cons.mp hm with rfl | hm
          · exact Int.le_refl _
          · exact h2 x hm
      intro y hy
      rcases List.mem_cons.mp hy with rfl | hy
      · omega
      · exact h1 y hy
    · have hge : c m0 ≤ c x := by
        refine Classical.byContradiction fun hn => hc (.inr ?_)
        show c x < c m0
        omega
      rw [if_neg hc]
      obtain ⟨A, m, B, e1, e2, h1, h2⟩ := pickT_first c L m0 (fun y hy => h y (by simp [hy])) h0
      cases A with
      | nil =>
        rw [List.nil_append] at e1
        obtain ⟨rfl, rfl⟩ := List.cons.inj e1
        refine ⟨[], m0, x :: L, rfl, e2, by simp, fun y hy => ?_⟩
        rcases List.mem_cons.mp hy with rfl | hy
        · exact hge
        · exact h2 y hy
      | cons a A =>
        rw [List.cons_append] at e1
        obtain ⟨rfl, rfl⟩ := List.cons.inj e1
        refine ⟨m0 :: x :: A, m, B, rfl, e2, fun y hy => ?_, h2⟩
        have hm0 := h1 m0 (by simp)
        rcases List.mem_cons.mp hy with rfl | hy
        · exact hm0
        · rcases List.mem_cons.mp hy with rfl | hy
          · omega
          · exact h1 y (by simp [hy])
def LexN (a b : List Nat) : Prop := ∃ p x y s t, a = p ++ x :: s ∧ b = p ++ y :: t ∧ x < y
theorem leaves_lex (n : Nat) : ∀ (d : Nat) (now : List Nat), (leaves n d now).Pairwise LexN
  | 0, now => by simp [leaves]
  | d + 1, now => by
    simp only [leaves]
    rw [List.pairwise_flatMap]
    refine ⟨fun k _ => ?_, ?_⟩
    · unfold leavesAt
      split
      · exact List.Pairwise.nil
      · exact leaves_lex n d _
    · refine List.Pairwise.imp (fun {a b} hab x hx y hy => ?_) List.pairwise_lt_range
      unfold leavesAt at hx hy
      split at hx
      · simp at hx
      · split at hy
        · simp at hy
        · obtain ⟨s, rfl, _⟩ := (leaves_mem n d _ x).mp hx
          obtain ⟨t, rfl, _⟩ := (leaves_mem n d _ y).mp hy
          exact ⟨now, a, b, s, t, by simp, by simp, hab⟩
theorem leaf_ord {n : Nat} (hn : 1 ≤ n) {m : List Nat} (h : m ∈ leaves n (n - 1) [0]) : IsOrd n (cs m) ∧ rd (cs m) 0 = 0 := by
  obtain ⟨t, rfl, h1, h2, h3, h4⟩ := (leaves_mem _ _ _ m).mp h
  have hb : ∀ x ∈ [0] ++ t, x < n := fun x hx => by
    rcases List.mem_append.mp hx with h | h
    · simp at h; omega
    · exact h2 x h
  refine ⟨⟨cs_range hb, ?_, by rw [cs_len]; simp; omega⟩, rfl⟩
  have hnd : ([0] ++ t).Nodup := by
    rw [List.singleton_append, List.nodup_cons]
    exact ⟨fun h0 => h4 0 h0 (by simp), h3⟩
  unfold cs
  rw [List.nodup_iff_pairwise_ne, List.pairwise_map]
  exact List.Pairwise.imp (fun {a b} hab e => hab (by omega)) (List.nodup_iff_pairwise_ne.mp hnd)
theorem ord_leaf {n : Nat} (hn : 1 ≤ n) {o : List Int} (h : IsOrd n o) (h0 : rd o 0 = 0) : ∃ m, m ∈ leaves n (n - 1) [0] ∧ cs m = o := by
  have ec : cs (o.map Int.toNat) = o := by
    unfold cs
    rw [List.map_map]
    refine (List.map_congr_left fun x hx => ?_).trans (List.map_id o)
    have := h.1 x hx
    simp only [Function.comp_def, id]
    omega
  have hr := h.1
  have hnd := h.2.1
  have hlen := h.2.2
  cases o with
  | nil => simp at hlen; omega
  | cons x t =>
    have hx : x = 0 := h0
    subst hx
    refine ⟨((0 : Int) :: t).map Int.toNat, (leaves_mem _ _ _ _).mpr ⟨t.map Int.toNat, rfl, by simp at hlen ⊢; omega, ?_, ?_, ?_⟩, ec⟩
    · intro y hy
      obtain ⟨z, hz, rfl⟩ := List.mem_map.mp hy
      have := hr z (by simp [hz]); omega
    · rw [List.nodup_cons] at hnd
      rw [List.nodup_iff_pairwise_ne, List.pairwise_map]
      refine List.Pairwise.imp_of_mem (fun {a b} ha hb hab e => hab ?_) (List.nodup_iff_pairwise_ne.mp hnd.2)
      have h1 := hr a (by simp [ha])
      have h2 := hr b (by simp [hb])
      omega
    · intro y hy
      obtain ⟨z, hz, rfl⟩ := List.mem_map.mp hy
      have h1 := hr z (by simp [hz])
      have h2 : z ≠ 0 := fun e => (List.nodup_cons.mp hnd).1 (e ▸ hz)
      simp only [List.mem_singleton]
      omega
theorem bestT_first {l : List S36} {U D : Int} (hR : Right l U D) (h7 : l.length ≤ 7) : ∃ m, bestT l U D = (m, costN l U D m) ∧ IsOrd l.length (cs m) ∧ rd (cs m) 0 = 0 ∧
    ∀ o, IsOrd l.length o → rd o 0 = 0 → costN l U D m ≤ costI l U D o ∧ (costI l U D o = costN l U D m → ∃ b, o = cs b ∧ (b = m ∨ LexN m b)) := by
  have hn := hR.len.1
  have hc : ∀ y ∈ leaves l.length (l.length - 1) [0], 0 ≤ costN l U D y := fun y hy =>
    (costI_bound hR (leaf_ord hn hy).1.1 (by rw [(leaf_ord hn hy).1.2.2]; omega)).1
  have hlex := leaves_lex l.length (l.length - 1) [0]
  obtain ⟨_, hne⟩ := bestT_ok hR h7
  have hL : leaves l.length (l.length - 1) [0] ≠ [] := by
    intro e
    unfold bestT at hne
    rw [e] at hne
    exact hne rfl
  obtain ⟨L, hLe⟩ : ∃ L, leaves l.length (l.length - 1) [0] = L := ⟨_, rfl⟩
  have hin : ∀ m, m ∈ L → IsOrd l.length (cs m) ∧ rd (cs m) 0 = 0 := fun m hm => leaf_ord hn (hLe ▸ hm)
  unfold bestT
  rw [hLe] at hc hlex hL ⊢
  cases L with
  | nil => exact absurd rfl hL
  | cons m0 L =>
    obtain ⟨A, m, B, e1, e2, h1, h2⟩ := pickT_first (costN l U D) L m0 (fun x hx => hc x (by simp [hx])) (hc m0 (by simp))
    have e3 : pickT (costN l U D) ([], -1) (m0 :: L) = pickT (costN l U D) (m0, costN l U D m0) L := by
      show pickT (costN l U D) (stepT (costN l U D) ([], -1) m0) L = _
      rw [stepT, if_pos (.inl (by simp))]
    have hm := hin m (by rw [e1]; simp)
    refine ⟨m, by rw [e3, e2], hm.1, hm.2, fun o ho h0 => ?_⟩
    obtain ⟨b, hb, rfl⟩ := ord_leaf hn ho h0
    rw [hLe, e1] at hb
    have hx : costN l U D b = costI l U D (cs b) := rfl
    rw [e1] at hlex
    rcases List.mem_append.mp hb with hb | hb
    · have := h1 b hb
      exact ⟨by omega, fun e => absurd e (by omega)⟩
    · rcases List.mem_cons.mp hb with rfl | hb
      · exact ⟨Int.le_refl _, fun _ => ⟨b, rfl, .inl rfl⟩⟩
      · refine ⟨h2 b hb, fun _ => ⟨b, rfl, .inr ?_⟩⟩
        have := (List.pairwise_append.mp hlex).2.1
        exact (List.pairwise_cons.mp this).1 b hb
theorem best_least {l : List S36} {U D : Int} (hR : Right l U D) {m : List Nat} (hm : IsOrd l.length (cs m)) (hall : ∀ o, IsOrd l.length o → rd o 0 = 0 → costN l U D m ≤ costI l U D o) : costN l U D m = worthI l U D + (patchI l U D).2 := by
  obtain ⟨o, ho, h0, hc⟩ := tour_le hR
  have h1 := hall o ho h0
  have h2 := order_ge hR hm
  have h3 : costN l U D m = costI l U D (cs m) := rfl
  omega
theorem gilmore_l0 : ∀ (s t p : List Nat), (p ++ t).length ≤ 30 → (s = t ∨ LexN s t) → Ev (fun k => trishawlaw06_TripGilmore.l0 k (cs (p ++ t)) (cs (p ++ s)) (p.length : Int)) true
  | [], t, p, hl, h => by
    refine Ev.succ ?_
    simp only [trishawlaw06_TripGilmore.l0, if_neg (show ¬ (p.length : Int) < ((cs (p ++ [])).length : Int) by rw [cs_len]; simp)]
    exact alive_ev'
  | x :: s, [], p, hl, h => by
    exfalso
    rcases h with h | ⟨q, a, b, u, v, e1, e2, _⟩
    · cases h
    · simp at e2
  | x :: s, y :: t, p, hl, h => by
    refine Ev.succ ?_
    have r1 : rd (cs (p ++ x :: s)) (p.length : Int) = (x : Int) := by
      have := rd_mid (cs p) (cs s) (x : Int)
      rw [cs_len] at this
      rw [← this]; simp [cs]
    have r2 : rd (cs (p ++ y :: t)) (p.length : Int) = (y : Int) := by
      have := rd_mid (cs p) (cs t) (y : Int)
      rw [cs_len] at this
      rw [← this]; simp [cs]
    have e2 : wrap64 ((p.length : Int) + 1) = (((p ++ [x]).length : Nat) : Int) := by
      rw [w64s p.length (by simp at hl; omega)]; simp
    have hlt : x = y ∧ (s = t ∨ LexN s t) ∨ x < y := by
      rcases h with h | ⟨q, a, b, u, v, e1, e2, hab⟩
      · cases h; exact .inl ⟨rfl, .inl rfl⟩
      · cases q with
        | nil =>
          rw [List.nil_append] at e1 e2
          cases e1; cases e2; exact .inr hab
        | cons z q =>
          rw [List.cons_append] at e1 e2
          cases e1; cases e2
          exact .inl ⟨rfl, .inr ⟨q, a, b, u, v, rfl, rfl, hab⟩⟩
    simp only [trishawlaw06_TripGilmore.l0]
    rw [r1, r2]
    simp only [if_pos (show (p.length : Int) < ((cs (p ++ x :: s)).length : Int) by rw [cs_len]; simp; omega), if_pos (nonneg_len p), if_pos (show (p.length : Int) < ((cs (p ++ y :: t)).length : Int) by rw [cs_len]; simp; omega)]
    rcases hlt with ⟨rfl, h'⟩ | hlt
    · have ih := gilmore_l0 s t (p ++ [x]) (by simpa using hl) h'
      rw [← mid_assoc, ← mid_assoc] at ih
      simp only [if_true, e2]
      exact ih
    · simp only [if_neg (show ¬ (x : Int) = (y : Int) by omega), if_pos (show (x : Int) < (y : Int) by omega)]
      exact alive_ev'
theorem gilmore_j0 (l : List S36) (o : List Int) (b : Bool) (U D : Int) (hb : b = false → o.length ≤ 30 ∧ dayE l U D = 0) : Ev (fun k => trishawlaw06_TripGilmore.j0 k l o b U D) true := by
  refine Ev.succ ?_
  simp only [trishawlaw06_TripGilmore.j0]
  cases b
  · obtain ⟨hl, c⟩ := hb rfl
    have hR := day_right c
    have h9 := hR.len
    simp only [Bool.false_eq_true, if_false]
    refine Ev.bind (Least_ev l U D) (Ev.bind (cost_ev l U D o hl) ?_)
    obtain ⟨G, hG⟩ : ∃ G, G = worthI l U D + (patchI l U D).2 := ⟨_, rfl⟩
    have eL : leastR l U D = (G, 0) := by unfold leastR; rw [if_pos c, hG]
    have h2 : ∀ x : Bool, (x = true → False) → ∀ c' e', (e' = 0 → IsOrd l.length o ∧ costI l U D o = c') → Ev (fun k => trishawlaw06_TripGilmore.j1 k l o G c' e' x U D) true := by
      intro x hx c' e' he
      refine Ev.succ ?_
      have hx' : x = false := by cases x with | false => rfl | true => exact absurd rfl hx
      subst hx'
      simp only [trishawlaw06_TripGilmore.j1, Bool.false_eq_true, if_false]
      refine Ev.bind (tour_ev l U D) ?_
      by_cases c7 : (l.length : Int) > 7
      · have eT : tourR l U D = ([], 0, 8) := by unfold tourR; rw [if_pos c, if_pos c7]
        simp only [if_pos c7, eT, if_true, List.length_nil, Int.natCast_zero]
        exact alive_ev'
      · obtain ⟨m, eb, hm, hm0, hall⟩ := bestT_first hR (by omega)
        have hG2 : costN l U D m = G := by rw [hG]; exact best_least hR hm (fun o ho h0 => (hall o ho h0).1)
        have eT : tourR l U D = (cs m, G, 0) := by unfold tourR; rw [if_pos c, if_neg c7, eb, hG2]
        have hml : (cs m).length = l.length := hm.2.2
        have eC : costR l U D (cs m) = (G, 0) := by unfold costR; rw [if_pos c, if_pos hm, ← hG2]; rfl
        simp only [if_neg c7, eT]
        refine Ev.bind (cost_ev l U D (cs m) (by omega)) ?_
        simp only [eC, if_true, hml, hm0, if_pos (show (0 : Int) < (l.length : Int) by omega)]
        have h3 : ∀ x : Bool, (x = true → False) → Ev (fun k => trishawlaw06_TripGilmore.j2 k o G c' e' (cs m) x) true := by
          intro x hx
          refine Ev.succ ?_
          have hx' : x = false := by cases x with | false => rfl | true => exact absurd rfl hx
          subst hx'
          have hal : Ev (fun k => trishawlaw06_TripGilmore.j3 k o (cs m) true) true := by
            refine Ev.succ ?_
            simp only [trishawlaw06_TripGilmore.j3, if_true]
            exact alive_ev'
          simp only [trishawlaw06_TripGilmore.j2, Bool.false_eq_true, if_false]
          by_cases ce : e' = 0
          · simp only [if_pos ce]
            by_cases cc : c' = G
            · obtain ⟨ho, hco⟩ := he ce
              have hol := ho.2.2
              simp only [if_pos cc, if_pos (show (0 : Int) < (o.length : Int) by omega)]
              by_cases c0 : rd o 0 = 0
              · have : (rd o 0 != 0) = false := by simp [c0]
                rw [this]
                refine Ev.succ ?_
                simp only [trishawlaw06_TripGilmore.j3, Bool.false_eq_true, if_false]
                obtain ⟨b, hb, hlex⟩ := (hall o ho c0).2 (by rw [hco, cc, hG2])
                subst hb
                have hbl : b.length ≤ 30 := by rw [cs_len] at hl; exact hl
                exact gilmore_l0 m b [] (by simpa using hbl) (by rcases hlex with h | h; · exact .inl h.symm
                                                                 · exact .inr h)
              · have : (rd o 0 != 0) = true := by simp [c0]
                rw [this]; exact hal
            · simp only [if_neg cc]; exact hal
          · simp only [if_neg ce]; exact hal
        by_cases ce : e' = 0
        · simp only [if_pos ce]
          refine h3 _ (fun hx => ?_)
          have := (he ce).1.2.2
          rw [this] at hx; simp at hx
        · simp only [if_neg ce]
          exact h3 false (by simp)
    rw [eL]
    simp only [if_true]
    by_cases ho : IsOrd l.length o
    · have eC : costR l U D o = (costI l U D o, 0) := by unfold costR; rw [if_pos c, if_pos ho]
      have := order_ge hR ho
      simp only [eC, if_true]
      refine h2 _ (fun hx => ?_) _ _ (fun _ => ⟨ho, rfl⟩)
      have := of_decide_eq_true hx
      omega
    · have eC : costR l U D o = (0, 2) := by unfold costR; rw [if_pos c, if_neg ho]
      simp only [eC, if_neg (show ¬ (2 : Int) = 0 by decide)]
      exact h2 false (by simp) _ _ (fun h => absurd h (by decide))
  · simp only [if_true]; exact alive_ev'
theorem TripGilmore_ev (l : List S36) (U D : Int) (o : List Int) : Ev (fun k => trishawlaw06_TripGilmore.f k l U D o) true := by
  unfold trishawlaw06_TripGilmore.f
  simp only [few_eq, Option.bind_some]
  by_cases cf : fewN l o = true
  · have hl : (l.length : Int) ≤ 30 ∧ (o.length : Int) ≤ 30 := by unfold fewN at cf; simpa using cf
    simp only [if_pos cf]
    refine Ev.bind (ref_day l U D) ?_
    refine gilmore_j0 l o _ U D (fun h => ⟨by omega, ?_⟩)
    simpa using h
  · simp only [if_neg cf]
    exact gilmore_j0 l o true U D (fun h => by cases h)
end Go.Proofs.Ytlmlneneakpohaa.OAll
