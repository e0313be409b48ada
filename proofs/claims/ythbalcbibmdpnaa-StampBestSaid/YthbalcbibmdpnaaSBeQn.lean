/- A part of the proof of 'stampBest_holds', for every input, without a condition. -/
import Derived.Test.YthbalcbibmdpnaaSBeQp
import Derived.Test.YthbalcbibmdpnaaSBeOAllx13
namespace Go.Proofs.Ythbalcbibmdpnaa.OAll
open Go.RowKit Go.Proofs.YthbalcbibmdpnaaW.PrintWords Go.Proofs.YthbalcbibmdpnaaW.PrintLast Go.Proofs.YthbalcbibmdpnaaW.PrintMore
set_option linter.unusedVariables false
set_option linter.unusedSimpArgs false
def pick (s y : List Int × Int) : List Int × Int := if s.2 < y.2 then y else s
theorem pick_assoc (s a b : List Int × Int) : pick (pick s a) b = pick s (pick a b) := by
  unfold pick
  by_cases h1 : s.2 < a.2 <;> by_cases h2 : a.2 < b.2
  · simp only [if_pos h1, if_pos h2, if_pos (show s.2 < b.2 by omega)]
  · simp only [if_pos h1, if_neg h2]
  · simp only [if_neg h1, if_pos h2]
  · simp only [if_neg h1, if_neg h2, if_neg (show ¬ s.2 < b.2 by omega)]
def foldB (f : Int → List Int × Int) : Nat → Int → List Int × Int → List Int × Int
  | 0, _, s => s
  | n + 1, v, s => foldB f n (v + 1) (pick s (f v))
theorem foldB_pick (f : Int → List Int × Int) : ∀ (n : Nat) (v : Int) (s e : List Int × Int), foldB f n v (pick s e) = pick s (foldB f n v e)
  | 0, v, s, e => rfl
  | n + 1, v, s, e => by rw [foldB, foldB, pick_assoc, foldB_pick f n]
def lastI (l : List Int) : Int := rd l ((l.length - 1 : Nat) : Int)
def bestR (h : Int) : Nat → List Int → List Int × Int
  | 0, l => (l, (rangeI h l : Int))
  | d + 1, l => foldB (fun x => bestR h d (l ++ [x])) ((rangeI h l : Int) + 1 - lastI l).toNat (lastI l + 1) ([], -1)
def Cap (h : Int) : Nat → Int → Prop
  | 0, x => x ≤ 200
  | d + 1, x => x ≤ 200 ∧ Cap h d (h * x + 1)
theorem Cap.mono {h : Int} (hh : 1 ≤ h) : ∀ (d : Nat) (x y : Int), y ≤ x → Cap h d x → Cap h d y
  | 0, x, y, hy, c => by unfold Cap at c ⊢; omega
  | d + 1, x, y, hy, c => ⟨by have := c.1; omega, Cap.mono hh d (h * x + 1) (h * y + 1) (by have := Int.mul_le_mul_of_nonneg_left hy (show 0 ≤ h by omega); omega) c.2⟩
theorem Cap.le {h : Int} : ∀ (d : Nat) (x : Int), Cap h d x → x ≤ 200
  | 0, _, c => c
  | d + 1, _, c => c.1
structure OkB (h : Int) (d : Nat) (l : List Int) : Prop where
  t : OkT h l
  len : l.length + d ≤ 6
  cap : Cap h d (lastI l)
theorem lastI_snoc (l : List Int) (x : Int) : lastI (l ++ [x]) = x := by
  unfold lastI
  have := rd_mid l [] x
  simpa using this
theorem OkB.next {h : Int} {d : Nat} {l : List Int} (o : OkB h (d + 1) l) {x : Int} (h0 : lastI l < x) (h1 : x ≤ (rangeI h l : Int) + 1) : OkB h d (l ++ [x]) := by
  have hr := range_le o.t
  have ht := o.t.top
  have hl := o.t.last
  have hlen := o.t.len
  have hlen2 := o.len
  have hx : x ≤ h * lastI l + 1 := by unfold lastI; omega
  have hc : Cap h d x := Cap.mono o.t.h.1 d _ _ hx o.cap.2
  refine ⟨⟨o.t.h, by simp; omega, fun v hv => ?_⟩, by simp; omega, by rw [lastI_snoc]; exact hc⟩
  rcases List.mem_append.mp hv with hv | hv
  · exact o.t.val v hv
  · rw [List.mem_singleton] at hv
    subst hv
    have := Cap.le d v hc
    unfold lastI at h0
    omega
theorem on_loop {h kk : Int} {l : List Int} (rg : Nat) (hrg : rg ≤ 2000) (hl : l.length ≤ 6) (f : Int → List Int × Int) : ∀ (n : Nat) (v : Int) (s : List Int × Int), 1 ≤ v → v ≤ 3000 → (v + (n : Int) = (rg : Int) + 2 ∨ (n = 0 ∧ (rg : Int) + 1 < v)) →
    (∀ x, v ≤ x → x ≤ (rg : Int) + 1 → ∀ s : List Int × Int, -1 ≤ s.2 → Ev (fun k => stamp_Best.on k h kk (l ++ [x]) s.1 s.2) (pick s (f x))) → -1 ≤ s.2 → Ev (fun k => stamp_Best.l0 k h kk l (rg : Int) s.1 s.2 v) (foldB f n v s)
  | 0, v, s, v0, v1, hv, hf, hs => by
    have hw : wrap64 ((rg : Int) + 1) = (rg : Int) + 1 := w64 (by omega) (by omega)
    refine Ev.succ ?_
    simp only [stamp_Best.l0, hw, if_neg (show ¬ v ≤ (rg : Int) + 1 by clear hw; omega)]
    exact Ev.pure _
  | n + 1, v, s, v0, v1, hv, hf, hs => by
    have hw : wrap64 ((rg : Int) + 1) = (rg : Int) + 1 := w64 (by omega) (by omega)
    have HW := Aside0.mk hw
    clear hw
    have hw2 : wrap64 (v + 1) = v + 1 := w64 (by omega) (by omega)
    have HW2 := Aside0.mk hw2
    clear hw2
    refine Ev.succ ?_
    simp only [stamp_Best.l0, HW.out, HW2.out]
    simp only [if_pos (show v ≤ (rg : Int) + 1 by omega), if_pos (show l.length < 17592186044415 by omega)]
    refine Ev.bind (hf v (Int.le_refl v) (by omega) s hs) ?_
    have hp : -1 ≤ (pick s (f v)).2 := by unfold pick; split <;> omega
    exact on_loop rg hrg hl f n (v + 1) (pick s (f v)) (by omega) (by omega) (by omega) (fun x hx hx1 => hf x (by omega) hx1) hp
theorem on_ev {h : Int} : ∀ (d : Nat) (l : List Int) (s : List Int × Int), OkB h d l → -1 ≤ s.2 → Ev (fun k => stamp_Best.on k h ((l.length + d : Nat) : Int) l s.1 s.2) (pick s (bestR h d l))
  | 0, l, s, o, hs => by
    have hlen := o.t.len
    have hne : l ≠ [] := fun e => by rw [e] at hlen; simp at hlen
    have hcl : Ev (fun _ => slices_Clone_int_int.f l) l := by
      refine ⟨0, fun k _ => ?_⟩
      show slices_Clone_int_int.f l = some l
      unfold slices_Clone_int_int.f
      rw [if_pos (by simp; omega)]
    refine Ev.succ ?_
    simp only [stamp_Best.on, if_neg hne]
    refine Ev.bind (reach_ev o.t) ?_
    simp only [Nat.add_zero, if_true, bestR]
    unfold pick
    by_cases c : s.2 < (rangeI h l : Int)
    · simp only [if_pos c]
      exact Ev.bind hcl (Ev.pure _)
    · simp only [if_neg c]
      exact Ev.pure _
  | d + 1, l, s, o, hs => by
    have hlen := o.t.len
    have hl := o.t.last
    have hr := range_le o.t
    have ht := o.t.top
    have hne : l ≠ [] := fun e => by rw [e] at hlen; simp at hlen
    have hla : rd l ((l.length : Int) - 1) = lastI l := by unfold lastI; rw [show ((l.length - 1 : Nat) : Int) = (l.length : Int) - 1 by omega]
    have hw2 : wrap64 (lastI l + 1) = lastI l + 1 := w64 (by unfold lastI; omega) (by unfold lastI; omega)
    have HW2 := Aside0.mk hw2
    clear hw2
    refine Ev.succ ?_
    simp only [stamp_Best.on, if_neg hne]
    refine Ev.bind (reach_ev o.t) ?_
    simp only [if_neg (show ¬ (l.length : Int) = ((l.length + (d + 1) : Nat) : Int) by omega), hla, HW2.out]
    have := on_loop (h := h) (kk := ((l.length + (d + 1) : Nat) : Int)) (l := l) (rangeI h l) (by omega) (by omega) (fun x => bestR h d (l ++ [x])) ((rangeI h l : Int) + 1 - lastI l).toNat (lastI l + 1) s (by unfold lastI; omega) (by unfold lastI; omega) (by omega)
      (fun x hx hx1 s hs => by
        have := on_ev d (l ++ [x]) s (o.next (by omega) hx1) hs
        rw [List.length_append, List.length_singleton, show l.length + 1 + d = l.length + (d + 1) by omega] at this
        exact this) hs
    have e : pick s (bestR h (d + 1) l) = foldB (fun x => bestR h d (l ++ [x])) ((rangeI h l : Int) + 1 - lastI l).toNat (lastI l + 1) s := by
      rw [bestR, ← foldB_pick]
      congr 1
      unfold pick
      rw [if_neg (show ¬ s.2 < -1 by omega)]
    rw [e]
    exact this
theorem rbest_loop {h kk : Int} {l : List Int} (rg : Int) (hrg : rg ≤ 2000) (hl : l.length ≤ 6) (f : Int → List Int × Int) : ∀ (n : Nat) (v : Int) (s : List Int × Int), 1 ≤ v → v ≤ 2001 → (v + (n : Int) = rg + 1 ∨ (n = 0 ∧ rg < v)) →
    (∀ x, v ≤ x → x ≤ rg → Ev (fun k => trishawref04_best.f k h kk (l ++ [x])) (f x)) → Ev (fun k => trishawref04_best.l0 k h kk l rg s.1 s.2 v) (foldB f n v s)
  | 0, v, s, v0, v1, hv, hf => by
    refine Ev.succ ?_
    simp only [trishawref04_best.l0, if_neg (show ¬ v ≤ rg by omega)]
    exact Ev.pure _
  | n + 1, v, s, v0, v1, hv, hf => by
    have hw2 : wrap64 (v + 1) = v + 1 := w64 (by omega) (by omega)
    have HW2 := Aside0.mk hw2
    clear hw2
    have ih := rbest_loop rg hrg hl f n (v + 1) (pick s (f v)) (by omega) (by omega) (by omega) (fun x hx hx1 => hf x (by omega) hx1)
    refine Ev.succ ?_
    simp only [trishawref04_best.l0, HW2.out]
    simp only [if_pos (show v ≤ rg by omega), if_pos (show l.length < 17592186044415 by omega)]
    refine Ev.bind (hf v (Int.le_refl v) (by omega)) ?_
    unfold pick at ih
    by_cases c : s.2 < (f v).2
    · simp only [if_pos c] at ih ⊢
      rw [foldB, show pick s (f v) = f v by unfold pick; rw [if_pos c]]
      exact ih
    · simp only [if_neg c] at ih ⊢
      rw [foldB, show pick s (f v) = s by unfold pick; rw [if_neg c]]
      exact ih
theorem rbest_ev {h : Int} : ∀ (d : Nat) (l : List Int), OkB h d l → Ev (fun k => trishawref04_best.f k h ((l.length + d : Nat) : Int) l) (bestR h d l)
  | 0, l, o => by
    refine Ev.succ ?_
    simp only [trishawref04_best.f, Nat.add_zero, if_true, bestR]
    exact Ev.bind (rreach_ev o.t) (Ev.pure _)
  | d + 1, l, o => by
    have hlen := o.t.len
    have hl := o.t.last
    have hr := range_le o.t
    have ht := o.t.top
    have hcap := Cap.le d _ o.cap.2
    have hne : l ≠ [] := fun e => by rw [e] at hlen; simp at hlen
    have hla : rd l ((l.length : Int) - 1) = lastI l := by unfold lastI; rw [show ((l.length - 1 : Nat) : Int) = (l.length : Int) - 1 by omega]
    have hle : (rangeI h l : Int) + 1 ≤ 200 := by unfold lastI at hcap; omega
    have hw : wrap64 ((rangeI h l : Int) + 1) = (rangeI h l : Int) + 1 := w64 (by omega) (by omega)
    have HW := Aside0.mk hw
    clear hw
    have hw2 : wrap64 (lastI l + 1) = lastI l + 1 := w64 (by unfold lastI; omega) (by unfold lastI; omega)
    have HW2 := Aside0.mk hw2
    clear hw2
    refine Ev.succ ?_
    simp only [trishawref04_best.f, if_neg (show ¬ (l.length : Int) = ((l.length + (d + 1) : Nat) : Int) by omega), if_neg hne]
    refine Ev.bind (rreach_ev o.t) ?_
    simp only [hla, HW.out, HW2.out, mn_min, show min 200 ((rangeI h l : Int) + 1) = (rangeI h l : Int) + 1 by omega]
    rw [bestR]
    exact rbest_loop (h := h) (kk := ((l.length + (d + 1) : Nat) : Int)) (l := l) ((rangeI h l : Int) + 1) (by omega) (by omega) (fun x => bestR h d (l ++ [x])) ((rangeI h l : Int) + 1 - lastI l).toNat (lastI l + 1) ([], -1) (by unfold lastI; omega) (by unfold lastI; omega) (by omega)
      (fun x hx hx1 => by
        have := rbest_ev d (l ++ [x]) (o.next (by omega) hx1)
        rw [List.length_append, List.length_singleton, show l.length + 1 + d = l.length + (d + 1) by omega] at this
        exact this)
theorem foldB_ge (f : Int → List Int × Int) : ∀ (n : Nat) (v : Int) (s : List Int × Int), s.2 ≤ (foldB f n v s).2
  | 0, v, s => Int.le_refl _
  | n + 1, v, s => by
    have := foldB_ge f n (v + 1) (pick s (f v))
    have : s.2 ≤ (pick s (f v)).2 := by unfold pick; split <;> omega
    rw [foldB]; omega
theorem bestR_len (h : Int) : ∀ (d : Nat) (l : List Int), (bestR h d l).1.length ≤ l.length + d
  | 0, l => Nat.le_refl _
  | d + 1, l => by
    have key : ∀ (n : Nat) (v : Int) (s : List Int × Int), s.1.length ≤ l.length + (d + 1) → (foldB (fun x => bestR h d (l ++ [x])) n v s).1.length ≤ l.length + (d + 1) := by
      intro n
      induction n with
      | zero => exact fun v s hs => hs
      | succ n ih =>
        intro v s hs
        rw [foldB]
        refine ih _ _ ?_
        unfold pick
        split
        · have := bestR_len h d (l ++ [v])
          simp at this
          omega
        · exact hs
    rw [bestR]
    exact key _ _ _ (by simp)
theorem range_snoc {h : Int} {d : Nat} {l : List Int} (o : OkB h (d + 1) l) {x : Int} (h0 : lastI l < x) (h1 : x ≤ (rangeI h l : Int) + 1) : x ≤ (rangeI h (l ++ [x]) : Int) := by
  have o' := (o.next h0 h1).t
  have hr := range_le o.t
  have ht := o.t.top
  have ht' := o'.top
  have hla := lastI_snoc l x
  unfold lastI at hla h0
  rw [hla] at ht'
  have hl := o.t.last
  have hh := o.t.h
  have m1 : h * rd l ((l.length - 1 : Nat) : Int) ≤ h * x := Int.mul_le_mul_of_nonneg_left (by omega) (by omega)
  have m2 : 1 * x ≤ h * x := Int.mul_le_mul_of_nonneg_right (by omega) (by omega)
  have := range_ge o' (n := x.toNat) (by omega) (fun a ha => by
    by_cases c : a ≤ rangeI h l
    · exact (pays_more o.t o' (Int.le_refl h) (fun v hv => List.mem_append_left _ hv) (by omega) (by omega) (by omega) (range_pays o.t c)).1
    · have : (a : Int) = x := by omega
      rw [this]
      exact pays_one o' (by simp) (by omega))
  omega
theorem bestR_pos {h : Int} : ∀ (d : Nat) (l : List Int), OkB h d l → lastI l ≤ (rangeI h l : Int) → 1 ≤ (bestR h d l).2
  | 0, l, o, hr => by
    have hl := o.t.last
    unfold lastI at hr
    show 1 ≤ (rangeI h l : Int)
    omega
  | d + 1, l, o, hr => by
    have ih := bestR_pos d (l ++ [lastI l + 1]) (o.next (by omega) (by omega)) (by rw [lastI_snoc]; exact range_snoc o (by omega) (by omega))
    rw [bestR, show ((rangeI h l : Int) + 1 - lastI l).toNat = ((rangeI h l : Int) - lastI l).toNat + 1 by omega, foldB]
    have hge := foldB_ge (fun x => bestR h d (l ++ [x])) ((rangeI h l : Int) - lastI l).toNat (lastI l + 1 + 1) (pick ([], -1) (bestR h d (l ++ [lastI l + 1])))
    have : 1 ≤ (pick ([], -1) (bestR h d (l ++ [lastI l + 1]))).2 := by
      unfold pick
      rw [if_pos (show (-1 : Int) < (bestR h d (l ++ [lastI l + 1])).2 by omega)]
      exact ih
    exact Int.le_trans this hge
def bstI (h m : Int) : List Int × Int × Int := if h < 1 ∨ h > 6 ∨ m < 1 ∨ m > 4 ∨ wrap64 (h * m) > 16 then ([], 0, 2) else ((bestR h (m - 1).toNat [1]).1, (bestR h (m - 1).toNat [1]).2, 0)
theorem cap_one (h m : Int) (hh : 1 ≤ h ∧ h ≤ 6) (hm : 1 ≤ m ∧ m ≤ 4) (c : ¬ wrap64 (h * m) > 16) : OkB h (m - 1).toNat [1] ∧ (rangeI h [1] : Int) = h := by
  have o : OkT h [1] := ⟨hh, by simp, fun v hv => by rw [List.mem_singleton] at hv; omega⟩
  have h1 : h = 1 ∨ h = 2 ∨ h = 3 ∨ h = 4 ∨ h = 5 ∨ h = 6 := by omega
  have m1 : m = 1 ∨ m = 2 ∨ m = 3 ∨ m = 4 := by omega
  refine ⟨⟨o, by simp; omega, ?_⟩, ?_⟩
  · have hla : lastI [1] = 1 := rfl
    rw [hla]
    clear o
    rcases h1 with rfl | rfl | rfl | rfl | rfl | rfl <;> rcases m1 with rfl | rfl | rfl | rfl <;> first
      | exact absurd (by decide +kernel) c
      | (simp [Cap]; done)
  · clear o
    rcases h1 with rfl | rfl | rfl | rfl | rfl | rfl <;> decide +kernel
theorem best_both (h m : Int) : Ev (fun k => stamp_Best.f k h m) (bstI h m) ∧ Ev (fun k => trishawref04_Best.f k h m) (bstI h m) := by
  unfold stamp_Best.f trishawref04_Best.f bstI
  by_cases c1 : h < 1
  · simp only [if_pos c1, if_pos (show h < 1 ∨ h > 6 ∨ m < 1 ∨ m > 4 ∨ wrap64 (h * m) > 16 from .inl c1)]
    exact ⟨Ev.pure _, Ev.pure _⟩
  · by_cases c2 : h > 6
    · simp only [if_neg c1, if_pos c2, if_pos (show h < 1 ∨ h > 6 ∨ m < 1 ∨ m > 4 ∨ wrap64 (h * m) > 16 from .inr (.inl c2))]
      exact ⟨Ev.pure _, Ev.pure _⟩
    · by_cases c3 : m < 1
      · simp only [if_neg c1, if_neg c2, if_pos c3, if_pos (show h < 1 ∨ h > 6 ∨ m < 1 ∨ m > 4 ∨ wrap64 (h * m) > 16 from .inr (.inr (.inl c3)))]
        exact ⟨Ev.pure _, Ev.pure _⟩
      · by_cases c4 : m > 4
        · simp only [if_neg c1, if_neg c2, if_neg c3, if_pos c4, if_pos (show h < 1 ∨ h > 6 ∨ m < 1 ∨ m > 4 ∨ wrap64 (h * m) > 16 from .inr (.inr (.inr (.inl c4))))]
          exact ⟨Ev.pure _, Ev.pure _⟩
        · by_cases c5 : wrap64 (h * m) > 16
          · simp only [if_neg c1, if_neg c2, if_neg c3, if_neg c4, if_pos c5, if_pos (show h < 1 ∨ h > 6 ∨ m < 1 ∨ m > 4 ∨ wrap64 (h * m) > 16 from .inr (.inr (.inr (.inr c5))))]
            exact ⟨Ev.pure _, Ev.pure _⟩
          · obtain ⟨o, hr⟩ := cap_one h m ⟨by omega, by omega⟩ ⟨by omega, by omega⟩ c5
            have hb := bestR_pos _ _ o (by rw [hr]; show (1 : Int) ≤ h; omega)
            have hk : ((([1] : List Int).length + (m - 1).toNat : Nat) : Int) = m := by simp; omega
            have e1 := on_ev (m - 1).toNat [1] ([], 0) o (by decide)
            have e2 := rbest_ev (m - 1).toNat [1] o
            rw [hk] at e1 e2
            have p1 : pick ([], 0) (bestR h (m - 1).toNat [1]) = bestR h (m - 1).toNat [1] := by unfold pick; rw [if_pos (show (0 : Int) < (bestR h (m - 1).toNat [1]).2 by omega)]
            rw [p1] at e1
            have c6 : ¬ (h < 1 ∨ h > 6 ∨ m < 1 ∨ m > 4 ∨ wrap64 (h * m) > 16) := fun q => by rcases q with q | q | q | q | q <;> first | exact c1 q | exact c2 q | exact c3 q | exact c4 q | exact c5 q
            simp only [if_neg c1, if_neg c2, if_neg c3, if_neg c4, if_neg c5, if_neg c6]
            refine ⟨Ev.bind e1 (Ev.pure _), ?_⟩
            have e3 := rbest_loop (h := h) (kk := m) (l := []) 1 (by decide) (by decide) (fun x => bestR h (m - 1).toNat ([] ++ [x])) 1 1 ([], -1) (by decide) (by decide) (.inl (by decide)) (fun x hx hx1 => by
              obtain rfl : x = 1 := by omega
              exact e2)
            have p2 : foldB (fun x => bestR h (m - 1).toNat ([] ++ [x])) 1 1 ([], -1) = bestR h (m - 1).toNat [1] := by
              show pick ([], -1) (bestR h (m - 1).toNat [1]) = _
              unfold pick
              rw [if_pos (show (-1 : Int) < (bestR h (m - 1).toNat [1]).2 by omega)]
            rw [p2] at e3
            have e4 : Ev (fun k => trishawref04_best.f k h m []) (bestR h (m - 1).toNat [1]) := by
              refine Ev.succ ?_
              simp only [trishawref04_best.f, if_neg (show ¬ ((([] : List Int).length : Int) = m) by simp; omega), if_true]
              exact e3
            exact Ev.bind e4 (Ev.pure _)
theorem bstI_len (h m : Int) : (bstI h m).1.length ≤ 1000 := by
  unfold bstI
  by_cases c : h < 1 ∨ h > 6 ∨ m < 1 ∨ m > 4 ∨ wrap64 (h * m) > 16
  · rw [if_pos c]; simp
  · rw [if_neg c]
    have := bestR_len h (m - 1).toNat [1]
    have hm : ¬ m > 4 := fun q => c (.inr (.inr (.inr (.inl q))))
    simp only [List.length_singleton] at this
    show (bestR h (m - 1).toNat [1]).1.length ≤ 1000
    clear c
    omega
theorem StampBest_ex (h m : Int) : ∃ k, trishawlaw04_StampBest.f k h m = some true := by
  refine Ev.ex ?_
  unfold trishawlaw04_StampBest.f
  obtain ⟨e1, e2⟩ := best_both h m
  refine Ev.bind e1 (Ev.bind e2 (Ev.bind (same_ev _ (by have := bstI_len h m; omega)) ?_))
  simp only [if_true]
  exact alive_ev'
end Go.Proofs.Ythbalcbibmdpnaa.OAll
