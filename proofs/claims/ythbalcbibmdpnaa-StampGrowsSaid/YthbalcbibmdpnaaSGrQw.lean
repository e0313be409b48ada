/- A part of the proof of 'stampGrows_holds', for every input, without a condition. -/
import Derived.Test.YthbalcbibmdpnaaSGrQu
import Derived.Test.YthbalcbibmdpnaaSGrOAllx0
import Derived.Test.YthbalcbibmdpnaaSGrOAllx3
import Derived.Test.YthbalcbibmdpnaaSGrRq
import Derived.Test.YthbalcbibmdpnaaSGrOAllx2
import Derived.Test.YthbalcbibmdpnaaSGrOAllx8
import Derived.Test.YthbalcbibmdpnaaSGrOAllx15
namespace Go.Proofs.Ythbalcbibmdpnaa.OAll
open Go.RowKit Go.Proofs.YthbalcbibmdpnaaW.PrintWords Go.Proofs.YthbalcbibmdpnaaW.PrintLast Go.Proofs.YthbalcbibmdpnaaW.PrintMore
set_option linter.unusedVariables false
set_option linter.unusedSimpArgs false
theorem at_lt (x : Int) : ∀ (l : List Int), l.Pairwise (· < ·) → ∀ j : Nat, j < l.length → (rd l (j : Int) < x ↔ j < atI x l)
  | [], _, j, h => by simp at h
  | y :: t, hp, j, h => by
    obtain ⟨h1, h2⟩ := List.pairwise_cons.mp hp
    cases j with
    | zero =>
      have e : rd (y :: t) ((0 : Nat) : Int) = y := rfl
      rw [e, atI]
      split <;> omega
    | succ j =>
      have ih := at_lt x t h2 j (by simp at h; omega)
      rw [rd_cons, atI]
      split
      · omega
      · have : y < rd t (j : Int) := h1 _ (rd_mem (by simp at h; omega))
        omega
theorem at_mem {x : Int} {l : List Int} (a : Asc l) : x ∈ l ↔ atI x l < l.length ∧ rd l (atI x l : Int) = x := by
  have hp := asc_pair a
  constructor
  · intro hx
    obtain ⟨j, hj, e⟩ := mem_rd hx
    have h1 := at_lt x l hp j hj
    have h2 : ¬ atI x l < j := fun hlt => by
      have := a.lt j (atI x l) hlt hj
      have := (at_lt x l hp (atI x l) (by omega)).1 (by omega)
      omega
    have h3 : j = atI x l := by omega
    rw [← h3]
    exact ⟨hj, e.symm⟩
  · rintro ⟨h1, h2⟩
    have := rd_mem h1
    rw [h2] at this
    exact this
theorem less_ev (a b : Int) : cmp_Less_int.f a b = some (decide (a < b)) := by
  have h : cmp_isNaN_int.f a = some false := by
    unfold cmp_isNaN_int.f
    simp
  unfold cmp_Less_int.f
  rw [h, Option.bind_some, if_neg (by simp)]
theorem search_loop {l : List Int} (a : Asc l) (x : Int) : ∀ (n lo hi : Nat), hi - lo = n → lo ≤ atI x l → atI x l ≤ hi → hi ≤ l.length →
    Ev (fun k => slices_BinarySearch_int_int.l0 k l x (l.length : Int) (lo : Int) (hi : Int)) ((atI x l : Int), decide (x ∈ l)) := by
  intro n
  induction n using Nat.strongRecOn with
  | _ n ih =>
  intro lo hi hn h1 h2 h3
  have hl := a.len
  have hp := asc_pair a
  refine Ev.succ ?_
  by_cases c : lo < hi
  · obtain ⟨m, hm⟩ : ∃ m, m = (lo + hi) / 2 := ⟨_, rfl⟩
    have hmid : wrap64 ((IntKind.u64.wrap (wrap64 ((lo : Int) + (hi : Int)))) / 2) = (m : Int) := by
      have e1 : wrap64 ((lo : Int) + (hi : Int)) = ((lo + hi : Nat) : Int) := by rw [w64 (by omega) (by omega)]; omega
      have e2 : IntKind.u64.wrap ((lo + hi : Nat) : Int) = ((lo + hi : Nat) : Int) := by
        have : (lo + hi) ≤ 100 := by omega
        rw [IntKind.wrap_u64]; omega
      rw [e1, e2, w64 (by omega) (by omega)]
      omega
    have HM := Aside0.mk hmid
    clear hmid
    have hw : wrap64 ((m : Int) + 1) = ((m + 1 : Nat) : Int) := w64s m (by omega)
    have HW := Aside0.mk hw
    clear hw
    simp only [slices_BinarySearch_int_int.l0, HM.out, HW.out]
    simp only [if_pos (show (lo : Int) < (hi : Int) by omega), if_pos (show (0 : Int) ≤ (m : Int) by omega), if_pos (show (m : Int) < (l.length : Int) by omega), less_ev, Option.bind_some]
    have hm1 := at_lt x l hp m (by omega)
    by_cases c2 : rd l (m : Int) < x
    · simp only [decide_eq_true c2, if_true]
      exact ih (hi - (m + 1)) (by omega) (m + 1) hi rfl (by omega) h2 h3
    · simp only [decide_eq_false c2, Bool.false_eq_true, if_false]
      exact ih (m - lo) (by omega) lo m rfl h1 (by omega) (by omega)
  · have e : lo = atI x l := by omega
    subst e
    have hm := at_mem (x := x) a
    simp only [slices_BinarySearch_int_int.l0, if_neg (show ¬ ((atI x l : Nat) : Int) < (hi : Int) by omega)]
    by_cases c2 : atI x l < l.length
    · simp only [if_pos (show ((atI x l : Nat) : Int) < (l.length : Int) by omega), if_pos (show (0 : Int) ≤ ((atI x l : Nat) : Int) by omega)]
      by_cases c3 : rd l (atI x l : Int) = x
      · simp only [if_pos c3]
        rw [decide_eq_true (hm.2 ⟨c2, c3⟩)]
        exact Ev.pure _
      · have hnan : slices_isNaN_int.f (rd l (atI x l : Int)) = some false := by unfold slices_isNaN_int.f; simp
        simp only [if_neg c3, hnan, Option.bind_some, Bool.false_eq_true, if_false]
        rw [decide_eq_false (fun q => c3 (hm.1 q).2)]
        exact Ev.pure _
    · simp only [if_neg (show ¬ ((atI x l : Nat) : Int) < (l.length : Int) by omega)]
      rw [decide_eq_false (fun q => c2 (hm.1 q).1)]
      exact Ev.pure _
theorem search_ev {l : List Int} (a : Asc l) (x : Int) : Ev (fun k => slices_BinarySearch_int_int.f k l x) ((atI x l : Int), decide (x ∈ l)) :=
  search_loop a x _ 0 l.length rfl (Nat.zero_le _) (atI_le x l) (Nat.le_refl _)
def nxS (h : Int) (l : List Int) (s : Int × Int) (v : Int) : Int × Int := if v ∈ l then s else if s.2 < (rangeI h (insI v l) : Int) then (v, (rangeI h (insI v l) : Int)) else s
def nxF (h : Int) (l : List Int) : Nat → Int → Int × Int → Int × Int
  | 0, _, s => s
  | n + 1, v, s => nxF h l n (v + 1) (nxS h l s v)
theorem next_loop {h : Int} {l : List Int} (hh : 1 ≤ h ∧ h ≤ 6) (a : Asc l) (hl : l.length ≤ 5) : ∀ (n : Nat) (v : Int) (s : Int × Int), 1 ≤ v → v + (n : Int) = 201 →
    Ev (fun k => stamp_Next.l0 k h l s.1 s.2 v) (nxF h l n v s)
  | 0, v, s, h1, h2 => by
    refine Ev.succ ?_
    simp only [stamp_Next.l0, if_neg (show ¬ v ≤ 200 by omega)]
    exact Ev.pure _
  | n + 1, v, s, h1, h2 => by
    have hw : wrap64 (v + 1) = v + 1 := w64 (by omega) (by omega)
    have HW := Aside0.mk hw
    clear hw
    have ih := next_loop hh a hl n (v + 1) (nxS h l s v) (by omega) (by omega)
    have hat := atI_le v l
    refine Ev.succ ?_
    simp only [stamp_Next.l0, HW.out]
    simp only [if_pos (show v ≤ 200 by omega)]
    refine Ev.bind (search_ev a v) ?_
    rw [nxF]
    by_cases c : v ∈ l
    · simp only [decide_eq_true c, if_true]
      rw [nxS, if_pos c] at ih ⊢
      exact ih
    · have o' := okT_of hh (asc_ins a hl (by omega) c)
      simp only [decide_eq_false c, Bool.false_eq_true, if_false, Int.toNat_natCast]
      simp only [if_pos (show (0 : Int) ≤ ((atI v l : Nat) : Int) ∧ ((atI v l : Nat) : Int) ≤ (l.length : Int) by omega)]
      refine Ev.bind (reach_ev o') ?_
      show Ev (fun k => if s.2 < (rangeI h (insI v l) : Int) then stamp_Next.l0 k h l v (rangeI h (insI v l) : Int) (v + 1) else stamp_Next.l0 k h l s.1 s.2 (v + 1)) _
      by_cases c2 : s.2 < (rangeI h (insI v l) : Int)
      · simp only [if_pos c2]
        rw [nxS, if_neg c, if_pos c2] at ih ⊢
        exact ih
      · simp only [if_neg c2]
        rw [nxS, if_neg c, if_neg c2] at ih ⊢
        exact ih
def nxI (h : Int) (l : List Int) : Int × Int := nxF h l 200 1 (0, -1)
def nextI (h : Int) (l : List Int) : Int × Int × Int := if tickI h l = 0 then (if (l.length : Int) = 6 then (0, 0, 8) else ((nxI h l).1, (nxI h l).2, 0)) else (0, 0, tickI h l)
theorem next_ev (h : Int) (l : List Int) : Ev (fun k => stamp_Next.f k h l) (nextI h l) := by
  unfold stamp_Next.f nextI
  refine Ev.bind (read_ev h l) ?_
  by_cases c : tickI h l = 0
  · simp only [if_pos c]
    obtain ⟨o, hok⟩ := tickI_zero c
    by_cases c2 : (l.length : Int) = 6
    · simp only [if_pos c2]; exact Ev.pure _
    · have hl := o.len
      simp only [if_neg c2, if_pos (show 1 ≤ l.length ∧ l.length ≤ 100 by omega)]
      exact Ev.bind (next_loop o.h ⟨o.len, hok⟩ (by omega) 200 1 (0, -1) (by omega) (by omega)) (Ev.pure _)
  · simp only [if_neg c]
    exact Ev.pure _
def NxInv (h : Int) (l : List Int) (m : Int) (s : Int × Int) : Prop :=
  (s.2 = -1 ∧ ∀ y, 1 ≤ y → y ≤ m → y ∈ l) ∨ (1 ≤ s.1 ∧ s.1 ≤ m ∧ s.1 ∉ l ∧ s.2 = (rangeI h (insI s.1 l) : Int) ∧ ∀ y, 1 ≤ y → y ≤ m → y ∉ l → (rangeI h (insI y l) : Int) ≤ s.2 ∧ ((rangeI h (insI y l) : Int) = s.2 → s.1 ≤ y))
theorem nx_inv {h : Int} {l : List Int} : ∀ (n : Nat) (v : Int) (s : Int × Int), 1 ≤ v → NxInv h l (v - 1) s → NxInv h l (v + (n : Int) - 1) (nxF h l n v s)
  | 0, v, s, hv, hs => by rw [show v + ((0 : Nat) : Int) - 1 = v - 1 by omega]; exact hs
  | n + 1, v, s, hv, hs => by
    rw [nxF, show v + ((n + 1 : Nat) : Int) - 1 = v + 1 + (n : Int) - 1 by omega]
    refine nx_inv n (v + 1) _ (by omega) ?_
    rw [show v + 1 - 1 = v by omega, nxS]
    by_cases c : v ∈ l
    · rw [if_pos c]
      rcases hs with ⟨h1, h2⟩ | ⟨h1, h2, h3, h4, h5⟩
      · refine .inl ⟨h1, fun y y1 y2 => ?_⟩
        by_cases e : y = v
        · rw [e]; exact c
        · exact h2 y y1 (by omega)
      · refine .inr ⟨h1, by omega, h3, h4, fun y y1 y2 yn => h5 y y1 ?_ yn⟩
        have : y ≠ v := fun e => yn (e ▸ c)
        omega
    · rw [if_neg c]
      by_cases c2 : s.2 < (rangeI h (insI v l) : Int)
      · rw [if_pos c2]
        refine .inr ⟨hv, Int.le_refl v, c, rfl, fun y y1 y2 yn => ?_⟩
        by_cases e : y = v
        · rw [e]; exact ⟨Int.le_refl _, fun _ => Int.le_refl _⟩
        · rcases hs with ⟨h1, h2⟩ | ⟨h1, h2, h3, h4, h5⟩
          · exact absurd (h2 y y1 (by omega)) yn
          · have := (h5 y y1 (by omega) yn).1
            show (rangeI h (insI y l) : Int) ≤ (rangeI h (insI v l) : Int) ∧ ((rangeI h (insI y l) : Int) = (rangeI h (insI v l) : Int) → v ≤ y)
            omega
      · rw [if_neg c2]
        rcases hs with ⟨h1, h2⟩ | ⟨h1, h2, h3, h4, h5⟩
        · omega
        · refine .inr ⟨h1, by omega, h3, h4, fun y y1 y2 yn => ?_⟩
          by_cases e : y = v
          · rw [e]; exact ⟨by omega, fun _ => by omega⟩
          · exact h5 y y1 (by omega) yn
theorem at_step {x : Int} {l : List Int} (a : Asc l) (hx : x ∈ l) : atI x l < atI (x + 1) l := by
  obtain ⟨h1, h2⟩ := (at_mem a).1 hx
  exact (at_lt (x + 1) l (asc_pair a) _ h1).1 (by omega)
theorem some_out {l : List Int} (a : Asc l) (hl : l.length ≤ 5) : ∃ y : Int, 1 ≤ y ∧ y ≤ 6 ∧ y ∉ l := by
  by_cases c : ∃ y : Int, 1 ≤ y ∧ y ≤ 6 ∧ y ∉ l
  · exact c
  · exfalso
    have all : ∀ y : Int, 1 ≤ y → y ≤ 6 → y ∈ l := fun y y1 y2 => by
      by_cases q : y ∈ l
      · exact q
      · exact absurd ⟨y, y1, y2, q⟩ c
    have h1 := at_step a (all 1 (by omega) (by omega))
    have h2 := at_step a (all 2 (by omega) (by omega))
    have h3 := at_step a (all 3 (by omega) (by omega))
    have h4 := at_step a (all 4 (by omega) (by omega))
    have h5 := at_step a (all 5 (by omega) (by omega))
    have h6 := at_step a (all 6 (by omega) (by omega))
    have h7 := atI_le (6 + 1) l
    simp only [show (1 : Int) + 1 = 2 from rfl, show (2 : Int) + 1 = 3 from rfl, show (3 : Int) + 1 = 4 from rfl, show (4 : Int) + 1 = 5 from rfl, show (5 : Int) + 1 = 6 from rfl] at h1 h2 h3 h4 h5 h6 h7
    omega
structure IsNext (h : Int) (l : List Int) (x n : Int) : Prop where
  val : 1 ≤ x ∧ x ≤ 200
  out : x ∉ l
  num : n = (rangeI h (insI x l) : Int)
  best : ∀ y, 1 ≤ y → y ≤ 200 → y ∉ l → (rangeI h (insI y l) : Int) ≤ n ∧ ((rangeI h (insI y l) : Int) = n → x ≤ y)
theorem nx_is {h : Int} {l : List Int} (a : Asc l) (hl : l.length ≤ 5) : IsNext h l (nxI h l).1 (nxI h l).2 := by
  obtain ⟨y, y1, y2, yn⟩ := some_out a hl
  have := nx_inv (h := h) (l := l) 200 1 (0, -1) (by omega) (.inl ⟨rfl, fun y h1 h2 => by omega⟩)
  rw [show (1 : Int) + ((200 : Nat) : Int) - 1 = 200 by omega] at this
  rcases this with ⟨_, h2⟩ | ⟨h1, h2, h3, h4, h5⟩
  · exact absurd (h2 y y1 (by omega)) yn
  · exact ⟨⟨h1, h2⟩, h3, h4, h5⟩
theorem nx_grows {h : Int} {l : List Int} (o : OkT h l) (a : Asc l) (hl : l.length ≤ 5) {x n : Int} (i : IsNext h l x n) : (rangeI h l : Int) ≤ n ∧ ((rangeI h l : Int) < 200 → (rangeI h l : Int) < n) := by
  have hh := o.h
  have hs : ∀ (y : Int), ∀ v ∈ l, v ∈ insI y l := fun y v hv => insI_mem.mpr (.inr hv)
  have ax := asc_ins a hl i.val i.out
  have ox := okT_of hh ax
  have h1 := range_more o ox (Int.le_refl h) (hs x) (top_more o ox ax (Int.le_refl h) (hs x))
  refine ⟨by rw [i.num]; omega, fun hlt => ?_⟩
  have hr := range_le o
  obtain ⟨y, hy⟩ : ∃ y : Int, y = (rangeI h l : Int) + 1 := ⟨_, rfl⟩
  have yn : y ∉ l := fun hm => by
    have hle := asc_last a y hm
    have ht := o.top
    have hla := o.last
    have m1 : 1 * rd l ((l.length - 1 : Nat) : Int) ≤ h * rd l ((l.length - 1 : Nat) : Int) := Int.mul_le_mul_of_nonneg_right (by omega) (by omega)
    have hst := range_stop o (by omega)
    have hp := pays_one o hm (by omega)
    rw [hy, show (rangeI h l : Int) + 1 = ((rangeI h l + 1 : Nat) : Int) by omega] at hp
    omega
  have ay := asc_ins a hl (x := y) (by omega) yn
  have oy := okT_of hh ay
  have hty := top_more o oy ay (Int.le_refl h) (hs y)
  have hym : y ∈ insI y l := insI_mem.mpr (.inl rfl)
  have hyl := asc_last ay y hym
  have hto := oy.top
  have hla := oy.last
  have m1 : 1 * rd (insI y l) (((insI y l).length - 1 : Nat) : Int) ≤ h * rd (insI y l) (((insI y l).length - 1 : Nat) : Int) := Int.mul_le_mul_of_nonneg_right (by omega) (by omega)
  have hg := range_ge oy (n := rangeI h l + 1) (by omega) (fun b hb => by
    by_cases c : b ≤ rangeI h l
    · exact (pays_more o oy (Int.le_refl h) (hs y) (by omega) (by omega) (by omega) (range_pays o c)).1
    · have : (b : Int) = y := by omega
      rw [this]
      exact pays_one oy hym (by omega))
  have := (i.best y (by omega) (by omega) yn).1
  omega
theorem grows_j2 {h : Int} {l : List Int} (o : OkT h l) (a : Asc l) (hl : l.length ≤ 5) (z : Int) (hz : 0 ≤ z ∧ z ≤ 255) {x n : Int} (i : IsNext h l x n) : Ev (fun k => trishawlaw04_StampGrows.j2 k h l z x n false) true := by
  have hh := o.h
  have hwy : wrap64 z = z := w64 (by omega) (by omega)
  have HWY := Aside0.mk hwy
  clear hwy
  obtain ⟨t, ht⟩ : ∃ t, t = Int.tmod z 200 := ⟨_, rfl⟩
  have ht2 : 0 ≤ t ∧ t < 200 := by
    rw [ht, Int.tmod_eq_emod_of_nonneg hz.1]
    omega
  have hw : wrap64 (1 + t) = 1 + t := w64 (by omega) (by omega)
  have HW := Aside0.mk hw
  clear hw
  refine Ev.succ ?_
  simp only [trishawlaw04_StampGrows.j2, Bool.false_eq_true, if_false, HWY.out, ← ht, HW.out]
  refine Ev.bind (in_ev l (1 + t) (by omega)) ?_
  by_cases c : (1 + t) ∈ l
  · simp only [decide_eq_true c, if_true]
    exact alive_ev'
  · have a' := asc_ins a hl (x := 1 + t) (by omega) c
    have e1 := range_ev h (insI (1 + t) l)
    unfold rngI at e1
    rw [if_pos (tick_of hh a')] at e1
    have hb := i.best (1 + t) (by omega) (by omega) c
    simp only [decide_eq_false c, Bool.false_eq_true, if_false]
    refine Ev.bind (with_ev l (1 + t) (by omega)) (Ev.bind e1 ?_)
    simp only [if_true, if_pos hb.1]
    by_cases c2 : (rangeI h (insI (1 + t) l) : Int) < n
    · simp only [if_pos c2]
      exact alive_ev'
    · have := hb.2 (by omega)
      simp only [if_neg c2, if_pos (show 1 + t ≥ x by omega)]
      exact alive_ev'
theorem StampGrows_ev (h : Int) (l : List Int) (z : Int) (hz : 0 ≤ z ∧ z ≤ 255) : Ev (fun k => trishawlaw04_StampGrows.f k h l z) true := by
  unfold trishawlaw04_StampGrows.f
  by_cases c1 : (l.length : Int) > 30
  · simp only [if_pos c1]
    refine Ev.succ ?_
    simp only [trishawlaw04_StampGrows.j0, if_true]
    exact alive_ev'
  · simp only [if_neg c1]
    refine Ev.bind (ticket_ev h l) ?_
    refine Ev.succ ?_
    simp only [trishawlaw04_StampGrows.j0]
    by_cases c : tickI h l = 0
    · have hne : (tickI h l != 0) = false := bne_eq_false_iff_eq.mpr c
      obtain ⟨o, hok⟩ := tickI_zero c
      have a : Asc l := ⟨o.len, hok⟩
      have hl := a.len
      have e0 := next_ev h l
      unfold nextI at e0
      rw [if_pos c] at e0
      simp only [hne, Bool.false_eq_true, if_false]
      by_cases c2 : (l.length : Int) = 6
      · rw [if_pos c2] at e0
        refine Ev.bind e0 ?_
        have hw : wrap64 ((0 : Int) + 0) = 0 := by rw [w64 (by omega) (by omega)]; rfl
        simp only [if_pos c2, if_true, hw]
        exact alive_ev'
      · rw [if_neg c2] at e0
        have i := nx_is (h := h) a (by omega)
        have ⟨g1, g2⟩ := nx_grows o a (by omega) i
        have e1 := range_ev h l
        unfold rngI at e1
        rw [if_pos c] at e1
        have a' := asc_ins a (by omega) i.val i.out
        have e2 := range_ev h (insI (nxI h l).1 l)
        unfold rngI at e2
        rw [if_pos (tick_of o.h a')] at e2
        obtain ⟨x, hx⟩ : ∃ x, x = (nxI h l).1 := ⟨_, rfl⟩
        obtain ⟨n, hn⟩ : ∃ n, n = (nxI h l).2 := ⟨_, rfl⟩
        rw [← hx] at e0 e2 i a'
        rw [← hn] at e0 i g1 g2
        have ix := i.val
        refine Ev.bind e0 ?_
        simp only [if_neg c2, if_true, if_neg (show ¬ x < 1 by omega), if_neg (show ¬ x > 200 by omega)]
        refine Ev.bind (in_ev l x (by omega)) ?_
        rw [decide_eq_false i.out]
        refine Ev.succ ?_
        simp only [trishawlaw04_StampGrows.j1, Bool.false_eq_true, if_false]
        refine Ev.bind e1 (Ev.bind (with_ev l x (by omega)) (Ev.bind e2 ?_))
        simp only [if_true, if_pos i.num.symm, if_neg (show ¬ n < (rangeI h l : Int) by omega)]
        by_cases c3 : (rangeI h l : Int) < 200
        · have := g2 c3
          have hd : decide (n ≤ (rangeI h l : Int)) = false := decide_eq_false (by omega)
          simp only [if_pos c3, hd]
          exact grows_j2 o a (by omega) z hz i
        · simp only [if_neg c3]
          exact grows_j2 o a (by omega) z hz i
    · have hne : (tickI h l != 0) = true := bne_iff_ne.mpr c
      simp only [hne, if_true]
      exact alive_ev'
theorem StampGrows_ex (h : Int) (l : List Int) (y : Int) (hy : (Lit.int .u8 y).wf = true) : ∃ k, trishawlaw04_StampGrows.f k h l y = some true := by
  have h1 : IntKind.u8.min = 0 := by decide
  have h2 : IntKind.u8.max = 255 := by decide
  simp [Lit.wf, h1, h2] at hy
  exact (StampGrows_ev h l y (by omega)).ex
end Go.Proofs.Ythbalcbibmdpnaa.OAll
