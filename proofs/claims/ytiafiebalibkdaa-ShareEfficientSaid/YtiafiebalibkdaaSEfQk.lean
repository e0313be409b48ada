/- A part of the proof of 'shareEfficient_holds', for every input, without a condition. -/
import Derived.Test.YtiafiebalibkdaaSEfQj
namespace Go.Proofs.Ytiafiebalibkdaa.OAll
open Go.RowKit Go.Proofs.YtiafiebalibkdaaW.PrintWords Go.Proofs.YtiafiebalibkdaaW.PrintLast Go.Proofs.YtiafiebalibkdaaW.PrintMore
set_option linter.unusedVariables false
set_option linter.unusedSimpArgs false
def dotL : List S78 → List Int → Int
  | [], _ => 0
  | x :: t, l => x.f0.f0 * rd l x.f1 + dotL t l
def dotM (D : Int) : List S78 → List Int → Int
  | [], _ => 0
  | x :: t, l => x.f0.f1 * (D - rd l x.f1) + dotM D t l
theorem dotL_perm (l : List Int) {s t : List S78} (h : s.Perm t) : dotL s l = dotL t l := by
  induction h with
  | nil => rfl
  | cons x _ ih => simp only [dotL, ih]
  | swap x y l => simp only [dotL]; omega
  | trans _ _ h1 h2 => exact h1.trans h2
theorem dotM_perm (D : Int) (l : List Int) {s t : List S78} (h : s.Perm t) : dotM D s l = dotM D t l := by
  induction h with
  | nil => rfl
  | cons x _ ih => simp only [dotM, ih]
  | swap x y l => simp only [dotM]; omega
  | trans _ _ h1 h2 => exact h1.trans h2
theorem dotL_ordIn : ∀ (Z : List S76) (l pre : List Int), l.length = Z.length → dotL (ordIn pre.length Z) (pre ++ l) = dotA Z l
  | [], l, pre, _ => by simp [ordIn, dotL, dotA]
  | z :: Z, x :: l, pre, h => by
    have ih := dotL_ordIn Z l (pre ++ [x]) (by simpa using h)
    have e : (pre ++ [x]).length = pre.length + 1 := by simp
    rw [e, ← mid_assoc] at ih
    rw [ordIn, dotL, dotA, ih]
    have : rd (pre ++ x :: l) (pre.length : Int) = x := rd_mid _ _ _
    rw [this]
  | z :: Z, [], _, h => by simp at h
theorem dotM_ordIn (D : Int) : ∀ (Z : List S76) (l pre : List Int), l.length = Z.length → dotM D (ordIn pre.length Z) (pre ++ l) = dotB D Z l
  | [], l, pre, _ => by simp [ordIn, dotM, dotB]
  | z :: Z, x :: l, pre, h => by
    have ih := dotM_ordIn D Z l (pre ++ [x]) (by simpa using h)
    have e : (pre ++ [x]).length = pre.length + 1 := by simp
    rw [e, ← mid_assoc] at ih
    rw [ordIn, dotM, dotB, ih]
    have : rd (pre ++ x :: l) (pre.length : Int) = x := rd_mid _ _ _
    rw [this]
  | z :: Z, [], _, h => by simp at h
theorem dotL_append (l : List Int) : ∀ s t : List S78, dotL (s ++ t) l = dotL s l + dotL t l
  | [], t => by simp [dotL]
  | x :: s, t => by simp only [List.cons_append, dotL, dotL_append l s t]; omega
theorem dotM_append (D : Int) (l : List Int) : ∀ s t : List S78, dotM D (s ++ t) l = dotM D s l + dotM D t l
  | [], t => by simp [dotM]
  | x :: s, t => by simp only [List.cons_append, dotM, dotM_append D l s t]; omega
theorem dotL_const (l : List Int) (c : Int) : ∀ s : List S78, (∀ y ∈ s, rd l y.f1 = c) → dotL s l = sumA s * c
  | [], _ => by simp [dotL, sumA]
  | x :: s, h => by
    rw [dotL, sumA, h x List.mem_cons_self, dotL_const l c s fun y hy => h y (List.mem_cons_of_mem _ hy), Int.add_mul]
theorem dotM_const (D : Int) (l : List Int) (c : Int) : ∀ s : List S78, (∀ y ∈ s, rd l y.f1 = c) → dotM D s l = sumB s * (D - c)
  | [], _ => by simp [dotM, sumB]
  | x :: s, h => by
    rw [dotM, sumB, h x List.mem_cons_self, dotM_const D l c s fun y hy => h y (List.mem_cons_of_mem _ hy), Int.add_mul]
theorem term_le {α β A B D D' n n' : Int} (hD : 0 ≤ D) (hn : 0 ≤ n' ∧ n' ≤ D') (h1 : n < D → α * A ≤ β * B) (h2 : 0 < n → β * B ≤ α * A) (hb : 0 ≤ n ∧ n ≤ D) :
    D * (α * (A * n') + β * (B * (D' - n'))) ≤ D' * (α * (A * n) + β * (B * (D - n))) := by
  have key : 0 ≤ (α * A - β * B) * (D' * n - D * n') := by
    by_cases e1 : α * A = β * B
    · rw [e1, Int.sub_self, Int.zero_mul]; exact Int.le_refl _
    · by_cases e2 : β * B < α * A
      · have hnD : n = D := by
          by_cases hh : n < D
          · have := h1 hh; omega
          · omega
        rw [hnD]
        have : D' * D - D * n' = D * (D' - n') := by grind
        rw [this]
        exact Int.mul_nonneg (by omega) (Int.mul_nonneg hD (by omega))
      · have hn0 : n = 0 := by
          by_cases hh : 0 < n
          · have := h2 hh; omega
          · omega
        rw [hn0]
        have : (α * A - β * B) * (D' * 0 - D * n') = (β * B - α * A) * (D * n') := by grind
        rw [this]
        exact Int.mul_nonneg (by omega) (Int.mul_nonneg hD hn.1)
  have e : D' * (α * (A * n) + β * (B * (D - n))) - D * (α * (A * n') + β * (B * (D' - n'))) = (α * A - β * B) * (D' * n - D * n') := by grind
  omega
theorem sum_le {α β D D' : Int} (hD : 0 ≤ D) (N l : List Int) : ∀ t : List S78, (∀ x ∈ t, (rd N x.f1 < D → α * x.f0.f0 ≤ β * x.f0.f1) ∧ (0 < rd N x.f1 → β * x.f0.f1 ≤ α * x.f0.f0) ∧ (0 ≤ rd N x.f1 ∧ rd N x.f1 ≤ D) ∧ (0 ≤ rd l x.f1 ∧ rd l x.f1 ≤ D')) →
    D * (α * dotL t l + β * dotM D' t l) ≤ D' * (α * dotL t N + β * dotM D t N)
  | [], _ => by simp [dotL, dotM]
  | x :: t, h => by
    have hx := h x List.mem_cons_self
    have ih := sum_le hD N l t fun y hy => h y (List.mem_cons_of_mem _ hy)
    have h1 := term_le (α := α) (β := β) hD hx.2.2.2 hx.1 hx.2.1 hx.2.2.1
    simp only [dotL, dotM]
    have e1 : ∀ d u U v V : Int, d * (α * (u + U) + β * (v + V)) = d * (α * u + β * v) + d * (α * U + β * V) := by intros; grind
    rw [e1, e1]
    exact Int.add_le_add h1 ih
structure Cert (L : List S78) (N : List Int) (D S : Int) : Prop where
  d0 : 0 < D
  d200 : D ≤ 200
  bn : ∀ x ∈ N, 0 ≤ x ∧ x ≤ D
  sa : dotL L N = S
  sb : dotM D L N = S
  w : ∃ α β : Int, 0 ≤ α ∧ 0 ≤ β ∧ 0 < α + β ∧ ∀ x ∈ L, (rd N x.f1 < D → α * x.f0.f0 ≤ β * x.f0.f1) ∧ (0 < rd N x.f1 → β * x.f0.f1 ≤ α * x.f0.f0)
  ef : ∀ i ∈ L, ∀ k ∈ L, rd N i.f1 < D → 0 < rd N k.f1 → i.f0.f0 * k.f0.f1 ≤ k.f0.f0 * i.f0.f1
  k0 : ∀ i ∈ L, kindP i = 0 → rd N i.f1 = D
  k2 : ∀ i ∈ L, kindP i = 2 → rd N i.f1 = 0
  one : ∃ x ∈ L, ∀ y ∈ L, y.f1 ≠ x.f1 → rd N y.f1 = 0 ∨ rd N y.f1 = D
theorem rd_bnd {N : List Int} {D : Int} (hD : 0 ≤ D) (h : ∀ x ∈ N, 0 ≤ x ∧ x ≤ D) (i : Int) : 0 ≤ rd N i ∧ rd N i ≤ D := by
  simp only [rd, List.getD_eq_getElem?_getD]
  cases e : N[i.toNat]? with
  | none => exact ⟨Int.le_refl _, hD⟩
  | some x => exact h x (List.mem_of_getElem? e)
theorem Cert.best {L : List S78} {N : List Int} {D S : Int} (c : Cert L N D S) {l : List Int} {D' : Int} (hD' : 0 ≤ D') (hl : ∀ x ∈ l, 0 ≤ x ∧ x ≤ D') : ¬ (S * D' < dotL L l * D ∧ S * D' < dotM D' L l * D) := by
  rintro ⟨h1, h2⟩
  obtain ⟨α, β, hα, hβ, hs, hw⟩ := c.w
  have h := sum_le (α := α) (β := β) (Int.le_of_lt c.d0) N l L fun x hx => ⟨(hw x hx).1, (hw x hx).2, rd_bnd (Int.le_of_lt c.d0) c.bn _, rd_bnd hD' hl _⟩
  rw [c.sa, c.sb] at h
  have m1 := Int.mul_le_mul_of_nonneg_left (show S * D' + 1 ≤ dotL L l * D by omega) hα
  have m2 := Int.mul_le_mul_of_nonneg_left (show S * D' + 1 ≤ dotM D' L l * D by omega) hβ
  have e1 : D * (α * dotL L l + β * dotM D' L l) = α * (dotL L l * D) + β * (dotM D' L l * D) := by grind
  have e2 : D' * (α * S + β * S) = α * (S * D' + 1) + β * (S * D' + 1) - (α + β) := by grind
  omega
theorem Ord_ratio {x y : S78} (hx : Vl x) (hy : Vl y) (h : Ord x y) : y.f0.f0 * x.f0.f1 ≤ x.f0.f0 * y.f0.f1 := by
  rcases h with h | ⟨_, h⟩
  · have m := Int.mul_nonneg hx.1 hy.2.2.1
    rcases kind_val hx with ⟨k1, p1, q1⟩ | ⟨k1, p1, q1⟩ | ⟨k1, p1, q1⟩ | ⟨k1, p1, q1⟩ <;> rcases kind_val hy with ⟨k2, p2, q2⟩ | ⟨k2, p2, q2⟩ | ⟨k2, p2, q2⟩ | ⟨k2, p2, q2⟩ <;> first | omega | (rw [q1, Int.mul_zero]; exact m) | (rw [p2, Int.zero_mul]; exact m)
  · exact h
theorem sumA_append : ∀ s t : List S78, sumA (s ++ t) = sumA s + sumA t
  | [], t => by simp [sumA]
  | x :: s, t => by simp only [List.cons_append, sumA, sumA_append s t]; omega
theorem sumB_append : ∀ s t : List S78, sumB (s ++ t) = sumB s + sumB t
  | [], t => by simp [sumB]
  | x :: s, t => by simp only [List.cons_append, sumB, sumB_append s t]; omega
theorem sumA_nn : ∀ s : List S78, (∀ y ∈ s, Vl y) → 0 ≤ sumA s
  | [], _ => Int.le_refl _
  | x :: s, h => by
    have := sumA_nn s fun y hy => h y (List.mem_cons_of_mem _ hy)
    have := (h x List.mem_cons_self).1
    simp only [sumA]; omega
theorem sumB_nn : ∀ s : List S78, (∀ y ∈ s, Vl y) → 0 ≤ sumB s
  | [], _ => Int.le_refl _
  | x :: s, h => by
    have := sumB_nn s fun y hy => h y (List.mem_cons_of_mem _ hy)
    have := (h x List.mem_cons_self).2.2.1
    simp only [sumB]; omega
theorem sumB_mem : ∀ (s : List S78), (∀ y ∈ s, Vl y) → ∀ i ∈ s, i.f0.f1 ≤ sumB s
  | x :: s, h, i, hi => by
    have h1 := sumB_nn s fun y hy => h y (List.mem_cons_of_mem _ hy)
    have h2 := (h x List.mem_cons_self).2.2.1
    simp only [sumB]
    rcases List.mem_cons.mp hi with rfl | hi
    · omega
    · have := sumB_mem s (fun y hy => h y (List.mem_cons_of_mem _ hy)) i hi; omega
theorem sumA_z : ∀ s : List S78, (∀ y ∈ s, y.f0.f0 = 0) → sumA s = 0
  | [], _ => rfl
  | x :: s, h => by rw [sumA, h x List.mem_cons_self, sumA_z s fun y hy => h y (List.mem_cons_of_mem _ hy)]; rfl
theorem sumB_z : ∀ s : List S78, (∀ y ∈ s, y.f0.f1 = 0) → sumB s = 0
  | [], _ => rfl
  | x :: s, h => by rw [sumB, h x List.mem_cons_self, sumB_z s fun y hy => h y (List.mem_cons_of_mem _ hy)]; rfl
theorem rd_set_eq {l : List Int} {i : Int} (v : Int) (hi : 0 ≤ i) (h : i < (l.length : Int)) : rd (l.set i.toNat v) i = v := by
  have : i.toNat < l.length := by omega
  simp only [rd, List.getD_eq_getElem?_getD]
  rw [List.getElem?_set_self this]; rfl
theorem Ord_kind {x y : S78} (h : Ord x y) : kindP x ≤ kindP y := by rcases h with h | ⟨h, _⟩ <;> omega
theorem win_cert {a b : List Int} (hab : a.length = b.length) : ∀ (t pre : List S78) (p q : Int) (nums : List Int), Inv a b p q nums t → (pre ++ t).Pairwise Ord → (pre ++ t).Pairwise (fun x y => x.f1 ≠ y.f1) → (∀ y ∈ pre, At a b y ∧ rd nums y.f1 = 1) → sumA pre = p → sumB pre + sumB t = 100 →
    Cert (pre ++ t) (winGo p q nums t).1 (winGo p q nums t).2.1 (winGo p q nums t).2.2
  | [], pre, p, q, nums, h, _, _, _, _, _ => absurd h.no_end id
  | x :: t, pre, p, q, nums, h, ho, hne, hpre, hsa, hsb => by
    have hx := h.at_ x List.mem_cons_self
    have hv := hx.vl
    have hd := h.head
    have h3 := h.p0; have h4 := h.pq; have h5 := h.q1; have h6 := h.pa; have h7 := h.qb
    have hn0 := hx.n0; have hna := hx.na; have hln := h.ln
    rw [winGo]
    obtain ⟨n1, n2, n3⟩ := List.pairwise_append.mp hne
    obtain ⟨o1, o2, o3⟩ := List.pairwise_append.mp ho
    by_cases hcn : p + x.f0.f0 ≤ q - x.f0.f1
    · rw [if_pos hcn]
      have := win_cert hab t (pre ++ [x]) _ _ _ (h.take hab hcn) (by simpa using ho) (by simpa using hne) (fun y hy => ?_) (by rw [sumA_append, hsa]; simp [sumA]) (by rw [sumB_append]; simp only [sumB] at hsb ⊢; omega)
      · simpa using this
      · rcases List.mem_append.mp hy with hy | hy
        · refine ⟨(hpre y hy).1, ?_⟩
          rw [rd_set_ne 1 hn0 (hpre y hy).1.n0 (fun e => n3 y hy x List.mem_cons_self e.symm)]
          exact (hpre y hy).2
        · obtain rfl : y = x := by simpa using hy
          exact ⟨hx, rd_set_eq 1 hn0 (by omega)⟩
    · rw [if_neg hcn]
      obtain ⟨D, hD⟩ : ∃ D, D = x.f0.f0 + x.f0.f1 := ⟨_, rfl⟩
      rw [← hD] at hd ⊢
      have hs := scaled_in (i := x.f1.toNat) (v := q - p) hd h.b01 (by omega) (by omega)
      obtain ⟨N, hN⟩ : ∃ N, N = (nums.map (· * D)).set x.f1.toNat (q - p) := ⟨_, rfl⟩
      rw [← hN] at hs ⊢
      have vp : ∀ y ∈ pre, Vl y := fun y hy => (hpre y hy).1.vl
      have vt : ∀ y ∈ t, Vl y := fun y hy => (h.at_ y (List.mem_cons_of_mem _ hy)).vl
      have rp : ∀ y ∈ pre, rd N y.f1 = D := fun y hy => by
        rw [hN, rd_set_ne _ hn0 (hpre y hy).1.n0 (fun e => n3 y hy x List.mem_cons_self e.symm), rd_map_mul, (hpre y hy).2, Int.one_mul]
      have rx : rd N x.f1 = q - p := by rw [hN]; exact rd_set_eq _ hn0 (by rw [List.length_map]; omega)
      have rt : ∀ y ∈ t, rd N y.f1 = 0 := fun y hy => by
        rw [hN, rd_set_ne _ hn0 (h.at_ y (List.mem_cons_of_mem _ hy)).n0 ((List.pairwise_cons.mp n2).1 y hy), rd_map_mul, h.zr y (List.mem_cons_of_mem _ hy), Int.zero_mul]
      have q1 : ∀ y ∈ pre, x.f0.f0 * y.f0.f1 ≤ y.f0.f0 * x.f0.f1 := fun y hy => Ord_ratio (vp y hy) hv (o3 y hy x List.mem_cons_self)
      have q2 : ∀ y ∈ t, y.f0.f0 * x.f0.f1 ≤ x.f0.f0 * y.f0.f1 := fun y hy => Ord_ratio hv (vt y hy) ((List.pairwise_cons.mp o2).1 y hy)
      have q3 : ∀ y ∈ pre, ∀ z ∈ t, z.f0.f0 * y.f0.f1 ≤ y.f0.f0 * z.f0.f1 := fun y hy z hz => Ord_ratio (vp y hy) (vt z hz) (o3 y hy z (List.mem_cons_of_mem _ hz))
      have kp : ∀ y ∈ pre, kindP y ≤ kindP x := fun y hy => Ord_kind (o3 y hy x List.mem_cons_self)
      have kt : ∀ y ∈ t, kindP x ≤ kindP y := fun y hy => Ord_kind ((List.pairwise_cons.mp o2).1 y hy)
      have sA := sumA_nn t vt
      have sB := sumB_nn t vt
      simp only [sumA, sumB] at h6 h7 hsb
      have no0 : kindP x ≠ 0 := fun hk => by
        have z := sumB_z pre fun y hy => by
          have := kp y hy
          have := kindP_range y
          rcases kind_val (vp y hy) with ⟨k1, p1, q1⟩ | ⟨k1, p1, q1⟩ | ⟨k1, p1, q1⟩ | ⟨k1, p1, q1⟩ <;> omega
        rcases kind_val hv with ⟨k1, p1, q1⟩ | ⟨k1, p1, q1⟩ | ⟨k1, p1, q1⟩ | ⟨k1, p1, q1⟩ <;> omega
      have two : 2 ≤ kindP x → p = 100 ∧ q = 100 := fun hk => by
        have z := sumA_z t fun y hy => by
          have := kt y hy
          rcases kind_val (vt y hy) with ⟨k1, p1, q1⟩ | ⟨k1, p1, q1⟩ | ⟨k1, p1, q1⟩ | ⟨k1, p1, q1⟩ <;> omega
        rcases kind_val hv with ⟨k1, p1, q1⟩ | ⟨k1, p1, q1⟩ | ⟨k1, p1, q1⟩ | ⟨k1, p1, q1⟩ <;> omega
      have mem : ∀ y, y ∈ pre ++ x :: t ↔ y ∈ pre ∨ y = x ∨ y ∈ t := fun y => by rw [List.mem_append, List.mem_cons]
      show Cert (pre ++ x :: t) N D (p * D + x.f0.f0 * (q - p))
      refine ⟨hd, by unfold Vl at hv; omega, hs, ?_, ?_, ⟨x.f0.f1, x.f0.f0, hv.2.2.1, hv.1, by omega, fun y hy => ?_⟩, fun i hi k hk hi' hk' => ?_, fun i hi hk => ?_, fun i hi hk => ?_, ⟨x, by simp, fun y hy e => ?_⟩⟩
      · rw [dotL_append, dotL, dotL_const N D pre rp, dotL_const N 0 t rt, rx, hsa]; omega
      · rw [dotM_append, dotM, dotM_const D N D pre rp, dotM_const D N 0 t rt, rx, Int.sub_self, Int.mul_zero, Int.sub_zero]
        have e : sumB t = q - x.f0.f1 := by omega
        rw [e, hD]
        grind
      · rcases (mem y).mp hy with hy | rfl | hy
        · refine ⟨fun hh => ?_, fun _ => ?_⟩
          · rw [rp y hy] at hh; omega
          · have := q1 y hy; rw [Int.mul_comm x.f0.f1]; exact this
        · exact ⟨fun _ => by rw [Int.mul_comm]; exact Int.le_refl _, fun _ => by rw [Int.mul_comm]; exact Int.le_refl _⟩
        · refine ⟨fun _ => ?_, fun hh => ?_⟩
          · have := q2 y hy; rw [Int.mul_comm x.f0.f1]; exact this
          · rw [rt y hy] at hh; omega
      · rcases (mem i).mp hi with hi | rfl | hi
        · rw [rp i hi] at hi'; omega
        · rcases (mem k).mp hk with hk2 | e | hk2
          · exact q1 k hk2
          · rw [e]; exact Int.le_refl _
          · rw [rt k hk2] at hk'; omega
        · have hit := hi
          clear hi
          rcases (mem k).mp hk with hk2 | e | hk2
          · exact q3 k hk2 i hit
          · rw [e]; exact q2 i hit
          · rw [rt k hk2] at hk'; omega
      · rcases (mem i).mp hi with hi | rfl | hi
        · exact rp i hi
        · exact absurd hk no0
        · have := kt i hi; have := kindP_range x; omega
      · rcases (mem i).mp hi with hi | rfl | hi
        · have := two (by have := kp i hi; omega)
          have m := sumB_mem pre vp i hi
          rcases kind_val (vp i hi) with ⟨k1, p1, q1⟩ | ⟨k1, p1, q1⟩ | ⟨k1, p1, q1⟩ | ⟨k1, p1, q1⟩ <;> omega
        · have := two (by omega)
          rw [rx]; omega
        · exact rt i hi
      · rcases (mem y).mp hy with hy | rfl | hy
        · exact .inr (rp y hy)
        · exact absurd rfl e
        · exact .inl (rt y hy)
def winN (a b : List Int) : List Int × Int × Int := winGo 0 100 (List.replicate a.length 0) (isort [] (ordIn 0 (zipS a b)))
theorem winN_cert {a b : List Int} (hc : codeP a b = 0) : Cert (ordIn 0 (zipS a b)) (winN a b).1 (winN a b).2.1 (winN a b).2.2 := by
  have h8 := codeP_ok hc
  have hi := Inv.start hc
  have hp := isort_perm (ordIn 0 (zipS a b)) []
  rw [List.nil_append] at hp
  have hB := h8.2.2.1
  rw [okP, Bool.and_eq_true, decide_eq_true_eq] at hB
  have c := win_cert h8.2.2.2 (isort [] (ordIn 0 (zipS a b))) [] 0 100 _ hi hi.or hi.ne (fun y hy => by cases hy) rfl (by rw [sumB_perm hp, sumB_ordIn a b 0 h8.2.2.2, hB.2]; rfl)
  rw [List.nil_append] at c
  have hm := fun x => (hp.mem_iff (a := x)).symm
  refine ⟨c.d0, c.d200, c.bn, (dotL_perm _ hp).symm.trans c.sa, (dotM_perm _ _ hp).symm.trans c.sb, ?_, fun i hi k hk => c.ef i ((hm i).mp hi) k ((hm k).mp hk), fun i hi => c.k0 i ((hm i).mp hi), fun i hi => c.k2 i ((hm i).mp hi), ?_⟩
  · obtain ⟨α, β, h1, h2, h3, h4⟩ := c.w
    exact ⟨α, β, h1, h2, h3, fun x hx => h4 x ((hm x).mp hx)⟩
  · obtain ⟨x, hx, h⟩ := c.one
    exact ⟨x, (hm x).mpr hx, fun y hy => h y ((hm y).mp hy)⟩
end Go.Proofs.Ytiafiebalibkdaa.OAll
