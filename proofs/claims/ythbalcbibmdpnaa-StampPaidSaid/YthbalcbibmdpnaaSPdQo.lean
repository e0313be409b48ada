/- A part of the proof of 'stampPaid_holds', for every input, without a condition. -/
import Derived.Test.YthbalcbibmdpnaaSPdQm
namespace Go.Proofs.Ythbalcbibmdpnaa.OAll
open Go.RowKit Go.Proofs.YthbalcbibmdpnaaW.PrintWords Go.Proofs.YthbalcbibmdpnaaW.PrintLast Go.Proofs.YthbalcbibmdpnaaW.PrintMore
set_option linter.unusedVariables false
set_option linter.unusedSimpArgs false
def sumR (f : Nat → Nat) : Nat → Nat
  | 0 => 0
  | n + 1 => sumR f n + f n
theorem sumR_shift (f : Nat → Nat) : ∀ n, sumR f (n + 1) = f 0 + sumR (fun j => f (j + 1)) n
  | 0 => by simp [sumR]
  | n + 1 => by rw [sumR, sumR_shift f n, sumR]; omega
theorem sumR_congr {f g : Nat → Nat} : ∀ n, (∀ j, j < n → f j = g j) → sumR f n = sumR g n
  | 0, _ => rfl
  | n + 1, h => by rw [sumR, sumR, sumR_congr n (fun j hj => h j (by omega)), h n (by omega)]
theorem sumR_pos {f : Nat → Nat} : ∀ n, 0 < sumR f n ↔ ∃ j, j < n ∧ 0 < f j
  | 0 => by simp [sumR]
  | n + 1 => by
    simp only [sumR]
    constructor
    · intro h
      by_cases c : 0 < f n
      · exact ⟨n, by omega, c⟩
      · obtain ⟨j, hj, e⟩ := (sumR_pos (f := f) n).1 (by omega)
        exact ⟨j, by omega, e⟩
    · rintro ⟨j, hj, e⟩
      rcases Nat.eq_or_lt_of_le (show j ≤ n by omega) with rfl | hlt
      · omega
      · have := (sumR_pos (f := f) n).2 ⟨j, hlt, e⟩
        omega
theorem sumR_list (f : Nat → Nat) : ∀ n, ((List.range n).map f).sum = sumR f n
  | 0 => rfl
  | n + 1 => by rw [List.range_succ, List.map_append, List.sum_append, sumR_list f n]; simp [sumR]
theorem flat_len {β : Type} (G : Nat → List β) : ∀ n, (((List.range n).map (fun k => G (n - 1 - k))).flatten).length = sumR (fun j => (G j).length) n
  | 0 => rfl
  | n + 1 => by
    have ih := flat_len G n
    rw [List.range_succ_eq_map, List.map_cons, List.flatten_cons, List.length_append, List.map_map, sumR]
    have e : ((fun k => G (n + 1 - 1 - k)) ∘ Nat.succ) = fun k => G (n - 1 - k) := by
      funext k
      show G (n + 1 - 1 - (k + 1)) = G (n - 1 - k)
      congr 1; omega
    rw [e, ih, show n + 1 - 1 - 0 = n by omega]
    omega
def cntD (v : List Int) : Nat → Nat → Nat → Int → Nat
  | 0, _, _, a => if a = 0 then 1 else 0
  | _ + 1, _, 0, _ => 0
  | m + 1, lo, d + 1, a => cntD v m lo (d + 1) (a - rd v (lo : Int)) + cntD v (m + 1) (lo + 1) d a
termination_by m _ d _ => m + d
theorem cnt0 (v : List Int) (lo d : Nat) (a : Int) : cntD v 0 lo d a = if a = 0 then 1 else 0 := by rw [cntD]
theorem cntn (v : List Int) (m lo : Nat) (a : Int) : cntD v (m + 1) lo 0 a = 0 := by rw [cntD]
theorem cnts (v : List Int) (m lo d : Nat) (a : Int) : cntD v (m + 1) lo (d + 1) a = cntD v m lo (d + 1) (a - rd v (lo : Int)) + cntD v (m + 1) (lo + 1) d a := by rw [cntD]
theorem cnt_sum (v : List Int) (m : Nat) (a : Int) : ∀ d lo, cntD v (m + 1) lo d a = sumR (fun j => cntD v m (lo + j) (d - j) (a - rd v ((lo + j : Nat) : Int))) d
  | 0, lo => by rw [cntn]; rfl
  | d + 1, lo => by
    rw [cnts, sumR_shift, cnt_sum v m a d (lo + 1)]
    congr 1
    refine sumR_congr d (fun j hj => ?_)
    rw [show lo + 1 + j = lo + (j + 1) by omega, show d + 1 - (j + 1) = d - j by omega]
theorem enumL_bound {v : List Int} (s : Asc v) {m lo : Nat} {a : Int} (hlo : lo < v.length) (h : enumL v m lo a ≠ []) : (m : Int) * rd v (lo : Int) ≤ a ∧ a ≤ (m : Int) * rd v ((v.length - 1 : Nat) : Int) := by
  obtain ⟨x, t, e⟩ := List.exists_cons_of_ne_nil h
  have hh := enum_head s m lo a hlo
  rw [e] at hh
  obtain ⟨_, h1, h2, _⟩ := exN_sound s m lo a x hlo hh.symm
  exact ⟨h1, h2⟩
theorem enum_cnt {v : List Int} (s : Asc v) : ∀ (m lo : Nat) (a : Int), lo < v.length → (enumL v m lo a).length = cntD v m lo (v.length - lo) a
  | 0, lo, a, _ => by
    rw [enumL, cnt0]
    split <;> rfl
  | m + 1, lo, a, hlo => by
    have hl := s.len
    have e1 : (enumL v (m + 1) lo a) = ((List.range (v.length - lo)).map (fun k => enF v m lo a (((v.length - lo - 1 - k : Nat) : Int), rd (v.drop lo) ((v.length - lo - 1 - k : Nat) : Int)))).flatten := by
      rw [enum_succ, List.flatMap_def, bw, List.map_map, List.length_drop]
      rfl
    rw [e1, flat_len (fun j => enF v m lo a ((j : Int), rd (v.drop lo) (j : Int))), cnt_sum]
    refine sumR_congr _ (fun j hj => ?_)
    have hij : lo + j < v.length := by omega
    have ih := enum_cnt s m (lo + j) (a - rd v ((lo + j : Nat) : Int)) hij
    rw [rd_drop, show v.length - lo - j = v.length - (lo + j) by omega, ← ih]
    unfold enF
    simp only [Int.toNat_natCast]
    have p1 : ((m + 1 : Nat) : Int) * rd v ((lo + j : Nat) : Int) = (m : Int) * rd v ((lo + j : Nat) : Int) + rd v ((lo + j : Nat) : Int) := by grind
    have p2 : ((m + 1 : Nat) : Int) * rd v ((v.length - 1 : Nat) : Int) = (m : Int) * rd v ((v.length - 1 : Nat) : Int) + rd v ((v.length - 1 : Nat) : Int) := by grind
    have g2 := s.le (show lo + j ≤ v.length - 1 by omega) (by omega)
    by_cases c : a < ((m + 1 : Nat) : Int) * rd v ((lo + j : Nat) : Int) ∨ ((m + 1 : Nat) : Int) * rd v ((v.length - 1 : Nat) : Int) < a
    · rw [if_pos c]
      by_cases hx : enumL v m (lo + j) (a - rd v ((lo + j : Nat) : Int)) = []
      · rw [hx]
      · obtain ⟨q1, q2⟩ := enumL_bound s hij hx
        rcases c with c | c <;> omega
    · rw [if_neg c, List.length_map]
theorem cnt_le (v : List Int) : ∀ (m lo d : Nat) (a : Int), cntD v m lo d a ≤ 2 ^ (m + d)
  | 0, lo, d, a => by
    rw [cnt0]
    have : 1 ≤ 2 ^ (0 + d) := Nat.one_le_two_pow
    split <;> omega
  | m + 1, lo, 0, a => by rw [cntn]; exact Nat.zero_le _
  | m + 1, lo, d + 1, a => by
    have h1 := cnt_le v m lo (d + 1) (a - rd v (lo : Int))
    have h2 := cnt_le v (m + 1) (lo + 1) d a
    rw [cnts]
    have e1 : m + 1 + (d + 1) = (m + d + 1) + 1 := by omega
    rw [e1, Nat.pow_succ]
    rw [show m + (d + 1) = m + d + 1 by omega] at h1
    rw [show m + 1 + d = m + d + 1 by omega] at h2
    omega
termination_by m _ d => m + d
def atM (v : List Int) (n d : Nat) (a : Int) : Nat := sumR (fun m => cntD v m 0 d a) n
theorem waysN_atM {v : List Int} (s : Asc v) (n : Nat) (a : Int) : waysN v a n = atM v n v.length a := by
  unfold waysN atM
  rw [sumR_list]
  exact sumR_congr n (fun m _ => enum_cnt s m 0 a (by have := s.len; omega))
theorem atM_pos {v : List Int} (s : Asc v) (n : Nat) (a : Int) : 0 < atM v n v.length a ↔ ∃ m, m < n ∧ SumN v m a := by
  have hl := s.len
  unfold atM
  rw [sumR_pos]
  refine ⟨fun ⟨m, hm, h⟩ => ⟨m, hm, ?_⟩, fun ⟨m, hm, h⟩ => ⟨m, hm, ?_⟩⟩
  · rw [← exN_iff s, ← enum_head s m 0 a (by omega)]
    have := enum_cnt s m 0 a (by omega)
    rw [Nat.sub_zero] at this
    rw [← this] at h
    cases hq : enumL v m 0 a with
    | nil => rw [hq] at h; simp at h
    | cons x t => rfl
  · rw [← exN_iff s, ← enum_head s m 0 a (by omega)] at h
    have := enum_cnt s m 0 a (by omega)
    rw [Nat.sub_zero] at this
    rw [← this]
    cases hq : enumL v m 0 a with
    | nil => rw [hq] at h; cases h
    | cons x t => simp
theorem atM_pays {h : Int} {l : List Int} (o : OkT h l) (s : Asc l) {a : Int} (a0 : 0 ≤ a) (a1 : a ≤ (topN h l : Int)) : 0 < atM l (h.toNat + 1) l.length a ↔ 0 ≤ rd (fewI h l) a := by
  have hh := o.h
  rw [atM_pos s, fewI_pays o a0 a1, SumN.zeros]
  exact ⟨fun ⟨m, hm, h⟩ => ⟨m, by omega, h⟩, fun ⟨m, hm, h⟩ => ⟨m, by omega, h⟩⟩
theorem atM_le (v : List Int) (d : Nat) (a : Int) (hd : d ≤ 6) : ∀ n, n ≤ 7 → atM v n d a ≤ n * 4096
  | 0, _ => by unfold atM; simp [sumR]
  | n + 1, hn => by
    have h1 := atM_le v d a hd n (by omega)
    have h2 := cnt_le v n 0 d a
    have h3 : 2 ^ (n + d) ≤ 2 ^ 12 := Nat.pow_le_pow_right (by omega) (by omega)
    unfold atM at h1 ⊢
    simp only [sumR]
    rw [show (2 : Nat) ^ 12 = 4096 by decide] at h3
    rw [Nat.add_mul, Nat.one_mul]
    omega
end Go.Proofs.Ythbalcbibmdpnaa.OAll
