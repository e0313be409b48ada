/- A part of the proof of 'stampNext_holds', for every input, without a condition. -/
import Derived.Test.YthbalcbibmdpnaaSNeQp
import Derived.Test.YthbalcbibmdpnaaSNeQj
namespace Go.Proofs.Ythbalcbibmdpnaa.OAll
open Go.RowKit Go.Proofs.YthbalcbibmdpnaaW.PrintWords Go.Proofs.YthbalcbibmdpnaaW.PrintLast Go.Proofs.YthbalcbibmdpnaaW.PrintMore
set_option linter.unusedVariables false
set_option linter.unusedSimpArgs false
def atI (x : Int) : List Int → Nat
  | [] => 0
  | y :: t => if y < x then atI x t + 1 else 0
theorem atI_le (x : Int) : ∀ v : List Int, atI x v ≤ v.length
  | [] => Nat.le_refl _
  | y :: t => by
    have := atI_le x t
    unfold atI
    split <;> simp <;> omega
def insI (x : Int) (v : List Int) : List Int := v.take (atI x v) ++ x :: v.drop (atI x v)
theorem insI_len (x : Int) (v : List Int) : (insI x v).length = v.length + 1 := by
  have := atI_le x v
  unfold insI
  simp only [List.length_append, List.length_take, List.length_cons, List.length_drop]
  omega
theorem insI_mem {x y : Int} {v : List Int} : y ∈ insI x v ↔ y = x ∨ y ∈ v := by
  unfold insI
  have h : y ∈ v ↔ y ∈ v.take (atI x v) ∨ y ∈ v.drop (atI x v) := by
    rw [← List.mem_append, List.take_append_drop]
  rw [h, List.mem_append, List.mem_cons]
  constructor
  · rintro (h | rfl | h)
    · exact .inr (.inl h)
    · exact .inl rfl
    · exact .inr (.inr h)
  · rintro (rfl | h | h)
    · exact .inr (.inl rfl)
    · exact .inl h
    · exact .inr (.inr h)
theorem insI_nil (x : Int) : insI x [] = [x] := rfl
theorem insI_lt {x y : Int} {t : List Int} (h : y < x) : insI x (y :: t) = y :: insI x t := by
  unfold insI
  rw [atI, if_pos h, List.take_succ_cons, List.drop_succ_cons]
  rfl
theorem insI_ge {x y : Int} {t : List Int} (h : ¬ y < x) : insI x (y :: t) = x :: y :: t := by
  unfold insI
  rw [atI, if_neg h]
  rfl
theorem insI_pair {x : Int} : ∀ {v : List Int}, v.Pairwise (· < ·) → x ∉ v → (insI x v).Pairwise (· < ·)
  | [], _, _ => by rw [insI_nil]; simp
  | y :: t, hp, hx => by
    have hyx : x ≠ y := fun e => hx (by simp [e])
    obtain ⟨h1, h2⟩ := List.pairwise_cons.mp hp
    by_cases c : y < x
    · rw [insI_lt c]
      refine List.pairwise_cons.mpr ⟨fun z hz => ?_, insI_pair h2 (fun h => hx (by simp [h]))⟩
      rcases insI_mem.mp hz with rfl | hz
      · exact c
      · exact h1 z hz
    · rw [insI_ge c]
      refine List.pairwise_cons.mpr ⟨fun z hz => ?_, hp⟩
      rcases List.mem_cons.mp hz with rfl | hz
      · omega
      · have := h1 z hz; omega
theorem asc_pair {v : List Int} (a : Asc v) : v.Pairwise (· < ·) := by
  rw [List.pairwise_iff_getElem]
  intro i j hi hj hij
  have := a.lt j i hij hj
  rw [rd_get hi, rd_get hj] at this
  exact this
theorem asc_of {v : List Int} (hl : 1 ≤ v.length ∧ v.length ≤ 6) (hv : ∀ x ∈ v, 1 ≤ x ∧ x ≤ 200) (hp : v.Pairwise (· < ·)) : Asc v := by
  refine ⟨hl, fun j hj _ => ?_⟩
  have hm := hv _ (rd_mem hj)
  refine ⟨hm.1, hm.2, fun h0 => ?_⟩
  rw [List.pairwise_iff_getElem] at hp
  have := hp (j - 1) j (by omega) hj (by omega)
  rw [rd_get hj, rd_get (show j - 1 < v.length by omega)]
  exact this
theorem asc_val {v : List Int} (a : Asc v) : ∀ x ∈ v, 1 ≤ x ∧ x ≤ 200 := fun x hx => by
  obtain ⟨j, hj, rfl⟩ := mem_rd hx
  exact a.range j hj
theorem asc_ins {v : List Int} {x : Int} (a : Asc v) (hl : v.length ≤ 5) (hx : 1 ≤ x ∧ x ≤ 200) (hn : x ∉ v) : Asc (insI x v) := by
  refine asc_of (by rw [insI_len]; omega) (fun y hy => ?_) (insI_pair (asc_pair a) hn)
  rcases insI_mem.mp hy with rfl | hy
  · exact hx
  · exact asc_val a y hy
end Go.Proofs.Ythbalcbibmdpnaa.OAll
