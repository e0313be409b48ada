/- A part of the proof of 'stampNext_holds', for every input, without a condition. -/
import Derived.Test.YthbalcbibmdpnaaSNeQr
import Derived.Test.YthbalcbibmdpnaaSNeOAllx8
namespace Go.Proofs.Ythbalcbibmdpnaa.OAll
open Go.RowKit Go.Proofs.YthbalcbibmdpnaaW.PrintWords Go.Proofs.YthbalcbibmdpnaaW.PrintLast Go.Proofs.YthbalcbibmdpnaaW.PrintMore
set_option linter.unusedVariables false
set_option linter.unusedSimpArgs false
theorem in_loop (l : List Int) (x : Int) (hl : l.length ≤ 2000) : ∀ t s : List Int, l = s ++ t → Ev (fun k => trishawref04_In.l0 k l x (s.length : Int)) (decide (x ∈ t))
  | [], s, e => by
    refine Ev.succ ?_
    simp only [trishawref04_In.l0]
    simp only [if_neg (show ¬ (s.length : Int) < (l.length : Int) by rw [e]; simp), List.not_mem_nil, decide_false]
    exact Ev.pure _
  | y :: t, s, e => by
    have hi : (s.length : Int) < (l.length : Int) := by rw [e]; simp; omega
    have hri : rd l (s.length : Int) = y := by rw [e]; exact rd_mid s t y
    have hw1 : wrap64 ((s.length : Int) + 1) = (((s ++ [y]).length : Nat) : Int) := by rw [w64 (by omega) (by omega)]; simp
    have ih := in_loop l x hl t (s ++ [y]) (by rw [e]; simp)
    refine Ev.succ ?_
    simp only [trishawref04_In.l0, hri, hw1]
    simp only [if_pos hi, if_pos (show (0 : Int) ≤ (s.length : Int) by omega)]
    by_cases c : y = x
    · simp only [if_pos c]
      rw [decide_eq_true (show x ∈ y :: t by rw [c]; simp)]
      exact Ev.pure _
    · simp only [if_neg c]
      have : decide (x ∈ y :: t) = decide (x ∈ t) := decide_eq_decide.mpr ⟨fun h => (List.mem_cons.mp h).resolve_left (fun q => c q.symm), fun h => List.mem_cons_of_mem _ h⟩
      rw [this]
      exact ih
theorem in_ev (l : List Int) (x : Int) (hl : l.length ≤ 2000) : Ev (fun k => trishawref04_In.f k l x) (decide (x ∈ l)) := in_loop l x hl l [] rfl
theorem with_loop (l : List Int) (x : Int) (hl : l.length ≤ 2000) : ∀ t s : List Int, l = s ++ t → atI x l = s.length + atI x t → Ev (fun k => trishawref04_With.l0 k l x (s.length : Int)) (insI x l)
  | t, s, e, ha => by
    have hsl := congrArg List.length e
    rw [List.length_append] at hsl
    have fin : atI x t = 0 → (if ([] : List Int).length + (l.take (s.length : Int).toNat).length < 17592186044416 then ((some (([] : List Int) ++ (l.take (s.length : Int).toNat) : List Int)).bind fun y354 => (if y354.length < 17592186044416 then ((some (y354 ++ [x] : List Int)).bind fun y357 => (if y357.length + (l.drop (s.length : Int).toNat).length < 17592186044416 then (some (y357 ++ (l.drop (s.length : Int).toNat))) else (none))) else (none))) else (none)) = some (insI x l) := by
      intro h0
      have hat : atI x l = s.length := by omega
      have h1 : (l.take s.length).length ≤ 2000 := by rw [List.length_take]; omega
      have h2 : (l.drop s.length).length ≤ 2000 := by rw [List.length_drop]; omega
      simp only [Int.toNat_natCast, List.nil_append, List.length_nil, Nat.zero_add, Option.bind_some]
      rw [if_pos (by omega), if_pos (by omega), if_pos (by rw [List.length_append, List.length_singleton]; omega)]
      unfold insI
      rw [hat]
      simp
    refine Ev.succ ?_
    cases t with
    | nil =>
      have hsl' : l.length = s.length := by simpa using hsl
      have hle : (s.length : Int) ≤ (l.length : Int) := by omega
      simp only [trishawref04_With.l0]
      simp only [if_neg (show ¬ (s.length : Int) < (l.length : Int) by omega), if_pos (show (0 : Int) ≤ (s.length : Int) by omega), if_pos hle]
      exact ⟨0, fun k _ => fin rfl⟩
    | cons y t =>
      have hi : (s.length : Int) < (l.length : Int) := by simp at hsl; omega
      have hri : rd l (s.length : Int) = y := by rw [e]; exact rd_mid s t y
      have hw1 : wrap64 ((s.length : Int) + 1) = (((s ++ [y]).length : Nat) : Int) := by rw [w64 (by omega) (by omega)]; simp
      simp only [trishawref04_With.l0, hri, hw1]
      simp only [if_pos hi, if_pos (show (0 : Int) ≤ (s.length : Int) by omega), if_pos (show (s.length : Int) ≤ (l.length : Int) by omega)]
      by_cases c : y < x
      · simp only [if_pos c]
        rw [atI, if_pos c] at ha
        exact with_loop l x hl t (s ++ [y]) (by rw [e]; simp) (by rw [List.length_append, List.length_singleton]; omega)
      · simp only [if_neg c]
        exact ⟨0, fun k _ => fin (by rw [atI, if_neg c])⟩
termination_by t => t.length
theorem with_ev (l : List Int) (x : Int) (hl : l.length ≤ 2000) : Ev (fun k => trishawref04_With.f k l x) (insI x l) := with_loop l x hl l [] rfl (by simp)
end Go.Proofs.Ythbalcbibmdpnaa.OAll
