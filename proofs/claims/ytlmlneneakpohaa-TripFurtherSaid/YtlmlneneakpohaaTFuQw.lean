/- A part of the proof of 'tripFurther_holds', for every input, without a condition. -/
import Derived.Test.YtlmlneneakpohaaTFuQv
namespace Go.Proofs.Ytlmlneneakpohaa.OAll
open Go.RowKit Go.Proofs.YtlmlneneakpohaaW.PrintWords Go.Proofs.YtlmlneneakpohaaW.PrintLast Go.Proofs.YtlmlneneakpohaaW.PrintMore
set_option linter.unusedVariables false
set_option linter.unusedSimpArgs false
theorem climb_tri {U D : Int} (hU : 0 ≤ U) (hD : 0 ≤ D) (a h b : Int) : climbI U D a b ≤ climbI U D a h + climbI U D h b := by
  have mu : ∀ x y : Int, x ≤ y → U * x ≤ U * y := fun x y e => Int.mul_le_mul_of_nonneg_left e hU
  have md : ∀ x y : Int, x ≤ y → D * x ≤ D * y := fun x y e => Int.mul_le_mul_of_nonneg_left e hD
  unfold climbI
  simp only [Int.mul_sub]
  have u1 := mu a h; have u2 := mu h b; have u3 := mu a b; have u4 := mu h a; have u5 := mu b h; have u6 := mu b a
  have d1 := md a h; have d2 := md h b; have d3 := md a b; have d4 := md h a; have d5 := md b h; have d6 := md b a
  split <;> split <;> split <;> omega
theorem emp_left {l m : List S36} {U D : Int} {i k : Nat} (hi : i < l.length) (hk : k < l.length) : emp (l ++ m) U D (i : Int) (k : Int) = emp l U D (i : Int) (k : Int) := by
  unfold emp
  rw [rd36_get (show i < (l ++ m).length by simp; omega), rd36_get (show k < (l ++ m).length by simp; omega), rd36_get hi, rd36_get hk, List.getElem_append_left hi, List.getElem_append_left hk]
theorem rot_perm (n c : Nat) (hc : c < n) : PermF (fun a => if c + 1 + a < n then c + 1 + a else c + 1 + a - n) n where
  maps := fun i hi => by split <;> omega
  inj := fun i j hi hj e => by split at e <;> split at e <;> omega
theorem further {l : List S36} {U D : Int} {x : S36} (hR : Right l U D) (hx : x.f0 = x.f1) {o : List Int} (ho : IsOrd (l ++ [x]).length o) : ∃ o2 : List Int, IsOrd l.length o2 ∧ costI l U D o2 ≤ costI (l ++ [x]) U D o := by
  have h9 := hR.len
  have hL : (l ++ [x]).length = l.length + 1 := by simp
  obtain ⟨m, hm⟩ : ∃ m, l.length = m + 1 := ⟨l.length - 1, by omega⟩
  have pO := ord_perm ho
  obtain ⟨c, hc, ec⟩ := pO.onto (show l.length < (l ++ [x]).length by omega)
  have pr := rot_perm (l ++ [x]).length c hc
  obtain ⟨r, hr⟩ : ∃ r : Nat → Nat, r = fun a => if c + 1 + a < (l ++ [x]).length then c + 1 + a else c + 1 + a - (l ++ [x]).length := ⟨_, rfl⟩
  rw [← hr] at pr
  have rn : r l.length = c := by rw [hr]; dsimp only; split <;> omega
  have pg := pO.comp pr
  have glt : ∀ a, a < l.length → fN_ o (r a) < l.length := fun a ha => by
    have h1 := pg.maps a (by omega)
    have h2 : fN_ o (r a) ≠ l.length := fun e => by
      have := pg.inj a l.length (by omega) (by omega) (by show fN_ o (r a) = fN_ o (r l.length); rw [rn, ec, e])
      omega
    have h1' : fN_ o (r a) < (l ++ [x]).length := h1
    omega
  have nx : ∀ a, a < l.length → (r a + 1) % (l ++ [x]).length = r (a + 1) := fun a ha => by
    have h1 : ∀ v, v < (l ++ [x]).length → (v + 1) % (l ++ [x]).length = if v + 1 = (l ++ [x]).length then 0 else v + 1 := fun v hv => by
      split
      · rename_i h; rw [h, Nat.mod_self]
      · exact Nat.mod_eq_of_lt (by omega)
    rw [h1 _ (pr.maps a (by omega)), hr]
    dsimp only
    split <;> split <;> split <;> omega
  have nl : (r l.length + 1) % (l ++ [x]).length = r 0 := by
    rw [rn]
    by_cases e : c + 1 = (l ++ [x]).length
    · rw [e, Nat.mod_self, hr]; dsimp only; rw [if_neg (by omega)]; omega
    · rw [Nat.mod_eq_of_lt (by omega), hr]; dsimp only; rw [if_pos (by omega)]
  obtain ⟨o2, h2⟩ : ∃ o2 : List Int, o2 = (List.range l.length).map (fun a => (fN_ o (r a) : Int)) := ⟨_, rfl⟩
  have ol : o2.length = l.length := by rw [h2]; simp
  have ord2 : ∀ a, a < l.length → rd o2 (a : Int) = (fN_ o (r a) : Int) := fun a ha => by
    rw [rd_get (by rw [ol]; exact ha)]
    simp [h2]
  have ho2 : IsOrd l.length o2 := by
    refine ⟨fun y hy => ?_, ?_, ol⟩
    · rw [h2] at hy
      obtain ⟨a, ha, rfl⟩ := List.mem_map.mp hy
      have := glt a (List.mem_range.mp ha)
      omega
    · rw [h2, List.nodup_iff_pairwise_ne, List.pairwise_map]
      refine List.Pairwise.imp_of_mem (fun {a b} ha hb hab e => ?_) List.pairwise_lt_range
      have ha' := List.mem_range.mp ha
      have hb' := List.mem_range.mp hb
      have := pg.inj a b (by omega) (by omega) (by show fN_ o (r a) = fN_ o (r b); omega)
      omega
  refine ⟨o2, ho2, ?_⟩
  have hro : ∀ v, v < (l ++ [x]).length → rd o (v : Int) = (fN_ o v : Int) := fun v hv => (ord_rd ho hv).1
  have hc1 : costI (l ++ [x]) U D o = sumE (fun a => nextE (l ++ [x]) U D o (r a)) (l.length + 1) := by
    unfold costI
    rw [ho.2.2, ← pr.sum (nextE (l ++ [x]) U D o), hL]
  have step : ∀ a, a < l.length → nextE (l ++ [x]) U D o (r a) = emp (l ++ [x]) U D (fN_ o (r a) : Int) (fN_ o (r (a + 1)) : Int) := fun a ha => by
    unfold nextE
    rw [ho.2.2, nx a ha, hro _ (pr.maps a (by omega)), hro _ (pr.maps (a + 1) (by omega))]
  have last : nextE (l ++ [x]) U D o (r l.length) = emp (l ++ [x]) U D (l.length : Int) (fN_ o (r 0) : Int) := by
    unfold nextE
    rw [ho.2.2, nl, rn, hro c hc, ec, hro _ (pr.maps 0 (by omega))]
  have hc2 : costI l U D o2 = sumE (nextE l U D o2) (m + 1) := by unfold costI; rw [ol, hm]
  rw [hc1, hc2, hm]
  simp only [sumE]
  have e1 : sumE (nextE l U D o2) m = sumE (fun a => nextE (l ++ [x]) U D o (r a)) m := by
    refine sumE_cg m (fun a ha => ?_)
    rw [step a (by omega), emp_left (glt a (by omega)) (glt (a + 1) (by omega))]
    unfold nextE
    rw [ol, Nat.mod_eq_of_lt (by omega), ord2 a (by omega), ord2 (a + 1) (by omega)]
  have e2 : nextE l U D o2 m = emp l U D (fN_ o (r m) : Int) (fN_ o (r 0) : Int) := by
    unfold nextE
    rw [ol, ← hm, Nat.mod_self, ord2 m (by omega)]
    rw [show ((0 : Nat) : Int) = ((0 : Nat) : Int) from rfl, ord2 0 (by omega)]
  have e3 := step m (by omega)
  have e4 := last
  rw [hm] at e4
  rw [← hm] at e3
  have ern : fN_ o (r l.length) = l.length := by rw [rn, ec]
  rw [ern] at e3
  rw [e1, e2, e3, e4]
  have tri := climb_tri hR.U_.1 hR.D_.1 (rd_T36 l (fN_ o (r m) : Int)).f1 x.f0 (rd_T36 l (fN_ o (r 0) : Int)).f0
  have xl : rd_T36 (l ++ [x]) (l.length : Int) = x := rd36_mid l [] x
  have g1 := glt m (by omega)
  have g0 := glt 0 (by omega)
  have k1 : emp (l ++ [x]) U D (fN_ o (r m) : Int) (l.length : Int) = climbI U D (rd_T36 l (fN_ o (r m) : Int)).f1 x.f0 := by
    unfold emp
    rw [xl, rd36_get (show fN_ o (r m) < (l ++ [x]).length by omega), rd36_get g1, List.getElem_append_left g1]
  have k2 : emp (l ++ [x]) U D ((m + 1 : Nat) : Int) (fN_ o (r 0) : Int) = climbI U D x.f0 (rd_T36 l (fN_ o (r 0) : Int)).f0 := by
    unfold emp
    rw [← hm, xl, rd36_get (show fN_ o (r 0) < (l ++ [x]).length by omega), rd36_get g0, List.getElem_append_left g0, hx]
  rw [k1, k2]
  unfold emp
  omega
theorem least_further {l : List S36} {U D : Int} {x : S36} (hR : Right l U D) (hR2 : Right (l ++ [x]) U D) (hx : x.f0 = x.f1) : worthI l U D + (patchI l U D).2 ≤ worthI (l ++ [x]) U D + (patchI (l ++ [x]) U D).2 := by
  obtain ⟨o, ho, _, e⟩ := tour_le hR2
  obtain ⟨o2, ho2, h2⟩ := further hR hx ho
  have := order_ge hR ho2
  omega
end Go.Proofs.Ytlmlneneakpohaa.OAll
