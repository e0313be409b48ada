/- A part of the proof of 'stampPaid_holds', for every input, without a condition. -/
import Derived.Maps.OwnIn
import Derived.Test.YthbalcbibmdpnaaSPdRh
namespace Go.Proofs.Ythbalcbibmdpnaa.OAll
open Go.RowKit Go.Shelf Go.Proofs.YthbalcbibmdpnaaW.PrintWords Go.Proofs.YthbalcbibmdpnaaW.PrintLast Go.Proofs.YthbalcbibmdpnaaW.PrintMore Go.Proofs.Ythbalcbibmdpnaa.Rg
set_option linter.unusedVariables false
set_option linter.unusedSimpArgs false
theorem R_putObj {e base : Nat} {ok : Nat → Prop} {W : World} {v : Value} {xs : List Int} (h : Kd.R (Kd.int .i64) e W base ok v xs) {k : Nat} {o : Obj} (o' : Obj) (hk : W.heap[k]? = some o) (hc : o.isCells = false) : Kd.R (Kd.int .i64) e (W.putObj k o') base ok v xs := by
  refine Kd.R_mono (Kd.R_step (Kd.R_bound h) (fun i hi _ => ?_)) (fun _ hi => hi.1)
  refine World.putObj_heap_other (fun e => ?_)
  subst e
  obtain ⟨_, _, _, q, _, cells, hq⟩ := hi
  rw [hk] at hq
  cases hq
  simp [Obj.isCells] at hc
theorem boxed_putObj {W : World} {B k t : Nat} {v : Value} {o : Obj} (o' : Obj) (h : W.heap[B]? = some (.cells #[v] t (0, 0))) (hk : W.heap[k]? = some o) (hc : o.isCells = false) : (W.putObj k o').heap[B]? = some (.cells #[v] t (0, 0)) := by
  refine (World.putObj_heap_other (fun e => ?_)).trans h
  subst e
  rw [hk] at h
  cases h
  simp [Obj.isCells] at hc
theorem below_putObj {n k : Nat} (W : World) (o' : Obj) (hk : n ≤ k) : Below n W (W.putObj k o') := ⟨rfl, rfl, rfl, by simp [World.putObj], fun i hi => World.putObj_heap_other (by omega)⟩
theorem R_appendIn {F : Fence} {nF : Nat} {P : Program} {ops : Array Oper} {rest : List Oper} {o : Oper} {a : Act} {Q : Exit → Act → World → Prop} {W : World} (hgd : o.guard = none) (s x : Operand) (t : TypeId)
    (ho : o.op = .call { callee := .builtin .append, args := #[s, x], argTypes := #[t, t] })
    (ht : P.underlying t = some (.slice 3)) (hinfo : (P.info? 3).map (fun i => (i.zero, i.size, i.bytes)) = some (some (.int .i64 0), 1, 8))
    (base : Nat) (v : Value) (xs : List Int) (y : Int) (ok : Nat → Prop) (hs : a.eval s = v) (hx : a.eval x = .slice (some ⟨W.heap.size, 0, none⟩) 1 1)
    (HO : Kd.R (Kd.int .i64) 3 W base ok v xs) (hbase : base ≤ W.heap.size) (hl : (xs.length + 1) * 8 ≤ 140737488355328) (hfresh : ∀ k, W.heap.size ≤ k → ok k)
    (h : ∀ v1 w1, Kd.R (Kd.int .i64) 3 w1 base ok v1 (xs ++ [y]) → W.grownBy w1 v.ownBlock → (v1.ownBlock = v.ownBlock ∨ ∃ b, v1.ownBlock = some b ∧ W.heap.size ≤ b) → wpListIn F nF P ops Q rest (a.put o.dst v1) w1) :
    wpListIn F nF P ops Q (o :: rest) a (W.alloc (.cells #[.int .i64 y] 3)) := by
  obtain ⟨i0, hi, hzz⟩ := Option.map_eq_some_iff.1 hinfo
  simp only [Prod.mk.injEq] at hzz
  obtain ⟨hz0, hz1, hz2⟩ := hzz
  have hown := Kd.own_of_R (Kd.R_alloc HO (.cells #[.int .i64 y] 3))
  refine wpListIn_append_own_at _ hgd s x t ho base 3 i0 (.int .i64 0) 1 8 ht hi hz0 hz1 hz2 rfl (by omega) v xs.length _ hs hown ⟨W.heap.size, 0, none⟩ 1 1 [.int .i64 y] hx rfl ?_ (by simp [Value.oneCell']) (by simp only [maxLen]; omega) hl (by simp; omega) ?_
  · intro j u hj
    rcases j with _ | j
    · simp only [List.getElem?_cons_zero, Option.some.injEq] at hj
      rw [← hj, add_plain]
      exact (blk_cell (cs := #[.int .i64 y]) (t := 3) (heap_alloc_new W _) 0).trans rfl
    · simp at hj
  · intro v1 w1 hown1 hg _ hat
    have hg2 : W.grownBy w1 v.ownBlock := World.grownBy.trans (World.grownBy_alloc W _ _) hg
    refine h v1 w1 (Kd.R_of_own (by simpa [encs] using hown1) (fun k hk => ?_)) hg2 ?_
    · rcases hat with hat | hat
      · exact HO.1 k (hat ▸ hk)
      · rw [hat] at hk; injection hk with hk; simp at hk; exact hfresh k (by omega)
    · rcases hat with hat | hat
      · exact .inl hat
      · exact .inr ⟨_, hat, by simp⟩
end Go.Proofs.Ythbalcbibmdpnaa.OAll
