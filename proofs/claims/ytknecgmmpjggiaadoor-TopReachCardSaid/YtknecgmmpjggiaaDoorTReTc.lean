/- A part of the proof of 'topReach_holds', for every input, without a condition. -/
import Derived.Maps.OwnRows
import Derived.Maps.GroupsBeside
import Derived.Test.YtknecgmmpjggiaaDoorTReTb
namespace Go.Proofs.YtknecgmmpjggiaaDoor.OAll
open Go.RowKit Go.Proofs.YtknecgmmpjggiaaDoorW.PrintWords Go.Proofs.YtknecgmmpjggiaaDoorW.PrintLast Go.Proofs.YtknecgmmpjggiaaDoorW.PrintMore
attribute [local go_sem] max2_int min2_int max_two min_two max_three min_three max_four min_four
set_option linter.unusedVariables false
set_option linter.unusedSimpArgs false
def okS (n : Int) (x : S32) : Prop := 0 ≤ x.f0 ∧ 0 ≤ x.f1 ∧ x.f0 < n ∧ x.f1 < n ∧ x.f0 ≠ x.f1 ∧ 0 ≤ x.f2 ∧ x.f2 ≤ 1000
instance (n : Int) (x : S32) : Decidable (okS n x) := by unfold okS; infer_instance
def readW (n : Int) (ways : List S32) : Int := if n < 2 then 2 else if 7 < n then 2 else if 30 < (ways.length : Int) then 3 else if ∀ x ∈ ways, okS n x then 0 else 2
theorem step_append_row {P : Program} {ops : Array Oper} {o : Oper} {a : Act} {w : World} {K : Act → World → Prop} {Q : Exit → Act → World → Prop} {E : Prop} (hgd : o.guard = none) (s x : Operand) (t e : TypeId)
    (ho : o.op = .call { callee := .builtin .append, args := #[s, x], argTypes := #[t, t] })
    (ht : P.underlying t = some (.slice e)) (hinfo : (P.info? e).map (fun i => (i.zero, i.size, i.bytes)) = some (some (.int .i64 0), 1, 8))
    (v : Value) (xs : List Int) (y : Int) (g base : Nat) (hs : a.eval s = v) (hx : a.eval x = .slice (some ⟨g, 0, none⟩) 1 1) (hy : w.cell? ⟨g, 0, none⟩ = some (.int .i64 y))
    (HO : w.ownsInts base e .i64 v xs) (hbase : base ≤ w.heap.size) (hl : (xs.length + 1) * 8 ≤ 140737488355328) (hyw : (Lit.int .i64 y).wf = true)
    (h : ∀ v1 w1, w1.ownsInts base e .i64 v1 (xs ++ [y]) → w.grownBy w1 v.ownBlock → (v1.ownBlock = v.ownBlock ∨ v1.ownBlock = some w.heap.size) → K (a.put o.dst v1) w1) :
    if Region.wanted o (yielded ops a.tmps) = true then Oper.wp P o a w K Q else E := by
  obtain ⟨i0, hi, hzz⟩ := Option.map_eq_some_iff.1 hinfo
  simp only [Prod.mk.injEq] at hzz
  obtain ⟨hz0, hz1, hz2⟩ := hzz
  have hw : Region.wanted o (yielded ops a.tmps) = true := by simp [Region.wanted, hgd]
  rw [if_pos hw]
  obtain ⟨v1, w1, hrun, h2, hg, _, hat⟩ := run_append_own_at (P := P) (w := w) base t o.type e i0 (.int .i64 0) 1 8 ht hi hz0 hz1 hz2 rfl (by omega) v xs.length _ HO.1 ⟨g, 0, none⟩ 1 1 [.int .i64 y] rfl
    (by
      intro j u hj
      rcases j with _ | j
      · simp only [List.getElem?_cons_zero, Option.some.injEq] at hj
        rw [← hj, add_plain]; exact hy
      · simp at hj) (by simp [Value.oneCell']) (by simp only [maxLen]; omega) hl hbase
  unfold Oper.wp
  simp [execOp, ho, resolve, invoke, builtin, hs, hx, hrun, Result.andThen]
  exact h v1 w1 (HO.appended h2 hyw) hg hat
def Ahead (W : World) (base b n : Nat) (D : DataW Unit) (key : Value) (kl : Lit) (v : Value) : Prop :=
  ∀ (w1 : World) (v' : Value) (zs' : List Int), W.grownBy w1 v.ownBlock → w1.ownsInts base 3 .i64 v' zs' → zs'.length ≤ n + 1 → (v'.ownBlock = v.ownBlock ∨ v'.ownBlock = some W.heap.size) →
    ∃ w2, (Instr.mapUpdate 76 (.map (some b)) key v').run Tryd.prog w1 = .ok () w2 ∧ w2.ownsGroups Tryd.prog 3 base 3 .i64 b (n + 1) (D.put kl (rowDatum .i64 v' zs')) ∧ w1.grownBy w2 (some b)
theorem Ahead.here {W : World} {base b n : Nat} {D : DataW Unit} {key : Value} {kl : Lit} {v : Value} (h : W.groupBack Tryd.prog 76 3 base 3 .i64 b n D key kl v) : Ahead W base b n D key kl v :=
  fun w1 v' zs' hg ho hl hc => h w1 v' zs' hg ho hl (hc.imp id fun e => ⟨_, e, Nat.le_refl _⟩)
theorem Ahead.later {W : World} {base b n : Nat} {D : DataW Unit} {key : Value} {kl : Lit} {v : Value} (o : Obj) (h : W.groupBack Tryd.prog 76 3 base 3 .i64 b n D key kl v) : Ahead (W.alloc o) base b n D key kl v :=
  fun w1 v' zs' hg ho hl hc => h w1 v' zs' ((World.grownBy_alloc W o v.ownBlock).trans hg) ho hl (hc.imp id fun e => ⟨_, e, by rw [World.size_alloc]; omega⟩)
theorem groups_at {w : World} {base b n : Nat} {D : DataW Unit} {key : Value} {kl : Lit} {No : Nat → Prop} (hown : w.ownsGroups Tryd.prog 3 base 3 .i64 b n D) (hn : n < maxLen) (hkey : keyOf Tryd.prog 3 key = some kl) (hsh : w.Shuns b No) :
    ∃ v zs, (Instr.lookup 76 (.map (some b)) key false).run Tryd.prog w = .ok v w ∧ D.atKey kl .nil = rowDatum .i64 v zs ∧ w.ownsInts base 3 .i64 v zs ∧ zs.length ≤ n ∧ w.groupBack Tryd.prog 76 3 base 3 .i64 b n D key kl v ∧ ∀ g, v.ownBlock = some g → ¬ No g := by
  obtain ⟨v, zs, hrun, hat, hoi, hzl, hback⟩ := hown.at (Maps.int_keyed Tryd.underlying3) Tryd.underlying76 (Tryd.zeroValue35 w) hn hkey
  have hno : ∀ g, v.ownBlock = some g → ¬ No g := by
    obtain ⟨es, clock, hb, F, _⟩ := hown
    rcases Maps.fit_look false (Maps.int_keyed Tryd.underlying3) Tryd.underlying76 (Tryd.zeroValue35 w) hb F hkey with ⟨hrun', _, _⟩ | ⟨e0, y, hm0, _, hrun', _, _, _⟩
    · rw [hrun] at hrun'
      obtain rfl : v = .slice none 0 0 := by simpa using hrun'
      intro g hg'
      cases hg'
    · rw [hrun] at hrun'
      obtain rfl : v = e0.val := by simpa using hrun'
      exact fun g hg' => hsh es clock hb e0 hm0 g hg'
  exact ⟨v, zs, hrun, hat, hoi, hzl, hback, hno⟩
def Grp (D : DataW Unit) (i : Nat) : Prop := ∀ kl zs, D.atKey kl .nil = .slice (Go.ChangeShapes.lits .i64 zs) [] → ∀ z ∈ zs, 0 ≤ z ∧ z < (i : Int)
theorem groups_made2 (w : World) : (w.alloc (.map #[] 0)).ownsGroups (H := Unit) Tryd.prog 3 (w.heap.size + 2) 3 .i64 w.heap.size 0 (.map []) :=
  ⟨#[], 0, (MapKept.heap_alloc w _).1, ⟨by simp, MapKept.stamped_empty 0, by simp⟩, Nat.le_refl _, rfl, by omega, by simp, by simp⟩
theorem Grp.put {D : DataW Unit} {i : Nat} {w : World} {base : Nat} {v v1 : Value} {zs : List Int} {kl : Lit} {w1 : World} (h : Grp D i) (hm : Maps.IsMap D) (hk : WideAt.IsKeyLit kl) (hat : D.atKey kl .nil = rowDatum .i64 v zs) (ho : w.ownsInts base 3 .i64 v zs) (ho1 : w1.ownsInts base 3 .i64 v1 (zs ++ [(i : Int)])) :
    Grp (D.put kl (rowDatum .i64 v1 (zs ++ [(i : Int)]))) (i + 1) := by
  have lit_inj : ∀ a b : List Int, (DataW.slice (Go.ChangeShapes.lits .i64 a) [] : DataW Unit) = .slice (Go.ChangeShapes.lits .i64 b) [] → a = b := fun a b e => by
    simp only [DataW.slice.injEq, and_true, Go.ChangeShapes.lits] at e
    exact List.map_inj_right (fun x y hxy => by simpa using hxy) |>.mp e
  intro kl' zs' h' z hz
  by_cases c : kl' = kl
  · subst c
    rw [Maps.atKey_put_same hm hk, ho1.datum_pos (by simp)] at h'
    have := lit_inj _ _ h'
    rw [← this] at hz
    rw [List.mem_append, List.mem_singleton] at hz
    rcases hz with hz | hz
    · rcases ho.datum (H := Unit) with ⟨e1, e2⟩ | e1
      · rw [e2] at hz; simp at hz
      · rw [e1] at hat
        have := h kl' zs hat z hz
        omega
    · omega
  · rw [Maps.atKey_put_other c] at h'
    have := h kl' zs' h' z hz
    omega
theorem groups_isMap {w : World} {base b n : Nat} {D : DataW Unit} (h : w.ownsGroups Tryd.prog 3 base 3 .i64 b n D) : Maps.IsMap D := by
  obtain ⟨es, clock, hb, F, hs, rfl, _⟩ := h
  exact ⟨_, rfl⟩
structure RdI (w : World) (n : Nat) (A : Option Addr) (c : Nat) (ways : List S32) (i : Nat) (wr : World) : Prop where
  cells : wr.heap[w.heap.size + 1]? = some (.cells #[.int .i64 (n : Int), .slice A ways.length c, .map (some w.heap.size)] 78 (0, 0))
  grp : ∃ D : DataW Unit, wr.ownsGroups Tryd.prog 3 (w.heap.size + 2) 3 .i64 w.heap.size i D ∧ Grp D i
  low : Below w.heap.size w wr
  ok : ∀ j : Nat, j < i → okS n (rd_T32 ways (j : Int))
theorem rd_next {w wr W2 w1 w2 : World} {N i : Nat} {A : Option Addr} {c : Nat} {ways : List S32} {D : DataW Unit} {v v1 : Value} {zs : List Int} {kl : Lit} (J : RdI w N A c ways i wr) (hlow2 : Below w.heap.size w W2)
    (hC : W2.heap[w.heap.size + 1]? = some (.cells #[.int .i64 (N : Int), .slice A ways.length c, .map (some w.heap.size)] 78 (0, 0))) (hG : Grp D i) (hm : Maps.IsMap D) (hk : WideAt.IsKeyLit kl) (hat : D.atKey kl .nil = rowDatum .i64 v zs)
    (hoi : W2.ownsInts (w.heap.size + 2) 3 .i64 v zs) (hg : W2.grownBy w1 v.ownBlock) (ho : w1.ownsInts (w.heap.size + 2) 3 .i64 v1 (zs ++ [(i : Int)])) (r1 : w2.ownsGroups Tryd.prog 3 (w.heap.size + 2) 3 .i64 w.heap.size (i + 1) (D.put kl (rowDatum .i64 v1 (zs ++ [(i : Int)]))))
    (r2 : w1.grownBy w2 (some w.heap.size)) (hx : okS N (rd_T32 ways (i : Int))) : RdI w N A c ways (i + 1) w2 := by
  have hne : some (w.heap.size + 1) ≠ v.ownBlock := fun e => by have := (hoi.1.lt _ e.symm).1; omega
  have hne2 : some (w.heap.size + 1) ≠ some w.heap.size := by simp
  refine ⟨blk_grown (blk_grown hC hg hne) r2 hne2, ⟨_, r1, hG.put hm hk hat hoi ho⟩, RowKit.Below.groups hlow2 hoi hg r2 hlow2.size (by omega) (Nat.le_refl _), fun j hj => ?_⟩
  by_cases c1 : j < i
  · exact J.ok j c1
  · obtain rfl : j = i := by omega
    exact hx
theorem read_bad {N : Nat} {ways : List S32} {x : S32} {i : Nat} (hx : Aside0 (x = rd_T32 ways (i : Int) ∧ i < ways.length)) (hb : ¬ okS (N : Int) x) (hc : Aside0 (2 ≤ N ∧ N ≤ 7 ∧ ways.length ≤ 30)) : readW (N : Int) ways = 2 := by
  have hm := rd_T32_mem hx.out.2
  rw [← hx.out.1] at hm
  unfold readW
  have h := hc.out
  rw [if_neg (by omega), if_neg (by omega), if_neg (by omega), if_neg (fun q => hb (q x hm))]
theorem read_good {w wr : World} {N : Nat} {A : Option Addr} {c : Nat} {ways : List S32} (h : RdI w N A c ways ways.length wr) (hc : Aside0 (2 ≤ N ∧ N ≤ 7 ∧ ways.length ≤ 30)) : readW (N : Int) ways = 0 := by
  have q := hc.out
  unfold readW
  rw [if_neg (by omega), if_neg (by omega), if_neg (by omega), if_pos ?_]
  intro x hx
  obtain ⟨j, hj, rfl⟩ := List.getElem_of_mem hx
  have := h.ok j hj
  rw [show rd_T32 ways (j : Int) = ways[j] by simp [rd_T32, List.getD_eq_getElem?_getD, hj]] at this
  exact this
set_option maxRecDepth 100000 in
set_option maxHeartbeats 8000000 in
theorem branch_read (n : Int) (A : Option Addr) (c : Nat) (ways : List S32) (w : World) (hC : Kd.C k32 w A ways.length ways) (hc : ways.length ≤ c) :
    Calls Tryd.prog 16 #[.int .i64 n, .slice A ways.length c] w fun e w' => (∃ v, e = .returned (.tuple #[v, .int .i64 (readW n ways)]) ∧ (readW n ways = 0 → v = .pointer (some ⟨w.heap.size + 1, 0, none⟩) ∧ RdI w n.toNat A c ways ways.length w')) ∧ Below w.heap.size w w' := by
  have HR := Aside0.mk hC
  have HC := Aside0.mk hc
  have hu78 := Tryd.underlying78
  have hu32 := Tryd.underlying32
  clear hC hc
  by_cases c1 : n < 2
  · have k1 : decide (n < 2) = true := decide_eq_true c1
    have e1 : readW n ways = 2 := by unfold readW; rw [if_pos c1]
    rw [e1]
    have C1 := Aside0.mk c1
    clear c1 e1
    go_enter Tryd.func16, Tryd.ntmps16
    go_wp2
    go_ret2
    first | exact ⟨⟨_, rfl, fun h => by simp at h⟩, Below.refl _ _⟩ | exact ⟨⟨_, rfl⟩, Below.refl _ _⟩
  · have k1 : decide (n < 2) = false := decide_eq_false c1
    by_cases c2 : 7 < n
    · have k2 : decide (7 < n) = true := decide_eq_true c2
      have e1 : readW n ways = 2 := by unfold readW; rw [if_neg c1, if_pos c2]
      rw [e1]
      have C1 := Aside0.mk (And.intro c1 c2)
      clear c1 c2 e1
      go_enter Tryd.func16, Tryd.ntmps16
      go_wp2
      go_ret2
      first | exact ⟨⟨_, rfl, fun h => by simp at h⟩, Below.refl _ _⟩ | exact ⟨⟨_, rfl⟩, Below.refl _ _⟩
    · have k2 : decide (7 < n) = false := decide_eq_false c2
      by_cases c3 : 30 < (ways.length : Int)
      · have k3 : decide (30 < (ways.length : Int)) = true := decide_eq_true c3
        have k3' : decide (30 < ways.length) = true := decide_eq_true (by omega)
        have e1 : readW n ways = 3 := by unfold readW; rw [if_neg c1, if_neg c2, if_pos c3]
        rw [e1]
        have C1 := Aside0.mk (And.intro c1 (And.intro c2 c3))
        clear c1 c2 c3 e1
        go_enter Tryd.func16, Tryd.ntmps16
        go_wp2
        go_ret2
        first | exact ⟨⟨_, rfl, fun h => by simp at h⟩, Below.refl _ _⟩ | exact ⟨⟨_, rfl⟩, Below.refl _ _⟩
      · have k3 : decide (30 < (ways.length : Int)) = false := decide_eq_false c3
        have k3' : decide (30 < ways.length) = false := decide_eq_false (by omega)
        have C1 := Aside0.mk (And.intro c1 (And.intro c2 c3))
        clear c1 c2 c3
        go_enter Tryd.func16, Tryd.ntmps16
        have hmm := @run_makeMap Tryd.prog
        go_wp2
        obtain ⟨N, hN⟩ := Int.eq_ofNat_of_zero_le (show 0 ≤ n by have := C1.out; omega)
        subst hN
        have HN := Aside0.mk (show 2 ≤ N ∧ N ≤ 7 ∧ ways.length ≤ 30 by have := C1.out; omega)
        have hst : RdI w N A c ways 0 ((w.alloc (.map #[] 0)).alloc (.cells #[.int .i64 (N : Int), .slice A ways.length c, .map (some w.heap.size)] 78)) := by
          refine ⟨?_, ⟨.map [], ?_, fun kl zs h => ?_⟩, below_alloc (below_alloc (Below.refl _ _) _) _, fun j hj => by omega⟩
          · have := blk_new (w.alloc (.map #[] 0)) (.cells #[.int .i64 (N : Int), .slice A ways.length c, .map (some w.heap.size)] 78)
            rwa [World.size_alloc] at this
          · exact World.ownsGroups.kept (groups_made2 w) (World.grownBy_alloc _ _ none) (by simp) (fun es clock hb x hx => by
              rw [(MapKept.heap_alloc w _).1] at hb
              cases hb
              simp at hx)
          · simp [DataW.atKey] at h
        have HST := Aside0.mk hst
        clear hst
        go_loopg [27] ways.length (fun kq v27 wr => ∃ i : Nat, v27 = .int .i64 (i : Int) ∧ Aside0 (kq + i = ways.length) ∧ Aside0 (RdI w N A c ways i wr))
        case atStart => exact ⟨0, rfl, ⟨rfl⟩, HST⟩
        case round =>
          clear k1 k2 k3 k3'
          obtain ⟨i, rfl, HI, HJ⟩ := hrel
          by_cases c1 : i < ways.length
          · have k1 : ((i : Int) < (ways.length : Int)) = True := eq_true (by omega)
            have k2 : decide ((i : Int) < (ways.length : Int)) = true := decide_eq_true (by omega)
            have p1 : ((0 : Int) ≤ (i : Int)) = True := eq_true (by omega)
            obtain ⟨x, hx⟩ : ∃ x, x = rd_T32 ways (i : Int) := ⟨_, rfl⟩
            obtain ⟨ad, e0, x0, x1, x2⟩ := at_T32 (Kd.C_below HR.out HJ.out.low) (i : Int) (by omega) (by omega)
            cases e0
            rw [← hx] at x0 x1 x2
            rw [Int.toNat_natCast] at x0 x1 x2
            have HX := Aside0.mk (And.intro hx c1)
            have T2 : wr.cell? ⟨w.heap.size + 1, 2, none⟩ = some (.map (some w.heap.size)) := (blk_cell HJ.out.cells 2).trans rfl
            clear hx c1
            go_wp2
            all_goals first | (go_ret2; skip; have hb : ¬ okS (N : Int) x := (by intro q; unfold okS at q; (try simp only [beq_iff_eq] at *); omega); have hbad : readW (N : Int) ways = 2 := read_bad HX hb HN; exact ⟨⟨.pointer none, (by rw [hbad]; rfl), fun h => by rw [hbad] at h; cases h⟩, below_alloc HJ.out.low _⟩) | skip
            all_goals (have hgood : okS (N : Int) x := (by unfold okS; omega))
            all_goals have HG := Aside0.mk hgood
            all_goals clear hgood
            all_goals obtain ⟨D, hD, hG⟩ := HJ.out.grp
            all_goals have hlt := blk_lt HJ.out.cells
            all_goals have hblt : w.heap.size < wr.heap.size := (by omega)
            all_goals have hgb : wr.grownBy (wr.alloc (.cells #[.int .i64 x.f0, .int .i64 x.f1, .int .i64 x.f2] 32)).drew none := ⟨rfl, rfl, rfl, by simp [World.drew], fun k hk _ => heap_alloc_old wr _ hk⟩
            all_goals have hG1 := hD.kept hgb (by simp) (fun es clock hb y hy => by cases y.val.ownBlock <;> simp)
            all_goals have hS1 : (wr.alloc (.cells #[.int .i64 x.f0, .int .i64 x.f1, .int .i64 x.f2] 32)).drew.Shuns w.heap.size (fun g => wr.heap.size ≤ g) := (World.Shuns.reno (No := fun _ => False) (fun _ _ _ _ _ _ _ h => h) hD (fun g h => .inr h)).kept hgb hblt (by simp)
            all_goals have hC1 := (heap_alloc_old wr (.cells #[.int .i64 x.f0, .int .i64 x.f1, .int .i64 x.f2] 32) hlt).trans HJ.out.cells
            all_goals have hC2 := blk_new wr (.cells #[.int .i64 x.f0, .int .i64 x.f1, .int .i64 x.f2] 32)
            all_goals have hb2 : w.heap.size + 1 ≠ wr.heap.size := (by omega)
            all_goals have hs0 := World.size_alloc wr (.cells #[.int .i64 x.f0, .int .i64 x.f1, .int .i64 x.f2] 32)
            all_goals obtain ⟨W1, hW1⟩ : ∃ W1, W1 = (wr.alloc (.cells #[.int .i64 x.f0, .int .i64 x.f1, .int .i64 x.f2] 32)).drew := ⟨_, rfl⟩
            all_goals have hC1' : W1.heap[w.heap.size + 1]? = some (.cells #[.int .i64 (N : Int), .slice (some ad) ways.length c, .map (some w.heap.size)] 78 (0, 0)) := (by rw [hW1]; exact hC1)
            all_goals have hC2' : W1.heap[wr.heap.size]? = some (.cells #[.int .i64 x.f0, .int .i64 x.f1, .int .i64 x.f2] 32 (0, 0)) := (by rw [hW1]; exact hC2)
            all_goals have hG1' : W1.ownsGroups Tryd.prog 3 (w.heap.size + 2) 3 .i64 w.heap.size i D := (by rw [hW1]; exact hG1)
            all_goals have hS1' : W1.Shuns w.heap.size (fun g => wr.heap.size ≤ g ∧ g < W1.heap.size) := (by rw [hW1]; exact fun es clock hb y hy g hg hn => hS1 es clock hb y hy g hg hn.1)
            all_goals have hsz1 : W1.heap.size = wr.heap.size + 1 := (by rw [hW1]; exact hs0)
            all_goals have hlow1 : Below w.heap.size w W1 := (by rw [hW1]; exact below_drew (below_alloc HJ.out.low _))
            all_goals clear hG1 hS1 hC1 hC2 hgb hD hs0
            all_goals have hx1 : W1.cell? ⟨w.heap.size + 1, 2, none⟩ = some (.map (some w.heap.size)) ∧ W1.cell? ⟨wr.heap.size, 1, none⟩ = some (.int .i64 x.f1) := ⟨(blk_cell hC1' 2).trans rfl, (blk_cell hC2' 1).trans rfl⟩
            all_goals have hi2 : (W1.alloc (.cells #[.int .i64 (i : Int)] 3)).cell? ⟨W1.heap.size, 0, none⟩ = some (.int .i64 (i : Int)) := (blk_cell (blk_new W1 _) 0).trans rfl
            all_goals have hC3' := (heap_alloc_old W1 (.cells #[.int .i64 (i : Int)] 3) (blk_lt hC1')).trans hC1'
            all_goals have hC4' := (heap_alloc_old W1 (.cells #[.int .i64 (i : Int)] 3) (blk_lt hC2')).trans hC2'
            all_goals have hx2 : (W1.alloc (.cells #[.int .i64 (i : Int)] 3)).cell? ⟨w.heap.size + 1, 2, none⟩ = some (.map (some w.heap.size)) ∧ (W1.alloc (.cells #[.int .i64 (i : Int)] 3)).cell? ⟨wr.heap.size, 1, none⟩ = some (.int .i64 x.f1) := ⟨(blk_cell hC3' 2).trans rfl, (blk_cell hC4' 1).trans rfl⟩
            all_goals have hG2' := hG1'.kept (World.grownBy_alloc W1 (.cells #[.int .i64 (i : Int)] 3) none) (by simp) (fun es clock hb y hy => by cases y.val.ownBlock <;> simp)
            all_goals have hS2' := hS1'.kept (World.grownBy_alloc W1 (.cells #[.int .i64 (i : Int)] 3) none) (by omega) (by simp)
            all_goals have hlow2 : Below w.heap.size w (W1.alloc (.cells #[.int .i64 (i : Int)] 3)) := below_alloc hlow1 _
            all_goals have hkey : keyOf Tryd.prog 3 (.int .i64 x.f1) = some (.int .i64 x.f1) := (by have q := HG.out; have q2 := HN.out; unfold okS at q; simp [keyOf, Tryd.underlying3, mapKey, wf_small (show 0 ≤ x.f1 by omega) (show x.f1 < 1000 by omega)])
            all_goals have hcx := HX.out
            all_goals have E1 := Aside0.mk (show wrap64 ((i : Int) + 1) = ((i + 1 : Nat) : Int) by have := HN.out; unfold wrap64; omega)
            all_goals have hwi := wf_small (k := (i : Int)) (by omega) (by have := HN.out; omega)
            all_goals have hlen : i ≤ 30 := (by have := HN.out; omega)
            all_goals have HW1 := Aside0.mk (And.intro hsz1 (And.intro hwi hlen))
            all_goals have hnm : i < maxLen := (by simp only [maxLen]; omega)
            all_goals obtain ⟨v, zs, hr1, hat, hoi, hzl, hback, hno⟩ := groups_at hG1' hnm hkey hS1'
            all_goals obtain ⟨v', zs', hr2, hat', hoi', hzl', hback', hno'⟩ := groups_at hG2' hnm hkey hS2'
            all_goals have HOI1 := Aside0.mk (hoi.alloc (.cells #[.int .i64 (i : Int)] 3))
            all_goals have HAH1 := Aside0.mk (Ahead.later (.cells #[.int .i64 (i : Int)] 3) hback)
            all_goals have HVZ1 := Aside0.mk (And.intro hat hzl)
            all_goals have HNO1 := Aside0.mk hno
            all_goals have HOI2 := Aside0.mk hoi'
            all_goals have HAH2 := Aside0.mk (Ahead.here hback')
            all_goals have HVZ2 := Aside0.mk (And.intro hat' hzl')
            all_goals have HNO2 := Aside0.mk hno'
            all_goals have HG2 := Aside0.mk hG2'
            all_goals have HSZ2 := Aside0.mk (show w.heap.size + 2 ≤ (W1.alloc (.cells #[.int .i64 (i : Int)] 3)).heap.size by have := blk_lt hC3'; omega)
            all_goals rw [hsz1] at hi2
            all_goals have HI2 := Aside0.mk hi2
            all_goals have HLOW := Aside0.mk (And.intro hlow2 (And.intro hC3' hC4'))
            all_goals have HGD := Aside0.mk hG
            all_goals clear hG1' hG2' hS1' hS2' hi2 hkey hlow1 hlow2 hC1' hC2' hC3' hC4' hG hsz1 hwi hlen hcx hat hoi hzl hback hno hat' hoi' hzl' hback' hno' hnm
            all_goals subst hW1
            all_goals rw [show (wr.alloc (.cells #[.int .i64 x.f0, .int .i64 x.f1, .int .i64 x.f2] 32)).drew.alloc (.cells #[.int .i64 (i : Int)] 3) = ((wr.alloc (.cells #[.int .i64 x.f0, .int .i64 x.f1, .int .i64 x.f2] 32)).alloc (.cells #[.int .i64 (i : Int)] 3)).drew from rfl] at hr2
            all_goals (go_region_held3 (fun w' => w'.cell? ⟨w.heap.size + 1, 2, none⟩ = some (.map (some w.heap.size)) ∧ w'.cell? ⟨wr.heap.size, 1, none⟩ = some (.int .i64 x.f1)) (first | exact hx1 | exact hx2 | exact hx3 | exact hx4 | go_keep)
              (first | (refine step_append_row rfl (.tmp 76) (.tmp 78) 35 3 rfl Tryd.underlying35 info3 v zs (i : Int) _ (w.heap.size + 2) rfl rfl HI2.out HOI1.out HSZ2.out (by have := HVZ1.out.2; have := HW1.out.2.2; omega) HW1.out.2.1 ?_; intro v1 w1 ho hg hat1; obtain ⟨w2, hrun, r1, r2⟩ := HAH1.out w1 v1 (zs ++ [(i : Int)]) hg ho (by have := HVZ1.out.2; simp; omega) hat1; have HFIN := Aside0.mk (rd_next HJ.out HLOW.out.1 HLOW.out.2.1 HGD.out (groups_isMap HG2.out) (show WideAt.IsKeyLit (.int .i64 x.f1) from trivial) HVZ1.out.1 HOI1.out hg ho r1 r2 (HX.out.1 ▸ HG.out)); have hb1 := blk_grown HLOW.out.2.1 hg (fun e => by have := (HOI1.out.1.lt _ e.symm).1; omega); have hb3 := blk_grown HLOW.out.2.2 hg (fun e => HNO1.out _ e.symm ⟨Nat.le_refl _, by have := HW1.out.1; omega⟩); have hx3 : w1.cell? ⟨w.heap.size + 1, 2, none⟩ = some (.map (some w.heap.size)) ∧ w1.cell? ⟨wr.heap.size, 1, none⟩ = some (.int .i64 x.f1) := ⟨(blk_cell hb1 2).trans rfl, (blk_cell hb3 1).trans rfl⟩; have hx4 : w2.cell? ⟨w.heap.size + 1, 2, none⟩ = some (.map (some w.heap.size)) ∧ w2.cell? ⟨wr.heap.size, 1, none⟩ = some (.int .i64 x.f1) := ⟨(blk_cell (blk_grown hb1 r2 (by simp)) 2).trans rfl, (blk_cell (blk_grown hb3 r2 (by have := blk_lt HJ.out.cells; simp; omega)) 1).trans rfl⟩; clear hb1 hb3; clear ho hg hat1 r1 r2) | (refine step_append_row rfl (.tmp 76) (.tmp 78) 35 3 rfl Tryd.underlying35 info3 v' zs' (i : Int) _ (w.heap.size + 2) rfl rfl HI2.out HOI2.out HSZ2.out (by have := HVZ2.out.2; have := HW1.out.2.2; omega) HW1.out.2.1 ?_; intro v1 w1 ho hg hat1; obtain ⟨w2, hrun, r1, r2⟩ := HAH2.out w1 v1 (zs' ++ [(i : Int)]) hg ho (by have := HVZ2.out.2; simp; omega) hat1; have HFIN := Aside0.mk (rd_next HJ.out HLOW.out.1 HLOW.out.2.1 HGD.out (groups_isMap HG2.out) (show WideAt.IsKeyLit (.int .i64 x.f1) from trivial) HVZ2.out.1 HOI2.out hg ho r1 r2 (HX.out.1 ▸ HG.out)); have hb1 := blk_grown HLOW.out.2.1 hg (fun e => by have := (HOI2.out.1.lt _ e.symm).1; omega); have hb3 := blk_grown HLOW.out.2.2 hg (fun e => HNO2.out _ e.symm ⟨Nat.le_refl _, by have := HW1.out.1; omega⟩); have hx3 : w1.cell? ⟨w.heap.size + 1, 2, none⟩ = some (.map (some w.heap.size)) ∧ w1.cell? ⟨wr.heap.size, 1, none⟩ = some (.int .i64 x.f1) := ⟨(blk_cell hb1 2).trans rfl, (blk_cell hb3 1).trans rfl⟩; have hx4 : w2.cell? ⟨w.heap.size + 1, 2, none⟩ = some (.map (some w.heap.size)) ∧ w2.cell? ⟨wr.heap.size, 1, none⟩ = some (.int .i64 x.f1) := ⟨(blk_cell (blk_grown hb1 r2 (by simp)) 2).trans rfl, (blk_cell (blk_grown hb3 r2 (by have := blk_lt HJ.out.cells; simp; omega)) 1).trans rfl⟩; clear hb1 hb3; clear ho hg hat1 r1 r2)))
            all_goals (go_wp2; skip; go_roundg (ways.length - (i + 1)); (case measure => have := HI.out; have := HX.out.2; omega); (case rel => exact ⟨i + 1, by rw [E1.out], ⟨by have := HI.out; have := HX.out.2; omega⟩, HFIN⟩))
          · have k1 : ((i : Int) < (ways.length : Int)) = False := eq_false (by omega)
            have k2 : decide ((i : Int) < (ways.length : Int)) = false := decide_eq_false (by omega)
            have C2 := Aside0.mk c1
            clear c1
            go_wp2
            go_ret2
            have hi : ways.length = i := by have := HI.out; have := C2.out; omega
            have hz : readW (N : Int) ways = 0 := read_good (hi ▸ HJ.out) HN
            rw [hz]
            exact ⟨⟨_, rfl, fun _ => ⟨rfl, by rw [Int.toNat_natCast, hi]; exact HJ.out⟩⟩, HJ.out.low⟩
end Go.Proofs.YtknecgmmpjggiaaDoor.OAll
