/- A part of the proof of 'stampPaid_holds', for every input, without a condition. -/
import Derived.Test.YthbalcbibmdpnaaSPdRl
import Derived.Test.YthbalcbibmdpnaaSPdRk
namespace Go.Proofs.Ythbalcbibmdpnaa.OAll
open Go.RowKit Go.Shelf Go.Proofs.YthbalcbibmdpnaaW.PrintWords Go.Proofs.YthbalcbibmdpnaaW.PrintLast Go.Proofs.YthbalcbibmdpnaaW.PrintMore Go.Proofs.Ythbalcbibmdpnaa.Rg
attribute [local go_sem] Oper.semAt_some
set_option linter.unusedVariables false
set_option linter.unusedSimpArgs false
def enF (vals : List Int) (d least : Nat) (left : Int) (x : Int × Int) : List (List Int) :=
  if left < ((d + 1 : Nat) : Int) * x.2 ∨ ((d + 1 : Nat) : Int) * rd vals ((vals.length - 1 : Nat) : Int) < left then [] else (enumL vals d (least + x.1.toNat) (left - x.2)).map (x.2 :: ·)
theorem enum_succ (vals : List Int) (d least : Nat) (left : Int) : enumL vals (d + 1) least left = (bw (vals.drop least)).flatMap (enF vals d least left) := rfl
theorem bw_mem {zs : List Int} {x : Int × Int} (h : x ∈ bw zs) : ∃ k : Nat, k < zs.length ∧ x = ((k : Int), rd zs (k : Int)) := by
  unfold bw at h
  obtain ⟨j, hj, rfl⟩ := List.mem_map.mp h
  exact ⟨zs.length - 1 - j, by have := List.mem_range.mp hj; omega, rfl⟩
theorem getElem_rd (xs : List Int) (k : Nat) (h : k < xs.length) : xs[k]? = some (rd xs (k : Int)) := by simp [rd, h]
theorem rd_drop (xs : List Int) (m k : Nat) : rd (xs.drop m) (k : Int) = rd xs ((m + k : Nat) : Int) := by
  have : ((m : Int) + (k : Int)).toNat = m + k := by omega
  simp [rd, this]
theorem wrap_q {n : Nat} (h : n ≤ 100) : wrap64 (n : Int) = (n : Int) ∧ wrap64 ((n : Int) + 1 - 1) = (n : Int) := by unfold wrap64; omega
theorem i64_w (x : Int) : IntKind.i64.wrap x = wrap64 x := by rw [IntKind.wrap_i64]; unfold wrap64; omega
structure OnB (p : LP) (ok okI : Nat → Prop) (q : List Int) (least left : Int) (sl : Value) (W W' : World) : Prop where
  st : StO p okI q W'
  b7 : W'.heap[W.heap.size]? = some (.cells #[.int .i64 least] 3 (0, 0))
  b8 : W'.heap[W.heap.size + 1]? = some (.cells #[.int .i64 left] 3 (0, 0))
  b9 : W'.heap[W.heap.size + 2]? = some (.cells #[.bool false] 4 (0, 0))
  bs : W'.heap[W.heap.size + 3]? = some (.cells #[sl] 22 (0, 0))
  keep : KeepO p ok W W'
theorem KeepO.looser {p : LP} {ok ok' : Nat → Prop} {W W' : World} (h : KeepO p ok W W') (hi : ∀ k, ok k → ok' k) : KeepO p ok' W W' := ⟨h.low, h.marks, fun k hz hk ho hl => h.same k hz hk (fun h => ho (hi k h)) hl⟩
theorem OnB.step {p : LP} {ok okI : Nat → Prop} {q q' : List Int} {least left : Int} {sl : Value} {W U U' : World} (h : OnB p ok okI q least left sl W U) (hI : ∀ k, okI k → ok k ∧ k ≠ W.heap.size ∧ k ≠ W.heap.size + 1 ∧ k ≠ W.heap.size + 2 ∧ k ≠ W.heap.size + 3)
    (hn : p.n0 ≤ W.heap.size) (hl : p.Bl < W.heap.size) (hk : KeepO p okI U U') (hs : StO p okI q' U') : OnB p ok okI q' least left sl W U' :=
  ⟨hs, (hk.same _ (.inl hn) (blk_lt' h.b7) (fun e => (hI _ e).2.1 rfl) (by omega)).trans h.b7, (hk.same _ (.inl (by omega)) (blk_lt' h.b8) (fun e => (hI _ e).2.2.1 rfl) (by omega)).trans h.b8,
    (hk.same _ (.inl (by omega)) (blk_lt' h.b9) (fun e => (hI _ e).2.2.2.1 rfl) (by omega)).trans h.b9, (hk.same _ (.inl (by omega)) (blk_lt' h.bs) (fun e => (hI _ e).2.2.2.2 rfl) (by omega)).trans h.bs, h.keep.trans (hk.looser (fun k e => (hI k e).1))⟩
theorem StO.putObj {p : LP} {ok : Nat → Prop} {q : List Int} {W : World} (h : StO p ok q W) {k : Nat} {o : Obj} (o' : Obj) (hk : W.heap[k]? = some o) (hc : o.isCells = false) (hw : p.n0 ≤ k) (hw0 : p.w00.heap.size ≤ p.n0) : StO p ok q (W.putObj k o') := by
  obtain ⟨v, h1, h2⟩ := h.l
  exact ⟨⟨v, boxed_putObj o' h1 hk hc, R_putObj h2 o' hk hc⟩, boxed_putObj o' h.m hk hc, boxed_putObj o' h.y hk hc, boxed_putObj o' h.v hk hc, boxed_putObj o' h.o hk hc, h.low.trans (below_putObj W o' (by omega)), by simp [World.putObj]; exact h.n0⟩
theorem KeepO.putObj {p : LP} {ok : Nat → Prop} {W U : World} (h : KeepO p ok W U) {k : Nat} (o' : Obj) (hk : W.heap.size ≤ k) (hw : p.w00.heap.size ≤ W.heap.size) : KeepO p ok W (U.putObj k o') :=
  ⟨h.low.trans (below_putObj U o' (by omega)), fun i o hn hi hc => (World.putObj_heap_other (by have := blk_lt' hi; omega)).trans (h.marks i o hn hi hc), fun i hz hi ho hl => (World.putObj_heap_other (by omega)).trans (h.same i hz hi ho hl)⟩
theorem OnB.putObj {p : LP} {ok okI : Nat → Prop} {q : List Int} {least left : Int} {sl : Value} {W U : World} (h : OnB p ok okI q least left sl W U) {k : Nat} {o : Obj} (o' : Obj) (hk : U.heap[k]? = some o) (hc : o.isCells = false) (hw : W.heap.size ≤ k) (hn : p.n0 ≤ W.heap.size) (hw0 : p.w00.heap.size ≤ p.n0) : OnB p ok okI q least left sl W (U.putObj k o') :=
  ⟨h.st.putObj o' hk hc (by omega) hw0, boxed_putObj o' h.b7 hk hc, boxed_putObj o' h.b8 hk hc, boxed_putObj o' h.b9 hk hc, boxed_putObj o' h.bs hk hc, h.keep.putObj o' hw (by omega)⟩
theorem OnB.below {p : LP} {ok okI : Nat → Prop} {q : List Int} {least left : Int} {sl : Value} {W U U' : World} (h : OnB p ok okI q least left sl W U) (hb : Below U.heap.size U U') (hw : p.w00.heap.size ≤ U.heap.size) : OnB p ok okI q least left sl W U' :=
  ⟨h.st.below hb, blk_below h.b7 hb, blk_below h.b8 hb, blk_below h.b9 hb, blk_below h.bs hb, h.keep.trans (KeepO.below hw hb)⟩
theorem StO.push {p : LP} {ok : Nat → Prop} {q : List Int} {y : Int} {X w1 : World} {v v1 : Value} (hg : p.Good) (hok : ∀ k, ok k → p.n0 ≤ k ∧ k ≠ p.Bl ∧ k ≠ p.By ∧ k ≠ p.Bo) (hS : StO p ok q X) (hl : X.heap[p.Bl]? = some (.cells #[v] 22 (0, 0))) (hR : Kd.R (Kd.int .i64) 3 X p.n0 ok v q)
    (hR1 : Kd.R (Kd.int .i64) 3 w1 p.n0 ok v1 (q ++ [y])) (hg1 : X.grownBy w1 v.ownBlock) : KeepO p ok X (w1.setCell ⟨p.Bl, 0, none⟩ v1) ∧ StO p ok (q ++ [y]) (w1.setCell ⟨p.Bl, 0, none⟩ v1) ∧ Below p.n0 X (w1.setCell ⟨p.Bl, 0, none⟩ v1) := by
  have hb := hg.boxes
  have hc := hg.caps
  have hw := hg.w00
  have hlow : Below p.w00.heap.size X w1 := (Below.refl _ X).grown hg1 hS.low.size (fun k hk => by have := Kd.R_base hR k hk; omega)
  have hlo2 : Below p.w00.heap.size X (w1.setCell ⟨p.Bl, 0, none⟩ v1) := hlow.setCell (by show p.w00.heap.size ≤ p.Bl; omega) _
  have far : ∀ {B t : Nat} {u : Value}, X.heap[B]? = some (.cells #[u] t (0, 0)) → (∀ k, ok k → k ≠ B) → B ≠ p.Bl → (w1.setCell ⟨p.Bl, 0, none⟩ v1).heap[B]? = some (.cells #[u] t (0, 0)) := fun h hn hB => blk_far (blk_grown h hg1 (Kd.R_away hR hn)) (by show _ ≠ p.Bl; exact hB) _
  refine ⟨⟨hlo2, fun k o hn hk hcc => ?_, fun k hz hk hno hkl => ?_⟩, ⟨⟨v1, blk_put (blk_grown hl hg1 (Kd.R_away hR (fun k hk => (hok k hk).2.1))) 0 _ rfl, Kd.R_far hR1 (p := ⟨p.Bl, 0, none⟩) (fun k hk => (hok k hk).2.1) _⟩, far hS.m (fun k hk => by have := (hok k hk).1; omega) (by omega), far hS.y (fun k hk => (hok k hk).2.2.1) (by omega), far hS.v (fun k hk => by have := (hok k hk).1; omega) (by omega), far hS.o (fun k hk => (hok k hk).2.2.2) (by omega), hS.low.trans hlo2, Nat.le_trans hS.n0 hlo2.size⟩, ((Below.refl _ X).grown hg1 hS.n0 (fun k hk => Kd.R_base hR k hk)).setCell (by show p.n0 ≤ p.Bl; omega) _⟩
  · refine (Below.heap_setCell _ _ _ _ (fun e => ?_)).trans ((hg1.block k (blk_lt' hk) (fun e => ?_)).trans hk)
    · have e' : k = p.Bl := e
      rw [e', hl] at hk
      cases hk
      simp [Obj.isCells] at hcc
    · obtain ⟨cells, hce⟩ := Kd.R_typed hR k e.symm
      rw [hk] at hce
      cases hce
      simp [Obj.isCells] at hcc
  · exact (Below.heap_setCell _ _ _ _ hkl).trans (hg1.block k hk (fun e => hno (hR.1 k e.symm)))
theorem StO.cut {p : LP} {ok : Nat → Prop} {q q' : List Int} {X : World} {v v1 : Value} (hg : p.Good) (hok : ∀ k, ok k → p.n0 ≤ k ∧ k ≠ p.Bl ∧ k ≠ p.By ∧ k ≠ p.Bo) (hS : StO p ok q X) (hl : X.heap[p.Bl]? = some (.cells #[v] 22 (0, 0)))
    (hR1 : Kd.R (Kd.int .i64) 3 X p.n0 ok v1 q') : KeepO p ok X (X.setCell ⟨p.Bl, 0, none⟩ v1) ∧ StO p ok q' (X.setCell ⟨p.Bl, 0, none⟩ v1) := by
  have hb := hg.boxes
  have hc := hg.caps
  have hw := hg.w00
  have hlo2 : Below p.w00.heap.size X (X.setCell ⟨p.Bl, 0, none⟩ v1) := (Below.refl _ X).setCell (by show p.w00.heap.size ≤ p.Bl; omega) _
  have far : ∀ {B t : Nat} {u : Value}, X.heap[B]? = some (.cells #[u] t (0, 0)) → B ≠ p.Bl → (X.setCell ⟨p.Bl, 0, none⟩ v1).heap[B]? = some (.cells #[u] t (0, 0)) := fun h hB => blk_far h (by show _ ≠ p.Bl; exact hB) _
  refine ⟨⟨hlo2.mono (Nat.le_refl _), fun k o hn hk hcc => ?_, fun k hz hk hno hkl => Below.heap_setCell _ _ _ _ hkl⟩, ⟨v1, blk_put hl 0 _ rfl, Kd.R_far hR1 (p := ⟨p.Bl, 0, none⟩) (fun k hk => (hok k hk).2.1) _⟩, far hS.m (by omega), far hS.y (by omega), far hS.v (by omega), far hS.o (by omega), hS.low.trans hlo2, Nat.le_trans hS.n0 hlo2.size⟩
  refine (Below.heap_setCell _ _ _ _ (fun e => ?_)).trans hk
  have e' : k = p.Bl := e
  rw [e', hl] at hk
  cases hk
  simp [Obj.isCells] at hcc
theorem OnB.set9 {p : LP} {ok okI : Nat → Prop} {q : List Int} {least left : Int} {sl : Value} {W U : World} (h : OnB p ok okI q least left sl W U) (hI : ∀ k, okI k → ok k ∧ k ≠ W.heap.size ∧ k ≠ W.heap.size + 1 ∧ k ≠ W.heap.size + 2 ∧ k ≠ W.heap.size + 3) (hn : p.n0 ≤ W.heap.size) (hw : p.w00.heap.size ≤ p.n0)
    (hbx : p.Bl < W.heap.size ∧ p.Bm < W.heap.size ∧ p.By < W.heap.size ∧ p.Bv < W.heap.size ∧ p.Bo < W.heap.size) : OnB p ok okI q least left sl W (U.setCell ⟨W.heap.size + 2, 0, none⟩ (.bool false)) := by
  obtain ⟨v, h1, h2⟩ := h.st.l
  have far : ∀ {B t : Nat} {u : Value}, U.heap[B]? = some (.cells #[u] t (0, 0)) → B ≠ W.heap.size + 2 → (U.setCell ⟨W.heap.size + 2, 0, none⟩ (.bool false)).heap[B]? = some (.cells #[u] t (0, 0)) := fun h hB => blk_far h (by show _ ≠ W.heap.size + 2; exact hB) _
  have hlo : Below p.w00.heap.size U (U.setCell ⟨W.heap.size + 2, 0, none⟩ (.bool false)) := (Below.refl _ U).setCell (by show p.w00.heap.size ≤ W.heap.size + 2; omega) _
  refine ⟨⟨⟨v, far h1 (by omega), Kd.R_far h2 (p := ⟨W.heap.size + 2, 0, none⟩) (fun k hk => (hI k hk).2.2.2.1) _⟩, far h.st.m (by omega), far h.st.y (by omega), far h.st.v (by omega), far h.st.o (by omega), h.st.low.trans hlo, Nat.le_trans h.st.n0 hlo.size⟩, far h.b7 (by omega), far h.b8 (by omega), blk_put h.b9 0 _ rfl, far h.bs (by omega), ?_⟩
  exact ⟨h.keep.low.trans hlo, fun i o hn hi hc => (Below.heap_setCell _ _ _ _ (by show i ≠ W.heap.size + 2; have := blk_lt' hi; omega)).trans (h.keep.marks i o hn hi hc), fun i hz hi ho hl => (Below.heap_setCell _ _ _ _ (by show i ≠ W.heap.size + 2; omega)).trans (h.keep.same i hz hi ho hl)⟩
theorem StO.looser {p : LP} {ok ok' : Nat → Prop} {q : List Int} {W : World} (h : StO p ok q W) (hi : ∀ k, ok k → ok' k) : StO p ok' q W := by
  obtain ⟨v, h1, h2⟩ := h.l
  exact { h with l := ⟨v, h1, Kd.R_mono h2 hi⟩ }
theorem StO.setB {p : LP} {ok : Nat → Prop} {q : List Int} {U : World} (h : StO p ok q U) {B : Nat} (u : Value) (hI : ∀ k, ok k → k ≠ B) (hw : p.w00.heap.size ≤ B) (hbx : B ≠ p.Bl ∧ B ≠ p.Bm ∧ B ≠ p.By ∧ B ≠ p.Bv ∧ B ≠ p.Bo) : StO p ok q (U.setCell ⟨B, 0, none⟩ u) := by
  obtain ⟨v, h1, h2⟩ := h.l
  have far : ∀ {B' t : Nat} {u' : Value}, U.heap[B']? = some (.cells #[u'] t (0, 0)) → B' ≠ B → (U.setCell ⟨B, 0, none⟩ u).heap[B']? = some (.cells #[u'] t (0, 0)) := fun h hB => blk_far h (by show _ ≠ B; exact hB) _
  have hlo : Below p.w00.heap.size U (U.setCell ⟨B, 0, none⟩ u) := (Below.refl _ U).setCell (by show p.w00.heap.size ≤ B; omega) _
  exact ⟨⟨v, far h1 (by omega), Kd.R_far h2 (p := ⟨B, 0, none⟩) (fun k hk => hI k hk) _⟩, far h.m (by omega), far h.y (by omega), far h.v (by omega), far h.o (by omega), h.low.trans hlo, Nat.le_trans h.n0 hlo.size⟩
theorem KeepO.setB {p : LP} {ok : Nat → Prop} {W U : World} (h : KeepO p ok W U) {B : Nat} (u : Value) (hB : W.heap.size ≤ B) (hw : p.w00.heap.size ≤ W.heap.size) : KeepO p ok W (U.setCell ⟨B, 0, none⟩ u) :=
  ⟨h.low.trans ((Below.refl _ U).setCell (by show p.w00.heap.size ≤ B; omega) _), fun i o hn hi hc => (Below.heap_setCell _ _ _ _ (by show i ≠ B; have := blk_lt' hi; omega)).trans (h.marks i o hn hi hc), fun i hz hi ho hl => (Below.heap_setCell _ _ _ _ (by show i ≠ B; omega)).trans (h.same i hz hi ho hl)⟩
set_option maxRecDepth 100000 in
set_option maxHeartbeats 4000000 in
theorem on_succ (p : LP) (hg : p.Good) (all : List (List Int)) (J : List (List Int) → World → Prop) (Jx : Nat → List (List Int) → World → Prop) (hc : Caller p all J Jx) (d : Nat)
    (ih : ∀ (least : Nat) (left : Int) (q : List Int) (pre rest : List (List Int)) (ok : Nat → Prop) (W : World), q.length + d = p.many → least < p.vals.length → left.natAbs + 1000 * d ≤ 1000000000 →
      (∀ k, ok k → p.n0 ≤ k ∧ k ≠ p.Bl ∧ k ≠ p.By ∧ k ≠ p.Bo) → (∀ k, W.heap.size ≤ k → ok k) → StO p ok q W → J pre W → all = pre ++ (enumL p.vals d least left).map (q ++ ·) ++ rest →
      Calls Try.prog 60 #[.int .i64 (least : Int), .int .i64 left, .pointer (some ⟨p.Bl, 0, none⟩), .pointer (some ⟨p.Bm, 0, none⟩), .pointer (some ⟨p.By, 0, none⟩), .pointer (some ⟨p.Bv, 0, none⟩), .pointer (some ⟨p.Bo, 0, none⟩)] W
        (EndO p J Jx ok q pre ((enumL p.vals d least left).map (q ++ ·)) W))
    (least : Nat) (left : Int) (q : List Int) (pre rest : List (List Int)) (ok : Nat → Prop) (W : World)
    (hq : q.length + (d + 1) = p.many) (hle : least < p.vals.length) (hlf : left.natAbs + 1000 * (d + 1) ≤ 1000000000) (hok : ∀ k, ok k → p.n0 ≤ k ∧ k ≠ p.Bl ∧ k ≠ p.By ∧ k ≠ p.Bo) (hfr : ∀ k, W.heap.size ≤ k → ok k) (hS : StO p ok q W) (hJ : J pre W)
    (hall : all = pre ++ (enumL p.vals (d + 1) least left).map (q ++ ·) ++ rest) :
    Calls Try.prog 60 #[.int .i64 (least : Int), .int .i64 left, .pointer (some ⟨p.Bl, 0, none⟩), .pointer (some ⟨p.Bm, 0, none⟩), .pointer (some ⟨p.By, 0, none⟩), .pointer (some ⟨p.Bv, 0, none⟩), .pointer (some ⟨p.Bo, 0, none⟩)] W
      (EndO p J Jx ok q pre ((enumL p.vals (d + 1) least left).map (q ++ ·)) W) := by
  obtain ⟨W3, hW3⟩ : ∃ W3, W3 = ((W.alloc (.cells #[.int .i64 (least : Int)] 3)).alloc (.cells #[.int .i64 left] 3)).alloc (.cells #[.bool false] 4) := ⟨_, rfl⟩
  have hs3 : W3.heap.size = W.heap.size + 3 := by rw [hW3]; simp
  obtain ⟨v, hl, hR⟩ := hS.l
  obtain ⟨A1, c1, rfl⟩ := Kd.R_slice hR
  have al : ∀ {B : Nat} {o : Obj}, W.heap[B]? = some o → W3.heap[B]? = some o := fun h => by rw [hW3]; exact blk_alloc (blk_alloc (blk_alloc h _) _) _
  have g2 := cell_box (al hl)
  have g3 := cell_box (al hS.m)
  have g5 := cell_box (al hS.v)
  have b7 : W3.heap[W.heap.size]? = some (.cells #[.int .i64 (least : Int)] 3 (0, 0)) := by
    rw [hW3]; exact blk_alloc (blk_alloc (blk_new W _) _) _
  have b8 : W3.heap[W.heap.size + 1]? = some (.cells #[.int .i64 left] 3 (0, 0)) := by
    have := blk_alloc (blk_new (W.alloc (.cells #[.int .i64 (least : Int)] 3)) (.cells #[.int .i64 left] 3)) (.cells #[.bool false] 4)
    rw [World.size_alloc] at this
    rw [hW3]; exact this
  have b9 : W3.heap[W.heap.size + 2]? = some (.cells #[.bool false] 4 (0, 0)) := by
    have := blk_new ((W.alloc (.cells #[.int .i64 (least : Int)] 3)).alloc (.cells #[.int .i64 left] 3)) (.cells #[.bool false] 4)
    simp only [World.size_alloc] at this
    rw [hW3]; exact this
  have g7 := cell_box b7
  have hb3 : Below W.heap.size W W3 := by rw [hW3]; exact below_alloc (below_alloc (below_alloc (Below.refl _ _) _) _) _
  have ql : (q.length == p.many) = false := by simp; omega
  have qi : ((q.length : Int) == (p.many : Int)) = false := by simp; omega
  have p1 : ((0 : Int) ≤ (least : Int)) = True := eq_true (by omega)
  have p2 : ((least : Int) ≤ (p.vals.length : Int)) = True := eq_true (by omega)
  have p3 : (least ≤ p.vals.length) = True := eq_true (by omega)
  have p4 : (p.vals.length ≤ p.c) = True := eq_true hg.c
  have hcc := hg.c
  have p5 : (least < p.c) = True := eq_true (by omega)
  have p6 : (least = p.c) = False := eq_false (by omega)
  have p7 : (p.c = least) = False := eq_false (by omega)
  have p8 : (p.c - least = 0) = False := eq_false (by omega)
  have p9 : (p.c ≤ least) = False := eq_false (by omega)
  have p10 : (least == p.c) = false := by simp; omega
  clear hcc
  have HS := Aside0.mk hs3
  have HQ := Aside0.mk hq
  have HG := Aside0.mk hg
  have HI := Aside0.mk ih
  have HL := Aside0.mk hall
  have HO := Aside0.mk hok
  have HF := Aside0.mk hfr
  have HV := Aside0.mk hS
  have HJ := Aside0.mk hJ
  have HE := Aside0.mk hle
  have HT := Aside0.mk hlf
  have HR := Aside0.mk hR
  have H3 := Aside0.mk hb3
  have HA := Aside0.mk hl
  have HC := Aside0.mk hc
  clear hs3 hq hg ih hall hok hfr hS hJ hle hlf hR hb3 hl hc
  refine (callsIn_wide (n := 0)).1 ?_
  refine callsIn_of_wp_marks Try.func60 rfl trivial ?_ rfl
  simp only [Try.ntmps60, List.size_toArray, List.length_cons, List.length_nil, Nat.reduceAdd, Nat.reduceSub, Array.replicate_succ, Array.replicate_zero, List.push_toArray, List.append_toArray, List.nil_append, List.cons_append]
  rw [hW3] at g2 g3 g5 g7
  gi_wp2
  rw [← hW3]
  refine ⟨trivial, rfl, ?_⟩
  refine (callsIn_wide.2 (backward_calls (some (p.A.add least)) (p.vals.length - least) (p.c - least) W3)).mono ?_
  rintro e W4 ⟨rfl, hW4⟩
  have hs4 : W4.heap.size = W.heap.size + 4 := by rw [hW4]; simp [HS.out]
  have hb4 : Below W.heap.size W W4 := by rw [hW4]; exact below_alloc H3.out _
  have b7 : W4.heap[W.heap.size]? = some (.cells #[.int .i64 (least : Int)] 3 (0, 0)) := by rw [hW4]; exact blk_alloc b7 _
  have b8 : W4.heap[W.heap.size + 1]? = some (.cells #[.int .i64 left] 3 (0, 0)) := by rw [hW4]; exact blk_alloc b8 _
  have b9 : W4.heap[W.heap.size + 2]? = some (.cells #[.bool false] 4 (0, 0)) := by rw [hW4]; exact blk_alloc b9 _
  have bs : W4.heap[W.heap.size + 3]? = some (.cells #[.slice (some (p.A.add least)) (p.vals.length - least) (p.c - least)] 22 (0, 0)) := by
    have := blk_new W3 (.cells #[.slice (some (p.A.add least)) (p.vals.length - least) (p.c - least)] 22)
    rw [HS.out] at this
    rw [hW4]; exact this
  rw [HS.out]
  clear hW4 g2 g3 g5 g7 al hW3 p1 p2 p3 p4 p5 p6 p7 p8 p9 p10 ql qi
  have HS4 := Aside0.mk hs4
  have HB4 := Aside0.mk hb4
  clear hs4 hb4
  gi_wp2
  rw [show W.heap.size + 1 + 1 = W.heap.size + 2 from rfl]
  obtain ⟨okI, hokI⟩ : ∃ okI : Nat → Prop, okI = fun k => ok k ∧ k ≠ W.heap.size ∧ k ≠ W.heap.size + 1 ∧ k ≠ W.heap.size + 2 ∧ k ≠ W.heap.size + 3 := ⟨_, rfl⟩
  have hokI1 : ∀ k, okI k → ok k ∧ k ≠ W.heap.size ∧ k ≠ W.heap.size + 1 ∧ k ≠ W.heap.size + 2 ∧ k ≠ W.heap.size + 3 := fun k h => by rw [hokI] at h; exact h
  have hokI2 : ∀ k, W.heap.size + 4 ≤ k → okI k := fun k h => by rw [hokI]; exact ⟨HF.out k (by omega), by omega, by omega, by omega, by omega⟩
  have hn0 : p.n0 ≤ W.heap.size := HV.out.n0
  have hw0 : p.w00.heap.size ≤ p.n0 := HG.out.w00
  have hBl : p.Bl < W.heap.size := blk_lt' HA.out
  have hon4 : OnB p ok okI q least left (.slice (some (p.A.add least)) (p.vals.length - least) (p.c - least)) W W4 := by
    refine ⟨?_, b7, b8, b9, bs, KeepO.below (by omega) HB4.out⟩
    have h4 := HV.out.below HB4.out
    refine { h4 with l := ⟨_, blk_below HA.out HB4.out, Kd.R_mono (Kd.R_below (Kd.R_bound HR.out) HB4.out) (fun k hk => ?_)⟩ }
    rw [hokI]
    have := hk.2.2.1
    exact ⟨hk.1, by omega, by omega, by omega, by omega⟩
  obtain ⟨zs, hzs⟩ : ∃ zs, zs = p.vals.drop least := ⟨_, rfl⟩
  have hzl : zs.length = p.vals.length - least := by rw [hzs]; simp
  have hCz : Kd.C (Kd.int .i64) p.w00 (some (p.A.add least)) zs.length zs := by
    have h1 := HE.out
    have h2 := HG.out.c
    have := Kd.C_drop (c := p.c) (m := least) HG.out.C (by omega) h2
    rw [if_neg (by omega), show least * (Kd.int .i64).sz = least from Nat.mul_one _] at this
    rw [hzs]; exact this
  have H7 := Aside0.mk b7
  have H8 := Aside0.mk b8
  have H9 := Aside0.mk b9
  have HBS := Aside0.mk bs
  clear b7 b8 b9 bs
  clear b7 b8 b9
  rw [← hzl] at HBS hon4 ⊢
  have HZ := Aside0.mk hzl
  have HZS := Aside0.mk hzs
  clear hzl hzs
  refine wp_rangeSeqB (gf := 62) (lb := #[.pointer (some ⟨W.heap.size + 3, 0, none⟩)]) rfl (enters_of Try.func62 (by kernel_rfl) rfl)
    (backward_seq p.w00 W4 (some (p.A.add least)) (p.c - least) zs (W.heap.size + 3) hCz (by have := HG.out.c; have := HZ.out; omega) (by have := HG.out.len; have := HZ.out; omega) hon4.st.low HBS.out) (fun _ _ _ _ h => h.elim) (fun _ _ _ _ _ h => h.elim)
    (fun h k => ⟨h.1.trans k.1, k.2.trans h.2⟩) (fun U k o' hk hlt => ⟨below_putObj U o' (by have := HS4.out; omega), World.putObj_heap_other (by have := HS4.out; omega)⟩)
    (fun x u U h => by rw [h]; rfl) (fun x u U o' h _ => h)
    (fun pre' U => OnB p ok okI q least left (.slice (some (p.A.add least)) zs.length (p.c - least)) W U ∧ J (pre ++ (pre'.flatMap (enF p.vals d least left)).map (q ++ ·)) U)
    (fun c m pre' U => c = .ret ∧ OnB p ok okI q least left (.slice (some (p.A.add least)) zs.length (p.c - least)) W U ∧ (∃ r, bw zs = pre' ++ r) ∧ ∃ m' a x b, (pre'.flatMap (enF p.vals d least left)).map (q ++ ·) = a ++ x :: b ∧ W.heap.size + 6 ≤ m' ∧ Jx m' (pre ++ a ++ [x]) U)
    (fun _ _ _ _ _ _ h => h.elim) (fun _ _ _ _ _ _ _ _ h => h.elim)
    (fun pre' U k o o' hI hk hc hw => ⟨hI.1.putObj o' hk hc (by have := HS4.out; omega) hn0 hw0, HC.out.stJ _ _ _ hI.2 (below_putObj U o' (by have := HS4.out; omega))⟩)
    (fun c m pre' U k o o' hI hk hc hw => ?stopPut) (fun U o hI => ⟨hI.1.below (below_alloc (Below.refl _ _) _) (by have := hI.1.st.low.size; omega), HC.out.stJ _ _ _ hI.2 ((below_alloc (Below.refl _ _) _).mono hI.1.st.n0)⟩)
    ⟨hon4, by simpa using HC.out.stJ _ _ _ HJ.out (HB4.out.mono hn0)⟩
    (fun u => { tmps := #[.int .i64 least, .int .i64 left, .pointer (some ⟨p.Bl, 0, none⟩), .pointer (some ⟨p.Bm, 0, none⟩), .pointer (some ⟨p.By, 0, none⟩), .pointer (some ⟨p.Bv, 0, none⟩), .pointer (some ⟨p.Bo, 0, none⟩), .pointer (some ⟨W.heap.size, 0, none⟩), .pointer (some ⟨W.heap.size + 1, 0, none⟩), .pointer (some ⟨W.heap.size + 2, 0, none⟩), u.getD 0 undef, u.getD 1 undef, undef, undef, .slice A1 q.length c1, .int .i64 (q.length : Int), .int .i64 (p.many : Int), .bool false, undef, undef, undef, undef, undef, undef, undef, .slice (some p.A) p.vals.length p.c, .int .i64 least, .slice (some (p.A.add least)) zs.length (p.c - least), .func (.func 62) #[] #[.pointer (some ⟨W.heap.size + 3, 0, none⟩)], u.getD 0 undef, u.getD 1 undef, undef, undef, undef, undef, undef, undef, undef, undef, undef, undef, undef, undef, undef, undef, undef, undef, undef, undef, undef, undef, undef, undef, undef, undef, undef, undef, undef, undef, undef, undef, undef, undef, undef, undef, undef, undef, undef, undef, undef, undef], defers := [] }) ?assign ?body ?done ?stop
  case stopPut =>
    obtain ⟨rfl, hon, hrr, m', a, x, b, hab, hm, hj⟩ := hI
    exact ⟨rfl, hon.putObj o' hk hc (by have := HS4.out; omega) hn0 hw0, hrr, m', a, x, b, hab, hm, HC.out.stX _ _ _ _ hj (Twixt.putObj U k o' (by have := HS4.out; omega) (by have := HS4.out; omega))⟩
  case assign =>
    rintro l x u U K rfl hK
    gi_wp2
    exact hK
  case body =>
    rintro l pre' x rest' u U hpr ⟨hon, hj⟩ rfl hsz
    obtain ⟨v2, hl2, hR2⟩ := hon.st.l
    obtain ⟨A2, c2, rfl⟩ := Kd.R_slice hR2
    have e2 := cell_box hl2
    have e3 := cell_box hon.st.m
    have e5 := cell_box hon.st.v
    have e6 := cell_box hon.st.o
    have e7 := cell_box hon.b7
    have e8 := cell_box hon.b8
    have e9 := cell_box hon.b9
    obtain ⟨k, hk, ex⟩ := bw_mem (show x ∈ bw zs by rw [hpr]; simp)
    have hk1 := HZ.out
    have hx1 : x.1 = (k : Int) := by rw [ex]
    have hvm : p.vals[least + k]? = some x.2 := by
      have := HZS.out
      rw [ex, this, rd_drop]
      exact getElem_rd _ _ (by omega)
    have hv0 := HG.out.val x.2 (List.mem_of_getElem? hvm)
    have hlast := HG.out.val (rd p.vals ((p.vals.length - 1 : Nat) : Int)) (List.mem_of_getElem? (getElem_rd _ _ (by omega)))
    have hm := HG.out.many
    have hqm := HQ.out
    have ltt := HT.out
    obtain ⟨td, htd⟩ : ∃ td : Int, td = ((d + 1 : Nat) : Int) := ⟨_, rfl⟩
    obtain ⟨lv, hlv⟩ : ∃ lv : Int, lv = rd p.vals ((p.vals.length - 1 : Nat) : Int) := ⟨_, rfl⟩
    rw [← hlv] at hlast
    obtain ⟨pm1, hpm1⟩ : ∃ pm : Int, pm = td * x.2 := ⟨_, rfl⟩
    obtain ⟨pm2, hpm2⟩ : ∃ pm : Int, pm = td * lv := ⟨_, rfl⟩
    have ew : wrap64 ((p.many : Int) - (q.length : Int)) = td := by unfold wrap64; omega
    have em1 : wrap64 (td * x.2) = pm1 := by
      have h1 : td * x.2 ≤ 100 * 1000 := Int.mul_le_mul (by omega) hv0.2 hv0.1 (by omega)
      have h2 : 0 ≤ td * x.2 := Int.mul_nonneg (by omega) hv0.1
      rw [← hpm1] at h1 h2 ⊢
      unfold wrap64; omega
    have em2 : wrap64 (td * lv) = pm2 := by
      have h1 : td * lv ≤ 100 * 1000 := Int.mul_le_mul (by omega) hlast.2 hlast.1 (by omega)
      have h2 : 0 ≤ td * lv := Int.mul_nonneg (by omega) hlast.1
      rw [← hpm2] at h1 h2 ⊢
      unfold wrap64; omega
    have em3 : wrap64 ((p.vals.length : Int) - 1) = ((p.vals.length - 1 : Nat) : Int) := by have := HG.out.len; unfold wrap64; omega
    have em4 : wrap64 ((least : Int) + x.1) = ((least + k : Nat) : Int) := by have := HG.out.len; unfold wrap64; omega
    have em5 : wrap64 (left - x.2) = left - x.2 := by unfold wrap64; omega
    obtain ⟨ad, e0, hxl⟩ := Kd.at_int (Kd.C_below HG.out.C hon.st.low) ((p.vals.length - 1 : Nat) : Int) (by omega) (by omega)
    cases e0
    rw [Int.toNat_natCast, ← hlv] at hxl
    have i1 : ((0 : Int) ≤ ((p.vals.length - 1 : Nat) : Int)) = True := eq_true (by omega)
    have i2 : (((p.vals.length - 1 : Nat) : Int) < (p.vals.length : Int)) = True := eq_true (by omega)
    have ej1 := (i64_w _).trans em1
    have ej2 := (i64_w _).trans em2
    have ej3 := (i64_w _).trans em3
    have HK := Aside0.mk (And.intro hk (And.intro hx1 (And.intro hvm (And.intro hv0 (And.intro hm (And.intro hqm (And.intro ltt (And.intro htd (And.intro hlv (And.intro hpm1 hpm2))))))))))
    clear hk1 hx1 hvm hv0 hlast hm hqm ltt ex hk htd hlv hpm1 hpm2
    have HP := Aside0.mk hpr
    have HW := Aside0.mk hsz
    have HON := Aside0.mk hon
    have HR2 := Aside0.mk hR2
    have HL2 := Aside0.mk hl2
    have HJ2 := Aside0.mk hj
    clear hpr hsz hon hR2 hl2 hj
    have henF : enF p.vals d least left x = if left < pm1 ∨ pm2 < left then [] else (enumL p.vals d (least + x.1.toNat) (left - x.2)).map (x.2 :: ·) := by
      obtain ⟨_, _, _, _, _, _, _, h1, h2, h3, h4⟩ := HK.out
      unfold enF
      rw [h3, h4, h1, h2]
    have HEN := Aside0.mk henF
    clear henF
    have fin1 : ∀ U', KeepO p okI U U' → KeepsFrom W4.heap.size U U' ∧ KpB p.w00 (W.heap.size + 3) U U' := fun U' hk =>
      ⟨⟨hk.low.size, fun k o hk1 hk2 hk3 => hk.marks k o (by have := HS4.out; omega) hk2 hk3⟩, hk.low, hk.same _ (.inl (by omega)) (blk_lt' HON.out.bs) (fun h => (hokI1 _ h).2.2.2.2 rfl) (by omega)⟩
    have hys : ∀ zs', enF p.vals d least left x = zs' → ((pre' ++ [x]).flatMap (enF p.vals d least left)).map (q ++ ·) = (pre'.flatMap (enF p.vals d least left)).map (q ++ ·) ++ zs'.map (q ++ ·) := by
      rintro zs' rfl
      simp
    have hXo : ∀ nq, OnB p ok okI q least left (.slice (some (p.A.add least)) zs.length (p.c - least)) W (U.drewN nq) := fun nq => HON.out.below (pw_below_drewN (Below.refl _ _) _) (by have := HON.out.st.low.size; omega)
    have hXk : ∀ nq, KeepO p okI U (U.drewN nq) := fun nq => KeepO.below (by have := HON.out.st.low.size; omega) (pw_below_drewN (Below.refl _ _) _)
    have hXj : ∀ nq, J (pre ++ (pre'.flatMap (enF p.vals d least left)).map (q ++ ·)) (U.drewN nq) := fun nq => HC.out.stJ _ _ _ HJ2.out ((pw_below_drewN (Below.refl _ _) _).mono HON.out.st.n0)
    gi_wp2
    by_cases k1 : left < pm1
    · have k2 := decide_eq_true k1
      have K1 := Aside0.mk k1
      clear k1
      refine region_quiet_round rfl (by kernel_rfl) (by kernel_rfl) (by kernel_rfl) ?_
      repeat (quiet_step_in (fail))
      refine wpQuietIn_nil ?_
      intro _ hw'
      obtain ⟨nq, hw''⟩ := hw'
      subst hw''
      gi_wp2
      refine ⟨(fin1 _ (hXk nq)).1, (fin1 _ (hXk nq)).2, hXo nq, ?_⟩
      rw [hys [] (by rw [HEN.out, if_pos (.inl K1.out)])]
      simpa using hXj nq
    · have k2 := decide_eq_false k1
      by_cases k3 : pm2 < left
      · have k4 := decide_eq_true k3
        have K1 := Aside0.mk k3
        clear k1 k3
        refine region_quiet_round rfl (by kernel_rfl) (by kernel_rfl) (by kernel_rfl) ?_
        repeat (quiet_step_in (fail))
        refine wpQuietIn_nil ?_
        intro _ hw'
        obtain ⟨nq, hw''⟩ := hw'
        subst hw''
        gi_wp2
        refine ⟨(fin1 _ (hXk nq)).1, (fin1 _ (hXk nq)).2, hXo nq, ?_⟩
        rw [hys [] (by rw [HEN.out, if_pos (.inr K1.out)])]
        simpa using hXj nq
      · have k4 := decide_eq_false k3
        have K1 := Aside0.mk k1
        have K3 := Aside0.mk k3
        clear k1 k3
        refine region_quiet_round rfl (by kernel_rfl) (by kernel_rfl) (by kernel_rfl) ?_
        repeat (quiet_step_in (fail))
        refine wpQuietIn_nil ?_
        intro _ hw'
        obtain ⟨nq, hw''⟩ := hw'
        subst hw''
        have hR3 : Kd.R (Kd.int .i64) 3 (U.drewN nq) p.n0 okI (.slice A2 q.length c2) q := Kd.R_below HR2.out (pw_below_drewN (Below.refl _ _) _)
        have HR3 := Aside0.mk hR3
        have HXO := Aside0.mk (hXo nq)
        have HXK := Aside0.mk (hXk nq)
        have HXJ := Aside0.mk (hXj nq)
        have HH := Aside0.mk (And.intro hys fin1)
        clear hXo hXk hXj hR3 hys fin1
        obtain ⟨X, hX⟩ : ∃ X, X = U.drewN nq := ⟨_, rfl⟩
        rw [← hX] at HR3 HXO HXK HXJ ⊢
        have e2 := cell_box (show X.heap[p.Bl]? = some (.cells #[.slice A2 q.length c2] 22 (0, 0)) by rw [hX]; exact HL2.out)
        have e3 := cell_box HXO.out.st.m
        have e6 := cell_box HXO.out.st.o
        have e7 := cell_box HXO.out.b7
        have e8 := cell_box HXO.out.b8
        have HLX := Aside0.mk (show X.heap[p.Bl]? = some (.cells #[.slice A2 q.length c2] 22 (0, 0)) by rw [hX]; exact HL2.out)
        have HXX := Aside0.mk hX
        clear hX
        have hne : ∀ B, B ≠ p.Bl → ∀ (w1 : World) v1, (w1.setCell ⟨p.Bl, 0, none⟩ v1).heap[B]? = w1.heap[B]? := fun B hB w1 v1 => Below.heap_setCell _ _ _ _ hB
        have hn4 : (q ++ [x.2]).length = q.length + 1 := by simp
        have hBL := HG.out.boxes
        have hCP := HG.out.caps
        have hok2 : ∀ k, okI k → p.n0 ≤ k ∧ k ≠ p.Bl ∧ k ≠ p.By ∧ k ≠ p.Bo := fun k hk => HO.out k (hokI1 k hk).1
        have HOK2 := Aside0.mk hok2
        have HOKI := Aside0.mk hokI
        clear hok2 hokI
        have HS1 := Aside0.mk (show p.n0 ≤ X.heap.size from HXO.out.st.n0)
        have HS2 := Aside0.mk (show (q.length + 1) * 8 ≤ 140737488355328 by have := HQ.out; have := HG.out.many; clear em1 em2 em3 em4 em5 ew ej1 ej2 ej3; omega)
        have HS3 := Aside0.mk (show ∀ k, X.heap.size ≤ k → okI k from fun k hk => hokI2 k (by have := blk_lt' HXO.out.bs; clear em1 em2 em3 em4 em5 ew ej1 ej2 ej3; omega))
        gi_wp2_with (gi_at_builtin; refine R_appendIn rfl (.tmp 52) (.tmp 54) 22 rfl Try.underlying22 info3 p.n0 _ q _ okI rfl rfl HR3.out HS1.out HS2.out HS3.out ?_; intro v1 w1 hR1 hg1 hat1; obtain ⟨A3, c3, rfl⟩ := Kd.R_slice hR1; rw [hn4] at hR1; have HPU := Aside0.mk (StO.push HG.out HOK2.out HXO.out.st HLX.out HR3.out hR1 hg1); have hbl := blk_grown HLX.out hg1 (Kd.R_away HR3.out (fun k hk => (HO.out k (hokI1 k hk).1).2.1)); have hcl : w1.cell? ⟨p.Bl, 0, none⟩ = some (.slice A2 q.length c2) := cell_box hbl; have hfl := blk_frozen hbl 0; have HON2 := Aside0.mk (HXO.out.step hokI1 hn0 hBl HPU.out.1 HPU.out.2.1); have f6 := cell_box HPU.out.2.1.o; have f7 := cell_box HON2.out.b7; have f8 := cell_box HON2.out.b8; unfold LP.on at f6; clear hR1 hg1 hat1 hbl)
        clear em1 em2 em3 em4 em5 ew ej1 ej2 ej3
        obtain ⟨w2, hw2⟩ : ∃ w2, w2 = w1.setCell ⟨p.Bl, 0, none⟩ (.slice A3 (q.length + 1) c3) := ⟨_, rfl⟩
        rw [← hw2] at HPU HON2 f6 f7 f8 ⊢
        obtain ⟨hk1, hx1, hvm, hv0, hm, hqm, ltt, htd, hlv, hpm1, hpm2⟩ := HK.out
        have hkz := HZ.out
        have hlev := HE.out
        rw [show (least : Int) + (k : Int) = ((least + k : Nat) : Int) by omega]
        have hx1n : x.1.toNat = k := by omega
        have hen2 : enF p.vals d least left x = (enumL p.vals d (least + k) (left - x.2)).map (x.2 :: ·) := by
          rw [HEN.out, if_neg (by have h1 := K1.out; have h2 := K3.out; omega), hx1n]
        obtain ⟨ysp, hysp⟩ : ∃ ysp, ysp = (pre'.flatMap (enF p.vals d least left)).map (q ++ ·) := ⟨_, rfl⟩
        obtain ⟨ysr, hysr⟩ : ∃ ysr, ysr = (rest'.flatMap (enF p.vals d least left)).map (q ++ ·) := ⟨_, rfl⟩
        have hyx : (enF p.vals d least left x).map (q ++ ·) = (enumL p.vals d (least + k) (left - x.2)).map ((q ++ [x.2]) ++ ·) := by
          rw [hen2]; simp [List.map_map, Function.comp_def]
        have hall2 : all = (pre ++ ysp) ++ (enumL p.vals d (least + k) (left - x.2)).map ((q ++ [x.2]) ++ ·) ++ (ysr ++ rest) := by
          rw [HL.out, enum_succ, ← HZS.out, HP.out, ← hyx, hysp, hysr]
          simp only [List.flatMap_append, List.flatMap_cons, List.map_append, List.append_assoc]
        have hw2s : W.heap.size + 6 ≤ w2.heap.size := by
          have h1 := HPU.out.1.low.size
          have h2 := HXK.out.low.size
          have h3 := HW.out
          have h4 := HS4.out
          omega
        have hys2 := HH.out.1 _ hen2
        rw [← hen2, hyx, ← hysp] at hys2
        have hJ2 : J (pre ++ ysp) w2 := HC.out.stJ _ _ _ (by rw [hysp]; exact HXJ.out) HPU.out.2.2
        refine ⟨trivial, rfl, ?_⟩
        refine (CallsIn.inRound l (callsIn_wide.2 (HI.out (least + k) (left - x.2) (q ++ [x.2]) (pre ++ ysp) (ysr ++ rest) okI w2 (by simp; omega) (by omega) (by omega) HOK2.out (fun k hk => hokI2 k (by omega)) HPU.out.2.1 hJ2 hall2))).mono ?_
        rintro e U4 ⟨hS4, hK4, hend⟩
        obtain ⟨v4, hl4, hR4⟩ := hS4.l
        obtain ⟨A4, c4, rfl⟩ := Kd.R_slice hR4
        have hc4 : q.length + 1 ≤ c4 := by have := own_cap (Kd.own_of_R hR4); omega
        rw [hn4] at hl4 hR4
        have hRq : Kd.R (Kd.int .i64) 3 U4 p.n0 okI (.slice A4 q.length c4) q := by
          have := Kd.R_take hR4 (m := q.length) (by simp)
          rwa [List.take_left'] at this
          rfl
        have hcut := StO.cut HG.out HOK2.out hS4 hl4 hRq
        have hKU : KeepO p okI U (U4.setCell ⟨p.Bl, 0, none⟩ (.slice A4 q.length c4)) := HXK.out.trans (HPU.out.1.trans (hK4.trans hcut.1))
        have hON5 := HON.out.step hokI1 hn0 hBl hKU hcut.2
        have u1 := cell_box hl4
        have u2 := blk_frozen hl4 0
        have u3 := cell_box hON5.b9
        have u4 := blk_frozen hON5.b9 0
        obtain ⟨w5, w6⟩ := wrap_q (Nat.le_trans (Nat.le.intro hqm) hm)
        have p5 : ((q.length : Int) ≤ (c4 : Int)) = True := eq_true (Int.ofNat_le.mpr (Nat.le_of_succ_le hc4))
        have p6 : (q.length ≤ c4) = True := eq_true (Nat.le_of_succ_le hc4)
        have hbxs : p.Bl < W.heap.size ∧ p.Bm < W.heap.size ∧ p.By < W.heap.size ∧ p.Bv < W.heap.size ∧ p.Bo < W.heap.size := ⟨hBl, blk_lt' HV.out.m, blk_lt' HV.out.y, blk_lt' HV.out.v, blk_lt' HV.out.o⟩
        have hfin := HH.out.2 _ hKU
        have HFI := Aside0.mk (And.intro hfin (And.intro hKU (And.intro hON5 (And.intro hbxs (And.intro hw2s (And.intro hys2 (And.intro hc4 (And.intro hysp (And.intro hx1 (And.intro htd (And.intro hlv (And.intro hpm1 hpm2))))))))))))
        have HCUT := Aside0.mk (And.intro hcut (And.intro hS4 (And.intro hK4 hR4)))
        clear hfin hKU hON5 hbxs hw2s hys2 hc4 hysp hcut hS4 hK4 hR4 hk1 hx1 hvm hv0 hm hqm ltt htd hlv hpm1 hpm2 hkz hlev hx1n hen2 hysr hyx hall2 hJ2 hRq hl4 hBL hCP hn4
        rcases hend with ⟨rfl, hj⟩ | ⟨rfl, m', a, x0, b, hab, hmm, hj⟩
        · have HJJ := Aside0.mk hj
          clear hj
          gi_wp2
          refine ⟨HFI.out.1.1, HFI.out.1.2, HFI.out.2.2.1, ?_⟩
          rw [HFI.out.2.2.2.2.2.1, ← List.append_assoc]
          exact HC.out.stJ _ _ _ HJJ.out ((Below.refl _ U4).setCell (by show p.n0 ≤ p.Bl; have := HG.out.boxes; omega) _)
        · have HJJ := Aside0.mk (And.intro hab (And.intro hmm hj))
          clear hab hmm hj
          gi_wp2
          have hn9 := HFI.out.2.2.1.set9 hokI1 hn0 hw0 HFI.out.2.2.2.1
          refine ⟨HFI.out.1.1.trans ((KeepsOthers.setCell _ _ _).from _), ⟨HFI.out.1.2.1.trans ((Below.refl _ _).setCell (by show p.w00.heap.size ≤ W.heap.size + 2; omega) _), (Below.heap_setCell _ _ _ _ (by show W.heap.size + 3 ≠ W.heap.size + 2; omega)).trans HFI.out.1.2.2⟩, rfl, hn9, ⟨rest', by rw [HP.out]; simp⟩, m', ysp ++ a, x0, b, ?_, Nat.le_trans HFI.out.2.2.2.2.1 HJJ.out.2.1, ?_⟩
          · rw [HFI.out.2.2.2.2.2.1, HJJ.out.1, List.append_assoc]
          · have h1 := HFI.out.2.2.2.2.1
            have h2 := HJJ.out.2.1
            have h3 := HG.out.boxes.1
            rw [← List.append_assoc]
            exact HC.out.stX _ _ _ _ HJJ.out.2.2 ((Twixt.setCell U4 _ _ (by show p.n0 ≤ p.Bl; omega) (by show p.Bl < m'; omega)).trans (Twixt.setCell _ _ _ (by show p.n0 ≤ W.heap.size + 2; omega) (by show W.heap.size + 2 < m'; omega)))
  case done =>
    rintro U ⟨hon, hj⟩ hK
    have hbxs : W.heap.size + 2 ≠ p.Bl ∧ W.heap.size + 2 ≠ p.Bm ∧ W.heap.size + 2 ≠ p.By ∧ W.heap.size + 2 ≠ p.Bv ∧ W.heap.size + 2 ≠ p.Bo := by
      have h1 := blk_lt' HV.out.m
      have h2 := blk_lt' HV.out.y
      have h3 := blk_lt' HV.out.v
      have h4 := blk_lt' HV.out.o
      omega
    have e9 := cell_box hon.b9
    have f9 := blk_frozen hon.b9 0
    have HON := Aside0.mk hon
    have HJ2 := Aside0.mk hj
    have HK := Aside0.mk hK
    have HBX := Aside0.mk hbxs
    clear hon hj hK hbxs
    gi_wp2
    have hs4 := HS4.out
    have hK3 : (U.setCell ⟨W.heap.size + 2, 0, none⟩ (.bool true)).heap[W.heap.size + 4]? = some (.deferred (some [])) := by
      rw [← hs4]
      exact (Below.heap_setCell _ _ _ _ (by show W4.heap.size ≠ W.heap.size + 2; omega)).trans HK.out
    have hc9 := cell_box (boxed_putObj (.deferred none) (blk_put HON.out.b9 0 (.bool true) rfl) hK3 rfl)
    rw [hs4]
    refine ⟨by simp, .inl ⟨_, _, rfl, run_takeDeferred hK3, ?_⟩⟩
    refine ⟨.bool true, by simp [results, Try.f60, go_sem, hc9], ?_⟩
    have hst := (HON.out.st.setB (.bool true) (fun k hk => (hokI1 k hk).2.2.2.1) (by omega) HBX.out).putObj (.deferred none) hK3 rfl (by omega) hw0
    refine ⟨hst.looser (fun k hk => (hokI1 k hk).1), (HON.out.keep.setB _ (by omega) (by omega)).putObj _ (by omega) (by omega), .inl ⟨rfl, ?_⟩⟩
    rw [enum_succ, ← HZS.out]
    exact HC.out.stJ _ _ _ HJ2.out (((Below.refl _ U).setCell (by show p.n0 ≤ W.heap.size + 2; omega) _).trans (below_putObj _ _ (by omega)))
  case stop =>
    rintro c m pre' U ⟨rfl, hon, ⟨r, hr⟩, m', a, x, b, hab, hm, hj⟩ hK
    have HON := Aside0.mk hon
    have HJ2 := Aside0.mk (And.intro hr (And.intro hab (And.intro hm hj)))
    have HK := Aside0.mk hK
    clear hon hr hab hm hj hK
    gi_wp2
    have hs4 := HS4.out
    have hK3 : U.heap[W.heap.size + 4]? = some (.deferred (some [])) := by rw [← hs4]; exact HK.out
    have hc9 := cell_box (boxed_putObj (.deferred none) HON.out.b9 hK3 rfl)
    rw [hs4]
    refine ⟨by simp, .inl ⟨_, _, rfl, run_takeDeferred hK3, ?_⟩⟩
    refine ⟨.bool false, by simp [results, Try.f60, go_sem, hc9], ?_⟩
    obtain ⟨hr, hab, hm, hj⟩ := HJ2.out
    have hst := HON.out.st.putObj (.deferred none) hK3 rfl (by omega) hw0
    refine ⟨hst.looser (fun k hk => (hokI1 k hk).1), HON.out.keep.putObj _ (by omega) (by omega), .inr ⟨rfl, m', a, x, b ++ (r.flatMap (enF p.vals d least left)).map (q ++ ·), ?_, by omega, HC.out.stX _ _ _ _ hj (Twixt.putObj U _ _ (by omega) (by omega))⟩⟩
    rw [enum_succ, ← HZS.out, hr, List.flatMap_append, List.map_append, hab]
    simp
theorem on_calls (p : LP) (hg : p.Good) (all : List (List Int)) (J : List (List Int) → World → Prop) (Jx : Nat → List (List Int) → World → Prop) (hc : Caller p all J Jx) : ∀ (d least : Nat) (left : Int) (q : List Int) (pre rest : List (List Int)) (ok : Nat → Prop) (W : World),
    q.length + d = p.many → least < p.vals.length → left.natAbs + 1000 * d ≤ 1000000000 → (∀ k, ok k → p.n0 ≤ k ∧ k ≠ p.Bl ∧ k ≠ p.By ∧ k ≠ p.Bo) → (∀ k, W.heap.size ≤ k → ok k) → StO p ok q W → J pre W → all = pre ++ (enumL p.vals d least left).map (q ++ ·) ++ rest →
    Calls Try.prog 60 #[.int .i64 (least : Int), .int .i64 left, .pointer (some ⟨p.Bl, 0, none⟩), .pointer (some ⟨p.Bm, 0, none⟩), .pointer (some ⟨p.By, 0, none⟩), .pointer (some ⟨p.Bv, 0, none⟩), .pointer (some ⟨p.Bo, 0, none⟩)] W
      (EndO p J Jx ok q pre ((enumL p.vals d least left).map (q ++ ·)) W)
  | 0, least, left, q, pre, rest, ok, W, hq, _, _, hok, hfr, hS, hJ, hall => on_leaf p hg all J Jx hc least left q pre rest ok W (by omega) hok hfr hS hJ hall
  | d + 1, least, left, q, pre, rest, ok, W, hq, hle, hlf, hok, hfr, hS, hJ, hall => on_succ p hg all J Jx hc d (on_calls p hg all J Jx hc d) least left q pre rest ok W (by omega) hle (by omega) hok hfr hS hJ hall
end Go.Proofs.Ythbalcbibmdpnaa.OAll
