/- A part of the proof of 'stampPaid_holds', for every input, without a condition. -/
import Derived.Test.YthbalcbibmdpnaaSPdRi
namespace Go.Proofs.Ythbalcbibmdpnaa.OAll
open Go.RowKit Go.Shelf Go.Proofs.YthbalcbibmdpnaaW.PrintWords Go.Proofs.YthbalcbibmdpnaaW.PrintLast Go.Proofs.YthbalcbibmdpnaaW.PrintMore Go.Proofs.Ythbalcbibmdpnaa.Rg
attribute [local go_sem] Oper.semAt_some
set_option linter.unusedVariables false
set_option linter.unusedSimpArgs false
def enumL (vals : List Int) : Nat → Nat → Int → List (List Int)
  | 0, _, left => if left = 0 then [[]] else []
  | d + 1, least, left => (bw (vals.drop least)).flatMap fun p =>
    if left < ((d + 1 : Nat) : Int) * p.2 ∨ ((d + 1 : Nat) : Int) * rd vals ((vals.length - 1 : Nat) : Int) < left then [] else (enumL vals d (least + p.1.toNat) (left - p.2)).map (p.2 :: ·)
structure LP where
  w00 : World
  n0 : Nat
  lr : Nat
  A : Addr
  c : Nat
  vals : List Int
  many : Nat
  Bl : Nat
  Bm : Nat
  By : Nat
  Bv : Nat
  Bo : Nat
  Ba : Nat
theorem blk_lt' {W : World} {k : Nat} {o : Obj} (h : W.heap[k]? = some o) : k < W.heap.size := (Array.getElem?_eq_some_iff.1 h).1
def LP.on (p : LP) : Value := .func (.func 60) #[] #[.pointer (some ⟨p.Bl, 0, none⟩), .pointer (some ⟨p.Bm, 0, none⟩), .pointer (some ⟨p.By, 0, none⟩), .pointer (some ⟨p.Bv, 0, none⟩), .pointer (some ⟨p.Bo, 0, none⟩)]
structure LP.Good (p : LP) : Prop where
  C : Kd.C (Kd.int .i64) p.w00 (some p.A) p.vals.length p.vals
  c : p.vals.length ≤ p.c
  len : 1 ≤ p.vals.length ∧ p.vals.length ≤ 100
  val : ∀ v ∈ p.vals, 0 ≤ v ∧ v ≤ 1000
  many : p.many ≤ 100
  w00 : p.w00.heap.size ≤ p.n0
  boxes : p.n0 ≤ p.Bl ∧ p.n0 ≤ p.By ∧ p.n0 ≤ p.Bo ∧ p.Bl ≠ p.By ∧ p.Bl ≠ p.Bo ∧ p.By ≠ p.Bo
  caps : p.w00.heap.size ≤ p.Bm ∧ p.w00.heap.size ≤ p.Bv ∧ p.w00.heap.size ≤ p.Ba ∧ p.Bm < p.n0 ∧ p.Bv < p.n0 ∧ p.Ba < p.n0
structure StO (p : LP) (ok : Nat → Prop) (q : List Int) (W : World) : Prop where
  l : ∃ v, W.heap[p.Bl]? = some (.cells #[v] 22 (0, 0)) ∧ Kd.R (Kd.int .i64) 3 W p.n0 ok v q
  m : W.heap[p.Bm]? = some (.cells #[.int .i64 (p.many : Int)] 3 (0, 0))
  y : W.heap[p.By]? = some (.cells #[.func (.yield p.lr) #[] #[]] 33 (0, 0))
  v : W.heap[p.Bv]? = some (.cells #[.slice (some p.A) p.vals.length p.c] 22 (0, 0))
  o : W.heap[p.Bo]? = some (.cells #[p.on] 31 (0, 0))
  low : Below p.w00.heap.size p.w00 W
  n0 : p.n0 ≤ W.heap.size
def LP.zone (p : LP) (k : Nat) : Prop := p.n0 ≤ k ∨ k = p.Bm ∨ k = p.Bv ∨ k = p.Ba
structure KeepO (p : LP) (ok : Nat → Prop) (W W' : World) : Prop where
  low : Below p.w00.heap.size W W'
  marks : ∀ k o, p.n0 ≤ k → W.heap[k]? = some o → o.isCells = false → W'.heap[k]? = some o
  same : ∀ k, p.zone k → k < W.heap.size → ¬ ok k → k ≠ p.Bl → W'.heap[k]? = W.heap[k]?
theorem KeepO.refl (p : LP) (ok : Nat → Prop) (W : World) : KeepO p ok W W := ⟨Below.refl _ _, fun _ _ _ h _ => h, fun _ _ _ _ _ => rfl⟩
theorem KeepO.trans {p : LP} {ok : Nat → Prop} {A B C : World} (h : KeepO p ok A B) (k : KeepO p ok B C) : KeepO p ok A C :=
  ⟨h.low.trans k.low, fun i o hn hi hc => k.marks i o hn (h.marks i o hn hi hc) hc, fun i hz hi ho hl => (k.same i hz (Nat.lt_of_lt_of_le hi h.low.size) ho hl).trans (h.same i hz hi ho hl)⟩
structure KpL (p : LP) (W W' : World) : Prop where
  low : Below p.w00.heap.size W W'
  same : ∀ k, p.zone k → k < W.heap.size → W'.heap[k]? = W.heap[k]?
theorem KpL.keep {p : LP} {ok : Nat → Prop} {W W' : World} (h : KpL p W W') : KeepO p ok W W' := ⟨h.low, fun k o hn hk _ => (h.same k (.inl hn) (blk_lt' hk)).trans hk, fun k hz hk _ _ => h.same k hz hk⟩
theorem StO.kept {p : LP} {ok : Nat → Prop} {q : List Int} {W W' : World} (hg : p.Good) (h : StO p ok q W) (hk : KpL p W W') : StO p ok q W' := by
  have hb := hg.boxes
  have hc := hg.caps
  obtain ⟨v, h1, h2⟩ := h.l
  refine ⟨⟨v, (hk.same _ (.inl hb.1) (blk_lt h1)).trans h1, ?_⟩, (hk.same _ (.inr (.inl rfl)) (blk_lt h.m)).trans h.m, (hk.same _ (.inl hb.2.1) (blk_lt h.y)).trans h.y, (hk.same _ (.inr (.inr (.inl rfl))) (blk_lt h.v)).trans h.v, (hk.same _ (.inl hb.2.2.1) (blk_lt h.o)).trans h.o, h.low.trans hk.low, Nat.le_trans h.n0 hk.low.size⟩
  exact Kd.R_mono (Kd.R_step (Kd.R_bound h2) (fun k hk2 hlt => hk.same k (.inl hk2.2.1) hlt)) (fun _ hk2 => hk2.1)
def encQ (p : LP) (x : List Int) (u : Array Value) (W : World) : Prop := ∃ v, u = #[v] ∧ Kd.R (Kd.int .i64) 3 W p.n0 (fun _ => True) v x
structure Caller (p : LP) (all : List (List Int)) (J : List (List Int) → World → Prop) (Jx : Nat → List (List Int) → World → Prop) : Prop where
  stJ : ∀ pre A B, J pre A → Below p.n0 A B → J pre B
  stX : ∀ m pre A B, Jx m pre A → Twixt p.n0 m A B → Jx m pre B
  yields : ∀ pre x rest u W1, all = pre ++ x :: rest → J pre W1 → encQ p x u W1 → p.n0 ≤ W1.heap.size → YieldAt Fence.wide 0 Try.prog p.lr u W1 fun e W' =>
    KpL p W1 W' ∧ ((e = .returned (.bool true) ∧ J (pre ++ [x]) W') ∨ (e = .returned (.bool false) ∧ Jx W1.heap.size (pre ++ [x]) W'))
def EndO (p : LP) (J : List (List Int) → World → Prop) (Jx : Nat → List (List Int) → World → Prop) (ok : Nat → Prop) (q : List Int) (pre ys : List (List Int)) (W : World) (e : Ending) (W' : World) : Prop :=
  StO p ok q W' ∧ KeepO p ok W W' ∧ ((e = .returned (.bool true) ∧ J (pre ++ ys) W') ∨ (e = .returned (.bool false) ∧ ∃ m a x b, ys = a ++ x :: b ∧ W.heap.size ≤ m ∧ Jx m (pre ++ a ++ [x]) W'))
theorem StO.below {p : LP} {ok : Nat → Prop} {q : List Int} {W W' : World} (h : StO p ok q W) (hb : Below W.heap.size W W') : StO p ok q W' := by
  obtain ⟨v, h1, h2⟩ := h.l
  have hw := h.low.size
  exact ⟨⟨v, blk_below h1 hb, Kd.R_below h2 hb⟩, blk_below h.m hb, blk_below h.y hb, blk_below h.v hb, blk_below h.o hb, h.low.trans (hb.mono hw), Nat.le_trans h.n0 hb.size⟩
theorem KeepO.below {p : LP} {ok : Nat → Prop} {W W' : World} (hw : p.w00.heap.size ≤ W.heap.size) (hb : Below W.heap.size W W') : KeepO p ok W W' := ⟨hb.mono hw, fun k o _ hk _ => (hb.block k (blk_lt' hk)).trans hk, fun k _ hk _ _ => hb.block k hk⟩
theorem cell_box {W : World} {B t : Nat} {v : Value} (h : W.heap[B]? = some (.cells #[v] t (0, 0))) : W.cell? ⟨B, 0, none⟩ = some v := (blk_cell h 0).trans rfl
set_option maxRecDepth 100000 in
set_option maxHeartbeats 4000000 in
theorem on_leaf (p : LP) (hg : p.Good) (all : List (List Int)) (J : List (List Int) → World → Prop) (Jx : Nat → List (List Int) → World → Prop) (hc : Caller p all J Jx) (least : Nat) (left : Int) (q : List Int) (pre rest : List (List Int)) (ok : Nat → Prop) (W : World)
    (hq : q.length = p.many) (hok : ∀ k, ok k → p.n0 ≤ k ∧ k ≠ p.Bl ∧ k ≠ p.By ∧ k ≠ p.Bo) (hfr : ∀ k, W.heap.size ≤ k → ok k) (hS : StO p ok q W) (hJ : J pre W) (hall : all = pre ++ (enumL p.vals 0 least left).map (q ++ ·) ++ rest) :
    Calls Try.prog 60 #[.int .i64 (least : Int), .int .i64 left, .pointer (some ⟨p.Bl, 0, none⟩), .pointer (some ⟨p.Bm, 0, none⟩), .pointer (some ⟨p.By, 0, none⟩), .pointer (some ⟨p.Bv, 0, none⟩), .pointer (some ⟨p.Bo, 0, none⟩)] W
      (EndO p J Jx ok q pre ((enumL p.vals 0 least left).map (q ++ ·)) W) := by
  obtain ⟨W3, hW3⟩ : ∃ W3, W3 = ((W.alloc (.cells #[.int .i64 (least : Int)] 3)).alloc (.cells #[.int .i64 left] 3)).alloc (.cells #[.bool false] 4) := ⟨_, rfl⟩
  have hs3 : W3.heap.size = W.heap.size + 3 := by rw [hW3]; simp
  obtain ⟨v, hl, hR⟩ := hS.l
  obtain ⟨A1, c1, rfl⟩ := Kd.R_slice hR
  have al : ∀ {B : Nat} {o : Obj}, W.heap[B]? = some o → W3.heap[B]? = some o := fun h => by rw [hW3]; exact blk_alloc (blk_alloc (blk_alloc h _) _) _
  have g2 := cell_box (al hl)
  have g3 := cell_box (al hS.m)
  have g4 := cell_box (al hS.y)
  have b8 : W3.heap[W.heap.size + 1]? = some (.cells #[.int .i64 left] 3 (0, 0)) := by
    have := blk_alloc (blk_new (W.alloc (.cells #[.int .i64 (least : Int)] 3)) (.cells #[.int .i64 left] 3)) (.cells #[.bool false] 4)
    rw [World.size_alloc] at this
    rw [hW3]; exact this
  have b9 : W3.heap[W.heap.size + 2]? = some (.cells #[.bool false] 4 (0, 0)) := by
    have := blk_new ((W.alloc (.cells #[.int .i64 (least : Int)] 3)).alloc (.cells #[.int .i64 left] 3)) (.cells #[.bool false] 4)
    simp only [World.size_alloc] at this
    rw [hW3]; exact this
  have g8 := cell_box b8
  have g9 := cell_box b9
  have f9 := blk_frozen b9 0
  have hb3 : Below W.heap.size W W3 := by rw [hW3]; exact below_alloc (below_alloc (below_alloc (Below.refl _ _) _) _) _
  have ql : (q.length == p.many) = true := by simp [hq]
  have qi : ((q.length : Int) == (p.many : Int)) = true := by simp [hq]
  refine (callsIn_wide (n := 0)).1 ?_
  refine callsIn_of_wp Try.func60 rfl trivial ?_ rfl
  simp only [Try.ntmps60, List.size_toArray, List.length_cons, List.length_nil, Nat.reduceAdd, Nat.reduceSub, Array.replicate_succ, Array.replicate_zero, List.push_toArray, List.append_toArray, List.nil_append, List.cons_append]
  rw [hW3] at g2 g3 g4 g8 g9 f9
  by_cases c0 : left = 0
  · have k1 : (left != 0) = false := bne_eq_false_iff_eq.mpr c0
    have hen : enumL p.vals 0 least left = [[]] := by rw [enumL, if_pos c0]
    have C0 := Aside0.mk c0
    clear c0
    rw [hen] at hall ⊢
    simp only [List.map_cons, List.map_nil, List.append_nil] at hall ⊢
    have hJ3 : J pre W3 := hc.stJ _ _ _ hJ (hb3.mono hS.n0)
    have hq3 : encQ p q #[.slice A1 p.many c1] W3 := ⟨_, rfl, by rw [← hq]; exact Kd.R_mono (Kd.R_below hR hb3) (fun _ _ => trivial)⟩
    have HALL := Aside0.mk hall
    clear hall
    obtain ⟨fn, tmps, assign, body, hy, hRd⟩ := hc.yields pre q rest #[.slice A1 p.many c1] W3 (by simpa using HALL.out) hJ3 hq3 (by have := hS.n0; omega)
    rw [hW3] at hy
    gi_wp2
    rw [← hW3]
    refine ⟨rfl, hRd.mono ?_⟩
    rintro e W4 ⟨hk4, hend⟩
    have hn0 := hS.n0
    have b4 : W4.heap[W.heap.size + 2]? = some (.cells #[.bool false] 4 (0, 0)) := (hk4.same _ (.inl (by omega)) (by omega)).trans b9
    have g4b := cell_box b4
    have f4 := blk_frozen b4 0
    have hk5 : ∀ v, KpL p W (W4.setCell ⟨W.heap.size + 2, 0, none⟩ v) := fun v => ⟨((hb3.mono hS.low.size).trans hk4.low).setCell (by show p.w00.heap.size ≤ W.heap.size + 2; have := hS.low.size; omega) _, fun k hz hk => (Below.heap_setCell _ _ _ _ (by show k ≠ W.heap.size + 2; omega)).trans ((hk4.same k hz (by omega)).trans (hb3.block k hk))⟩
    have g5 : ∀ v, (W4.setCell ⟨W.heap.size + 2, 0, none⟩ v).cell? ⟨W.heap.size + 2, 0, none⟩ = some v := fun v => cell_box (blk_put b4 0 v rfl)
    rcases hend with ⟨rfl, hj⟩ | ⟨rfl, hj⟩
    · gi_wp2
      refine bodyPost_ret (v := .bool true) ?_ rfl ?_
      · simp [results, Try.f60, go_sem, g5]
      · exact ⟨hS.kept hg (hk5 _), (hk5 _).keep, .inl ⟨rfl, hc.stJ _ _ _ hj ((Below.refl _ W4).setCell (by show p.n0 ≤ W.heap.size + 2; omega) _)⟩⟩
    · gi_wp2
      refine bodyPost_ret (v := .bool false) ?_ rfl ?_
      · simp [results, Try.f60, go_sem, g5]
      · exact ⟨hS.kept hg (hk5 _), (hk5 _).keep, .inr ⟨rfl, W3.heap.size, [], q, [], rfl, by omega, by simpa using hc.stX _ _ _ _ hj (Twixt.setCell W4 _ _ (by show p.n0 ≤ W.heap.size + 2; omega) (by show W.heap.size + 2 < W3.heap.size; omega))⟩⟩
  · have k1 : (left != 0) = true := bne_iff_ne.mpr c0
    gi_wp2
    refine ⟨fun _ h => (by cases h), ?_⟩
    gi_wp2
    have hb4 : Below W.heap.size W (((W.alloc (.cells #[.int .i64 (least : Int)] 3)).alloc (.cells #[.int .i64 left] 3)).alloc (.cells #[.bool true] 4)) := below_alloc (below_alloc (below_alloc (Below.refl _ _) _) _) _
    have hc4 : (((W.alloc (.cells #[.int .i64 (least : Int)] 3)).alloc (.cells #[.int .i64 left] 3)).alloc (.cells #[.bool true] 4)).cell? ⟨W.heap.size + 1 + 1, 0, none⟩ = some (.bool true) := by
      have := blk_new ((W.alloc (.cells #[.int .i64 (least : Int)] 3)).alloc (.cells #[.int .i64 left] 3)) (.cells #[.bool true] 4)
      simp only [World.size_alloc] at this
      exact cell_box this
    refine bodyPost_ret (v := .bool true) ?_ rfl ?_
    · simp [results, Try.f60, go_sem, hc4]
    · have hen : enumL p.vals 0 least left = [] := by rw [enumL, if_neg c0]
      refine ⟨hS.below hb4, KeepO.below hS.low.size hb4, .inl ⟨rfl, ?_⟩⟩
      rw [hen]
      simpa using hc.stJ _ _ _ hJ (hb4.mono hS.n0)
end Go.Proofs.Ythbalcbibmdpnaa.OAll
