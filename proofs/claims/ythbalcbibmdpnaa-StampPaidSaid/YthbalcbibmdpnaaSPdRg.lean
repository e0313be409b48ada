/- A part of the proof of 'stampPaid_holds', for every input, without a condition. -/
import Derived.RangeFuncNested
import Derived.RangeFuncBound
import Derived.RangeFuncCalls
import Derived.RangeFuncLeaves
namespace Go.Proofs.Ythbalcbibmdpnaa.Rg
open Go.RowKit
set_option linter.unusedVariables false
set_option linter.unusedSimpArgs false
structure Twixt (n m : Nat) (A B : World) : Prop where
  os : B.os = A.os
  tape : B.tape = A.tape
  output : B.output = A.output
  size : A.heap.size ≤ B.heap.size
  block : ∀ k, k < A.heap.size → (k < n ∨ m ≤ k) → B.heap[k]? = A.heap[k]?
theorem Twixt.refl (n m : Nat) (A : World) : Twixt n m A A := ⟨rfl, rfl, rfl, Nat.le_refl _, fun _ _ _ => rfl⟩
theorem Twixt.trans {n m : Nat} {A B C : World} (h : Twixt n m A B) (k : Twixt n m B C) : Twixt n m A C :=
  ⟨k.os.trans h.os, k.tape.trans h.tape, k.output.trans h.output, Nat.le_trans h.size k.size, fun i hi hz => (k.block i (Nat.lt_of_lt_of_le hi h.size) hz).trans (h.block i hi hz)⟩
theorem Twixt.wide {n n' m m' : Nat} {A B : World} (h : Twixt n m A B) (hn : n' ≤ n) (hm : m ≤ m') : Twixt n' m' A B :=
  ⟨h.os, h.tape, h.output, h.size, fun k hk hz => h.block k hk (by omega)⟩
theorem Twixt.setCell {n m : Nat} (A : World) (p : Addr) (u : Value) (h1 : n ≤ p.block) (h2 : p.block < m) : Twixt n m A (A.setCell p u) :=
  ⟨rfl, rfl, rfl, by simp [World.setCell], fun k _ hz => Below.heap_setCell _ _ _ _ (by omega)⟩
theorem Twixt.putObj {n m : Nat} (A : World) (k : Nat) (o : Obj) (h1 : n ≤ k) (h2 : k < m) : Twixt n m A (A.putObj k o) := by
  refine ⟨rfl, rfl, rfl, by simp [World.putObj], fun i _ hz => ?_⟩
  exact World.putObj_heap_other (by omega)
theorem Twixt.alloc {n m : Nat} (A : World) (o : Obj) : Twixt n m A (A.alloc o) :=
  ⟨rfl, rfl, rfl, by simp, fun k hk _ => Below.heap_alloc _ _ _ hk⟩
theorem Twixt.below {n m : Nat} {A B : World} (h : Twixt n m A B) (hn : n ≤ A.heap.size) : Below n A B := ⟨h.os, h.tape, h.output, h.size, fun k hk => h.block k (by omega) (.inl hk)⟩
theorem Twixt.grown {n m : Nat} {A B : World} {row : Option Nat} (hg : A.grownBy B row) (hr : ∀ k, row = some k → n ≤ k ∧ k < m) : Twixt n m A B :=
  ⟨hg.os, hg.tape, hg.output, hg.size, fun k hk hz => hg.block k hk (fun e => by have := hr k e.symm; omega)⟩
def SeqB {α : Type} (P : Program) (gf : Nat) (lb : Array Value) (enc : α → Array Value → World → Prop) (Kp : World → World → Prop) (St : World → World → World → Prop) (Sx : World → Nat → World → World → Prop) (xs : List α) (w0 : World) : Prop :=
  ∀ (l : Nat) (J : List α → World → Prop) (Jx : Nat → List α → World → Prop) (W : World), Below w0.heap.size w0 W → W.heap.size = w0.heap.size + 2 →
    (∀ pre A B, J pre A → St W A B → J pre B) →
    (∀ m pre A B, Jx m pre A → Sx W m A B → Jx m pre B) →
    (∀ pre x rest u W1, xs = pre ++ x :: rest → J pre W1 → enc x u W1 → W.heap.size ≤ W1.heap.size → YieldAt Fence.wide 0 P l u W1 fun e W' =>
      Kp W1 W' ∧ ((e = .returned (.bool true) ∧ J (pre ++ [x]) W') ∨ (e = .returned (.bool false) ∧ Jx W1.heap.size (pre ++ [x]) W'))) →
    J [] W →
    CallsIn Fence.wide 0 P gf (#[.func (.yield l) #[] #[]] ++ lb) W fun e W' => (∃ v, e = .returned v) ∧ (J xs W' ∨ ∃ m pre x rest, xs = pre ++ x :: rest ∧ Jx m (pre ++ [x]) W')
def postB {α : Type} (b : Nat) (Kp : World → World → Prop) (I : List α → World → Prop) (Ix : Code → Nat → List α → World → Prop) (xs : List α) (W : World) : Exit → Act → World → Prop
  | .normal, _, W' => KeepsFrom b W W' ∧ Kp W W' ∧ I xs W'
  | .ret, _, W' => KeepsFrom b W W' ∧ Kp W W' ∧ Ix .ret W.heap.size xs W'
  | .exit id, _, W' => KeepsFrom b W W' ∧ Kp W W' ∧ Ix (.exit id) W.heap.size xs W'
  | .goto t, _, W' => KeepsFrom b W W' ∧ Kp W W' ∧ Ix (.goto t) W.heap.size xs W'
  | .panic _, _, _ => False
  | .outgrown, _, _ => False
theorem wp_rangeSeqB {α : Type} {P : Program} {g : Operand} {ps : Array Tmp} {assign body : Code} {Q : Exit → Act → World → Prop} {a : Act} {w : World} {gf : Nat} {lb : Array Value}
    (hg : a.eval g = .func (.func gf) #[] lb) (eg : ∀ args w, (callFunc gf args).run P w = .ok (.enter gf args) w)
    {enc : α → Array Value → World → Prop} {Kp : World → World → Prop} {St : World → World → World → Prop} {Sx : World → Nat → World → World → Prop} {xs : List α} (hseq : SeqB P gf lb enc Kp St Sx xs w)
    (hSt : ∀ W A B, W.heap.size = w.heap.size + 2 → St W A B → Below (w.heap.size + 2) A B) (hSx : ∀ W m A B, W.heap.size = w.heap.size + 2 → Sx W m A B → Twixt (w.heap.size + 2) m A B)
    (hKt : ∀ {A B C : World}, Kp A B → Kp B C → Kp A C) (hKb : ∀ (W : World) (k : Nat) (o' : Obj), (k = w.heap.size ∨ k = w.heap.size + 1) → k < W.heap.size → Kp W (W.putObj k o'))
    (hps : ∀ x u W, enc x u W → u.size = ps.size)
    (hE : ∀ x u W o', enc x u W → w.heap.size + 1 < W.heap.size → enc x u (W.putObj (w.heap.size + 1) o'))
    (I : List α → World → Prop) (Ix : Code → Nat → List α → World → Prop)
    (hI : ∀ W pre A B, I pre A → W.heap.size = w.heap.size + 2 → St W A B → I pre B) (hIx : ∀ W c m pre A B, Ix c m pre A → W.heap.size = w.heap.size + 2 → Sx W m A B → Ix c m pre B)
    (hI0 : ∀ pre A k o o', I pre A → A.heap[k]? = some o → o.isCells = false → k = w.heap.size + 1 → I pre (A.putObj k o')) (hIx0 : ∀ c m pre A k o o', Ix c m pre A → A.heap[k]? = some o → o.isCells = false → k = w.heap.size + 1 → Ix c m pre (A.putObj k o')) (hIa : ∀ A o, I [] A → I [] (A.alloc o)) (h0 : I [] w) (a₁ : Array Value → Act)
    (hassign : ∀ (l : Nat) (x : α) (u : Array Value) (W : World) (K : Act → World → Prop), enc x u W → K (a₁ u) W →
      assign.wpIn (Fence.wide.inRound l) 0 P (Exit.then K (fun _ _ _ => False)) { tmps := (ps.zip u).foldl (fun t (p, v) => t.setIfInBounds p v) a.tmps, defers := [] } W)
    (hbody : ∀ (l : Nat) (pre : List α) (x : α) (rest : List α) (u : Array Value) (W : World), xs = pre ++ x :: rest → I pre W → enc x u W → w.heap.size + 2 ≤ W.heap.size → body.wpIn (Fence.wide.inRound l) 0 P (postB w.heap.size Kp I Ix (pre ++ [x]) W) (a₁ u) W)
    (hdone : ∀ (W : World), I xs W → W.heap[w.heap.size]? = some (.deferred (some [])) → Q .normal { a with defers := { target := .collected w.heap.size, args := #[] } :: a.defers } W)
    (hstop : ∀ (c : Code) (m : Nat) (pre : List α) (W : World), Ix c m pre W → W.heap[w.heap.size]? = some (.deferred (some [])) → c.wpIn Fence.wide 0 P Q { a with defers := { target := .collected w.heap.size, args := #[] } :: a.defers } W) :
    (Code.rangeFunc g ps assign body).wpIn Fence.wide 0 P Q a w := by
  refine wpIn_rangeFunc ?_
  intro fn hfn
  obtain ⟨rec, hrec⟩ : ∃ rec : LoopState → Option Code → Loop, rec = fun st pe => { state := st, pending := pe, fn, tmps := a.tmps, params := ps, assign, body, defers := w.heap.size } := ⟨_, rfl⟩
  obtain ⟨W1, hW1⟩ : ∃ W1, (w.alloc (.deferred (some []))).alloc (.loop (rec .ready none)) = W1 := ⟨_, rfl⟩
  have hs1 : W1.heap.size = w.heap.size + 2 := by rw [← hW1]; simp
  have hL1 : W1.heap[w.heap.size + 1]? = some (.loop (rec .ready none)) := by
    rw [← hW1]; have := World.alloc_heap_new (w.alloc (.deferred (some []))) (.loop (rec .ready none)); rwa [World.size_alloc] at this
  have hK1 : W1.heap[w.heap.size]? = some (.deferred (some [])) := by
    rw [← hW1]; exact (Below.heap_alloc _ _ _ (by simp)).trans (World.alloc_heap_new w _)
  have hb1 : Below w.heap.size w W1 := by
    rw [← hW1]; exact ((Below.refl _ w).alloc (Nat.le_refl _) _).alloc (by simp) _
  have hI1 : I [] W1 := by rw [← hW1]; exact hIa _ _ (hIa _ _ h0)
  refine ⟨w.heap.size + 1, [{ target := .collected w.heap.size, args := #[] }], W1, { target := .fn (.func gf) lb, args := #[.func (.yield (w.heap.size + 1)) #[] #[]] }, W1, gf,
    #[.func (.yield (w.heap.size + 1)) #[] #[]] ++ lb, W1, ?_, ?_, ?_, ?_, fun h => by simp [Fence.wide] at h, ?_⟩
  · rw [← hW1, hrec]; exact run_enterLoop_outer _ _ _ _ _
  · simp only [resolve, hg]
    simp [go_sem]
  · intro f' hf'; exact trivial
  · simp [invoke, go_sem, eg]
  · have hbp : ∀ (A : World) (o : Obj), Below w.heap.size A (A.putObj (w.heap.size + 1) o) := fun A o => ⟨rfl, rfl, rfl, by simp [World.putObj], fun k hk => World.putObj_heap_other (by omega)⟩
    refine (hseq (w.heap.size + 1)
      (fun pre W => I pre W ∧ W.heap[w.heap.size + 1]? = some (.loop (rec .ready none)) ∧ W.heap[w.heap.size]? = some (.deferred (some [])))
      (fun m pre W => ∃ c, w.heap.size + 2 ≤ m ∧ Ix c m pre W ∧ W.heap[w.heap.size + 1]? = some (.loop (rec .done (some c))) ∧ W.heap[w.heap.size]? = some (.deferred (some [])))
      W1 hb1 hs1
      (fun pre A B hs hb => ⟨hI W1 pre A B hs.1 hs1 hb, ((hSt _ _ _ hs1 hb).block _ (by omega)).trans hs.2.1, ((hSt _ _ _ hs1 hb).block _ (by omega)).trans hs.2.2⟩)
      (fun m pre A B hs hb => by
        obtain ⟨c, hm, hc, hl, hk⟩ := hs
        have hb2 := hSx _ _ _ _ hs1 hb
        exact ⟨c, hm, hIx W1 c m pre A B hc hs1 hb, (hb2.block _ (Array.getElem?_eq_some_iff.1 hl).1 (.inl (by omega))).trans hl, (hb2.block _ (Array.getElem?_eq_some_iff.1 hk).1 (.inl (by omega))).trans hk⟩)
      ?_ ⟨hI1, hL1, hK1⟩).mono ?_
    ·
      rintro pre x rest u W hxs ⟨hi, hl, hk⟩ he hlen
      have hlt : w.heap.size + 1 < W.heap.size := (Array.getElem?_eq_some_iff.1 hl).1
      have hy := run_yield (P := P) (args := u) hl (by rw [hrec]; exact hps _ _ _ he)
      rw [hrec] at hy
      refine ⟨fn, _, assign, body, hy, roundIn_of_wpIn hfn (hassign _ x u W _ he ?_)⟩
      refine ⟨_, run_beginRound hl (by rw [hrec]), ?_⟩
      obtain ⟨W2, hW2⟩ : ∃ W2, W2 = W.putObj (w.heap.size + 1) (.loop { rec .ready none with state := .busy }) := ⟨_, rfl⟩
      have hs2 : W2.heap.size = W.heap.size := by rw [hW2]; simp [World.putObj]
      have hl2 : W2.heap[w.heap.size + 1]? = some (.loop { rec .ready none with state := .busy }) := by rw [hW2]; exact World.putObj_heap_same hlt
      have hk2 : W2.heap[w.heap.size]? = some (.deferred (some [])) := by rw [hW2]; exact (World.putObj_heap_other (by omega)).trans hk
      have hw2 : Kp W W2 := by rw [hW2]; exact hKb _ _ _ (.inr rfl) hlt
      have hi2 : I pre W2 := by rw [hW2]; exact hI0 _ _ _ _ _ hi hl rfl (by omega)
      have he2 : enc x u W2 := by rw [hW2]; exact hE _ _ _ _ he hlt
      rw [← hW2]
      refine wpIn_mono (hbody _ pre x rest u _ hxs hi2 he2 (by omega)) ?_
      have fin : ∀ (jump : Option Code) (W3 : World), KeepsFrom w.heap.size W2 W3 →
          (Instr.endRound (w.heap.size + 1) jump).run P W3 = .ok (.bool jump.isNone) (W3.putObj (w.heap.size + 1) (.loop (rec (if jump.isNone then .ready else .done) jump))) ∧
          (∃ o : Obj, W3.heap[w.heap.size + 1]? = some o ∧ o.isCells = false) ∧ w.heap.size + 1 < W3.heap.size ∧
          (W3.putObj (w.heap.size + 1) (.loop (rec (if jump.isNone then .ready else .done) jump))).heap[w.heap.size + 1]? = some (.loop (rec (if jump.isNone then .ready else .done) jump)) ∧
          (W3.putObj (w.heap.size + 1) (.loop (rec (if jump.isNone then .ready else .done) jump))).heap[w.heap.size]? = some (.deferred (some [])) := fun jump W3 hk3 => by
        have hl3 := hk3.same _ _ (by omega) hl2 rfl
        have hlt3 := (Array.getElem?_eq_some_iff.1 hl3).1
        have := run_endRound (P := P) jump hl3
        rw [hrec] at this ⊢
        exact ⟨this, ⟨_, hl3, rfl⟩, hlt3, World.putObj_heap_same hlt3, (World.putObj_heap_other (by omega)).trans (hk3.same _ _ (Nat.le_refl _) hk2 rfl)⟩
      have stop : ∀ (c : Code) (W3 : World), KeepsFrom w.heap.size W2 W3 → Kp W2 W3 → Ix c W2.heap.size (pre ++ [x]) W3 →
          ∃ v w', (Instr.endRound (w.heap.size + 1) (some c)).run P W3 = .ok v w' ∧ Kp W w' ∧ ((Ending.returned v = .returned (.bool true) ∧ (I (pre ++ [x]) w' ∧ w'.heap[w.heap.size + 1]? = some (.loop (rec .ready none)) ∧ w'.heap[w.heap.size]? = some (.deferred (some [])))) ∨ (Ending.returned v = .returned (.bool false) ∧ ∃ c, w.heap.size + 2 ≤ W.heap.size ∧ Ix c W.heap.size (pre ++ [x]) w' ∧ w'.heap[w.heap.size + 1]? = some (.loop (rec .done (some c))) ∧ w'.heap[w.heap.size]? = some (.deferred (some [])))) := by
        intro c W3 hk3 hkp3 hi3
        obtain ⟨hr, ⟨o3, ho3, hc3⟩, hlt3, hl4, hk4⟩ := fin (some c) W3 hk3
        exact ⟨_, _, hr, hKt (hKt hw2 hkp3) (hKb _ _ _ (.inr rfl) hlt3), .inr ⟨rfl, c, by omega, hIx0 _ _ _ _ _ _ _ (by rw [← hs2]; exact hi3) ho3 hc3 (by omega), hl4, hk4⟩⟩
      rintro e a3 W3 hp
      cases e with
      | normal =>
        obtain ⟨hk3, hkp3, hi3⟩ := hp
        obtain ⟨hr, ⟨o3, ho3, hc3⟩, hlt3, hl4, hk4⟩ := fin none W3 hk3
        exact ⟨_, _, hr, hKt (hKt hw2 hkp3) (hKb _ _ _ (.inr rfl) hlt3), .inl ⟨rfl, hI0 _ _ _ _ _ hi3 ho3 hc3 (by omega), hl4, hk4⟩⟩
      | ret => exact stop .ret W3 hp.1 hp.2.1 hp.2.2
      | exit id => exact stop (.exit id) W3 hp.1 hp.2.1 hp.2.2
      | goto t => exact stop (.goto t) W3 hp.1 hp.2.1 hp.2.2
      | panic ch => exact hp.elim
      | outgrown => exact hp.elim
    ·
      rintro e W2 ⟨⟨v, rfl⟩, (⟨hi, hl, hk⟩ | ⟨m, pre, x, rest, hxs, c, hm, hi, hl, hk⟩)⟩
      · exact ⟨none, _, by have := run_endLoop (P := P) hl (by rw [hrec]; simp); rw [hrec] at this; exact this, hdone _ (hI0 _ _ _ _ _ hi hl rfl (by omega)) ((World.putObj_heap_other (by omega)).trans hk)⟩
      · refine ⟨some c, _, by have := run_endLoop (P := P) hl (by rw [hrec]; simp); rw [hrec] at this; exact this, ?_⟩
        exact hstop c m _ _ (hIx0 _ _ _ _ _ _ _ hi hl rfl (by omega)) ((World.putObj_heap_other (by omega)).trans hk)
end Go.Proofs.Ythbalcbibmdpnaa.Rg
