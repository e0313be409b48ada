/- A part of the proof of 'stampPaid_holds', for every input, without a condition. -/
import Derived.Test.YthbalcbibmdpnaaSPdRn
namespace Go.Proofs.Ythbalcbibmdpnaa.OAll
open Go.RowKit Go.Shelf Go.Proofs.YthbalcbibmdpnaaW.PrintWords Go.Proofs.YthbalcbibmdpnaaW.PrintLast Go.Proofs.YthbalcbibmdpnaaW.PrintMore Go.Proofs.Ythbalcbibmdpnaa.Rg
attribute [local go_sem] Oper.semAt_some
set_option linter.unusedVariables false
set_option linter.unusedSimpArgs false
def encL (n0 : Nat) (x : List Int) (u : Array Value) (W : World) : Prop := ∃ v, u = #[v] ∧ Kd.R (Kd.int .i64) 3 W n0 (fun _ => True) v x
structure KpZ (n00 n0 Bm Bv Ba : Nat) (W W' : World) : Prop where
  low : Below n00 W W'
  same : ∀ k, (n0 ≤ k ∨ k = Bm ∨ k = Bv ∨ k = Ba) → k < W.heap.size → W'.heap[k]? = W.heap[k]?
theorem KpZ.trans {n00 n0 Bm Bv Ba : Nat} {A B C : World} (h : KpZ n00 n0 Bm Bv Ba A B) (k : KpZ n00 n0 Bm Bv Ba B C) : KpZ n00 n0 Bm Bv Ba A C :=
  ⟨h.low.trans k.low, fun i hz hi => (k.same i hz (Nat.lt_of_lt_of_le hi h.low.size)).trans (h.same i hz hi)⟩
theorem encL_put {n0 k : Nat} {x : List Int} {u : Array Value} {W : World} (h : encL n0 x u W) (hk : k < n0) (o' : Obj) : encL n0 x u (W.putObj k o') := by
  obtain ⟨v, rfl, hR⟩ := h
  refine ⟨v, rfl, Kd.R_mono (Kd.R_step (Kd.R_bound hR) (fun i hi _ => ?_)) (fun _ _ => trivial)⟩
  exact World.putObj_heap_other (by have := hi.2.1; omega)
set_option maxRecDepth 100000 in
set_option maxHeartbeats 4000000 in
theorem lists_seq (w00 w : World) (A : Addr) (c : Nat) (vals : List Int) (many : Nat) (amount : Int) (Bm Bv Ba : Nat) (hC : Kd.C (Kd.int .i64) w00 (some A) vals.length vals) (hc : vals.length ≤ c) (hlen : 1 ≤ vals.length ∧ vals.length ≤ 100) (hval : ∀ v ∈ vals, 0 ≤ v ∧ v ≤ 1000) (hmany : many ≤ 100) (ham : amount.natAbs ≤ 1000000) (hb0 : Below w00.heap.size w00 w)
    (hBm : w.heap[Bm]? = some (.cells #[.int .i64 (many : Int)] 3 (0, 0))) (hBv : w.heap[Bv]? = some (.cells #[.slice (some A) vals.length c] 22 (0, 0))) (hBa : w.heap[Ba]? = some (.cells #[.int .i64 amount] 3 (0, 0))) (hlo : w00.heap.size ≤ Bm ∧ w00.heap.size ≤ Bv ∧ w00.heap.size ≤ Ba) :
    SeqB Try.prog 59 #[.pointer (some ⟨Bm, 0, none⟩), .pointer (some ⟨Bv, 0, none⟩), .pointer (some ⟨Ba, 0, none⟩)] (encL (w.heap.size + 2)) (KpZ w00.heap.size (w.heap.size + 2) Bm Bv Ba) (fun W A B => Below W.heap.size A B) (fun W m A B => Twixt W.heap.size m A B) (enumL vals many 0 amount) w := by
  intro l J Jx W hW hsz hJ hJx hY h0
  have lm := blk_lt' hBm
  have lv := blk_lt' hBv
  have la := blk_lt' hBa
  have hws := hb0.size
  obtain ⟨p, hp⟩ : ∃ p : LP, p = { w00 := w00, n0 := W.heap.size, lr := l, A := A, c := c, vals := vals, many := many, Bl := W.heap.size + 1, Bm := Bm, By := W.heap.size, Bv := Bv, Bo := W.heap.size + 2, Ba := Ba } := ⟨_, rfl⟩
  have hg : p.Good := by
    rw [hp]
    exact { C := hC, c := hc, len := hlen, val := hval, many := hmany, w00 := by show w00.heap.size ≤ W.heap.size; omega, boxes := by refine ⟨?_, ?_, ?_, ?_, ?_, ?_⟩ <;> (dsimp only; omega), caps := by refine ⟨?_, ?_, ?_, ?_, ?_, ?_⟩ <;> (dsimp only; omega) }
  have hcall : Caller p (enumL vals many 0 amount) J Jx := by
    rw [hp]
    refine ⟨hJ, hJx, fun pre x rest u W1 hall hj he hs => ?_⟩
    obtain ⟨fn, tmps, assign, body, hy, hR⟩ := hY pre x rest u W1 hall hj (by rw [← hsz]; exact he) hs
    refine ⟨fn, tmps, assign, body, hy, hR.mono ?_⟩
    rintro e W' ⟨hk, hr⟩
    exact ⟨⟨hk.low, fun k hz hlt => hk.same k (by rw [← hsz]; exact hz) hlt⟩, hr⟩
  have bA : W.heap[Ba]? = some (.cells #[.int .i64 amount] 3 (0, 0)) := (hW.block Ba la).trans hBa
  have bM : W.heap[Bm]? = some (.cells #[.int .i64 (many : Int)] 3 (0, 0)) := (hW.block Bm lm).trans hBm
  have bV : W.heap[Bv]? = some (.cells #[.slice (some A) vals.length c] 22 (0, 0)) := (hW.block Bv lv).trans hBv
  have gA := cell_box (blk_alloc (blk_alloc (blk_alloc bA (.cells #[.func (.yield l) #[] #[]] 33)) (.cells #[.slice none 0 0] 22)) (.cells #[p.on] 31))
  have HG := Aside0.mk hg
  have HC := Aside0.mk hcall
  have HH := Aside0.mk (And.intro hW (And.intro hsz (And.intro hb0 (And.intro bM (And.intro bV bA)))))
  have H0 := Aside0.mk h0
  have HP := Aside0.mk hp
  have HAM := Aside0.mk ham
  have HL := Aside0.mk (And.intro hlen (And.intro hmany (And.intro lm (And.intro lv (And.intro la hws)))))
  unfold LP.on at gA
  rw [hp] at gA
  dsimp only at gA
  clear hg hcall hW hsz hb0 bM bV bA h0 hp hJ hJx hY ham hlen hmany lm lv la hws hC hc hval hBm hBv hBa hlo
  refine callsIn_of_wp Try.func59 rfl trivial ?_ rfl
  simp only [Try.ntmps59, List.size_toArray, List.length_cons, List.length_nil, Nat.reduceAdd, Nat.reduceSub, Array.replicate_succ, Array.replicate_zero, List.push_toArray, List.append_toArray, List.nil_append, List.cons_append]
  gi_wp2
  have hp := HP.out
  obtain ⟨hW, hsz, hb0, bM, bV, bA⟩ := HH.out
  obtain ⟨hlen, hmany, lm, lv, la, hws⟩ := HL.out
  have hb4 : ∀ o1 o2 o3, Below W.heap.size W (((W.alloc o1).alloc o2).alloc o3) := fun o1 o2 o3 => below_alloc (below_alloc (below_alloc (Below.refl _ _) _) _) _
  have hon : p.on = .func (.func 60) #[] #[.pointer (some ⟨W.heap.size + 1, 0, none⟩), .pointer (some ⟨Bm, 0, none⟩), .pointer (some ⟨W.heap.size, 0, none⟩), .pointer (some ⟨Bv, 0, none⟩), .pointer (some ⟨W.heap.size + 1 + 1, 0, none⟩)] := by rw [hp]; rfl
  have hst : StO p (fun k => W.heap.size + 3 ≤ k) [] (((W.alloc (Obj.cells #[Value.func (Fn.yield l) #[] #[]] 33)).alloc (Obj.cells #[Value.slice none 0 0] 22)).alloc (Obj.cells #[p.on] 31)) := by
    rw [hp]
    refine { l := ⟨.slice none 0 0, ?_, Kd.R_nil _ _ _ _ _⟩, m := blk_below bM (hb4 _ _ _), y := ?_, v := blk_below bV (hb4 _ _ _), o := ?_, low := hb0.trans ((hW.mono hb0.size).trans ((hb4 _ _ _).mono ?_)), n0 := (hb4 _ _ _).size }
    · have := blk_alloc (blk_new (W.alloc (Obj.cells #[Value.func (Fn.yield l) #[] #[]] 33)) (.cells #[.slice none 0 0] 22)) (Obj.cells #[LP.on { w00 := w00, n0 := W.heap.size, lr := l, A := A, c := c, vals := vals, many := many, Bl := W.heap.size + 1, Bm := Bm, By := W.heap.size, Bv := Bv, Bo := W.heap.size + 2, Ba := Ba }] 31)
      rw [World.size_alloc] at this
      exact this
    · exact blk_alloc (blk_alloc (blk_new W _) _) _
    · have := blk_new ((W.alloc (Obj.cells #[Value.func (Fn.yield l) #[] #[]] 33)).alloc (.cells #[.slice none 0 0] 22)) (Obj.cells #[LP.on { w00 := w00, n0 := W.heap.size, lr := l, A := A, c := c, vals := vals, many := many, Bl := W.heap.size + 1, Bm := Bm, By := W.heap.size, Bv := Bv, Bo := W.heap.size + 2, Ba := Ba }] 31)
      simp only [World.size_alloc] at this
      exact this
    · show w00.heap.size ≤ W.heap.size
      omega
  rw [← hon]
  have hs4 : (((W.alloc (Obj.cells #[Value.func (Fn.yield l) #[] #[]] 33)).alloc (Obj.cells #[Value.slice none 0 0] 22)).alloc (Obj.cells #[p.on] 31)).heap.size = W.heap.size + 3 := by simp
  have hm0 : p.many = many := by rw [hp]
  have hv0 : p.vals = vals := by rw [hp]
  have hrec := on_calls p HG.out (enumL vals many 0 amount) J Jx HC.out many 0 amount [] [] [] (fun k => W.heap.size + 3 ≤ k) _ (by rw [hm0]; simp) (by rw [hv0]; omega) (by have := HAM.out; omega) (fun k hk => by rw [hp]; dsimp only; omega) (fun k hk => by rw [hs4] at hk; exact hk) hst
    (HC.out.stJ _ _ _ H0.out (by rw [hp]; exact hb4 _ _ _)) (by rw [hv0]; simp)
  rw [hp] at hrec
  rw [hp]
  dsimp only at hrec ⊢
  refine ⟨trivial, rfl, ?_⟩
  refine (callsIn_wide.2 hrec).mono ?_
  rintro e W5 ⟨hS5, hK5, hend⟩
  simp only [List.nil_append, List.map_id'] at hend
  rcases hend with ⟨rfl, hj⟩ | ⟨rfl, m, a, x, b, hab, hmm, hj⟩
  · have HJ5 := Aside0.mk hj
    clear hj hS5 hK5 hrec
    gi_wp2
    go_end0
    exact ⟨⟨_, rfl⟩, .inl HJ5.out⟩
  · have HJ5 := Aside0.mk (And.intro hab hj)
    clear hj hS5 hK5 hrec hab hmm
    gi_wp2
    go_end0
    exact ⟨⟨_, rfl⟩, .inr ⟨m, a, x, b, HJ5.out.1, HJ5.out.2⟩⟩
set_option maxHeartbeats 1000000 in
theorem lists_calls (A : Option Addr) (n c : Nat) (many amount : Int) (w : World) :
    Calls Try.prog 42 #[.slice A n c, .int .i64 many, .int .i64 amount] w fun e w' => e = .returned (.func (.func 59) #[] #[.pointer (some ⟨w.heap.size + 1, 0, none⟩), .pointer (some ⟨w.heap.size, 0, none⟩), .pointer (some ⟨w.heap.size + 2, 0, none⟩)]) ∧ w' = ((w.alloc (.cells #[.slice A n c] 22)).alloc (.cells #[.int .i64 many] 3)).alloc (.cells #[.int .i64 amount] 3) := by
  refine (callsIn_wide (n := 0)).1 ?_
  refine callsIn_of_wp Try.func42 rfl trivial ?_ rfl
  simp only [Try.ntmps42, List.size_toArray, List.length_cons, List.length_nil, Nat.reduceAdd, Nat.reduceSub, Array.replicate_succ, Array.replicate_zero, List.push_toArray, List.append_toArray, List.nil_append, List.cons_append]
  gi_wp2
  go_ret
  exact ⟨rfl, rfl⟩
end Go.Proofs.Ythbalcbibmdpnaa.OAll
