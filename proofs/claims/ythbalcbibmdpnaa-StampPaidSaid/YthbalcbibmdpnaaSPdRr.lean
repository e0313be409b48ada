/- A part of the proof of 'stampPaid_holds', for every input, without a condition. -/
import Derived.Sort.LoopGhostIn
import Derived.Test.YthbalcbibmdpnaaSPdRq
namespace Go.Proofs.Ythbalcbibmdpnaa.OAll
open Go.RowKit Go.Shelf Go.Proofs.YthbalcbibmdpnaaW.PrintWords Go.Proofs.YthbalcbibmdpnaaW.PrintLast Go.Proofs.YthbalcbibmdpnaaW.PrintMore Go.Proofs.Ythbalcbibmdpnaa.Rg
attribute [local go_sem] Oper.semAt_some
set_option linter.unusedVariables false
set_option linter.unusedSimpArgs false
theorem loop_k {F : Fence} {rm : Nat} {P : Program} {Q : Exit → Act → World → Prop} {a : Act} {w : World} {c : Code} (I : Nat → Act → World → Prop) (n₀ : Nat) (h₀ : I n₀ a w)
    (round : ∀ n a w, I n a w → ∀ K : Act → World → Prop, (∀ n' a' w', n' < n → I n' a' w' → K a' w') → c.wpIn F rm P (Exit.then K Q) a w) : (Code.loop c).wpIn F rm P Q a w :=
  wpIn_loop_ghost I n₀ h₀ fun n a w h => round n a w h _ fun n' a' w' hlt hi => ⟨n', hlt, hi⟩
def markD (m : Nat) : Deferred := { target := .collected m, args := #[] }
theorem leaves_marks {F : Fence} {n : Nat} {P : Program} {fn : Func} {tmps : Array Value} {R : Ending → World → Prop} (b : Nat) : ∀ (ms : List Nat) (U : World), ms.Nodup → (∀ m ∈ ms, U.heap[m]? = some (.deferred (some [])) ∧ b ≤ m) →
    (∀ U', Below b U U' → LeavesIn F n P fn tmps R [] .returning U') → LeavesInM F n P fn tmps R (ms.map markD) .returning U
  | [], U, _, _, h => h U (Below.refl _ _)
  | m :: ms, U, hn, hm, h => by
    have h1 := (hm m (by simp)).1
    refine ⟨by simp, .inl ⟨_, _, rfl, run_takeDeferred h1, leaves_marks b ms _ (List.nodup_cons.mp hn).2 (fun m' hm' => ⟨(World.putObj_heap_other (fun e => ?_)).trans (hm m' (by simp [hm'])).1, (hm m' (by simp [hm'])).2⟩) (fun U' hU => h U' ((below_putObj U _ (hm m (by simp)).2).trans hU))⟩⟩
    have e' : m' = m := e
    exact (List.nodup_cons.mp hn).1 (e' ▸ hm')
def waysN (vals : List Int) (amount : Int) (n : Nat) : Nat := ((List.range n).map fun many => (enumL vals many 0 amount).length).sum
theorem waysN_succ (vals : List Int) (amount : Int) (n : Nat) : waysN vals amount (n + 1) = waysN vals amount n + (enumL vals n 0 amount).length := by
  simp [waysN, List.range_succ]
def stamp_Ways.f (k : Nat) (a0 : Int) (l1 : List Int) (a2 : Int) : Option (Int × Int) := (stamp_asked.f k a0 l1 a2).bind fun t => if t = 0 then (if 0 ≤ a0 ∧ okL l1 a0.toNat a2 then some (wrap64 (waysN l1 a2 (a0.toNat + 1) : Int), 0) else none) else some (0, t)
theorem stamp_Ways.mono : ∀ a0 a1 a2 k, LeO (stamp_Ways.f k a0 a1 a2) (stamp_Ways.f (k + 1) a0 a1 a2) := by
  intro a0 a1 a2 k
  unfold stamp_Ways.f
  exact LeO.bind (stamp_asked.mono _ _ _ _) (fun t => LeO.refl _)
structure WayI (w : World) (b9 : Nat) (t : Int) (ms : List Nat) (U : World) : Prop where
  out : U.heap[b9]? = some (.cells #[.int .i64 t] 3 (0, 0))
  low : Below w.heap.size w U
  nd : ms.Nodup
  marks : ∀ m ∈ ms, U.heap[m]? = some (.deferred (some [])) ∧ w.heap.size ≤ m
theorem WayI.below {w : World} {b9 : Nat} {t : Int} {ms : List Nat} {U U' : World} (h : WayI w b9 t ms U) (hb : Below U.heap.size U U') : WayI w b9 t ms U' :=
  ⟨blk_below h.out hb, h.low.trans (hb.mono h.low.size), h.nd, fun m hm => ⟨(hb.block m (blk_lt' (h.marks m hm).1)).trans (h.marks m hm).1, (h.marks m hm).2⟩⟩
theorem WayI.from {w : World} {b9 n : Nat} {t : Int} {ms : List Nat} {U U' : World} (h : WayI w b9 t ms U) (hb : Below n U U') (hn : w.heap.size ≤ n) (h9 : b9 < n) (hms : ∀ m ∈ ms, m < n) : WayI w b9 t ms U' :=
  ⟨(hb.block _ h9).trans h.out, h.low.trans (hb.mono hn), h.nd, fun m hm => ⟨(hb.block m (hms m hm)).trans (h.marks m hm).1, (h.marks m hm).2⟩⟩
theorem WayI.set {w : World} {b9 : Nat} {t t' : Int} {ms : List Nat} {U : World} (h : WayI w b9 t ms U) (hw : w.heap.size ≤ b9) : WayI w b9 t' ms (U.setCell ⟨b9, 0, none⟩ (.int .i64 t')) :=
  ⟨blk_put h.out 0 _ rfl, h.low.setCell (by show w.heap.size ≤ b9; exact hw) _, h.nd, fun m hm => ⟨(Below.heap_setCell _ _ _ _ (fun e => by
    have e' : m = b9 := e
    have h1 := (h.marks m hm).1
    rw [e', h.out] at h1
    cases h1)).trans (h.marks m hm).1, (h.marks m hm).2⟩⟩
theorem wrap_succ (n : Nat) : wrap64 (wrap64 (n : Int) + 1) = wrap64 ((n + 1 : Nat) : Int) := by unfold wrap64; omega
set_option maxRecDepth 100000 in
set_option maxHeartbeats 4000000 in
theorem stamp_Ways.calls (k : Nat) (a0 : Int) (A1 : Option Addr) (c1 : Nat) (l1 : List Int) (a2 : Int) (r1 : Int) (r2 : Int) (w : World) (hr1 : Kd.C (Kd.int .i64) w A1 l1.length l1) (hc1 : l1.length ≤ c1) (h : stamp_Ways.f k a0 l1 a2 = some (r1, r2)) :
    Calls Try.prog 27 #[.int .i64 a0, .slice A1 l1.length c1, .int .i64 a2] w fun e w' => e = .returned (.tuple #[.int .i64 r1, .int .i64 r2]) ∧ Below w.heap.size w w' := by
  unfold stamp_Ways.f at h
  obtain ⟨t, ht, h⟩ := Option.bind_eq_some_iff.mp h
  have HASK := Aside0.mk (stamp_asked.calls k a0 A1 c1 l1 a2 t w hr1 hc1 ht)
  have HR := Aside0.mk hr1
  have HC1 := Aside0.mk hc1
  clear hr1 ht hc1
  refine (callsIn_wide (n := 0)).1 ?_
  refine callsIn_of_wp_marks Try.func27 rfl trivial ?_ rfl
  simp only [Try.ntmps27, List.size_toArray, List.length_cons, List.length_nil, Nat.reduceAdd, Nat.reduceSub, Array.replicate_succ, Array.replicate_zero, List.push_toArray, List.append_toArray, List.nil_append, List.cons_append]
  gi_wp2
  refine ⟨trivial, rfl, ?_⟩
  refine (callsIn_wide.2 HASK.out).mono ?_
  rintro e w1 ⟨rfl, hd⟩
  have hb1 : Below w.heap.size w w1 := by obtain ⟨nd, rfl⟩ := hd; exact pw_below_drewN (Below.refl _ _) _
  clear hd
  by_cases c1 : t = 0
  · rw [if_pos c1] at h
    subst c1
    split at h
    · rename_i hin
      simp only [Option.some.injEq, Prod.mk.injEq] at h
      obtain ⟨rfl, rfl⟩ := h
      obtain ⟨ad, e0, _⟩ := Kd.at_int HR.out 0 (by omega) (by have := hin.2.1.1; omega)
      cases e0
      obtain ⟨hN, hhN⟩ : ∃ hN, hN = a0.toNat := ⟨_, rfl⟩
      have ea : a0 = (hN : Int) := by have := hin.1; omega
      subst ea
      have HIN := Aside0.mk hin
      have HB1 := Aside0.mk hb1
      obtain ⟨top, htop⟩ : ∃ top : Int, top = ((hN + 1 : Nat) : Int) := ⟨_, rfl⟩
      have hN1 : hN ≤ 100 := by have := hin.2.2.2.1; rwa [← hhN] at this
      have e1 : wrap64 ((hN : Int) + 1) = top := by rw [htop]; unfold wrap64; omega
      have HTOP := Aside0.mk (And.intro htop hN1)
      clear htop hN1
      clear hin hb1 hhN
      gi_wp2
      obtain ⟨W0, hW0⟩ : ∃ W0, W0 = w1.alloc (.cells #[.int .i64 0] 3) := ⟨_, rfl⟩
      obtain ⟨b9, hb9⟩ : ∃ b9, b9 = w1.heap.size := ⟨_, rfl⟩
      have hw9 : w.heap.size ≤ b9 := by rw [hb9]; exact HB1.out.size
      have hI0 : WayI w b9 (wrap64 ((waysN l1 a2 0 : Nat) : Int)) [] W0 := by
        refine ⟨?_, ?_, List.nodup_nil, fun m hm => by cases hm⟩
        · rw [hW0, hb9, show wrap64 ((waysN l1 a2 0 : Nat) : Int) = 0 by simp [waysN, wrap64]]; exact blk_new w1 _
        · rw [hW0]; exact below_alloc HB1.out _
      rw [← hW0, ← hb9, e1]
      clear hW0 hb9 e1
      refine loop_k (fun n a U => ∃ (j : Nat) (ms : List Nat) (u10 u21 u22 u23 u24 u25 u26 u30 : Value), j ≤ hN + 1 ∧ n = hN + 1 - j ∧ WayI w b9 (wrap64 ((waysN l1 a2 j : Nat) : Int)) ms U ∧
        a = { tmps := #[.int .i64 (hN : Int), .slice (some ad) l1.length c1, .int .i64 a2, undef, undef, undef, .int .i64 0, .int .i64 0, .int .i64 0, .pointer (some ⟨b9, 0, none⟩), u10, .int .i64 (hN : Int), .slice (some ad) l1.length c1, .int .i64 a2, .int .i64 0, .int .i64 0, .bool false, undef, .int .i64 (hN : Int), .int .i64 top, .int .i64 (j : Int), u21, u22, u23, u24, u25, u26, undef, undef, undef, u30, undef], defers := ms.map markD }) (hN + 1) ⟨0, [], undef, undef, undef, undef, undef, undef, undef, undef, by omega, by omega, hI0, rfl⟩ ?_
      rintro n a U ⟨j, ms, u10, u21, u22, u23, u24, u25, u26, u30, hj, hn, hI, rfl⟩ K hK
      have g9 := cell_box hI.out
      have HJ := Aside0.mk (And.intro hj (And.intro hn hI))
      have HKK := Aside0.mk hK
      clear hI0 hj hn hI hK
      by_cases c2 : j < hN + 1
      · have k1 : ((j : Int) < top) = True := eq_true (by have := HTOP.out.1; omega)
        have k2 : decide ((j : Int) < top) = true := decide_eq_true (by have := HTOP.out.1; omega)
        have HC2 := Aside0.mk c2
        clear c2
        gi_wp2
        refine ⟨trivial, rfl, ?_⟩
        refine (callsIn_wide.2 (lists_calls (some ad) l1.length c1 (j : Int) a2 U)).mono ?_
        rintro e w3 ⟨rfl, hw3⟩
        obtain ⟨hj, hn, hI⟩ := HJ.out
        obtain ⟨htop, hN1⟩ := HTOP.out
        have hs3 : w3.heap.size = U.heap.size + 3 := by rw [hw3]; simp
        have hb23 : Below U.heap.size U w3 := by rw [hw3]; exact below_alloc (below_alloc (below_alloc (Below.refl _ _) _) _) _
        have bV : w3.heap[U.heap.size]? = some (.cells #[.slice (some ad) l1.length c1] 22 (0, 0)) := by rw [hw3]; exact blk_alloc (blk_alloc (blk_new U _) _) _
        have bM : w3.heap[U.heap.size + 1]? = some (.cells #[.int .i64 (j : Int)] 3 (0, 0)) := by
          have := blk_alloc (blk_new (U.alloc (.cells #[.slice (some ad) l1.length c1] 22)) (.cells #[.int .i64 (j : Int)] 3)) (.cells #[.int .i64 a2] 3)
          rw [World.size_alloc] at this
          rw [hw3]; exact this
        have bA : w3.heap[U.heap.size + 2]? = some (.cells #[.int .i64 a2] 3 (0, 0)) := by
          have := blk_new ((U.alloc (.cells #[.slice (some ad) l1.length c1] 22)).alloc (.cells #[.int .i64 (j : Int)] 3)) (.cells #[.int .i64 a2] 3)
          simp only [World.size_alloc] at this
          rw [hw3]; exact this
        have hI3 := hI.below hb23
        have h9U := blk_lt' hI.out
        have hmsU : ∀ m ∈ ms, m < U.heap.size := fun m hm => blk_lt' (hI.marks m hm).1
        have hwU := hI.low.size
        obtain ⟨jn, hjn⟩ : ∃ jn : Int, jn = ((j + 1 : Nat) : Int) := ⟨_, rfl⟩
        have e2 : wrap64 ((j : Int) + 1) = jn := by have := HC2.out; unfold wrap64; omega
        have HB3 := Aside0.mk (And.intro hs3 (And.intro bV (And.intro bM (And.intro bA (And.intro hI3 (And.intro h9U (And.intro hmsU (And.intro hwU (And.intro hj (And.intro hn hjn))))))))))
        clear hw3 hs3 bV bM bA hI3 hI hj hn hb23 hjn h9U hmsU hwU htop hN1
        gi_wp2
        obtain ⟨hs3, bV, bM, bA, hI3, h9U, hmsU, hwU, hj, hn, hjn⟩ := HB3.out
        have hC2 := HC2.out
        refine wp_rangeSeqB (gf := 59) (lb := #[.pointer (some ⟨U.heap.size + 1, 0, none⟩), .pointer (some ⟨U.heap.size, 0, none⟩), .pointer (some ⟨U.heap.size + 2, 0, none⟩)]) rfl (enters_of Try.func59 (by kernel_rfl) rfl)
          (lists_seq w w3 ad c1 l1 j a2 (U.heap.size + 1) U.heap.size (U.heap.size + 2) HR.out HC1.out HIN.out.2.1 HIN.out.2.2.1 (by have := HTOP.out.2; omega) HIN.out.2.2.2.2 hI3.low bM bV bA ⟨by omega, by omega, by omega⟩)
          (fun W A B hW h => by rw [← hW]; exact h) (fun W m' A B hW h => by rw [← hW]; exact h)
          (fun h k => h.trans k) (fun V k o' hk hlt => ⟨below_putObj V o' (by omega), fun i hi _ => World.putObj_heap_other (by omega)⟩)
          (fun x u V h => by obtain ⟨v, rfl, _⟩ := h; rfl) (fun x u V o' h _ => encL_put h (by omega) o')
          (fun pre V => WayI w b9 (wrap64 ((waysN l1 a2 j + pre.length : Nat) : Int)) ms V) (fun _ _ _ _ => False)
          (fun W pre A B hI hW hb => hI.from hb (by omega) (by omega) (fun m hm => by have := hmsU m hm; omega)) (fun W c m' pre A B hI hW hb => hI.elim)
          (fun pre A k o o' hI hk hc hw => ⟨boxed_putObj o' hI.out hk hc, hI.low.trans (below_putObj A o' (by omega)), hI.nd, fun m hm => ⟨(World.putObj_heap_other (by have := hmsU m hm; omega)).trans (hI.marks m hm).1, (hI.marks m hm).2⟩⟩)
          (fun c m' pre A k o o' hI hk hc hw => hI.elim)
          (fun A o hI => hI.below (below_alloc (Below.refl _ _) _)) (by simpa using hI3)
          (fun u => { tmps := #[.int .i64 (hN : Int), .slice (some ad) l1.length c1, .int .i64 a2, undef, undef, undef, .int .i64 0, .int .i64 0, .int .i64 0, .pointer (some ⟨b9, 0, none⟩), .int .i64 (j : Int), .int .i64 (hN : Int), .slice (some ad) l1.length c1, .int .i64 a2, .int .i64 0, .int .i64 0, .bool false, undef, .int .i64 (hN : Int), .int .i64 top, .int .i64 (j : Int), .bool true, .int .i64 (j : Int), .slice (some ad) l1.length c1, .int .i64 (j : Int), .int .i64 a2, .func (.func 59) #[] #[.pointer (some ⟨U.heap.size + 1, 0, none⟩), .pointer (some ⟨U.heap.size, 0, none⟩), .pointer (some ⟨U.heap.size + 2, 0, none⟩)], u.getD 0 undef, undef, undef, u30, undef], defers := [] }) ?assign ?body ?done ?stop
        case assign =>
          rintro l x u V K' ⟨v, rfl, hR⟩ hK'
          clear hs3 bV bM bA hI3 h9U hmsU hwU hj hn hjn hC2 hR
          gi_wp2
          simpa using hK'
        case body =>
          rintro l pre x rest u V hpr hI ⟨v, rfl, hR⟩ hsz
          obtain ⟨cnt, hcnt⟩ : ∃ cnt, cnt = waysN l1 a2 j + pre.length := ⟨_, rfl⟩
          have hI : WayI w b9 (wrap64 (cnt : Int)) ms V := by rw [hcnt]; exact hI
          have g9 := cell_box hI.out
          have f9 := blk_frozen hI.out 0
          have e3 := wrap_succ cnt
          have HCN := Aside0.mk hcnt
          clear hcnt
          have HU := Aside0.mk (And.intro hI (And.intro hsz (And.intro hs3 (And.intro h9U (And.intro hwU hmsU)))))
          clear hs3 bV bM bA hI3 h9U hmsU hwU hj hn hjn hC2 hR hI hsz hpr e2
          gi_wp2
          obtain ⟨hI, hsz, hs3, h9U, hwU, hmsU⟩ := HU.out
          refine ⟨(KeepsOthers.setCell _ _ _).from _, ⟨(Below.refl _ _).setCell (by show w.heap.size ≤ b9; omega) _, fun k hz hk => Below.heap_setCell _ _ _ _ (by show k ≠ b9; omega)⟩, ?_⟩
          have := hI.set (t' := wrap64 (wrap64 (cnt : Int) + 1)) hw9
          have ec : waysN l1 a2 j + (pre ++ [x]).length = cnt + 1 := by rw [HCN.out]; simp; omega
          show WayI w b9 (wrap64 ((waysN l1 a2 j + (pre ++ [x]).length : Nat) : Int)) ms _
          have e4 : ((cnt + 1 : Nat) : Int) = (cnt : Int) + 1 := by omega
          rw [e3, e4] at this
          rw [ec, e4]
          exact this
        case done =>
          intro V hI hK
          have hD : V.heap[w3.heap.size]? = some (.deferred (some [])) := hK
          have HV := Aside0.mk (And.intro hI hD)
          clear hs3 bV bM bA hI3 h9U hmsU hwU hj hn hjn hC2 hI hK hD
          gi_wp2
          obtain ⟨hs3, bV, bM, bA, hI3, h9U, hmsU, hwU, hj, hn, hjn⟩ := HB3.out
          obtain ⟨hI, hD⟩ := HV.out
          have hC2 := HC2.out
          rw [e2, hjn]
          refine HKK.out (hN + 1 - (j + 1)) _ _ (by clear e2; omega) ⟨j + 1, w3.heap.size :: ms, _, _, _, _, _, _, _, _, by clear e2; omega, rfl, ?_, rfl⟩
          refine ⟨by rw [waysN_succ]; exact hI.out, hI.low, List.nodup_cons.mpr ⟨fun hm => by have := hmsU _ hm; omega, hI.nd⟩, fun m hm => ?_⟩
          rcases List.mem_cons.mp hm with rfl | hm
          · exact ⟨hD, by omega⟩
          · exact hI.marks m hm
        case stop =>
          intro c m' pre V h
          exact h.elim
      · have k1 : ((j : Int) < top) = False := eq_false (by have := HTOP.out.1; omega)
        have k2 : decide ((j : Int) < top) = false := decide_eq_false (by have := HTOP.out.1; omega)
        have HC2 := Aside0.mk c2
        clear c2
        gi_wp2
        obtain ⟨hj, hn, hI⟩ := HJ.out
        have hjn : j = hN + 1 := by have := HC2.out; omega
        have hv : (hN : Int).toNat + 1 = j := by omega
        rw [hv]
        exact leaves_marks w.heap.size ms U hI.nd hI.marks (fun U' hU => ⟨_, results_tmp2 rfl _ _ _, rfl, hI.low.trans hU⟩)
    · cases h
  · rw [if_neg c1] at h
    simp only [Option.some.injEq, Prod.mk.injEq] at h
    obtain ⟨rfl, rfl⟩ := h
    have c1b : (t == 0) = false := beq_eq_false_iff_ne.mpr c1
    have c1c : (t != 0) = true := bne_iff_ne.mpr c1
    have HB1 := Aside0.mk hb1
    clear c1 hb1
    gi_wp2
    exact ⟨_, results_tmp2 rfl _ _ _, rfl, HB1.out⟩
end Go.Proofs.Ythbalcbibmdpnaa.OAll
