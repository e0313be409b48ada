/- A part of the proof of 'stampPaid_holds', for every input, without a condition. -/
import Derived.Test.YthbalcbibmdpnaaSPdRp
import Derived.Test.YthbalcbibmdpnaaSPdRo
import Derived.Test.YthbalcbibmdpnaaSPdOAllx1
import Derived.Test.YthbalcbibmdpnaaSPdOAllx2
namespace Go.Proofs.Ythbalcbibmdpnaa.OAll
open Go.RowKit Go.Shelf Go.Proofs.YthbalcbibmdpnaaW.PrintWords Go.Proofs.YthbalcbibmdpnaaW.PrintLast Go.Proofs.YthbalcbibmdpnaaW.PrintMore Go.Proofs.Ythbalcbibmdpnaa.Rg
attribute [local go_sem] Oper.semAt_some
set_option linter.unusedVariables false
set_option linter.unusedSimpArgs false
def okL (vals : List Int) (many : Nat) (amount : Int) : Prop := (1 ≤ vals.length ∧ vals.length ≤ 100) ∧ (∀ v ∈ vals, 0 ≤ v ∧ v ≤ 1000) ∧ many ≤ 100 ∧ amount.natAbs ≤ 1000000
instance (vals : List Int) (many : Nat) (amount : Int) : Decidable (okL vals many amount) := by unfold okL; infer_instance
def payL (xs : List (List Int)) : Option (List Int × Int) := match xs with
  | [] => some ([], 10)
  | x :: _ => if x.length < 17592186044416 then some (x, 0) else none
def stamp_Pay.f (k : Nat) (a0 : Int) (l1 : List Int) (a2 : Int) : Option (List Int × Int) := (stamp_asked.f k a0 l1 a2).bind fun t => if t = 0 then (stamp_fewest.f k a0 l1).bind fun fw => if 0 ≤ a2 ∧ a2 < (fw.length : Int) then (if rd fw a2 = -1 then some ([], 10) else if 0 ≤ rd fw a2 ∧ okL l1 (rd fw a2).toNat a2 then payL (enumL l1 (rd fw a2).toNat 0 a2) else none) else none else some ([], t)
theorem stamp_Pay.mono : ∀ a0 a1 a2 k, LeO (stamp_Pay.f k a0 a1 a2) (stamp_Pay.f (k + 1) a0 a1 a2) := by
  intro a0 a1 a2 k
  unfold stamp_Pay.f
  refine LeO.bind (stamp_asked.mono _ _ _ _) (fun t => ?_)
  split
  · exact LeO.bind (stamp_fewest.mono _ _ _) (fun _ => LeO.refl _)
  · exact LeO.refl _
theorem keeps_below {A B : World} (hb : Below A.heap.size A B) : KeepsOthers A B := ⟨hb.size, fun k o hk _ => (hb.block k (blk_lt' hk)).trans hk⟩
theorem two_put {X : World} {n : Nat} {u0 u1 v0 v1 : Value} {t0 t1 : Nat} (b0 : X.heap[n]? = some (.cells #[u0] t0 (0, 0))) (b1 : X.heap[n + 1]? = some (.cells #[u1] t1 (0, 0))) (s0 : v0.oneCell' = true) (s1 : v1.oneCell' = true) :
    ((X.setCell ⟨n, 0, none⟩ v0).setCell ⟨n + 1, 0, none⟩ v1).heap[n]? = some (.cells #[v0] t0 (0, 0)) ∧ ((X.setCell ⟨n, 0, none⟩ v0).setCell ⟨n + 1, 0, none⟩ v1).heap[n + 1]? = some (.cells #[v1] t1 (0, 0)) ∧ Below n X ((X.setCell ⟨n, 0, none⟩ v0).setCell ⟨n + 1, 0, none⟩ v1) :=
  ⟨blk_far (blk_put b0 0 v0 rfl) (by show n ≠ n + 1; omega) _, blk_put (blk_far b1 (by show n + 1 ≠ n; omega) _) 0 v1 rfl, ((Below.refl n X).setCell (by show n ≤ n; omega) _).setCell (by show n ≤ n + 1; omega) _⟩
set_option maxRecDepth 100000 in
set_option maxHeartbeats 4000000 in
theorem stamp_Pay.calls (k : Nat) (a0 : Int) (A1 : Option Addr) (c1 : Nat) (l1 : List Int) (a2 : Int) (r1 : List Int) (r2 : Int) (w : World) (hr1 : Kd.C (Kd.int .i64) w A1 l1.length l1) (hc1 : l1.length ≤ c1) (h : stamp_Pay.f k a0 l1 a2 = some (r1, r2)) :
    Calls Try.prog 17 #[.int .i64 a0, .slice A1 l1.length c1, .int .i64 a2] w fun e w' => ∃ v0_ : Value, e = .returned (.tuple #[v0_, .int .i64 r2]) ∧ Kd.R (Kd.int .i64) 3 w' w.heap.size (fun _ => True) v0_ r1 ∧ Below w.heap.size w w' := by
  unfold stamp_Pay.f at h
  obtain ⟨t, ht, h⟩ := Option.bind_eq_some_iff.mp h
  obtain ⟨wA, hwA⟩ : ∃ wA, wA = (w.alloc (.cells #[.slice none 0 0] 22)).alloc (.cells #[.int .i64 0] 24) := ⟨_, rfl⟩
  have hbA : Below w.heap.size w wA := by rw [hwA]; exact below_alloc (below_alloc (Below.refl _ _) _) _
  have hsA : wA.heap.size = w.heap.size + 2 := by rw [hwA]; simp
  have bA0 : wA.heap[w.heap.size]? = some (.cells #[.slice none 0 0] 22 (0, 0)) := by rw [hwA]; exact blk_alloc (blk_new w _) _
  have bA1 : wA.heap[w.heap.size + 1]? = some (.cells #[.int .i64 0] 24 (0, 0)) := by
    have := blk_new (w.alloc (.cells #[.slice none 0 0] 22)) (.cells #[.int .i64 0] 24)
    rw [World.size_alloc] at this
    rw [hwA]; exact this
  have HASK := Aside0.mk (stamp_asked.calls k a0 A1 c1 l1 a2 t wA (Kd.C_below hr1 hbA) hc1 ht)
  have HR := Aside0.mk hr1
  have HA := Aside0.mk (And.intro hbA (And.intro hsA (And.intro bA0 bA1)))
  have HC1 := Aside0.mk hc1
  clear hr1 ht hbA hsA bA0 bA1 hc1
  refine (callsIn_wide (n := 0)).1 ?_
  refine callsIn_of_wp_marks Try.func17 rfl trivial ?_ rfl
  simp only [Try.ntmps17, List.size_toArray, List.length_cons, List.length_nil, Nat.reduceAdd, Nat.reduceSub, Array.replicate_succ, Array.replicate_zero, List.push_toArray, List.append_toArray, List.nil_append, List.cons_append]
  have HW := Aside0.mk hwA
  clear hwA
  gi_wp2
  rw [← HW.out]
  refine ⟨trivial, rfl, ?_⟩
  refine (callsIn_wide.2 HASK.out).mono ?_
  rintro e w1 ⟨rfl, hd⟩
  obtain ⟨hbA, hsA, bA0, bA1⟩ := HA.out
  have hb1 : Below w.heap.size w w1 := by obtain ⟨nd, rfl⟩ := hd; exact pw_below_drewN hbA _
  have hs1 : w1.heap.size = w.heap.size + 2 := by obtain ⟨nd, rfl⟩ := hd; exact hsA
  have b0 : w1.heap[w.heap.size]? = some (.cells #[.slice none 0 0] 22 (0, 0)) := by obtain ⟨nd, rfl⟩ := hd; exact bA0
  have b1 : w1.heap[w.heap.size + 1]? = some (.cells #[.int .i64 0] 24 (0, 0)) := by obtain ⟨nd, rfl⟩ := hd; exact bA1
  clear hd hbA hsA bA0 bA1
  have g0 := cell_box b0
  have g1 := cell_box b1
  have f0 := blk_frozen b0 0
  have f1 := blk_frozen b1 0
  by_cases c1 : t = 0
  · rw [if_pos c1] at h
    subst c1
    obtain ⟨fw, hfw, h⟩ := Option.bind_eq_some_iff.mp h
    split at h
    · rename_i hin
      have HFW := Aside0.mk (stamp_fewest.calls k a0 A1 c1 l1 fw w1 (Kd.C_below HR.out hb1) HC1.out hfw)
      clear hfw
      have HB1 := Aside0.mk (And.intro hb1 (And.intro hs1 (And.intro b0 b1)))
      clear hb1 hs1 b0 b1
      gi_wp2
      refine ⟨trivial, rfl, ?_⟩
      refine (callsIn_wide.2 HFW.out).mono ?_
      rintro e w2 ⟨vf, rfl, hRf, hbf⟩
      obtain ⟨Af, cf, rfl, hlf, hCf⟩ := Kd.R_reads hRf
      obtain ⟨af, ef, hxf⟩ := Kd.at_int hCf a2 hin.1 hin.2
      cases ef
      have p1 := eq_true hin.1
      have p2 := eq_true hin.2
      obtain ⟨hb1, hs1, b0, b1⟩ := HB1.out
      have hb2 : Below w.heap.size w w2 := hb1.trans (hbf.mono (by omega))
      have b0 := blk_below b0 hbf
      have b1 := blk_below b1 hbf
      have g0 := cell_box b0
      have g1 := cell_box b1
      have f0 := blk_frozen b0 0
      have f1 := blk_frozen b1 0
      have hs2 : w.heap.size + 2 ≤ w2.heap.size := by have := hbf.size; omega
      obtain ⟨m, hm⟩ : ∃ m, m = rd fw a2 := ⟨_, rfl⟩
      rw [← hm] at hxf h
      have HB2 := Aside0.mk (And.intro hb2 (And.intro hs2 (And.intro b0 b1)))
      have HIN := Aside0.mk (And.intro hin hm)
      clear hb2 hs2 b0 b1 hbf hRf hlf hCf hin hm hb1 hs1
      by_cases c2 : m = -1
      · rw [if_pos c2] at h
        simp only [Option.some.injEq, Prod.mk.injEq] at h
        obtain ⟨rfl, rfl⟩ := h
        have k1 : (m == -1) = true := beq_iff_eq.mpr c2
        have k2 : (m != -1) = false := bne_eq_false_iff_eq.mpr c2
        clear c2
        gi_wp2
        obtain ⟨hb2, hs2, b0, b1⟩ := HB2.out
        obtain ⟨r0, r1, hb5⟩ := two_put (v0 := .slice none 0 0) (v1 := .int .i64 10) b0 b1 rfl rfl
        refine ⟨_, by simp [results, Try.f17, go_sem, cell_box r0, cell_box r1], _, rfl, Kd.R_nil _ _ _ _ _, hb2.trans hb5⟩
      · rw [if_neg c2] at h
        split at h
        · rename_i hok
          obtain ⟨ad, e0, _⟩ := Kd.at_int HR.out 0 (by omega) (by have := hok.2.1.1; omega)
          cases e0
          obtain ⟨mN, hmN⟩ : ∃ mN, mN = m.toNat := ⟨_, rfl⟩
          rw [← hmN] at hok h
          have k1 : (m == -1) = false := beq_eq_false_iff_ne.mpr c2
          have k2 : (m != -1) = true := bne_iff_ne.mpr c2
          have HOK := Aside0.mk (And.intro hok hmN)
          have HH := Aside0.mk h
          clear c2 hok hmN h
          gi_wp2
          refine ⟨trivial, rfl, ?_⟩
          refine (callsIn_wide.2 (lists_calls (some ad) l1.length c1 m a2 w2)).mono ?_
          rintro e w3 ⟨rfl, hw3⟩
          obtain ⟨hb2, hs2, b0, b1⟩ := HB2.out
          have hs3 : w3.heap.size = w2.heap.size + 3 := by rw [hw3]; simp
          have hb23 : Below w2.heap.size w2 w3 := by rw [hw3]; exact below_alloc (below_alloc (below_alloc (Below.refl _ _) _) _) _
          have hb3 : Below w.heap.size w w3 := hb2.trans (hb23.mono (by omega))
          have bV : w3.heap[w2.heap.size]? = some (.cells #[.slice (some ad) l1.length c1] 22 (0, 0)) := by rw [hw3]; exact blk_alloc (blk_alloc (blk_new w2 _) _) _
          have bM : w3.heap[w2.heap.size + 1]? = some (.cells #[.int .i64 m] 3 (0, 0)) := by
            have := blk_alloc (blk_new (w2.alloc (.cells #[.slice (some ad) l1.length c1] 22)) (.cells #[.int .i64 m] 3)) (.cells #[.int .i64 a2] 3)
            rw [World.size_alloc] at this
            rw [hw3]; exact this
          have bA : w3.heap[w2.heap.size + 2]? = some (.cells #[.int .i64 a2] 3 (0, 0)) := by
            have := blk_new ((w2.alloc (.cells #[.slice (some ad) l1.length c1] 22)).alloc (.cells #[.int .i64 m] 3)) (.cells #[.int .i64 a2] 3)
            simp only [World.size_alloc] at this
            rw [hw3]; exact this
          have b0 := blk_below b0 hb23
          have b1 := blk_below b1 hb23
          have em : m = (mN : Int) := by have := HOK.out.1.1; have := HOK.out.2; omega
          have HB3 := Aside0.mk (And.intro hs3 (And.intro hb3 (And.intro bV (And.intro bM (And.intro bA (And.intro b0 (And.intro b1 em)))))))
          clear hw3 hs3 hb3 bV bM bA b0 b1 em hb2 hs2 hb23
          gi_wp2
          obtain ⟨hs3, hb3, bV, bM, bA, b0, b1, em⟩ := HB3.out
          obtain ⟨_, hs2, _, _⟩ := HB2.out
          rw [em] at bM
          have hx0 : payL (enumL l1 mN 0 a2) = some (r1, r2) := HH.out
          refine wp_rangeSeqB (gf := 59) (lb := #[.pointer (some ⟨w2.heap.size + 1, 0, none⟩), .pointer (some ⟨w2.heap.size, 0, none⟩), .pointer (some ⟨w2.heap.size + 2, 0, none⟩)]) rfl (enters_of Try.func59 (by kernel_rfl) rfl)
            (lists_seq w w3 ad c1 l1 mN a2 (w2.heap.size + 1) w2.heap.size (w2.heap.size + 2) HR.out HC1.out HOK.out.1.2.1 HOK.out.1.2.2.1 HOK.out.1.2.2.2.1 HOK.out.1.2.2.2.2 hb3 bM bV bA ⟨by omega, by omega, by omega⟩)
            (fun W A B hW h => by rw [← hW]; exact h) (fun W m' A B hW h => by rw [← hW]; exact h)
            (fun h k => h.trans k) (fun U k o' hk hlt => ⟨below_putObj U o' (by omega), fun i hi _ => World.putObj_heap_other (by omega)⟩)
            (fun x u U h => by obtain ⟨v, rfl, _⟩ := h; rfl) (fun x u U o' h _ => encL_put h (by omega) o')
            (fun pre U => pre = [] ∧ U.heap[w.heap.size]? = some (.cells #[.slice none 0 0] 22 (0, 0)) ∧ U.heap[w.heap.size + 1]? = some (.cells #[.int .i64 0] 24 (0, 0)) ∧ Below w.heap.size w U)
            (fun c m' pre U => c = .ret ∧ ∃ x r, pre = [x] ∧ enumL l1 mN 0 a2 = x :: r ∧ (∃ v, U.heap[w.heap.size]? = some (.cells #[v] 22 (0, 0)) ∧ Kd.R (Kd.int .i64) 3 U w.heap.size (fun k => m' ≤ k) v x) ∧ U.heap[w.heap.size + 1]? = some (.cells #[.int .i64 0] 24 (0, 0)) ∧ Below w.heap.size w U)
            (fun W pre A B hI hW hb => ⟨hI.1, (hb.block _ (by omega)).trans hI.2.1, (hb.block _ (by omega)).trans hI.2.2.1, hI.2.2.2.trans (hb.mono (by omega))⟩)
            (fun W c m' pre A B hI hW hb => ?hIx)
            (fun pre A k o o' hI hk hc hw => ⟨hI.1, boxed_putObj o' hI.2.1 hk hc, boxed_putObj o' hI.2.2.1 hk hc, hI.2.2.2.trans (below_putObj A o' (by omega))⟩)
            (fun c m' pre A k o o' hI hk hc hw => ?hIx0)
            (fun A o hI => ⟨hI.1, blk_alloc hI.2.1 _, blk_alloc hI.2.2.1 _, below_alloc hI.2.2.2 _⟩) ⟨rfl, b0, b1, hb3⟩
            (fun u => { tmps := #[.int .i64 a0, .slice (some ad) l1.length c1, .int .i64 a2, undef, undef, undef, .pointer (some ⟨w.heap.size, 0, none⟩), .pointer (some ⟨w.heap.size + 1, 0, none⟩), .int .i64 0, .int .i64 m, u.getD 0 undef, .int .i64 a0, .slice (some ad) l1.length c1, .int .i64 a2, .int .i64 0, .int .i64 0, .bool false, undef, .int .i64 a0, .slice (some ad) l1.length c1, .slice (some af) fw.length cf, .int .i64 a2, .pointer (some (af.add a2.toNat)), .int .i64 m, .int .i64 m, .bool true, .slice (some ad) l1.length c1, .int .i64 m, .int .i64 a2, .func (.func 59) #[] #[.pointer (some ⟨w2.heap.size + 1, 0, none⟩), .pointer (some ⟨w2.heap.size, 0, none⟩), .pointer (some ⟨w2.heap.size + 2, 0, none⟩)], u.getD 0 undef, undef, undef], defers := [] }) ?assign ?body ?done ?stop
          case hIx =>
            obtain ⟨rfl, x, r, rfl, hxr, ⟨v, i0, iR⟩, i1, ib⟩ := hI
            have hlt := blk_lt' i1
            refine ⟨rfl, x, r, rfl, hxr, ⟨v, (hb.block _ (blk_lt' i0) (.inl (by omega))).trans i0, Kd.R_step iR (fun k hk hlt => hb.block k hlt (.inr hk))⟩, (hb.block _ hlt (.inl (by omega))).trans i1, ib.trans ⟨hb.os, hb.tape, hb.output, hb.size, fun k hk => hb.block k (by omega) (.inl (by omega))⟩⟩
          case hIx0 =>
            obtain ⟨rfl, x, r, rfl, hxr, ⟨v, i0, iR⟩, i1, ib⟩ := hI
            exact ⟨rfl, x, r, rfl, hxr, ⟨v, boxed_putObj o' i0 hk hc, R_putObj iR o' hk hc⟩, boxed_putObj o' i1 hk hc, ib.trans (below_putObj A o' (by omega))⟩
          case assign =>
            rintro l x u U K ⟨v, rfl, hR⟩ hK
            clear hs3 hb3 bV bM bA b0 b1 em hs2 hx0 hR
            gi_wp2
            exact hK
          case body =>
            rintro l pre x rest u U hpr ⟨rfl, ib0, ib1, ib⟩ ⟨v, rfl, hR⟩ hsz
            obtain ⟨A3, c3, rfl, hl3, hC3⟩ := Kd.R_reads hR
            rw [List.nil_append] at hpr
            have hxl : x.length < 17592186044416 := by
              rw [hpr] at hx0
              unfold payL at hx0
              simp only at hx0
              split at hx0
              · assumption
              · cases hx0
            have hcl := slices_Clone_int_int.calls A3 c3 x x U hC3 hl3 (by unfold slices_Clone_int_int.f; rw [if_pos (by simpa using hxl)])
            have g0 := cell_box ib0
            have g1 := cell_box ib1
            have HCL := Aside0.mk hcl
            have HU := Aside0.mk (And.intro ib0 (And.intro ib1 (And.intro ib (And.intro hsz (And.intro hpr (And.intro hs3 hs2))))))
            clear hs3 hb3 bV bM bA b0 b1 em hs2 hx0 hR hl3 hC3 hxl hcl ib0 ib1 ib hsz hpr
            gi_wp2
            refine ⟨trivial, rfl, ?_⟩
            refine (CallsIn.inRound l (callsIn_wide.2 HCL.out)).mono ?_
            rintro e U1 ⟨v1, rfl, hR1, hb⟩
            obtain ⟨A5, c5, rfl⟩ := Kd.R_slice hR1
            obtain ⟨ib0, ib1, ib, hsz, hpr, hs3, hs2⟩ := HU.out
            have i0 := blk_below ib0 hb
            have i1 := blk_below ib1 hb
            have g0 := cell_box i0
            have g1 := cell_box i1
            have f0 := blk_frozen i0 0
            have f1 := blk_frozen i1 0
            have HV := Aside0.mk (And.intro i0 (And.intro i1 (And.intro hb hR1)))
            clear i0 i1 hb hR1 ib0 ib1 ib hsz hpr hs3 hs2
            gi_wp2
            obtain ⟨i0, i1, hb, hR1⟩ := HV.out
            obtain ⟨ib0, ib1, ib, hsz, hpr, hs3, hs2⟩ := HU.out
            obtain ⟨r0, r1', hb5⟩ := two_put (v0 := .slice A5 x.length c5) (v1 := .int .i64 0) i0 i1 rfl rfl
            have hbU := ib.size
            refine ⟨(((keeps_below hb).trans (KeepsOthers.setCell _ _ _)).trans (KeepsOthers.setCell _ _ _)).from _, ⟨(hb.mono (by omega)).trans hb5, fun k hz hk => ?_⟩, rfl, x, rest, rfl, hpr, ⟨_, r0, ?_⟩, r1', (ib.trans (hb.mono (by omega))).trans hb5⟩
            · exact ((Below.heap_setCell _ _ _ _ (by show k ≠ w.heap.size + 1; omega)).trans (Below.heap_setCell _ _ _ _ (by show k ≠ w.heap.size; omega))).trans (hb.block k hk)
            · have h1 := Kd.R_mono (Kd.R_bound (Kd.R_lower hR1 (base' := U.heap.size) (Nat.le_refl _))) (ok' := fun k => U.heap.size ≤ k) (fun k hk => hk.2.1)
              have h2 := Kd.R_far (Kd.R_far h1 (p := ⟨w.heap.size, 0, none⟩) (fun k hk => by show k ≠ w.heap.size; omega) (.slice A5 x.length c5)) (p := ⟨w.heap.size + 1, 0, none⟩) (fun k hk => by show k ≠ w.heap.size + 1; omega) (.int .i64 0)
              exact Kd.R_lower h2 (by omega)
          case done =>
            rintro U ⟨hxs, ib0, ib1, ib⟩ hK
            rw [hxs] at hx0
            simp only [payL, Option.some.injEq, Prod.mk.injEq] at hx0
            obtain ⟨rfl, rfl⟩ := hx0
            have g0 := cell_box ib0
            have g1 := cell_box ib1
            have f0 := blk_frozen ib0 0
            have f1 := blk_frozen ib1 0
            have HU := Aside0.mk (And.intro ib0 (And.intro ib1 (And.intro ib (And.intro hK (And.intro hs3 hs2)))))
            clear hs3 hb3 bV bM bA b0 b1 em hs2 ib0 ib1 ib hK hxs
            gi_wp2
            obtain ⟨ib0, ib1, ib, hK, hs3, hs2⟩ := HU.out
            obtain ⟨r0, r1', hb5⟩ := two_put (v0 := .slice none 0 0) (v1 := .int .i64 10) ib0 ib1 rfl rfl
            have hK3 : ((U.setCell ⟨w.heap.size, 0, none⟩ (.slice none 0 0)).setCell ⟨w.heap.size + 1, 0, none⟩ (.int .i64 10)).heap[w3.heap.size]? = some (.deferred (some [])) := ((Below.heap_setCell _ _ _ _ (by show w3.heap.size ≠ w.heap.size + 1; omega)).trans (Below.heap_setCell _ _ _ _ (by show w3.heap.size ≠ w.heap.size; omega))).trans hK
            refine ⟨by simp, .inl ⟨_, _, rfl, run_takeDeferred hK3, ?_⟩⟩
            have q0 := cell_box (boxed_putObj (.deferred none) r0 hK3 rfl)
            have q1 := cell_box (boxed_putObj (.deferred none) r1' hK3 rfl)
            exact ⟨_, by simp [results, Try.f17, go_sem, q0, q1], _, rfl, Kd.R_nil _ _ _ _ _, (ib.trans hb5).trans (below_putObj _ _ (by omega))⟩
          case stop =>
            rintro c m' pre U ⟨rfl, x, r, rfl, hxr, ⟨v, i0, iR⟩, i1, ib⟩ hK
            rw [hxr] at hx0
            unfold payL at hx0
            simp only at hx0
            split at hx0
            · simp only [Option.some.injEq, Prod.mk.injEq] at hx0
              obtain ⟨rfl, rfl⟩ := hx0
              have HU := Aside0.mk (And.intro i0 (And.intro i1 (And.intro ib (And.intro hK (And.intro hs3 (And.intro hs2 iR))))))
              clear hs3 hb3 bV bM bA b0 b1 em hs2 i0 i1 ib hK hxr iR
              gi_wp2
              obtain ⟨i0, i1, ib, hK, hs3, hs2, iR⟩ := HU.out
              refine ⟨by simp, .inl ⟨_, _, rfl, run_takeDeferred hK, ?_⟩⟩
              have q0 := cell_box (boxed_putObj (.deferred none) i0 hK rfl)
              have q1 := cell_box (boxed_putObj (.deferred none) i1 hK rfl)
              exact ⟨_, by simp [results, Try.f17, go_sem, q0, q1], _, rfl, Kd.R_mono (R_putObj iR _ hK rfl) (fun _ _ => trivial), ib.trans (below_putObj _ _ (by omega))⟩
            · cases hx0
        · cases h
    · cases h
  · rw [if_neg c1] at h
    simp only [Option.some.injEq, Prod.mk.injEq] at h
    obtain ⟨rfl, rfl⟩ := h
    have c1b : (t == 0) = false := beq_eq_false_iff_ne.mpr c1
    have c1c : (t != 0) = true := bne_iff_ne.mpr c1
    have HB1 := Aside0.mk (And.intro hb1 (And.intro hs1 (And.intro b0 b1)))
    clear c1 hb1 hs1 b0 b1
    gi_wp2
    obtain ⟨hb1, hs1, b0, b1⟩ := HB1.out
    obtain ⟨r0, r1, hb5⟩ := two_put (v0 := .slice none 0 0) (v1 := .int .i64 t) b0 b1 rfl rfl
    refine ⟨_, by simp [results, Try.f17, go_sem, cell_box r0, cell_box r1], _, rfl, Kd.R_nil _ _ _ _ _, hb1.trans hb5⟩
end Go.Proofs.Ythbalcbibmdpnaa.OAll
