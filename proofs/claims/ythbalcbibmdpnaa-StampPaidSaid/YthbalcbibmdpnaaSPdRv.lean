/- A part of the proof of 'stampPaid_holds', for every input, without a condition. -/
import Derived.Test.YthbalcbibmdpnaaSPdRr
namespace Go.Proofs.Ythbalcbibmdpnaa.OAll
open Go.RowKit Go.Shelf Go.Proofs.YthbalcbibmdpnaaW.PrintWords Go.Proofs.YthbalcbibmdpnaaW.PrintLast Go.Proofs.YthbalcbibmdpnaaW.PrintMore Go.Proofs.Ythbalcbibmdpnaa.Rg
attribute [local go_sem] Oper.semAt_some
set_option linter.unusedVariables false
set_option linter.unusedSimpArgs false
def firstN (p : Nat → Prop) [DecidablePred p] (i : Nat) : Nat → Option Nat
  | 0 => none
  | d + 1 => if p i then some i else firstN p (i + 1) d
theorem firstN_some {p : Nat → Prop} [DecidablePred p] : ∀ (d i j : Nat), firstN p i d = some j → i ≤ j ∧ j < i + d ∧ p j ∧ ∀ k, i ≤ k → k < j → ¬ p k
  | 0, i, j, h => by cases h
  | d + 1, i, j, h => by
    rw [firstN] at h
    split at h
    · rename_i hp
      cases h
      exact ⟨Nat.le_refl _, by omega, hp, fun k h1 h2 => by omega⟩
    · rename_i hp
      obtain ⟨h1, h2, h3, h4⟩ := firstN_some d (i + 1) j h
      refine ⟨by omega, by omega, h3, fun k k1 k2 => ?_⟩
      rcases Nat.eq_or_lt_of_le k1 with rfl | hlt
      · exact hp
      · exact h4 k (by omega) k2
theorem firstN_none {p : Nat → Prop} [DecidablePred p] : ∀ (d i : Nat), firstN p i d = none → ∀ k, i ≤ k → k < i + d → ¬ p k
  | 0, i, h, k, h1, h2 => by omega
  | d + 1, i, h, k, h1, h2 => by
    rw [firstN] at h
    split at h
    · cases h
    · rename_i hp
      rcases Nat.eq_or_lt_of_le h1 with rfl | hlt
      · exact hp
      · exact firstN_none d (i + 1) h k (by omega) (by omega)
def grS (s p : Int × Int) : Int × Int := (s.1 + s.2 / p.2, s.2 % p.2)
def grF (l : List (Int × Int)) (a : Int) : Int × Int := l.foldl grS (0, a)
def grP (h : Int) (l fw : List Int) (i : Nat) : Prop := rd fw (i : Int) ≠ -1 ∧ (0 < (grF (bw l) (i : Int)).2 ∨ h < (grF (bw l) (i : Int)).1)
instance (h : Int) (l fw : List Int) : DecidablePred (grP h l fw) := fun i => by unfold grP; infer_instance
def okG (l fw : List Int) : Prop := (1 ≤ l.length ∧ l.length ≤ 100) ∧ (∀ v ∈ l, 1 ≤ v ∧ v ≤ 1000) ∧ fw.length ≤ 100000
instance (l fw : List Int) : Decidable (okG l fw) := by unfold okG; infer_instance
def grR : Option Nat → Int × Int
  | some i => ((i : Int), 0)
  | none => (0, 10)
def stamp_Greedy.f (k : Nat) (a0 : Int) (l1 : List Int) : Option (Int × Int) := (stamp_read.f k a0 l1).bind fun t => if t = 0 then (stamp_fewest.f k a0 l1).bind fun fw => if okG l1 fw then some (grR (firstN (grP a0 l1 fw) 0 fw.length)) else none else some (0, t)
theorem grF_range {a : Int} (ha : 0 ≤ a ∧ a ≤ 100000) : ∀ (n : Nat) (l : List (Int × Int)), l.length = n → (∀ p ∈ l, 1 ≤ p.2) → 0 ≤ (grF l a).2 ∧ (grF l a).2 ≤ a ∧ 0 ≤ (grF l a).1 ∧ (grF l a).1 ≤ 100000 * (n : Int)
  | 0, l, hn, hp => by
    obtain rfl := List.eq_nil_of_length_eq_zero hn
    simp [grF]; omega
  | n + 1, l, hn, hp => by
    have hne : l ≠ [] := fun e => by rw [e] at hn; simp at hn
    have e := (List.dropLast_concat_getLast hne).symm
    have hd : l.dropLast.length = n := by rw [List.length_dropLast]; omega
    obtain ⟨h1, h2, h3, h4⟩ := grF_range ha n l.dropLast hd (fun p hq => hp p (List.dropLast_subset _ hq))
    have hv := hp _ (List.getLast_mem hne)
    have e2 : grF l a = grS (grF l.dropLast a) (l.getLast hne) := by
      conv => lhs; rw [e]
      unfold grF
      rw [List.foldl_append]
      rfl
    rw [e2]
    unfold grS
    have d1 : 0 ≤ (grF l.dropLast a).2 / (l.getLast hne).2 := Int.ediv_nonneg h1 (by omega)
    have d2 : (grF l.dropLast a).2 / (l.getLast hne).2 ≤ (grF l.dropLast a).2 := Int.ediv_le_self _ h1
    have d3 : 0 ≤ (grF l.dropLast a).2 % (l.getLast hne).2 := Int.emod_nonneg _ (by omega)
    have d4 : (grF l.dropLast a).2 % (l.getLast hne).2 ≤ (grF l.dropLast a).2 := by
      have := Int.emod_def (grF l.dropLast a).2 (l.getLast hne).2
      have := Int.mul_nonneg (show 0 ≤ (l.getLast hne).2 by omega) d1
      omega
    refine ⟨d3, by show (grF l.dropLast a).2 % (l.getLast hne).2 ≤ a; omega, by show 0 ≤ (grF l.dropLast a).1 + _; omega, by show (grF l.dropLast a).1 + (grF l.dropLast a).2 / (l.getLast hne).2 ≤ _; omega⟩
structure GrI (w : World) (b : Nat) (s : Int × Int) (vs : Value) (ms : List Nat) (U : World) : Prop where
  left : U.heap[b]? = some (.cells #[.int .i64 s.2] 3 (0, 0))
  used : U.heap[b + 1]? = some (.cells #[.int .i64 s.1] 3 (0, 0))
  box : U.heap[b + 2]? = some (.cells #[vs] 22 (0, 0))
  low : Below w.heap.size w U
  marks : ∀ m ∈ ms, U.heap[m]? = some (.deferred (some [])) ∧ w.heap.size ≤ m ∧ m < b
structure GrJ (w : World) (ms : List Nat) (U : World) : Prop where
  low : Below w.heap.size w U
  nd : ms.Nodup
  marks : ∀ m ∈ ms, U.heap[m]? = some (.deferred (some [])) ∧ w.heap.size ≤ m
set_option maxRecDepth 100000 in
set_option maxHeartbeats 4000000 in
theorem stamp_Greedy.calls (k : Nat) (a0 : Int) (A1 : Option Addr) (c1 : Nat) (l1 : List Int) (r1 : Int) (r2 : Int) (w : World) (hr1 : Kd.C (Kd.int .i64) w A1 l1.length l1) (hc1 : l1.length ≤ c1) (h : stamp_Greedy.f k a0 l1 = some (r1, r2)) :
    Calls Try.prog 36 #[.int .i64 a0, .slice A1 l1.length c1] w fun e w' => e = .returned (.tuple #[.int .i64 r1, .int .i64 r2]) ∧ Below w.heap.size w w' := by
  unfold stamp_Greedy.f at h
  obtain ⟨t, ht, h⟩ := Option.bind_eq_some_iff.mp h
  have HASK := Aside0.mk (stamp_read.calls k a0 A1 c1 l1 t w hr1 hc1 ht)
  have HR := Aside0.mk hr1
  have HC1 := Aside0.mk hc1
  clear hr1 ht hc1
  refine (callsIn_wide (n := 0)).1 ?_
  refine callsIn_of_wp_marks Try.func36 rfl trivial ?_ rfl
  simp only [Try.ntmps36, List.size_toArray, List.length_cons, List.length_nil, Nat.reduceAdd, Nat.reduceSub, Array.replicate_succ, Array.replicate_zero, List.push_toArray, List.append_toArray, List.nil_append, List.cons_append]
  gi_wp2
  refine ⟨trivial, rfl, ?_⟩
  refine (callsIn_wide.2 HASK.out).mono ?_
  rintro e w1 ⟨rfl, hd⟩
  have hb1 : Below w.heap.size w w1 := by obtain ⟨nd, rfl⟩ := hd; exact pw_below_drewN (Below.refl _ _) _
  clear hd
  by_cases c1 : t = 0
  · rw [if_pos c1] at h
    subst c1
    obtain ⟨fw, hfw, h⟩ := Option.bind_eq_some_iff.mp h
    split at h
    · rename_i hin
      have HFW := Aside0.mk (stamp_fewest.calls k a0 A1 c1 l1 fw w1 (Kd.C_below HR.out hb1) HC1.out hfw)
      clear hfw
      have HH := Aside0.mk (Option.some.inj h)
      clear h
      obtain ⟨ad, e0, _⟩ := Kd.at_int HR.out 0 (by omega) (by have := hin.1.1; omega)
      cases e0
      have HIN := Aside0.mk hin
      have HB1 := Aside0.mk hb1
      clear hin hb1
      gi_wp2
      refine ⟨trivial, rfl, ?_⟩
      refine (callsIn_wide.2 HFW.out).mono ?_
      rintro e w2 ⟨vf, rfl, hRf, hbf⟩
      obtain ⟨Af, cf, rfl, hlf, hCf⟩ := Kd.R_reads hRf
      have hb2 : Below w.heap.size w w2 := HB1.out.trans (hbf.mono HB1.out.size)
      have HB2 := Aside0.mk (And.intro hb2 hCf)
      clear hRf hbf hlf hCf hb2
      gi_wp2
      refine loop_k (fun n a U => ∃ (i : Nat) (ms : List Nat) (u7 u8 u9 u10 u11 u12 u24 u25 u26 u27 u28 u29 u30 u31 u32 u33 u34 u35 u36 u37 u38 u39 u40 u41 u42 u43 u44 u45 u46 u47 u48 u49 u50 u51 : Value), i ≤ fw.length ∧ n = fw.length - i ∧ GrJ w2 ms U ∧ grR (firstN (grP a0 l1 fw) i (fw.length - i)) = (r1, r2) ∧
        a = { tmps := #[.int .i64 a0, .slice (some ad) l1.length c1, undef, undef, .int .i64 0, .int .i64 0, .int .i64 0, u7, u8, u9, u10, u11, u12, .int .i64 a0, .slice (some ad) l1.length c1, .int .i64 0, .int .i64 0, .bool false, undef, .int .i64 a0, .slice (some ad) l1.length c1, .slice Af fw.length cf, .int .i64 (fw.length : Int), .int .i64 (i : Int), u24, u25, u26, u27, u28, u29, u30, u31, u32, u33, u34, u35, u36, u37, u38, u39, u40, u41, u42, u43, u44, u45, u46, u47, u48, u49, u50, u51], defers := ms.map markD }) fw.length ⟨0, [], undef, undef, undef, undef, undef, undef, undef, undef, undef, undef, undef, undef, undef, undef, undef, undef, undef, undef, undef, undef, undef, undef, undef, undef, undef, undef, undef, undef, undef, undef, undef, undef, undef, undef, by omega, by omega, ⟨Below.refl _ _, List.nodup_nil, fun m hm => by cases hm⟩, HH.out, rfl⟩ ?_
      rintro n a U ⟨i, ms, u7, u8, u9, u10, u11, u12, u24, u25, u26, u27, u28, u29, u30, u31, u32, u33, u34, u35, u36, u37, u38, u39, u40, u41, u42, u43, u44, u45, u46, u47, u48, u49, u50, u51, hi, hn, hJ, hres, rfl⟩ K hK
      have HJ := Aside0.mk (And.intro hi (And.intro hn (And.intro hJ hres)))
      have HKK := Aside0.mk hK
      clear hi hn hJ hres hK
      by_cases c2 : i < fw.length
      · have k1 : ((i : Int) < (fw.length : Int)) = True := eq_true (by omega)
        have k2 : decide ((i : Int) < (fw.length : Int)) = true := decide_eq_true (by omega)
        obtain ⟨af, ef, hxf⟩ := Kd.at_int HB2.out.2 (i : Int) (by omega) (by omega)
        cases ef
        rw [Int.toNat_natCast] at hxf
        have hxU := (HJ.out.2.2.1.low.cell (World.block_lt_of_cell? w2 _ hxf)).trans hxf
        clear hxf
        obtain ⟨x, hx⟩ : ∃ x, x = rd fw (i : Int) := ⟨_, rfl⟩
        rw [← hx] at hxU
        have p1 : ((0 : Int) ≤ (i : Int)) = True := eq_true (by omega)
        obtain ⟨nx, hnx⟩ : ∃ nx : Int, nx = ((i + 1 : Nat) : Int) := ⟨_, rfl⟩
        have e1 : wrap64 ((i : Int) + 1) = nx := by have := HIN.out.2.2; rw [hnx]; unfold wrap64; omega
        have HX := Aside0.mk (And.intro hx (And.intro c2 hnx))
        clear hx c2 hnx
        by_cases c3 : x = -1
        · have k3 : (x == -1) = true := beq_iff_eq.mpr c3
          have k4 : (x != -1) = false := bne_eq_false_iff_eq.mpr c3
          have C3 := Aside0.mk c3
          clear c3
          gi_wp2
          obtain ⟨hi, hn, hJ, hres⟩ := HJ.out
          obtain ⟨hx, c2, hnx⟩ := HX.out
          rw [show fw.length - i = (fw.length - (i + 1)) + 1 by omega, firstN, if_neg (fun q => q.1 (by rw [← hx]; exact C3.out))] at hres
          rw [hnx]
          exact HKK.out (fw.length - (i + 1)) _ _ (by omega) ⟨i + 1, ms, _, _, _, _, _, _, _, _, _, _, _, _, _, _, _, _, _, _, _, _, _, _, _, _, _, _, _, _, _, _, _, _, _, _, by omega, rfl, hJ, hres, rfl⟩
        · have k3 : (x == -1) = false := beq_eq_false_iff_ne.mpr c3
          have k4 : (x != -1) = true := bne_iff_ne.mpr c3
          have C3 := Aside0.mk c3
          clear c3
          gi_wp2
          refine ⟨trivial, rfl, ?_⟩
          refine (callsIn_wide.2 (backward_calls (some ad) l1.length c1 _)).mono ?_
          rintro e w3 ⟨rfl, hw3⟩
          obtain ⟨hi, hn, hJ, hres⟩ := HJ.out
          obtain ⟨b, hb⟩ : ∃ b, b = U.heap.size := ⟨_, rfl⟩
          have hs3 : w3.heap.size = b + 3 := by rw [hw3, hb]; simp
          have hbU : Below U.heap.size U w3 := by rw [hw3]; exact below_alloc (below_alloc (below_alloc (Below.refl _ _) _) _) _
          have b0 : w3.heap[b]? = some (.cells #[.int .i64 (i : Int)] 3 (0, 0)) := by rw [hw3, hb]; exact blk_alloc (blk_alloc (blk_new U _) _) _
          have b1 : w3.heap[b + 1]? = some (.cells #[.int .i64 0] 3 (0, 0)) := by
            have := blk_alloc (blk_new (U.alloc (.cells #[.int .i64 (i : Int)] 3)) (.cells #[.int .i64 0] 3)) (.cells #[.slice (some ad) l1.length c1] 22)
            rw [World.size_alloc] at this
            rw [hw3, hb]; exact this
          have b2 : w3.heap[b + 2]? = some (.cells #[.slice (some ad) l1.length c1] 22 (0, 0)) := by
            have := blk_new ((U.alloc (.cells #[.int .i64 (i : Int)] 3)).alloc (.cells #[.int .i64 0] 3)) (.cells #[.slice (some ad) l1.length c1] 22)
            simp only [World.size_alloc] at this
            rw [hw3, hb]; exact this
          have esz : ((U.alloc (Obj.cells #[Value.int IntKind.i64 (i : Int)] 3)).alloc (Obj.cells #[Value.int IntKind.i64 0] 3)).heap.size = b + 2 := by rw [hb]; simp
          rw [esz, ← hb]
          have hub := hJ.low.size
          have hU3 : Below w2.heap.size w2 w3 := hJ.low.trans (hbU.mono hub)
          have hw02 := HB2.out.1.size
          have h03 : Below w.heap.size w w3 := HB2.out.1.trans (hU3.mono hw02)
          have hI0 : GrI w2 b (grF [] (i : Int)) (.slice (some ad) l1.length c1) ms w3 := ⟨b0, b1, b2, hU3, fun m hm => ⟨(hbU.block m (blk_lt' (hJ.marks m hm).1)).trans (hJ.marks m hm).1, (hJ.marks m hm).2, by rw [hb]; exact blk_lt' (hJ.marks m hm).1⟩⟩
          have HB3 := Aside0.mk (And.intro hs3 (And.intro h03 (And.intro b2 (And.intro hI0 (And.intro hub (And.intro hw02 hb))))))
          clear hw3 hs3 hbU b0 b1 b2 esz hub hU3 hw02 h03 hI0 hJ hres hi hn hb
          gi_wp2
          obtain ⟨hs3, h03, b2, hI0, hub, hw02, hb⟩ := HB3.out
          have hbig := HIN.out
          refine wp_rangeSeqB (gf := 62) (lb := #[.pointer (some ⟨b + 2, 0, none⟩)]) rfl (enters_of Try.func62 (by kernel_rfl) rfl)
            (backward_seq w w3 (some ad) c1 l1 (b + 2) HR.out HC1.out (by have := hbig.1; omega) h03 b2) (fun _ _ _ _ h => h.elim) (fun _ _ _ _ _ h => h.elim)
            (fun h k => ⟨h.1.trans k.1, k.2.trans h.2⟩) (fun W k o' hk hlt => ⟨below_putObj W o' (by omega), World.putObj_heap_other (by omega)⟩)
            (fun x u W h => by rw [h]; rfl) (fun x u W o' h _ => h)
            (fun pre V => GrI w2 b (grF pre (i : Int)) (.slice (some ad) l1.length c1) ms V) (fun _ _ _ _ => False)
            (fun _ _ _ _ _ _ h => h.elim) (fun _ _ _ _ _ _ h => h.elim)
            (fun pre A k o o' hI hk hc hw => ⟨boxed_putObj o' hI.left hk hc, boxed_putObj o' hI.used hk hc, boxed_putObj o' hI.box hk hc, hI.low.trans (below_putObj A o' (by omega)), fun m hm => ⟨(World.putObj_heap_other (by have := (hI.marks m hm).2.2; omega)).trans (hI.marks m hm).1, (hI.marks m hm).2⟩⟩)
            (fun _ _ _ _ _ _ _ h => h.elim)
            (fun A o hI => ⟨blk_alloc hI.left _, blk_alloc hI.used _, blk_alloc hI.box _, below_alloc hI.low _, fun m hm => ⟨blk_alloc (hI.marks m hm).1 _, (hI.marks m hm).2⟩⟩) hI0
            (fun u => { tmps := #[.int .i64 a0, .slice (some ad) l1.length c1, undef, undef, .int .i64 0, .int .i64 0, .int .i64 0, .int .i64 (i : Int), .int .i64 x, .pointer (some ⟨b, 0, none⟩), .pointer (some ⟨b + 1, 0, none⟩), u11, u.getD 1 undef, .int .i64 a0, .slice (some ad) l1.length c1, .int .i64 0, .int .i64 0, .bool false, undef, .int .i64 a0, .slice (some ad) l1.length c1, .slice (some af) fw.length cf, .int .i64 (fw.length : Int), .int .i64 (i : Int), .bool true, .int .i64 (i : Int), .pointer (some (af.add i)), .int .i64 x, .int .i64 x, .bool false, .int .i64 (i : Int), .slice (some ad) l1.length c1, .func (.func 62) #[] #[.pointer (some ⟨b + 2, 0, none⟩)], u.getD 0 undef, u.getD 1 undef, u35, u36, u37, u38, u39, u40, u41, u42, u43, u44, u45, u46, u47, u48, u49, u50, u51], defers := [] }) ?assign ?body ?done ?stop
          case assign =>
            rintro l y u V K' rfl hK'
            clear hs3 h03 b2 hI0 hub hw02 hb hbig
            gi_wp2
            exact hK'
          case body =>
            rintro l pre y rest u V hpr hI rfl hsz
            have hmem : ∀ p ∈ bw l1, 1 ≤ p.2 ∧ p.2 ≤ 1000 := fun p hp => by
              obtain ⟨j, hj, rfl⟩ := bw_mem hp
              exact hbig.2.1 _ (List.mem_of_getElem? (getElem_rd l1 j hj))
            have hv1 := hmem y (by rw [hpr]; simp)
            have hpl : pre.length ≤ 100 := by
              have h1 := congrArg List.length hpr
              rw [bw_len, List.length_append] at h1
              have := hbig.1
              omega
            obtain ⟨g1, g2, g3, g4⟩ := grF_range (a := (i : Int)) (by have := hbig.2.2; have := HX.out.2.1; omega) pre.length pre rfl (fun p hp => (hmem p (by rw [hpr]; simp [hp])).1)
            have hib : (i : Int) ≤ 100000 := by have := hbig.2.2; have := HX.out.2.1; omega
            have hst : grF (pre ++ [y]) (i : Int) = ((grF pre (i : Int)).1 + (grF pre (i : Int)).2 / y.2, (grF pre (i : Int)).2 % y.2) := by unfold grF; rw [List.foldl_append]; rfl
            obtain ⟨hl0, hu0, hbx, hlow, hmk⟩ := hI
            obtain ⟨us, hus⟩ : ∃ us, us = (grF pre (i : Int)).1 := ⟨_, rfl⟩
            obtain ⟨lf, hlf⟩ : ∃ lf, lf = (grF pre (i : Int)).2 := ⟨_, rfl⟩
            obtain ⟨idx, v⟩ := y
            simp only at hv1 hst
            rw [← hus] at hu0 g3 g4 hst
            rw [← hlf] at hl0 g1 g2 hst
            have d1 : 0 ≤ lf / v := Int.ediv_nonneg g1 (by omega)
            have d2 : lf / v ≤ lf := Int.ediv_le_self _ g1
            obtain ⟨qd, hqd⟩ : ∃ qd, qd = lf / v := ⟨_, rfl⟩
            obtain ⟨rm, hrm⟩ : ∃ rm, rm = lf % v := ⟨_, rfl⟩
            obtain ⟨un, hun⟩ : ∃ un, un = us + qd := ⟨_, rfl⟩
            rw [← hqd] at d1 d2 hst
            rw [← hrm, ← hun] at hst
            have t1 : Int.tdiv lf v = qd := by rw [Int.tdiv_eq_ediv_of_nonneg g1, hqd]
            have t2 : Int.tmod lf v = rm := by rw [Int.tmod_eq_emod_of_nonneg g1, hrm]
            have t3 : IntKind.i64.wrap qd = qd := by rw [IntKind.wrap_i64]; omega
            have t4 : IntKind.i64.wrap (us + qd) = un := by rw [hun, IntKind.wrap_i64]; omega
            have t5 : (v == 0) = false := beq_eq_false_iff_ne.mpr (by omega)
            have t6 : ¬ v = 0 := by omega
            have c0 := cell_box hl0
            have c1' := cell_box hu0
            have f0 := blk_frozen hl0 0
            have f1 := blk_frozen hu0 0
            have c0' : ∀ z, (V.setCell ⟨b + 1, 0, none⟩ z).cell? ⟨b, 0, none⟩ = some (.int .i64 lf) := fun z => cell_box (blk_far hl0 (by show b ≠ b + 1; omega) _)
            have HU := Aside0.mk (And.intro hl0 (And.intro hu0 (And.intro hbx (And.intro hlow (And.intro hmk (And.intro hst (And.intro hun (And.intro hqd hrm))))))))
            clear hs3 h03 b2 hI0 hub hw02 hb hbig hl0 hu0 hbx hlow hmk hst hmem hpr hpl hus hlf hqd hrm hun hv1 g1 g2 g3 g4 hib hsz d1 d2
            have FIN : KeepsFrom w3.heap.size V ((V.setCell ⟨b + 1, 0, none⟩ (.int .i64 un)).setCell ⟨b, 0, none⟩ (.int .i64 rm)).drew ∧ KpB w (b + 2) V ((V.setCell ⟨b + 1, 0, none⟩ (.int .i64 un)).setCell ⟨b, 0, none⟩ (.int .i64 rm)).drew ∧
                GrI w2 b (grF (pre ++ [(idx, v)]) (i : Int)) (.slice (some ad) l1.length c1) ms ((V.setCell ⟨b + 1, 0, none⟩ (.int .i64 un)).setCell ⟨b, 0, none⟩ (.int .i64 rm)).drew := by
              obtain ⟨hl0, hu0, hbx, hlow, hmk, hst, _⟩ := HU.out
              obtain ⟨hs3, h03, b2, hI0, hub, hw02, hb⟩ := HB3.out
              have q : ∀ (k : Nat), k ≠ b → k ≠ b + 1 → ((V.setCell ⟨b + 1, 0, none⟩ (.int .i64 un)).setCell ⟨b, 0, none⟩ (.int .i64 rm)).drew.heap[k]? = V.heap[k]? := fun k h0 h1 =>
                (Below.heap_setCell _ _ _ _ (by show k ≠ b; exact h0)).trans (Below.heap_setCell _ _ _ _ (by show k ≠ b + 1; exact h1))
              refine ⟨(((KeepsOthers.setCell _ _ _).trans (KeepsOthers.setCell _ _ _)).trans (KeepsOthers.drew _)).from _, ⟨below_drew1 (((Below.refl _ V).setCell (by show w.heap.size ≤ b + 1; omega) _).setCell (by show w.heap.size ≤ b; omega) _), q _ (by omega) (by omega)⟩, ?_⟩
              rw [hst]
              exact ⟨blk_put (blk_far hl0 (by show b ≠ b + 1; omega) _) 0 _ rfl, blk_far (blk_put hu0 0 _ rfl) (by show b + 1 ≠ b; omega) _, (q _ (by omega) (by omega)).trans hbx,
                hlow.trans (below_drew1 (((Below.refl _ V).setCell (by show w2.heap.size ≤ b + 1; omega) _).setCell (by show w2.heap.size ≤ b; omega) _)),
                fun m hm => ⟨(q m (by have := (hmk m hm).2.2; omega) (by have := (hmk m hm).2.2; omega)).trans (hmk m hm).1, (hmk m hm).2⟩⟩
            have FIN := Aside0.mk FIN
            gi_wp2
            gi_region
            all_goals gi_wp2
            all_goals exact FIN.out
          case done =>
            intro V hI hK
            obtain ⟨us, hus⟩ : ∃ us, us = (grF (bw l1) (i : Int)).1 := ⟨_, rfl⟩
            obtain ⟨lf, hlf⟩ : ∃ lf, lf = (grF (bw l1) (i : Int)).2 := ⟨_, rfl⟩
            have c0 := cell_box hI.left
            have c1' := cell_box hI.used
            rw [← hlf] at c0
            rw [← hus] at c1'
            have hD : V.heap[w3.heap.size]? = some (.deferred (some [])) := hK
            have HV := Aside0.mk (And.intro hI (And.intro hD (And.intro hlf hus)))
            clear hs3 h03 b2 hI0 hub hw02 hb hbig hI hK hD hlf hus
            by_cases c5 : 0 < lf
            · have k5 : decide (0 < lf) = true := decide_eq_true c5
              have C5 := Aside0.mk c5
              clear c5
              gi_wp2
              obtain ⟨hi, hn, hJ, hres⟩ := HJ.out
              obtain ⟨hx, c2, hnx⟩ := HX.out
              obtain ⟨hI, hD, hlf, hus⟩ := HV.out
              obtain ⟨hs3, h03, b2, hI0, hub, hw02, hb⟩ := HB3.out
              have hG : grP a0 l1 fw i := ⟨by rw [← hx]; exact C3.out, by rw [← hlf, ← hus]; exact .inl C5.out⟩
              rw [show fw.length - i = (fw.length - (i + 1)) + 1 by omega, firstN, if_pos hG] at hres
              simp only [grR, Prod.mk.injEq] at hres
              obtain ⟨rfl, rfl⟩ := hres
              refine leaves_marks w2.heap.size (w3.heap.size :: ms) V (List.nodup_cons.mpr ⟨fun hm => by have := (hI.marks _ hm).2.2; omega, hJ.nd⟩) (fun m hm => ?_) (fun U' hU => ⟨_, results_tmp2 rfl _ _ _, rfl, HB2.out.1.trans ((hI.low.trans hU).mono hw02)⟩)
              rcases List.mem_cons.mp hm with rfl | hm
              · exact ⟨hD, by omega⟩
              · exact ⟨(hI.marks m hm).1, (hI.marks m hm).2.1⟩
            · have k5 : decide (0 < lf) = false := decide_eq_false c5
              have C5 := Aside0.mk c5
              clear c5
              by_cases c6 : a0 < us
              · have k6 : decide (a0 < us) = true := decide_eq_true c6
                have C6 := Aside0.mk c6
                clear c6
                gi_wp2
                obtain ⟨hi, hn, hJ, hres⟩ := HJ.out
                obtain ⟨hx, c2, hnx⟩ := HX.out
                obtain ⟨hI, hD, hlf, hus⟩ := HV.out
                obtain ⟨hs3, h03, b2, hI0, hub, hw02, hb⟩ := HB3.out
                have hG : grP a0 l1 fw i := ⟨by rw [← hx]; exact C3.out, by rw [← hlf, ← hus]; exact .inr C6.out⟩
                rw [show fw.length - i = (fw.length - (i + 1)) + 1 by omega, firstN, if_pos hG] at hres
                simp only [grR, Prod.mk.injEq] at hres
                obtain ⟨rfl, rfl⟩ := hres
                refine leaves_marks w2.heap.size (w3.heap.size :: ms) V (List.nodup_cons.mpr ⟨fun hm => by have := (hI.marks _ hm).2.2; omega, hJ.nd⟩) (fun m hm => ?_) (fun U' hU => ⟨_, results_tmp2 rfl _ _ _, rfl, HB2.out.1.trans ((hI.low.trans hU).mono hw02)⟩)
                rcases List.mem_cons.mp hm with rfl | hm
                · exact ⟨hD, by omega⟩
                · exact ⟨(hI.marks m hm).1, (hI.marks m hm).2.1⟩
              · have k6 : decide (a0 < us) = false := decide_eq_false c6
                have C6 := Aside0.mk c6
                clear c6
                gi_wp2
                obtain ⟨hi, hn, hJ, hres⟩ := HJ.out
                obtain ⟨hx, c2, hnx⟩ := HX.out
                obtain ⟨hI, hD, hlf, hus⟩ := HV.out
                obtain ⟨hs3, h03, b2, hI0, hub, hw02, hb⟩ := HB3.out
                have hG : ¬ grP a0 l1 fw i := fun q => by
                  rcases q.2 with q | q
                  · rw [← hlf] at q; have := C5.out; omega
                  · rw [← hus] at q; have := C6.out; omega
                rw [show fw.length - i = (fw.length - (i + 1)) + 1 by omega, firstN, if_neg hG] at hres
                rw [hnx]
                refine HKK.out (fw.length - (i + 1)) _ _ (by omega) ⟨i + 1, w3.heap.size :: ms, _, _, _, _, _, _, _, _, _, _, _, _, _, _, _, _, _, _, _, _, _, _, _, _, _, _, _, _, _, _, _, _, _, _, by omega, rfl, ⟨hI.low, List.nodup_cons.mpr ⟨fun hm => by have := (hI.marks _ hm).2.2; omega, hJ.nd⟩, fun m hm => ?_⟩, hres, rfl⟩
                rcases List.mem_cons.mp hm with rfl | hm
                · exact ⟨hD, by omega⟩
                · exact ⟨(hI.marks m hm).1, (hI.marks m hm).2.1⟩
          case stop =>
            intro c m' pre V h
            exact h.elim
      · have k1 : ((i : Int) < (fw.length : Int)) = False := eq_false (by omega)
        have k2 : decide ((i : Int) < (fw.length : Int)) = false := decide_eq_false (by omega)
        have HC2 := Aside0.mk c2
        clear c2
        gi_wp2
        obtain ⟨hi, hn, hJ, hres⟩ := HJ.out
        rw [show fw.length - i = 0 by have := HC2.out; omega] at hres
        simp only [firstN, grR, Prod.mk.injEq] at hres
        obtain ⟨rfl, rfl⟩ := hres
        exact leaves_marks w2.heap.size ms U hJ.nd hJ.marks (fun U' hU => ⟨_, results_tmp2 rfl _ _ _, rfl, HB2.out.1.trans ((hJ.low.trans hU).mono HB2.out.1.size)⟩)
    · cases h
  · rw [if_neg c1] at h
    simp only [Option.some.injEq, Prod.mk.injEq] at h
    obtain ⟨rfl, rfl⟩ := h
    have c1b : (t == 0) = false := beq_eq_false_iff_ne.mpr c1
    have c1c : (t != 0) = true := bne_iff_ne.mpr c1
    have HB1 := Aside0.mk hb1
    clear c1 hb1
    gi_wp2
    exact ⟨_, results_tmp2 rfl _ _ _, rfl, HB1.out⟩
end Go.Proofs.Ythbalcbibmdpnaa.OAll
