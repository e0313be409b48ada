/- A part of the proof of 'stampPaid_holds', for every input, without a condition. -/
import Derived.Test.YthbalcbibmdpnaaSPdRi
import Derived.Test.YthbalcbibmdpnaaSPdOAllx1
namespace Go.Proofs.Ythbalcbibmdpnaa.OAll
open Go.RowKit Go.Shelf Go.Proofs.YthbalcbibmdpnaaW.PrintWords Go.Proofs.YthbalcbibmdpnaaW.PrintLast Go.Proofs.YthbalcbibmdpnaaW.PrintMore Go.Proofs.Ythbalcbibmdpnaa.Rg
attribute [local go_sem] Oper.semAt_some
set_option linter.unusedVariables false
set_option linter.unusedSimpArgs false
def mirF (z : Int) (p : Int × Int) : Int := wrap64 (z - p.2)
def mirW (l0 : List Int) : List Int := (bw (l0.take (l0.length - 1))).map (mirF (rd l0 ((l0.length - 1 : Nat) : Int))) ++ [rd l0 ((l0.length - 1 : Nat) : Int)]
def stamp_Mirrored.f (k : Nat) (l0 : List Int) : Option (List Int × Int) := (stamp_valued.f k l0).bind fun t => if t = 0 then (if 0 < l0.length ∧ l0.length ≤ 6 then some (mirW l0, 0) else none) else some ([], t)
theorem stamp_Mirrored.mono : ∀ a0 k, LeO (stamp_Mirrored.f k a0) (stamp_Mirrored.f (k + 1) a0) := by
  intro a0 k
  unfold stamp_Mirrored.f
  refine LeO.bind (stamp_valued.mono _ _) (fun _ => ?_)
  exact LeO.refl _
structure MirI (w : World) (bo bl bs : Nat) (z : Int) (A : Option Addr) (n c : Nat) (pre : List (Int × Int)) (W : World) : Prop where
  out : ∃ v, W.heap[bo]? = some (.cells #[v] 22 (0, 0)) ∧ Kd.R (Kd.int .i64) 3 W w.heap.size (fun k => k ≠ bo ∧ k ≠ bl ∧ k ≠ bs) v (pre.map (mirF z))
  last : W.heap[bl]? = some (.cells #[.int .i64 z] 3 (0, 0))
  box : W.heap[bs]? = some (.cells #[.slice A n c] 22 (0, 0))
  low : Below w.heap.size w W
theorem MirI.putObj {w : World} {bo bl bs : Nat} {z : Int} {A : Option Addr} {n c : Nat} {pre : List (Int × Int)} {W : World} (h : MirI w bo bl bs z A n c pre W) {k : Nat} {o : Obj} (o' : Obj) (hk : W.heap[k]? = some o) (hc : o.isCells = false) (hw : w.heap.size ≤ k) : MirI w bo bl bs z A n c pre (W.putObj k o') := by
  obtain ⟨v, h1, h2⟩ := h.out
  exact ⟨⟨v, boxed_putObj o' h1 hk hc, R_putObj h2 o' hk hc⟩, boxed_putObj o' h.last hk hc, boxed_putObj o' h.box hk hc, h.low.trans (below_putObj W o' hw)⟩
theorem MirI.alloc {w : World} {bo bl bs : Nat} {z : Int} {A : Option Addr} {n c : Nat} {pre : List (Int × Int)} {W : World} (h : MirI w bo bl bs z A n c pre W) (o : Obj) : MirI w bo bl bs z A n c pre (W.alloc o) := by
  obtain ⟨v, h1, h2⟩ := h.out
  exact ⟨⟨v, blk_alloc h1 _, Kd.R_alloc h2 _⟩, blk_alloc h.last _, blk_alloc h.box _, below_alloc h.low _⟩
set_option maxRecDepth 100000 in
set_option maxHeartbeats 4000000 in
theorem stamp_Mirrored.calls (k : Nat) (A0 : Option Addr) (c0 : Nat) (l0 : List Int) (r1 : List Int) (r2 : Int) (w : World) (hr0 : Kd.C (Kd.int .i64) w A0 l0.length l0) (hc0 : l0.length ≤ c0) (h : stamp_Mirrored.f k l0 = some (r1, r2)) :
    Calls Try.prog 22 #[.slice A0 l0.length c0] w fun e w' => ∃ v0_ : Value, e = .returned (.tuple #[v0_, .int .i64 r2]) ∧ Kd.R (Kd.int .i64) 3 w' w.heap.size (fun _ => True) v0_ r1 ∧ Below w.heap.size w w' := by
  unfold stamp_Mirrored.f at h
  obtain ⟨t, ht, h⟩ := Option.bind_eq_some_iff.mp h
  have HV := Aside0.mk (stamp_valued.calls k A0 c0 l0 t w hr0 hc0 ht)
  have HR := Aside0.mk hr0
  clear hr0 ht
  refine (callsIn_wide (n := 0)).1 ?_
  refine callsIn_of_wp_marks Try.func22 rfl trivial ?_ rfl
  simp only [Try.ntmps22, List.size_toArray, List.length_cons, List.length_nil, Nat.reduceAdd, Nat.reduceSub, Array.replicate_succ, Array.replicate_zero, List.push_toArray, List.append_toArray, List.nil_append, List.cons_append]
  by_cases c1 : t = 0
  · rw [if_pos c1] at h
    split at h
    · rename_i hl
      simp only [Option.some.injEq, Prod.mk.injEq] at h
      obtain ⟨rfl, rfl⟩ := h
      subst c1
      have ew : wrap64 ((l0.length : Int) - 1) = ((l0.length - 1 : Nat) : Int) := by unfold wrap64; omega
      obtain ⟨ad, e0, hx⟩ := Kd.at_int HR.out ((l0.length - 1 : Nat) : Int) (by omega) (by omega)
      cases e0
      rw [Int.toNat_natCast] at hx
      have p1 : ((0 : Int) ≤ ((l0.length - 1 : Nat) : Int)) = True := eq_true (by omega)
      have p2 : (((l0.length - 1 : Nat) : Int) < (l0.length : Int)) = True := eq_true (by omega)
      gi_wp2_with (first | ((try refine ⟨trivial, rfl, ?_⟩); gi_at_call 49; refine (callsIn_wide.2 HV.out).mono ?_; rintro e w1 ⟨rfl, hd⟩; have hx1 : w1.cell? (ad.add (l0.length - 1)) = some (.int .i64 (rd l0 ((l0.length - 1 : Nat) : Int))) := (by obtain ⟨nd, rfl⟩ := hd; exact hx); have hb1 : Below w.heap.size w w1 := (by obtain ⟨nd, rfl⟩ := hd; exact pw_below_drewN (Below.refl _ _) _); clear hd))
      refine ⟨trivial, rfl, ?_⟩
      refine (callsIn_wide.2 (backward_calls (some ad) (l0.length - 1) c0 _)).mono ?_
      rintro e w2 ⟨rfl, hw2⟩
      have hs2 : w2.heap.size = w1.heap.size + 3 := by rw [hw2]; simp
      have hb2 : Below w.heap.size w w2 := by rw [hw2]; exact below_alloc (below_alloc (below_alloc hb1 _) _) _
      have hl2 : w2.heap[w1.heap.size]? = some (.cells #[.int .i64 (rd l0 ((l0.length - 1 : Nat) : Int))] 3 (0, 0)) := by rw [hw2]; exact blk_alloc (blk_alloc (blk_new w1 _) _) _
      have ho2 : w2.heap[w1.heap.size + 1]? = some (.cells #[.slice none 0 0] 22 (0, 0)) := by
        have := blk_alloc (blk_new (w1.alloc (.cells #[.int .i64 (rd l0 ((l0.length - 1 : Nat) : Int))] 3)) (.cells #[.slice none 0 0] 22)) (.cells #[.slice (some ad) (l0.length - 1) c0] 22)
        rw [World.size_alloc] at this
        rw [hw2]; exact this
      have hx2 : w2.heap[w1.heap.size + 2]? = some (.cells #[.slice (some ad) (l0.length - 1) c0] 22 (0, 0)) := by
        have := blk_new ((w1.alloc (.cells #[.int .i64 (rd l0 ((l0.length - 1 : Nat) : Int))] 3)).alloc (.cells #[.slice none 0 0] 22)) (.cells #[.slice (some ad) (l0.length - 1) c0] 22)
        simp only [World.size_alloc] at this
        rw [hw2]; exact this
      have hsb1 := hb1.size
      have esz : ((w1.alloc (Obj.cells #[Value.int IntKind.i64 (rd l0 ((l0.length - 1 : Nat) : Int))] 3)).alloc (Obj.cells #[Value.slice none 0 0] 22)).heap.size = w1.heap.size + 2 := by simp
      rw [esz]
      clear hw2 esz
      obtain ⟨zs, hzs⟩ : ∃ zs, zs = l0.take (l0.length - 1) := ⟨_, rfl⟩
      have hzl : zs.length = l0.length - 1 := by rw [hzs]; simp
      have hCz : Kd.C (Kd.int .i64) w (some ad) zs.length zs := by rw [hzs]; exact Kd.C_take HR.out (by omega)
      gi_wp2
      refine wp_rangeSeqB (gf := 62) (lb := #[.pointer (some ⟨w1.heap.size + 2, 0, none⟩)]) rfl (enters_of Try.func62 (by kernel_rfl) rfl)
        (backward_seq w w2 (some ad) c0 zs (w1.heap.size + 2) hCz (by omega) (by omega) hb2 (by rw [hzl]; exact hx2)) (fun _ _ _ _ h => h.elim) (fun _ _ _ _ _ h => h.elim)
        (fun h k => ⟨h.1.trans k.1, k.2.trans h.2⟩) (fun W k o' hk hlt => ⟨below_putObj W o' (by omega), World.putObj_heap_other (by omega)⟩)
        (fun x u W h => by rw [h]; rfl) (fun x u W o' h _ => h)
        (MirI w (w1.heap.size + 1) w1.heap.size (w1.heap.size + 2) (rd l0 ((l0.length - 1 : Nat) : Int)) (some ad) (l0.length - 1) c0) (fun _ _ _ _ => False)
        (fun _ _ _ _ _ _ h => h.elim) (fun _ _ _ _ _ _ h => h.elim) (fun pre A k o o' hI hk hc hw => hI.putObj o' hk hc (by omega)) (fun _ _ _ _ _ _ _ h => h.elim) (fun A o hI => hI.alloc o)
        ⟨⟨_, ho2, Kd.R_nil _ _ _ _ _⟩, hl2, hx2, hb2⟩
        (fun u => { tmps := #[.slice (some ad) l0.length c0, undef, .slice none 0 0, .int .i64 0, .int .i64 0, .pointer (some ⟨w1.heap.size, 0, none⟩), .pointer (some ⟨w1.heap.size + 1, 0, none⟩), undef, (u.getD 1 undef), .slice (some ad) l0.length c0, .int .i64 0, .int .i64 0, .bool false, undef, .slice (some ad) l0.length c0, .slice (some ad) l0.length c0, .int .i64 (l0.length : Int), .int .i64 ((l0.length : Int) - 1), .pointer (some (ad.add (l0.length - 1))), .int .i64 (rd l0 ((l0.length - 1 : Nat) : Int)), .slice (some ad) l0.length c0, .slice (some ad) l0.length c0, .int .i64 (l0.length : Int), .int .i64 ((l0.length : Int) - 1), .slice (some ad) (l0.length - 1) c0, .func (.func 62) #[] #[.pointer (some ⟨w1.heap.size + 2, 0, none⟩)], (u.getD 0 undef), (u.getD 1 undef), undef, undef, undef, undef, undef, undef, undef, undef, undef, undef], defers := [] }) ?assign ?body ?done ?stop
      case assign =>
        rintro l x u W K rfl hK
        gi_wp2
        exact hK
      case body =>
        rintro l pre x rest u W hpr hI rfl hsz
        obtain ⟨⟨v, ho, hR⟩, hlast, hbox, hlow⟩ := hI
        have hpl : pre.length ≤ 6 := by
          have h1 := congrArg List.length hpr
          rw [bw_len, List.length_append] at h1
          omega
        have hco : W.cell? ⟨w1.heap.size + 1, 0, none⟩ = some v := (blk_cell ho 0).trans rfl
        have hcl : W.cell? ⟨w1.heap.size, 0, none⟩ = some (.int .i64 (rd l0 ((l0.length - 1 : Nat) : Int))) := (blk_cell hlast 0).trans rfl
        gi_wp2_with (gi_at_builtin; refine R_appendIn rfl (.tmp 28) (.tmp 32) 22 rfl Try.underlying22 info3 w.heap.size v (pre.map (mirF (rd l0 ((l0.length - 1 : Nat) : Int)))) _ (fun k => k ≠ w1.heap.size + 1 ∧ k ≠ w1.heap.size ∧ k ≠ w1.heap.size + 2) rfl rfl hR (by have := hlow.size; omega) (by simp; omega) (fun k hk => by omega) ?_; intro v1 w3 hR1 hg1 hat1; obtain ⟨A1, c1, rfl⟩ := Kd.R_slice hR1; have ho1 := blk_grown ho hg1 (Kd.R_away hR (fun k hk => hk.1)); have hc1 : w3.cell? ⟨w1.heap.size + 1, 0, none⟩ = some v := (blk_cell ho1 0).trans rfl; have hf1 := blk_frozen ho1 0)
        have hlow3 : Below w.heap.size W w3 := (Below.refl _ W).grown hg1 hlow.size (fun k hk => Kd.R_base hR k hk)
        have hbx := blk_grown hbox hg1 (Kd.R_away hR (fun k hk => hk.2.2))
        have hla := blk_grown hlast hg1 (Kd.R_away hR (fun k hk => hk.2.1))
        refine ⟨((KeepsOthers.of_grownBy hg1 (fun j o hj ho => ?_)).trans (KeepsOthers.setCell w3 _ _)).from _, ⟨hlow3.setCell (by show w.heap.size ≤ w1.heap.size + 1; omega) _, (Below.heap_setCell w3 _ _ _ (by show w1.heap.size + 2 ≠ w1.heap.size + 1; omega)).trans (hbx.trans hbox.symm)⟩, ⟨⟨_, blk_put ho1 0 _ rfl, ?_⟩, blk_far hla (by show w1.heap.size ≠ w1.heap.size + 1; omega) _, blk_far hbx (by show w1.heap.size + 2 ≠ w1.heap.size + 1; omega) _, (hlow.trans hlow3).setCell (by show w.heap.size ≤ w1.heap.size + 1; omega) _⟩⟩
        · obtain ⟨cells, hce⟩ := Kd.R_typed hR j hj
          rw [ho] at hce
          cases hce
          rfl
        · have := Kd.R_far hR1 (p := ⟨w1.heap.size + 1, 0, none⟩) (fun k hk => hk.1) (.slice A1 (pre.length + 1) c1)
          rw [List.map_append]
          simpa [mirF] using this
      case done =>
        intro W hI hK
        obtain ⟨⟨v, ho, hR⟩, hlast, hbox, hlow⟩ := hI
        have hco : W.cell? ⟨w1.heap.size + 1, 0, none⟩ = some v := (blk_cell ho 0).trans rfl
        have hcl : W.cell? ⟨w1.heap.size, 0, none⟩ = some (.int .i64 (rd l0 ((l0.length - 1 : Nat) : Int))) := (blk_cell hlast 0).trans rfl
        gi_wp2_with (gi_at_builtin; refine R_appendIn rfl (.tmp 34) (.tmp 36) 22 rfl Try.underlying22 info3 w.heap.size v ((bw zs).map (mirF (rd l0 ((l0.length - 1 : Nat) : Int)))) _ (fun k => k ≠ w1.heap.size + 1 ∧ k ≠ w1.heap.size ∧ k ≠ w1.heap.size + 2) rfl rfl hR (by have := hlow.size; omega) (by simp [bw_len]; omega) (fun k hk => by have := blk_lt ho; have := blk_lt hbox; have := blk_lt hlast; omega) ?_; intro v1 w3 hR1 hg1 hat1; obtain ⟨A1, c1, rfl⟩ := Kd.R_slice hR1)
        have hK3 : w3.heap[w2.heap.size]? = some (.deferred (some [])) := blk_grown hK hg1 (fun e => by
          obtain ⟨cells, hce⟩ := Kd.R_typed hR _ e.symm
          rw [hK] at hce
          cases hce)
        rw [hs2] at hK3
        refine ⟨by simp, .inl ⟨_, _, rfl, run_takeDeferred hK3, ?_⟩⟩
        have hR4 := R_putObj (Kd.R_mono hR1 (ok' := fun _ => True) (fun _ _ => trivial)) (.deferred none) hK3 rfl
        have hlow3 : Below w.heap.size W w3 := (Below.refl _ W).grown hg1 hlow.size (fun k hk => Kd.R_base hR k hk)
        refine ⟨_, results_tmp2 rfl _ _ _, _, rfl, ?_, (hlow.trans hlow3).trans (below_putObj w3 _ (by omega))⟩
        rw [hzs] at hR4
        simpa [mirW] using hR4
      case stop =>
        intro c m pre W h
        exact h.elim
    · cases h
  · rw [if_neg c1] at h
    simp only [Option.some.injEq, Prod.mk.injEq] at h
    obtain ⟨rfl, rfl⟩ := h
    have c1b : (t == 0) = false := beq_eq_false_iff_ne.mpr c1
    have c1c : (t != 0) = true := bne_iff_ne.mpr c1
    clear c1
    gi_wp2_with (first | ((try refine ⟨trivial, rfl, ?_⟩); gi_at_call 49; refine (callsIn_wide.2 HV.out).mono ?_; rintro e w' ⟨rfl, nd, rfl⟩))
    exact ⟨_, results_tmp2 rfl _ _ _, _, rfl, Kd.R_nil _ _ _ _ _, pw_below_drewN (Below.refl _ _) _⟩
end Go.Proofs.Ythbalcbibmdpnaa.OAll
