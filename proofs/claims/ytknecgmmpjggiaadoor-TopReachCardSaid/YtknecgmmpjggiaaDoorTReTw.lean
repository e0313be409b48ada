/- A part of the proof of 'topReach_holds', for every input, without a condition. -/
import Derived.Test.YtknecgmmpjggiaaDoorTReTv
namespace Go.Proofs.YtknecgmmpjggiaaDoor.OAll
open Go.RowKit Go.Proofs.YtknecgmmpjggiaaDoorW.PrintWords Go.Proofs.YtknecgmmpjggiaaDoorW.PrintLast Go.Proofs.YtknecgmmpjggiaaDoorW.PrintMore
set_option linter.unusedVariables false
set_option linter.unusedSimpArgs false
structure FsS (w0 : World) (T G mg B N : Nat) (w : World) : Prop where
  lo : Below w0.heap.size w0 w
  hT : w0.heap.size ≤ T
  hG : w0.heap.size ≤ G
  hm : w0.heap.size ≤ mg
  bT : w.heap[T]? = some (.cells #[.pointer (some ⟨B, 0, none⟩)] 52 (0, 0))
  bG : w.heap[G]? = some (.cells #[.map (some mg)] 82 (0, 0))
  gone : MB w mg N
theorem MB.ne {w : World} {b N k : Nat} {cs : Array Value} {t : Nat} {z : Nat × Nat} (h : MB w b N) (hk : w.heap[k]? = some (.cells cs t z)) : k ≠ b := by
  obtain ⟨D, es, clock, hb, _⟩ := h
  rintro rfl
  rw [hb] at hk; cases hk
theorem FsS.below {w0 w w1 : World} {T G mg B N : Nat} (h : FsS w0 T G mg B N w) (hb : Below w.heap.size w w1) : FsS w0 T G mg B N w1 :=
  ⟨below_step h.lo hb, h.hT, h.hG, h.hm, blk_below h.bT hb, blk_below h.bG hb, h.gone.below hb⟩
theorem FsS.looser {w0 w : World} {T G mg B N N' : Nat} (h : FsS w0 T G mg B N w) (hn : N ≤ N') : FsS w0 T G mg B N' w := ⟨h.lo, h.hT, h.hG, h.hm, h.bT, h.bG, h.gone.looser hn⟩
theorem FsS.grown {w0 w w1 : World} {T G mg B N r : Nat} (h : FsS w0 T G mg B N w) (hg : w.grownBy w1 (some r)) (hr : w0.heap.size ≤ r) (h1 : T ≠ r) (h2 : G ≠ r) (h3 : mg ≠ r) : FsS w0 T G mg B N w1 :=
  ⟨pw_below_grown h.lo _ h.lo.size hg (fun k hk => by cases hk; exact hr), h.hT, h.hG, h.hm, blk_grown h.bT hg (by simpa using h1), blk_grown h.bG hg (by simpa using h2), h.gone.grown hg (by simpa using h3)⟩
theorem FsS.put {w0 w : World} {T G mg B N : Nat} (h : FsS w0 T G mg B N w) (hN : N < 1000000) (x : Int) (hx : (Lit.int .i64 x).wf = true) : ∃ w1, (Instr.mapUpdate 82 (.map (some mg)) (.int .i64 x) (.bool true)).run Tryd.prog w = .ok () w1 ∧ FsS w0 T G mg B (N + 1) w1 ∧ w.grownBy w1 (some mg) := by
  obtain ⟨w1, hrun, hM, hg⟩ := h.gone.put hN x hx
  exact ⟨w1, hrun, ⟨pw_below_grown h.lo _ h.lo.size hg (fun k hk => by cases hk; exact h.hm), h.hT, h.hG, h.hm, blk_grown h.bT hg (by simpa using h.gone.ne h.bT), blk_grown h.bG hg (by simpa using h.gone.ne h.bG), hM⟩, hg⟩
theorem groups_look {w0 : World} {mb m base : Nat} {D : DataW Unit} (hown : w0.ownsGroups Tryd.prog 3 base 3 .i64 mb m D) (hG : Grp D m) (hm : m ≤ 100) (t : Nat) (ht : t < 100) (W : World) (hW : Below w0.heap.size w0 W) :
    ∃ (A : Option Addr) (cc : Nat) (zs : List Int), (Instr.lookup 76 (.map (some mb)) (.int .i64 (t : Int)) false).run Tryd.prog W = .ok (.slice A zs.length cc) W ∧ Kd.R (Kd.int .i64) 3 W base (fun _ => True) (.slice A zs.length cc) zs ∧ zs.length ≤ m ∧ ∀ z ∈ zs, ∃ j : Nat, j < m ∧ z = (j : Int) := by
  have hk := Maps.keyOf_int_mk Tryd.underlying3 (wf_small (k := (t : Int)) (by omega) (by omega))
  have hownW := hown.kept (row := none) (grown_of_below hW none) (by simp) (fun es clock _ x _ => by cases h : x.val.ownBlock <;> simp)
  obtain ⟨v, zs, hrun, hat, hoi, hzl, _⟩ := hownW.at (Maps.int_keyed Tryd.underlying3) Tryd.underlying76 (Tryd.zeroValue35 W) (by simp only [maxLen]; omega) hk
  have hR : Kd.R (Kd.int .i64) 3 W base (fun _ => True) v zs := Kd.R_of_own (by simpa [encs] using hoi.1) (fun _ _ => trivial)
  obtain ⟨A, cc, rfl⟩ := Kd.R_slice hR
  refine ⟨A, cc, zs, hrun, hR, hzl, fun z hz => ?_⟩
  rcases hoi.datum (H := Unit) with ⟨_, e⟩ | e
  · rw [e] at hz; cases hz
  · rw [e] at hat
    have := hG _ _ hat z hz
    exact ⟨z.toNat, by omega, by omega⟩
theorem R_nocells {w w1 : World} {base r : Nat} {v : Value} {xs : List Int} (h : Kd.R (Kd.int .i64) 3 w base (fun _ => True) v xs) (hg : w.grownBy w1 (some r)) (hr : ∀ cs t, w.heap[r]? ≠ some (.cells cs t (0, 0))) : Kd.R (Kd.int .i64) 3 w1 base (fun _ => True) v xs :=
  Kd.R_mono (Kd.R_grown (Kd.R_bound h) hg (fun k hk e => by
    obtain ⟨_, _, _, q, _, cells, hc⟩ := hk
    cases e
    exact hr _ _ hc)) (fun _ _ => trivial)
theorem MB.nocells {w : World} {b N : Nat} (h : MB w b N) : ∀ cs t, w.heap[b]? ≠ some (.cells cs t (0, 0)) := fun cs t hc => h.ne hc rfl
theorem own_ne_map {w : World} {base b N : Nat} {v : Value} {xs : List Int} (h : Kd.R (Kd.int .i64) 3 w base (fun _ => True) v xs) (hm : MB w b N) : some b ≠ v.ownBlock := fun e => by
  obtain ⟨_, _, _, q, _, cells, hc⟩ := (Kd.R_bound h).1 b e.symm
  exact hm.ne hc rfl
theorem FsS.append {w0 w w1 : World} {T G mg B N base : Nat} {v : Value} {xs : List Int} (h : FsS w0 T G mg B N w) (hL : Kd.R (Kd.int .i64) 3 w base (fun _ => True) v xs) (hg : w.grownBy w1 v.ownBlock) (h0 : w0.heap.size ≤ base) (h1 : T < base) (h2 : G < base) : FsS w0 T G mg B N w1 :=
  ⟨pw_below_grown h.lo _ h.lo.size hg (fun k hk => by have := Kd.R_base hL k hk; omega), h.hT, h.hG, h.hm, blk_grown h.bT hg (fun e => by have := Kd.R_base hL _ e.symm; omega), blk_grown h.bG hg (fun e => by have := Kd.R_base hL _ e.symm; omega), h.gone.grown hg (own_ne_map hL h.gone)⟩
set_option maxRecDepth 100000 in
set_option maxHeartbeats 8000000 in
theorem first_town (B mb base n : Nat) (A : Option Addr) (c : Nat) (ways : List S32) (A1 : Option Addr) (c1 : Nat) (ls : List Int) (D : DataW Unit) (w : World) (hT : Town w B n A c ways) (hcell : w.heap[B]? = some (.cells #[.int .i64 (n : Int), .slice A ways.length c, .map (some mb)] 78 (0, 0))) (hown : w.ownsGroups Tryd.prog 3 base 3 .i64 mb ways.length D) (hG : Grp D ways.length)
    (hC : Kd.C (Kd.int .i64) w A1 ways.length ls) (hc1 : ways.length ≤ c1) (h1 : 1 ≤ n) (hn : n ≤ 7) (ho : OkW n ways) (hz : Zer ls ways.length) (h14 : ways.length ≤ 14) :
    Calls Tryd.prog 19 #[.pointer (some ⟨B, 0, none⟩), .slice A1 ways.length c1] w fun e w' => ∃ (v : Value) (xs : List Int), e = .returned (.tuple #[v, .int .i64 0, .int .i64 (if alF (rchI (fun _ => false) ways n) n n 0 = 0 then 0 else 10)]) ∧ Kd.R (Kd.int .i64) 3 w' w.heap.size (fun _ => True) v xs ∧ Below w.heap.size w w' := by
  have HT := Aside0.mk hT
  have HCELL := Aside0.mk hcell
  have HOWN := Aside0.mk (And.intro hown hG)
  have HC := Aside0.mk hC
  have HC1 := Aside0.mk hc1
  have HN := Aside0.mk (And.intro h1 hn)
  have HO := Aside0.mk ho
  have HZ := Aside0.mk hz
  have H14 := Aside0.mk h14
  have hu78 := Tryd.underlying78
  have hu82 := Tryd.underlying82
  have hu76 := Tryd.underlying76
  have hmf : ∀ (fn : Fn) (first cap : Array Value) (w : World), (Instr.makeFunc fn first cap).run Tryd.prog w = .ok (.func fn first cap) w := fun _ _ _ _ => rfl
  have HB0 : Aside0 (Below w.heap.size w (w.alloc (.cells #[.pointer (some ⟨B, 0, none⟩)] 52))) := ⟨below_alloc (Below.refl _ _) _⟩
  have HT0 := Aside0.mk (blk_new w (.cells #[.pointer (some ⟨B, 0, none⟩)] 52))
  obtain ⟨z, hzz⟩ : ∃ z, z = alF (rchI (fun _ => false) ways n) n n 0 := ⟨_, rfl⟩
  rw [← hzz]
  have HZZ := Aside0.mk hzz
  clear hT hcell hown hG hC hc1 h1 hn ho hz h14 hzz
  by_cases hz0 : z = 0
  · have zb : (z == 0) = true := beq_iff_eq.2 hz0
    rw [if_pos hz0]
    clear hz0
    go_enter Tryd.func19, Tryd.ntmps19
    have hmk : ∀ (t : TypeId) (w : World), (Instr.makeMap t none).run Tryd.prog w = .ok (.map (some w.heap.size)) (w.alloc (.map #[] 0)) := fun _ _ => rfl
    go_wp2_with (go_at_call 32; refine (cheapest_never B n A c ways A1 c1 ls (fun _ => false) _ (HT.out.below HB0.out) (Kd.C_below HC.out HB0.out) HC1.out (fun _ => rfl) HN.out.1 HN.out.2 HO.out HZ.out H14.out).mono ?_; rintro e w1 ⟨rfl, hb1⟩; rw [← HZZ.out, zb]; have hb2 : Below w1.heap.size w1 ((w1.alloc (.map #[] 0)).alloc (.cells #[.map (some w1.heap.size)] 82)) := below_alloc (below_alloc (Below.refl _ _) _) _; have hG2 := blk_new (w1.alloc (.map #[] 0)) (.cells #[.map (some w1.heap.size)] 82); rw [World.size_alloc] at hG2; have HF6 : Aside0 (FsS w w.heap.size (w1.heap.size + 1) w1.heap.size B 0 ((w1.alloc (.map #[] 0)).alloc (.cells #[.map (some w1.heap.size)] 82))) := ⟨⟨below_step (below_step HB0.out hb1) hb2, Nat.le_refl _, by have := (below_step HB0.out hb1).size; omega, (below_step HB0.out hb1).size, blk_below (blk_below HT0.out hb1) hb2, hG2, (MB.made w1).below (below_alloc (Below.refl _ _) _)⟩⟩; have q1 : ((w1.alloc (.map #[] 0)).alloc (.cells #[.map (some w1.heap.size)] 82)).cell? ⟨w.heap.size, 0, none⟩ = some (.pointer (some ⟨B, 0, none⟩)) := (blk_cell HF6.out.bT 0).trans rfl; have q2 := (HT.out.below HF6.out.lo).w1; clear hb1 hb2 hG2)
    clear q1 q2
    have HSZ : Aside0 (w.heap.size ≤ w1.heap.size ∧ w.heap.size < w1.heap.size + 2) := ⟨by have h1 := HF6.out.hm; omega⟩
    obtain ⟨W6, hW6⟩ : ∃ W6, W6 = ((w1.alloc (.map #[] 0)).alloc (.cells #[.map (some w1.heap.size)] 82)) := ⟨_, rfl⟩
    rw [← hW6] at HF6 ⊢
    obtain ⟨T, hTd⟩ : ∃ T, T = w.heap.size := ⟨_, rfl⟩
    obtain ⟨mg, hmg⟩ : ∃ mg, mg = w1.heap.size := ⟨_, rfl⟩
    have HMG := Aside0.mk hmg
    have HTD := Aside0.mk hTd
    go_loopg [11, 38] ways.length (fun kq v11 v38 w' => ∃ (i : Nat) (xs : List Int), v38 = .int .i64 (i : Int) ∧ Aside0 (i + kq = ways.length) ∧ Aside0 (FsS w w.heap.size (w1.heap.size + 1) w1.heap.size B (100 * i) w') ∧ Aside0 (Kd.R (Kd.int .i64) 3 w' (w1.heap.size + 2) (fun _ => True) v11 xs) ∧ Aside0 ((∀ x ∈ xs, ∃ j : Nat, j < ways.length ∧ x = (j : Int)) ∧ xs.length ≤ i))
    case atStart => exact ⟨0, [], rfl, ⟨by omega⟩, HF6, ⟨Kd.R_nil _ _ _ _ _⟩, ⟨⟨fun x hx => (by cases hx), Nat.le_refl _⟩⟩⟩
    case round =>
      clear HF6 hW6 hTd hmg
      obtain ⟨i, xs, rfl, HI, HF, HL, HX⟩ := hrel
      cases gk with
      | zero =>
        have v1 := eq_false (show ¬ i < ways.length by have := HI.out; omega)
        have v1b := eq_false (show ¬ (i : Int) < (ways.length : Int) by have := HI.out; omega)
        go_wp2
        go_ret3
        exact ⟨_, xs, rfl, Kd.R_lower HL.out (by have := HSZ.out; omega), HF.out.lo⟩
      | succ G0 =>
        have hi : i < ways.length := by have := HI.out; omega
        have v1 := eq_true hi
        have v1b := eq_true (show (i : Int) < (ways.length : Int) by omega)
        have p1 := eq_true (show (0 : Int) ≤ (i : Int) by omega)
        have hok := HO.out.2 _ (rd_T32_mem hi)
        obtain ⟨x, hx⟩ : ∃ x, x = rd_T32 ways (i : Int) := ⟨_, rfl⟩
        obtain ⟨ad, e0, x0, x1, x2⟩ := at_T32 (HT.out.below HF.out.lo).C (i : Int) (by omega) (by omega)
        cases e0
        rw [← hx] at x0 x1 x2 hok
        obtain ⟨b, hb⟩ := Int.eq_ofNat_of_zero_le hok.2.2.1
        rw [hb] at x1
        rw [Int.toNat_natCast] at x0 x1 x2
        have HBN : Aside0 (b < 100) := ⟨by have := HN.out; rw [hb] at hok; omega⟩
        have HII := Aside0.mk hi
        have qT : wr.cell? ⟨w.heap.size, 0, none⟩ = some (.pointer (some ⟨B, 0, none⟩)) := (blk_cell HF.out.bT 0).trans rfl
        have qB := (HT.out.below HF.out.lo).w1
        have E1 := Aside0.mk (w64s i (by have := HI.out; have := H14.out; omega))
        have hbK : Below wr.heap.size wr (wr.alloc (.cells #[.int .i64 (b : Int)] 3)) := below_alloc (Below.refl _ _) _
        have HFK := Aside0.mk (HF.out.below hbK)
        have HLK := Aside0.mk (Kd.R_below HL.out hbK)
        have HKK := Aside0.mk (blk_new wr (.cells #[.int .i64 (b : Int)] 3))
        have qG : (wr.alloc (.cells #[.int .i64 (b : Int)] 3)).cell? ⟨w1.heap.size + 1, 0, none⟩ = some (.map (some w1.heap.size)) := (blk_cell HFK.out.bG 0).trans rfl
        have HWF : Aside0 ((Lit.int .i64 (i : Int)).wf = true) := ⟨wf_small (by omega) (by have := H14.out; omega)⟩
        clear hx hb hok hi hbK
        by_cases hb0 : b = 0
        · have b1 : ((b : Int) == 0) = true := beq_iff_eq.2 (by omega)
          have b2 := eq_true (show (b : Int) = 0 by omega)
          obtain ⟨wA, hmu, hFA, hgA⟩ := HFK.out.put (by have := H14.out; have := HI.out; omega) (i : Int) HWF.out
          have HFA := Aside0.mk hFA
          have HLA := Aside0.mk (R_nocells HLK.out hgA HFK.out.gone.nocells)
          have b3 := eq_true hb0
          clear hFA hgA hb0
          go_wp2
          go_roundg G0
          case measure => omega
          case rel => exact ⟨i + 1, xs, by first | rw [E1.out] | rw [Int.natCast_succ], ⟨by have := HI.out; omega⟩, ⟨HFA.out.looser (by omega)⟩, HLA, ⟨HX.out.1, by have := HX.out.2; omega⟩⟩
        · have b1 : ((b : Int) == 0) = false := beq_eq_false_iff_ne.2 (by omega)
          have b2 := eq_false (show ¬ (b : Int) = 0 by omega)
          have b3 := eq_false hb0
          clear hb0
          obtain ⟨AL, cL, rfl⟩ := Kd.R_slice HL.out
          have HCL := Aside0.mk (Kd.R_reads' HLK.out).2.2
          have hK5 : ∀ W5, Below (wr.alloc (.cells #[.int .i64 (b : Int)] 3)).heap.size (wr.alloc (.cells #[.int .i64 (b : Int)] 3)) W5 → ∃ (wA : World) (Az : Option Addr) (cz : Nat) (zs : List Int), W5.cell? ⟨w1.heap.size + 1, 0, none⟩ = some (.map (some w1.heap.size)) ∧ (Instr.mapUpdate 82 (.map (some w1.heap.size)) (.int .i64 (i : Int)) (.bool true)).run Tryd.prog W5 = .ok () wA ∧
              Aside0 (FsS w w.heap.size (w1.heap.size + 1) w1.heap.size B (100 * i + 1) wA ∧ Kd.R (Kd.int .i64) 3 wA (w1.heap.size + 2) (fun _ => True) (.slice AL xs.length cL) xs) ∧ Aside0 (FsS w w.heap.size (w1.heap.size + 1) w1.heap.size B (100 * i) W5) ∧ Aside0 (Kd.R (Kd.int .i64) 3 W5 (w1.heap.size + 2) (fun _ => True) (.slice AL xs.length cL) xs) ∧
              Aside0 (W5.heap[wr.heap.size]? = some (.cells #[.int .i64 (b : Int)] 3 (0, 0))) := by
            intro W5 h5
            have hF5 := HFK.out.below h5
            have hL5 := Kd.R_below HLK.out h5
            obtain ⟨wA, hmu, hFA, hgA⟩ := hF5.put (by have := H14.out; have := HI.out; omega) (i : Int) HWF.out
            exact ⟨wA, none, 0, [], (blk_cell hF5.bG 0).trans rfl, hmu, ⟨hFA, R_nocells hL5 hgA hF5.gone.nocells⟩, ⟨hF5⟩, ⟨hL5⟩, ⟨blk_below HKK.out h5⟩⟩
          have HK5 := Aside0.mk hK5
          clear hK5
          go_wp2_with (go_at_call 33; refine (contains_func w.heap.size wr.heap.size B n _ c ways (b : Int) AL cL xs _ HFK.out.bT HKK.out (HT.out.below HFK.out.lo) HCL.out HX.out.1 (by have := HX.out.2; have := H14.out; have := HI.out; omega)).mono ?_; rintro e w5 ⟨⟨rr, rfl⟩, hb5⟩; obtain ⟨wA, Az, cz, zs0, qG5, hmu5, HA5, HF5, HL5, HK5K⟩ := HK5.out w5 hb5; clear hb5)
          · go_roundg G0
            case measure => omega
            case rel => exact ⟨i + 1, xs, by first | rw [E1.out] | rw [Int.natCast_succ], ⟨by have := HI.out; omega⟩, ⟨HA5.out.1.looser (by omega)⟩, ⟨HA5.out.2⟩, ⟨HX.out.1, by have := HX.out.2; omega⟩⟩
          · obtain rfl : rr = false := by first | assumption | simp_all
            clear hmu5 HA5 qG5 HFK HLK HKK HCL qG x0 x1 x2 qT qB
            obtain ⟨W7, hW7⟩ : ∃ W7, W7 = (w5.alloc (.map #[] 0)).alloc (.cells #[.map (some w5.heap.size)] 82) := ⟨_, rfl⟩
            have h7 : Below w5.heap.size w5 W7 := by rw [hW7]; exact below_alloc (below_alloc (Below.refl _ _) _) _
            have hM7 : W7.heap[w5.heap.size + 1]? = some (.cells #[.map (some w5.heap.size)] 82 (0, 0)) := by
              rw [hW7]
              have := blk_new (w5.alloc (.map #[] 0)) (.cells #[.map (some w5.heap.size)] 82)
              rwa [World.size_alloc] at this
            have hMB7 : MB W7 w5.heap.size 0 := by rw [hW7]; exact (MB.made w5).below (below_alloc (Below.refl _ _) _)
            have hF7 := HF5.out.below h7
            have hd : Below W7.heap.size W7 W7.drew := below_drew (Below.refl _ _)
            obtain ⟨Az2, cz2, zs, hlk, hRz, hzl, hzm⟩ := groups_look HOWN.out.1 HOWN.out.2 (by have := H14.out; omega) b HBN.out W7.drew (hF7.below hd).lo
            have cT : W7.cell? ⟨w.heap.size, 0, none⟩ = some (.pointer (some ⟨B, 0, none⟩)) := (blk_cell hF7.bT 0).trans rfl
            have cM : W7.cell? ⟨B, 2, none⟩ = some (.map (some mb)) := (blk_cell (blk_below HCELL.out hF7.lo) 2).trans rfl
            have cK : W7.cell? ⟨wr.heap.size, 0, none⟩ = some (.int .i64 (b : Int)) := (blk_cell (blk_below HK5K.out h7) 0).trans rfl
            have HF8 := Aside0.mk (hF7.below hd)
            have HL8 := Aside0.mk (Kd.R_below (Kd.R_below HL5.out h7) hd)
            have HM8 := Aside0.mk (blk_below hM7 hd)
            have HMB8 := Aside0.mk (hMB7.below hd)
            have HZ8 := Aside0.mk hRz
            have HZL := Aside0.mk (And.intro hzl hzm)
            have HS5 : Aside0 (w1.heap.size < w5.heap.size ∧ w.heap.size < w5.heap.size ∧ w1.heap.size + 1 < w5.heap.size) := ⟨⟨HF5.out.gone.lt, blk_lt HF5.out.bT, blk_lt HF5.out.bG⟩⟩
            rw [← hW7]
            clear h7 hM7 hMB7 hF7 hd hRz hzl hzm HF5 HL5 HK5K hW7
            go_region
            go_wp2
            clear cT cM cK hlk
            go_loopg [66] zs.length (fun kq v66 w' => ∃ j : Nat, v66 = .int .i64 (j : Int) ∧ Aside0 (j + kq = zs.length) ∧ Aside0 (FsS w w.heap.size (w1.heap.size + 1) w1.heap.size B (100 * i) w') ∧ Aside0 (Kd.R (Kd.int .i64) 3 w' (w1.heap.size + 2) (fun _ => True) (.slice AL xs.length cL) xs) ∧ Aside0 (w'.heap[w5.heap.size + 1]? = some (.cells #[.map (some w5.heap.size)] 82 (0, 0))) ∧ Aside0 (MB w' w5.heap.size j) ∧ Aside0 (Kd.R (Kd.int .i64) 3 w' base (fun _ => True) (.slice Az2 zs.length cz2) zs))
            case atStart => exact ⟨0, rfl, ⟨by omega⟩, HF8, HL8, HM8, HMB8, HZ8⟩
            case round =>
              clear HF8 HL8 HM8 HMB8 HZ8
              obtain ⟨j, rfl, HJ, HF, HL, HM, HMB, HZR⟩ := hrel
              cases gk with
              | zero =>
                have v2 := eq_false (show ¬ j < zs.length by have := HJ.out; omega)
                have v2b := eq_false (show ¬ (j : Int) < (zs.length : Int) by have := HJ.out; omega)
                obtain ⟨pg, hpg⟩ := HF.out.gone.looks (m := ways.length) (by have := H14.out; omega)
                obtain ⟨pm, hpm⟩ := HMB.out.looks (m := ways.length) (by have := H14.out; omega)
                have HPG := Aside0.mk hpg
                have HPM := Aside0.mk hpm
                have qT : wr.cell? ⟨w.heap.size, 0, none⟩ = some (.pointer (some ⟨B, 0, none⟩)) := (blk_cell HF.out.bT 0).trans rfl
                obtain ⟨bb, hbb⟩ : ∃ bb, bb = (alF (rchI (fun i => pg i || pm i) ways n) n n 0 == 0) := ⟨_, rfl⟩
                have HBB := Aside0.mk hbb
                clear hpg hpm hbb
                cases bb
                · go_wp2_with (go_at_call 32; refine (cheapest_maps B n _ c ways A1 c1 ls (fun i => pg i || pm i) (w1.heap.size + 1) (w5.heap.size + 1) (.map (some w1.heap.size)) (.map (some w5.heap.size)) pg pm _ (HT.out.below HF.out.lo) (Kd.C_below HC.out HF.out.lo) HC1.out HF.out.bG HM.out HPG.out HPM.out (fun _ => rfl) HN.out.1 HN.out.2 HO.out HZ.out H14.out).mono ?_; rintro e w8 ⟨rfl, hb8⟩; rw [← HBB.out]; have hF8 := HF.out.below hb8; obtain ⟨wA, hmu8, hFA, hgA⟩ := hF8.put (by have := H14.out; have := HI.out; omega) (i : Int) HWF.out; have HFA := Aside0.mk hFA; have HLA := Aside0.mk (R_nocells (Kd.R_below HL.out hb8) hgA hF8.gone.nocells); have qG8 : w8.cell? ⟨w1.heap.size + 1, 0, none⟩ = some (.map (some w1.heap.size)) := (blk_cell hF8.bG 0).trans rfl; clear hb8 hF8 hFA hgA)
                  go_roundg G0
                  case measure => omega
                  case rel => exact ⟨i + 1, xs, by first | rw [E1.out] | rw [Int.natCast_succ], ⟨by have := HI.out; omega⟩, ⟨HFA.out.looser (by omega)⟩, HLA, ⟨HX.out.1, by have := HX.out.2; omega⟩⟩
                · have HJL := Aside0.mk (show j ≤ 14 by have := HZL.out.1; have := H14.out; have := HJ.out; omega)
                  go_wp2_with (first | (go_at_call 32; refine (cheapest_maps B n _ c ways A1 c1 ls (fun i => pg i || pm i) (w1.heap.size + 1) (w5.heap.size + 1) (.map (some w1.heap.size)) (.map (some w5.heap.size)) pg pm _ (HT.out.below HF.out.lo) (Kd.C_below HC.out HF.out.lo) HC1.out HF.out.bG HM.out HPG.out HPM.out (fun _ => rfl) HN.out.1 HN.out.2 HO.out HZ.out H14.out).mono ?_; rintro e w8 ⟨rfl, hb8⟩; rw [← HBB.out]; have HF8 := Aside0.mk (HF.out.below hb8); have HL8 := Aside0.mk (Kd.R_below HL.out hb8); have HM8 := Aside0.mk (blk_below HM.out hb8); have HMB8 := Aside0.mk (HMB.out.below hb8); have HSZ8 := Aside0.mk (show w1.heap.size + 2 ≤ w8.heap.size by have := hb8.size; have := HS5.out; have := HM.out; have h9 := blk_lt HM.out; omega); clear hb8) | ((with_reducible refine gate_builtin (b := .append) (xs := #[.tmp 90, .tmp 92]) rfl ?_); at_builtin; refine Kd.R_append (Kd.int .i64) (w0 := w8) (w1.heap.size + 2) rfl (.tmp 90) (.tmp 92) 35 3 (.int .i64 0) 8 rfl Tryd.underlying35 info3 rfl (by decide) (by omega) (.slice AL xs.length cL) xs (i : Int) [.int .i64 (i : Int)] (fun _ => True) (fun _ => False) rfl (by first | (rw [World.size_alloc]; rfl) | rfl) ?aP (fun _ hk => hk.elim) ?aF ?aO ?aB ?aS ?aL ?_; (case aP => exact rfl); (case aB => exact ⟨rfl, rfl, rfl, Nat.le_refl _, fun _ _ => rfl⟩); (case aF => exact (fun _ _ => trivial)); (case aO => exact HL8.out); (case aS => exact HSZ8.out); (case aL => have := HX.out.2; have := H14.out; have := HI.out; omega); intro v9 w9 ho hb hg hat; have HL9 := Aside0.mk ho; have HF9 := Aside0.mk (HF8.out.append HL8.out hg (by have := HSZ.out; omega) (by have := HSZ.out; omega) (by omega)); have HM9 := Aside0.mk (blk_grown HM8.out hg (Kd.R_ne HL8.out HM8.out (by decide))); have HMB9 := Aside0.mk (HMB8.out.grown hg (own_ne_map HL8.out HMB8.out)); clear ho hb hg hat; have qM9 : w9.cell? ⟨w5.heap.size + 1, 0, none⟩ = some (.map (some w5.heap.size)) := (blk_cell HM9.out 0).trans rfl; obtain ⟨D9, hD9⟩ := HMB9.out; obtain ⟨w10, hrg, hrr, hgr, hsz10⟩ := hD9.range (Maps.int_keyed Tryd.underlying3) Tryd.underlying82; have hb10 : Below w9.heap.size w9 w10 := ⟨hgr.os, hgr.tape, hgr.output, hgr.size, fun q hq => hgr.block q hq (by simp)⟩; have HF10 := Aside0.mk (HF9.out.below hb10); have HL10 := Aside0.mk (Kd.R_below HL9.out hb10); have HRR := Aside0.mk hrr; have HCN := Aside0.mk (show Maps.size D9 ≤ 14 by have := hD9.size_le; have := HJL.out; omega); have HS9 := Aside0.mk (And.intro HF9.out.gone.lt (And.intro (blk_lt HF9.out.bT) (And.intro (blk_lt HF9.out.bG) HF9.out.lo.size))); clear hD9 hrr hgr hsz10 hb10))
                  obtain ⟨cn, hcn⟩ : ∃ cn, cn = Maps.size D9 := ⟨_, rfl⟩
                  rw [← hcn] at HRR HCN
                  clear hcn
                  go_loopg [21] cn (fun kq v21 w' => ∃ left : Lit → Bool, Aside0 (w'.ranges Tryd.prog 3 (plainElem Tryd.prog 4) w5.heap.size w9.heap.size j D9 left kq) ∧ Aside0 (kq ≤ 14) ∧ Aside0 (FsS w w.heap.size (w1.heap.size + 1) w1.heap.size B (100 * i + (30 - kq)) w') ∧ Aside0 (Kd.R (Kd.int .i64) 3 w' (w1.heap.size + 2) (fun _ => True) v9 (xs ++ [(i : Int)])))
                  case atStart => exact ⟨_, HRR, HCN, ⟨HF10.out.looser (by omega)⟩, HL10⟩
                  case round =>
                    clear HRR HCN HF10 HL10 HF9 HL9 HM9 HMB9 qM9 hrg HF8 HL8 HM8 HMB8
                    obtain ⟨left, HRR, HKQ, HFR, HLR⟩ := hrel
                    have hr0 : ∀ cs t, wr.heap[w9.heap.size]? ≠ some (.cells cs t (0, 0)) := fun cs t hc => by
                      obtain ⟨es, clock, since, seen, c0, _, _, _, _, hr, _⟩ := HRR.out
                      rw [hr] at hc; cases hc
                    rcases HRR.out.next (Maps.int_keyed Tryd.underlying3) 0 with ⟨h0, hl0, hrun⟩ | ⟨key, vv, kl, y, w2, cnt', hkey, hlk, hv, hat, hrun, hrg2, hlt, hgr2, hsz2, hen⟩
                    · clear hl0 hr0
                      go_wp2
                      go_roundg G0
                      case measure => omega
                      case rel => exact ⟨i + 1, xs ++ [(i : Int)], by first | rw [E1.out] | rw [Int.natCast_succ], ⟨by have := HI.out; omega⟩, ⟨HFR.out.looser (by omega)⟩, HLR, ⟨⟨fun q hq => by
                        rcases List.mem_append.1 hq with h | h
                        · exact HX.out.1 q h
                        · exact ⟨i, HII.out, by simpa using h⟩, by have := HX.out.2; simp; omega⟩⟩⟩
                    · obtain ⟨xk, rfl, rfl, hwx⟩ := Maps.keyOf_int_inv Tryd.underlying3 hkey
                      obtain ⟨bv, rfl, _⟩ := plainElem_bool_inv Tryd.underlying4 hv
                      have hF2 := HFR.out.grown hgr2 (by have := HS9.out; omega) (by have := HS9.out; omega) (by have := HS9.out; omega) (by have := HS9.out; omega)
                      have hL2 := R_nocells HLR.out hgr2 hr0
                      obtain ⟨w3, hmu3, hF3, hg3⟩ := hF2.put (by have := H14.out; have := HI.out; omega) xk hwx
                      have HL3 := Aside0.mk (R_nocells hL2 hg3 hF2.gone.nocells)
                      have HF3 := Aside0.mk hF3
                      have HR3 := Aside0.mk (hrg2.kept hg3 (by have := HS5.out; simp; omega) (by have := HS9.out; simp; omega))
                      have HLT := Aside0.mk hlt
                      have qG2 : w2.cell? ⟨w1.heap.size + 1, 0, none⟩ = some (.map (some w1.heap.size)) := (blk_cell hF2.bG 0).trans rfl
                      clear hkey hlk hv hat hrg2 hlt hgr2 hsz2 hF2 hL2 hF3 hg3 hr0 hwx
                      go_wp2
                      go_roundg cnt'
                      case measure => exact HLT.out
                      case rel => exact ⟨_, HR3, ⟨by have := HLT.out; have := HKQ.out; omega⟩, ⟨HF3.out.looser (by have := HLT.out; have := HKQ.out; omega)⟩, HL3⟩
              | succ k1 =>
                have hj : j < zs.length := by have := HJ.out; omega
                have v2 := eq_true hj
                have v2b := eq_true (show (j : Int) < (zs.length : Int) by omega)
                have p2 := eq_true (show (0 : Int) ≤ (j : Int) by omega)
                have E2 := Aside0.mk (w64s j (by have := HZL.out.1; have := H14.out; omega))
                obtain ⟨az, e0, y0⟩ := Kd.at_int (Kd.R_reads' HZR.out).2.2 (j : Int) (by omega) (by omega)
                cases e0
                obtain ⟨jx, hjx, hzx⟩ := HZL.out.2 _ (rd_of hj)
                rw [Int.toNat_natCast, hzx] at y0
                have qM : wr.cell? ⟨w5.heap.size + 1, 0, none⟩ = some (.map (some w5.heap.size)) := (blk_cell HM.out 0).trans rfl
                have HJX := Aside0.mk hjx
                clear hj hzx hjx
                by_cases hne : jx = i
                · have n1 : ((jx : Int) == (i : Int)) = true := beq_iff_eq.2 (by omega)
                  have n2 : ((jx : Int) != (i : Int)) = false := by rw [bne, n1]; rfl
                  have n3 := eq_true hne
                  clear hne
                  go_wp2
                  go_roundg k1
                  case measure => omega
                  case rel => exact ⟨j + 1, by first | rw [E2.out] | rw [Int.natCast_succ], ⟨by have := HJ.out; omega⟩, HF, HL, HM, ⟨HMB.out.looser (by omega)⟩, HZR⟩
                · have n1 : ((jx : Int) == (i : Int)) = false := beq_eq_false_iff_ne.2 (by omega)
                  have n2 : ((jx : Int) != (i : Int)) = true := by rw [bne, n1]; rfl
                  have n3 := eq_false hne
                  obtain ⟨w2, hmu2, hM2, hg2⟩ := HMB.out.put (by have := HZL.out.1; have := H14.out; have := HJ.out; omega) (jx : Int) (wf_small (by omega) (by have := HJX.out; have := H14.out; omega))
                  have HF2 := Aside0.mk (HF.out.grown hg2 (by have := HS5.out; omega) (by have := HS5.out; omega) (by have := HS5.out; omega) (by have := HS5.out; omega))
                  have HL2 := Aside0.mk (R_nocells HL.out hg2 HMB.out.nocells)
                  have HZ2 := Aside0.mk (R_nocells HZR.out hg2 HMB.out.nocells)
                  have HM2 := Aside0.mk (blk_grown HM.out hg2 (by simp))
                  have HMB2 := Aside0.mk hM2
                  clear hne hM2 hg2
                  go_wp2
                  go_roundg k1
                  case measure => omega
                  case rel => exact ⟨j + 1, by first | rw [E2.out] | rw [Int.natCast_succ], ⟨by have := HJ.out; omega⟩, HF2, HL2, HM2, HMB2, HZ2⟩
  · have zb : (z == 0) = false := beq_eq_false_iff_ne.2 hz0
    rw [if_neg hz0]
    clear hz0
    go_enter Tryd.func19, Tryd.ntmps19
    go_wp2_with (go_at_call 32; refine (cheapest_never B n A c ways A1 c1 ls (fun _ => false) _ (HT.out.below HB0.out) (Kd.C_below HC.out HB0.out) HC1.out (fun _ => rfl) HN.out.1 HN.out.2 HO.out HZ.out H14.out).mono ?_; rintro e w1 ⟨rfl, hb1⟩; rw [← HZZ.out, zb]; have HB1 := Aside0.mk (below_step HB0.out hb1); clear hb1)
    go_ret3
    exact ⟨_, _, rfl, Kd.R_nil _ _ _ _ _, HB1.out⟩
end Go.Proofs.YtknecgmmpjggiaaDoor.OAll
