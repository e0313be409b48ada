/- A part of the proof of 'stampNext_holds', for every input, without a condition. -/
import Derived.Shelf.Spec.SlicesInsert
import Derived.Shelf.Spec.SlicesInsertGrow
import Derived.Test.YthbalcbibmdpnaaSNeRo
namespace Go.Proofs.Ythbalcbibmdpnaa.OAll
open Go.RowKit Go.Shelf Go.Proofs.YthbalcbibmdpnaaW.PrintWords Go.Proofs.YthbalcbibmdpnaaW.PrintLast Go.Proofs.YthbalcbibmdpnaaW.PrintMore
set_option linter.unusedVariables false
set_option linter.unusedSimpArgs false
def insRen : Ren := ⟨fun x => match x with | 21 => 57 | 27 => 65 | 28 => 66 | 35 => 68 | 39 => 69 | n => n, fun x => x, fun x => x⟩
set_option maxRecDepth 100000 in
theorem insLays : Go.Proofs.Lays2.n21 Try.prog insRen where
  mixed := by kernel_rfl
  f21 := Try.func57.trans (congrArg some (by kernel_rfl))
  f27 := Try.func65.trans (congrArg some (by kernel_rfl))
  f28 := Try.func66.trans (congrArg some (by kernel_rfl))
  f35 := Try.func68.trans (congrArg some (by kernel_rfl))
  f39 := Try.func69.trans (congrArg some (by kernel_rfl))
  t0 := Try.underlying0
  a0 := Try.isAgg0
  z0 := Try.sizeOf0
  v0 := Try.zeroValue0
  t3 := Try.underlying3
  a3 := Try.isAgg3
  z3 := Try.sizeOf3
  v3 := Try.zeroValue3
  t4 := Try.underlying4
  a4 := Try.isAgg4
  z4 := Try.sizeOf4
  v4 := Try.zeroValue4
  t22 := Try.underlying22
  a22 := Try.isAgg22
  z22 := Try.sizeOf22
  v22 := Try.zeroValue22
  i3 := by kernel_rfl
theorem setCells_blk {g : Nat} {t : TypeId} : ∀ (vs : List Value) (o : Nat) (cur : Array Value) (W : World), W.heap[g]? = some (.cells cur t (0, 0)) →
    ∃ cur', (W.setCells g o vs).heap[g]? = some (.cells cur' t (0, 0)) ∧ cur'.size = cur.size ∧ (o + vs.length ≤ cur.size → cur'.toList = cur.toList.take o ++ (vs ++ cur.toList.drop (o + vs.length)))
  | [], o, cur, W, h => ⟨cur, h, rfl, fun _ => by simp⟩
  | v :: r, o, cur, W, h => by
    obtain ⟨cur', h1, h2, h3⟩ := setCells_blk r (o + 1) _ _ (blk_put h o v rfl)
    refine ⟨cur', h1, by rw [h2]; simp, fun hl => ?_⟩
    have hl' : o < cur.size := by simp at hl; omega
    rw [h3 (by simp at hl ⊢; omega), Array.toList_setIfInBounds]
    have e1 : (cur.toList.set o v).take (o + 1) = cur.toList.take o ++ [v] := by
      rw [List.take_set, List.take_succ_eq_append_getElem (by simpa using hl'), List.set_append_right _ _ (by simp; omega)]
      simp [Nat.min_eq_left (Nat.le_of_lt hl')]
    have e2 : (cur.toList.set o v).drop (o + 1 + r.length) = cur.toList.drop (o + (v :: r).length) := by
      rw [List.drop_set_of_lt (by omega)]
      congr 1
      simp; omega
    rw [e1, e2]
    simp
theorem setCells_same (g : Nat) : ∀ (vs : List Value) (o : Nat) (W : World), Below g W (W.setCells g o vs) ∧ (W.setCells g o vs).heap.size = W.heap.size
  | [], o, W => ⟨Below.refl _ _, rfl⟩
  | v :: r, o, W => by
    obtain ⟨h1, h2⟩ := setCells_same g r (o + 1) (W.setCell ⟨g, o, none⟩ v)
    exact ⟨((Below.refl g W).setCell (by show g ≤ g; omega) _).trans h1, h2.trans (by simp [World.setCell])⟩
theorem ins_list (E L0 L1 : List Value) (x : Value) (i n : Nat) (hE : E.length = n) (hi : i ≤ n) (h0 : L0.take i = E.take i) (hl : n + 1 ≤ L0.length)
    (h1 : L1 = (L0.take (i + 1) ++ (E.drop i ++ L0.drop (n + 1))).take i ++ ([x] ++ (L0.take (i + 1) ++ (E.drop i ++ L0.drop (n + 1))).drop (i + 1))) : L1.take (n + 1) = E.take i ++ x :: E.drop i := by
  have e1 : (L0.take (i + 1) ++ (E.drop i ++ L0.drop (n + 1))).take i = E.take i := by
    rw [List.take_append_of_le_length (by simp; omega), List.take_take, Nat.min_eq_left (by omega), h0]
  have e2 : (L0.take (i + 1) ++ (E.drop i ++ L0.drop (n + 1))).drop (i + 1) = E.drop i ++ L0.drop (n + 1) := by
    rw [List.drop_append_of_le_length (by simp; omega), List.drop_take]
    simp
  rw [h1, e1, e2]
  have e3 : E.take i ++ ([x] ++ (E.drop i ++ L0.drop (n + 1))) = (E.take i ++ x :: E.drop i) ++ L0.drop (n + 1) := by simp
  rw [e3, List.take_append_of_le_length (by simp; omega), List.take_of_length_le (by simp; omega)]
theorem ins_list' (E L0 L1 : List Value) (x : Value) (i n : Nat) (hE : E.length = n) (hi : i ≤ n) (h0 : L0.take i = E.take i) (hl : n + 1 ≤ L0.length)
    (h1 : L1 = (L0.take i ++ ([x] ++ L0.drop (i + 1))).take (i + 1) ++ (E.drop i ++ (L0.take i ++ ([x] ++ L0.drop (i + 1))).drop (n + 1))) : L1.take (n + 1) = E.take i ++ x :: E.drop i := by
  have e1 : (L0.take i ++ ([x] ++ L0.drop (i + 1))).take (i + 1) = E.take i ++ [x] := by
    rw [← List.append_assoc, List.take_append_of_le_length (by simp; omega), List.take_of_length_le (by simp; omega), h0]
  rw [h1, e1]
  have e3 : ∀ Z : List Value, E.take i ++ [x] ++ (E.drop i ++ Z) = (E.take i ++ x :: E.drop i) ++ Z := fun Z => by simp
  rw [e3, List.take_append_of_le_length (by simp; omega), List.take_of_length_le (by simp; omega)]
set_option maxRecDepth 100000 in
theorem insert_calls (g n cap i vb : Nat) (x : Int) (cs : List Int) (base : Nat) (w : World) (hR : Kd.R (Kd.int .i64) 3 w base (fun _ => True) (.slice (some ⟨g, 0, none⟩) n cap) cs) (hn : 1 ≤ n ∧ n ≤ 1000) (hcn : cs.length = n) (hi : i ≤ n) (hbs : base ≤ w.heap.size)
    (hv : w.heap[vb]? = some (.cells #[.int .i64 x] 3 (0, 0))) (hne : vb ≠ g) :
    Calls Try.prog 57 #[.slice (some ⟨g, 0, none⟩) n cap, .int .i64 (i : Int), .slice (some ⟨vb, 0, none⟩) 1 1] w fun e w' =>
      ∃ v1 : Value, e = .returned v1 ∧ Kd.R (Kd.int .i64) 3 w' base (fun _ => True) v1 (cs.take i ++ x :: cs.drop i) ∧ Below base w w' := by
  obtain ⟨_, ho⟩ := Kd.own_of_R hR
  rcases ho with ⟨h0, _⟩ | ⟨g', cap', cur, h0, hbg, hg, hnc, hcm, hsz, htk⟩
  · cases h0
  · simp only [Value.slice.injEq, Option.some.injEq, Addr.mk.injEq, and_true] at h0
    obtain ⟨rfl, _, rfl⟩ := h0
    rw [hcn] at hnc
    rw [Nat.mul_one] at hsz
    rw [Nat.mul_one, hcn] at htk
    obtain ⟨E, hE⟩ : ∃ E, E = encs (Value.int .i64) cs := ⟨_, rfl⟩
    rw [← hE] at htk
    have hEl : E.length = n := by rw [hE, encs_length, hcn]
    have hone : ∀ u ∈ E, u.oneCell' = true := fun u hu => by
      rw [hE] at hu
      obtain ⟨y, _, rfl⟩ := List.mem_map.mp hu
      rfl
    have hone1 : ∀ u ∈ [Value.int .i64 x], u.oneCell' = true := fun u hu => by
      rw [List.mem_singleton] at hu; subst hu; rfl
    have hcl : cur.toList.length = cap := by simp [hsz]
    have hcell : ∀ (j : Nat) v, E[j]? = some v → w.cell? ⟨g, 0 + j, none⟩ = some v := fun j v hj => by
      rw [Nat.zero_add, blk_cell hg]
      have hjn : j < n := by have := (List.getElem?_eq_some_iff.1 hj).1; omega
      rw [← htk, List.getElem?_take_of_lt hjn] at hj
      rw [← Array.getElem?_toList]; exact hj
    have hvc : ∀ (j : Nat) v, [Value.int .i64 x][j]? = some v → w.cell? ⟨vb, 0 + j, none⟩ = some v := fun j v hj => by
      rw [Nat.zero_add, blk_cell hv]
      rcases j with _ | j
      · exact hj
      · simp at hj
    have fin : ∀ (g1 cap1 : Nat) (cur1 : Array Value) (w' : World), base ≤ g1 → w'.heap[g1]? = some (.cells cur1 3 (0, 0)) → n + 1 ≤ cap1 → cap1 ≤ maxLen → cur1.size = cap1 → cur1.toList.take (n + 1) = E.take i ++ Value.int .i64 x :: E.drop i → Below base w w' →
        ∃ v1 : Value, Ending.returned (.slice (some ⟨g1, 0, none⟩) (n + 1) cap1) = .returned v1 ∧ Kd.R (Kd.int .i64) 3 w' base (fun _ => True) v1 (cs.take i ++ x :: cs.drop i) ∧ Below base w w' := by
      intro g1 cap1 cur1 w' hb1 hg1 hc1 hm1 hs1 ht1 hB
      have hxl : (cs.take i ++ x :: cs.drop i).length = n + 1 := by simp; omega
      have hen : encs (Value.int .i64) (cs.take i ++ x :: cs.drop i) = E.take i ++ Value.int .i64 x :: E.drop i := by rw [hE]; simp [encs, List.map_take, List.map_drop]
      refine ⟨_, rfl, Kd.R_of_own (enc := Value.int .i64) (h1 := fun _ => rfl) ?_ (fun _ _ => trivial), hB⟩
      refine ⟨by rw [encs_length, Nat.mul_one], .inr ⟨g1, cap1, cur1, by rw [hxl], hb1, hg1, by rw [hxl]; exact hc1, hm1, by rw [hs1, Nat.mul_one], ?_⟩⟩
      rw [Nat.mul_one, hxl, hen]
      exact ht1
    have hmax : 100000 ≤ maxLen ∧ maxLen ≤ 9223372036854775807 := by decide
    by_cases ci : i < n
    · by_cases cr : n + 1 ≤ cap
      ·
        refine (Any2.slices_Insert_int_shift insLays g 0 n cap i vb 0 1 1 E [.int .i64 x] w ci (by omega) cr (by omega) hne hEl rfl hcell (fun j hj => ?_) (fun j hj => by rw [Nat.zero_add]; exact blk_frozen hg _) hvc hone hone1 3 3 1 cap
          (by simp [World.shape?, hv]) (by simp [World.shape?, hg, hsz]) (by omega) (blk_frozen hv _) (blk_frozen hv _)).mono ?_
        · rw [Nat.zero_add, blk_cell hg, Array.getElem?_eq_getElem (by omega)]; rfl
        · rintro e w' ⟨rfl, hw'⟩
          obtain ⟨c1, b1, s1, t1⟩ := setCells_blk (E.drop i) (0 + (i + 1)) cur w.drew (blk_drew hg)
          obtain ⟨c2, b2, s2, t2⟩ := setCells_blk [.int .i64 x] (0 + i) c1 _ b1
          rw [← hw'] at b2
          have t1 := t1 (by simp [hEl]; omega)
          have t2 := t2 (by simp; omega)
          refine fin g cap c2 w' hbg b2 cr hcm (by omega) ?_ ?_
          · refine ins_list E cur.toList c2.toList _ i n hEl hi (by rw [← htk, List.take_take, Nat.min_eq_left (by omega)]) (by omega) ?_
            rw [t2, t1]
            have e1 : 0 + (i + 1) + (E.drop i).length = n + 1 := by rw [List.length_drop, hEl]; omega
            rw [e1]
            simp
          · rw [hw']
            exact (below_drew1 (Below.refl base w)).trans (((setCells_same g _ _ _).1.mono hbg).trans ((setCells_same g _ _ _).1.mono hbg))
      ·
        refine (Any2.slices_Insert_int_grow insLays g 0 n cap i vb 0 1 1 E [.int .i64 x] w ci (by omega) hnc (by omega) (by omega) hEl rfl hcell hvc hone hone1).mono ?_
        rintro e w' ⟨rfl, hw'⟩
        obtain ⟨G, hG⟩ : ∃ G, G = grownCap w (n + 1) cap (insRen.t 3) := ⟨_, rfl⟩
        have hGe : n + 1 ≤ G := by rw [hG]; exact grownCap_ge _ _ _ _
        have hGm : G ≤ maxLen := by rw [hG]; exact grownCap_le_maxLen _ _ _ _ (by omega)
        rw [← hG] at hw' ⊢
        obtain ⟨c0, hc0⟩ : ∃ c0, c0 = (E.take i).toArray ++ Builtin.zeroCells (Value.int .i64 0).cells (n + 1 - i) ++ Builtin.zeroCells (Value.int .i64 0).cells (G - (n + 1)) := ⟨_, rfl⟩
        rw [← hc0] at hw'
        have hz : (Value.int IntKind.i64 0).cells.size = 1 := rfl
        have hs0 : c0.size = G := by rw [hc0]; simp only [Array.size_append, size_zeroCells, hz, List.size_toArray, List.length_take]; omega
        have hl0 : c0.toList.take i = E.take i := by
          rw [hc0]
          simp only [Array.toList_append, List.append_assoc]
          rw [List.take_append_of_le_length (by simp; omega), List.take_of_length_le (by simp; omega)]
        have b0 : (w.alloc (.cells c0 3)).drew.heap[w.heap.size]? = some (.cells c0 3 (0, 0)) := blk_drew (blk_new w _)
        obtain ⟨c1, b1, s1, t1⟩ := setCells_blk [.int .i64 x] i c0 _ b0
        obtain ⟨c2, b2, s2, t2⟩ := setCells_blk (E.drop i) (i + 1) c1 _ (blk_drew b1)
        have t1 := t1 (by simp; omega)
        have t2 := t2 (by simp [hEl]; omega)
        have hw2 : w' = (((w.alloc (.cells c0 3)).drew.setCells w.heap.size i [.int .i64 x]).drew).setCells w.heap.size (i + 1) (E.drop i) := hw'
        rw [← hw2] at b2
        refine fin w.heap.size G c2 w' hbs b2 hGe hGm (by omega) ?_ ?_
        · refine ins_list' E c0.toList c2.toList _ i n hEl hi hl0 (by simp; omega) ?_
          rw [t2, t1]
          have e1 : i + 1 + (E.drop i).length = n + 1 := by rw [List.length_drop, hEl]; omega
          rw [e1]
          simp
        · rw [hw2]
          exact ((below_drew1 (below_alloc (Below.refl w.heap.size w) _)).trans (((setCells_same w.heap.size _ _ _).1).trans ((below_drew1 (Below.refl w.heap.size _)).trans (setCells_same w.heap.size _ _ _).1))).mono hbs
    · have hin : i = n := by omega
      subst hin
      by_cases cr : i + 1 ≤ cap
      · refine (Any2.slices_Insert_int_end_room insLays g 0 i cap vb 0 1 1 [.int .i64 x] w (by omega) cr (by omega) rfl (fun j hj => ?_) (fun j hj => blk_frozen hg _) hvc hone1).mono ?_
        · rw [blk_cell hg, Array.getElem?_eq_getElem (by omega)]; rfl
        · rintro e w' ⟨rfl, hw'⟩
          obtain ⟨c1, b1, s1, t1⟩ := setCells_blk [.int .i64 x] (0 + i) cur w hg
          have t1 := t1 (by simp; omega)
          rw [← hw'] at b1
          refine fin g cap c1 w' hbg b1 cr hcm (by omega) ?_ ?_
          · rw [t1, Nat.zero_add, htk, List.take_of_length_le (show E.length ≤ i by omega), List.drop_of_length_le (show E.length ≤ i by omega)]
            have e3 : ∀ Z : List Value, E ++ ([Value.int .i64 x] ++ Z) = (E ++ [Value.int .i64 x]) ++ Z := fun Z => by simp
            rw [e3, List.take_append_of_le_length (by simp; omega), List.take_of_length_le (by simp; omega)]
          · rw [hw']
            exact (setCells_same g _ _ _).1.mono hbg
      · refine (Any2.slices_Insert_int_end_grow insLays (some ⟨g, 0, none⟩) i cap vb 0 1 1 E [.int .i64 x] w (by omega) hnc (by omega) (by omega) hEl rfl (fun h => by cases h) (fun a ha j v hj => ?_) hvc hone1).mono ?_
        · cases ha
          rw [Addr.add_lit]
          exact hcell j v hj
        · rintro e w' ⟨rfl, hw'⟩
          obtain ⟨G, hG⟩ : ∃ G, G = grownCap w (i + 1) cap (insRen.t 3) := ⟨_, rfl⟩
          have hGe : i + 1 ≤ G := by rw [hG]; exact grownCap_ge _ _ _ _
          have hGm : G ≤ maxLen := by rw [hG]; exact grownCap_le_maxLen _ _ _ _ (by omega)
          rw [← hG] at hw' ⊢
          obtain ⟨c0, hc0⟩ : ∃ c0, c0 = (E ++ [Value.int .i64 x]).toArray ++ Builtin.zeroCells (Value.int .i64 0).cells (G - (i + 1)) := ⟨_, rfl⟩
          rw [← hc0] at hw'
          have hz : (Value.int IntKind.i64 0).cells.size = 1 := rfl
          have hs0 : c0.size = G := by rw [hc0]; simp only [Array.size_append, size_zeroCells, hz, List.size_toArray, List.length_append, List.length_singleton]; omega
          have hw2 : w' = w.drew.alloc (.cells c0 3) := hw'
          have b0 : w'.heap[w.heap.size]? = some (.cells c0 3 (0, 0)) := by rw [hw2]; exact blk_new w.drew _
          refine fin w.heap.size G c0 w' hbs b0 hGe hGm hs0 ?_ ?_
          · rw [hc0, List.take_of_length_le (show E.length ≤ i by omega), List.drop_of_length_le (show E.length ≤ i by omega)]
            simp only [Array.toList_append]
            rw [List.take_append_of_le_length (by simp; omega), List.take_of_length_le (by simp; omega)]
          · rw [hw2]
            exact (below_alloc (below_drew1 (Below.refl w.heap.size w)) _).mono hbs
end Go.Proofs.Ythbalcbibmdpnaa.OAll
