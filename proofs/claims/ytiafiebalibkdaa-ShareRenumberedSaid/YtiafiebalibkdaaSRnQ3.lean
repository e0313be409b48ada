/- A part of the proof of 'shareRenumbered_holds', for every input, without a condition. -/
import Derived.Test.YtiafiebalibkdaaSRnQ2
import Derived.Test.YtiafiebalibkdaaSRnOAllx39
namespace Go.Proofs.Ytiafiebalibkdaa.OAll
open Go.RowKit Go.Proofs.YtiafiebalibkdaaW.PrintWords Go.Proofs.YtiafiebalibkdaaW.PrintLast Go.Proofs.YtiafiebalibkdaaW.PrintMore
set_option linter.unusedVariables false
set_option linter.unusedSimpArgs false
theorem wfu8 {x : Int} (h : (Lit.int .u8 x).wf = true) : 0 ≤ x ∧ x ≤ 255 := by
  have h1 : IntKind.u8.min = 0 := by decide
  have h2 : IntKind.u8.max = 255 := by decide
  simp [Lit.wf, h1, h2] at h
  omega
def tauN (n b j : Nat) : Nat := (j + b) % n
def sigN (n o k : Nat) : Nat := (k * (n - 1) + o) % n
def tauB (n b i : Nat) : Nat := (i + n - b % n) % n
theorem five {n : Nat} (h1 : 1 ≤ n) (h5 : n ≤ 5) : n = 1 ∨ n = 2 ∨ n = 3 ∨ n = 4 ∨ n = 5 := by omega
theorem tau_lt {n b j : Nat} (h1 : 1 ≤ n) : tauN n b j < n := Nat.mod_lt _ (by omega)
theorem sig_lt {n o k : Nat} (h1 : 1 ≤ n) : sigN n o k < n := Nat.mod_lt _ (by omega)
theorem tau_inv {n b i : Nat} (h1 : 1 ≤ n) (h5 : n ≤ 5) (hi : i < n) : tauN n b (tauB n b i) = i ∧ tauB n b (tauN n b i) = i ∧ tauB n b i < n := by
  unfold tauN tauB
  rcases five h1 h5 with rfl | rfl | rfl | rfl | rfl <;> omega
theorem sig_inv {n o k : Nat} (h1 : 1 ≤ n) (h5 : n ≤ 5) (hk : k < n) : sigN n o (sigN n o k) = k := by
  unfold sigN
  rcases five h1 h5 with rfl | rfl | rfl | rfl | rfl <;> omega
theorem map_perm {n : Nat} {f g : Nat → Nat} (hf : ∀ i, i < n → f i < n) (hg : ∀ i, i < n → g (f i) = i) : ((List.range n).map f).Perm (List.range n) := by
  refine perm_nodup (by simp) ?_ (fun x hx => ?_)
  · rw [List.nodup_iff_pairwise_ne, List.pairwise_map]
    refine List.Pairwise.imp_of_mem (fun {a b} ha hb hab e => ?_) List.pairwise_lt_range
    have h1 := hg a (List.mem_range.mp ha)
    have h2 := hg b (List.mem_range.mp hb)
    rw [e, h2] at h1
    omega
  · obtain ⟨i, hi, rfl⟩ := List.mem_map.mp hx
    exact hf i (List.mem_range.mp hi)
theorem wfrom_cmap (w : Nat → Nat → Int) (s : Nat → Nat) : ∀ (m : List Nat) (j : Nat), wfrom (fun j k => w j (s k)) j m = wfrom w j (m.map s)
  | [], _ => rfl
  | x :: m, j => by simp only [List.map_cons, wfrom, wfrom_cmap w s m (j + 1)]
theorem wfrom_cg {w v : Nat → Nat → Int} : ∀ (m : List Nat) (j n : Nat), (∀ x ∈ m, x < n) → j + m.length ≤ n → (∀ a b, a < n → b < n → w a b = v a b) → wfrom w j m = wfrom v j m
  | [], _, _, _, _, _ => rfl
  | x :: m, j, n, hx, hj, h => by
    simp only [List.length_cons] at hj
    simp only [wfrom]
    rw [h j x (by omega) (hx x (by simp)), wfrom_cg m (j + 1) n (fun y hy => hx y (by simp [hy])) (by omega) h]
theorem wfrom_sum (w : Nat → Nat → Int) (g : Nat → Nat) : ∀ (n j : Nat), wfrom w j ((List.range' j n).map g) = isum ((List.range' j n).map fun i => w i (g i))
  | 0, _ => rfl
  | n + 1, j => by simp only [List.range'_succ, List.map_cons, wfrom, isum, wfrom_sum w g n (j + 1)]
theorem perm_fun {n : Nat} {m : List Nat} (h : m.Perm (List.range n)) : m = (List.range n).map (fun j => m.getD j 0) := by
  have hl : m.length = n := by rw [h.length_eq]; simp
  refine List.ext_getElem (by simp [hl]) (fun i h1 h2 => ?_)
  simp [List.getD_eq_getElem?_getD, List.getElem?_eq_getElem h1]
theorem rows_sum {n b : Nat} (h1 : 1 ≤ n) (h5 : n ≤ 5) (w : Nat → Nat → Int) {m : List Nat} (hm : m.Perm (List.range n)) : ∃ m', m'.Perm (List.range n) ∧ wfrom (fun j k => w (tauN n b j) k) 0 m = wfrom w 0 m' := by
  obtain ⟨g, hg⟩ : ∃ g : Nat → Nat, g = fun j => m.getD j 0 := ⟨_, rfl⟩
  have hm2 : m = (List.range n).map g := by rw [hg]; exact perm_fun hm
  have hT : ((List.range n).map (tauN n b)).Perm (List.range n) := map_perm (g := tauB n b) (fun i _ => tau_lt h1) (fun i hi => (tau_inv h1 h5 hi).2.1)
  have hB : ((List.range n).map (tauB n b)).Perm (List.range n) := map_perm (g := tauN n b) (fun i hi => (tau_inv h1 h5 hi).2.2) (fun i hi => (tau_inv h1 h5 hi).1)
  refine ⟨(List.range n).map (fun i => g (tauB n b i)), ?_, ?_⟩
  · have : (List.range n).map (fun i => g (tauB n b i)) = ((List.range n).map (tauB n b)).map g := by rw [List.map_map]; rfl
    rw [this]
    refine (hB.map g).trans ?_
    rw [← hm2]; exact hm
  · rw [hm2]
    have e1 := wfrom_sum (fun j k => w (tauN n b j) k) g n 0
    have e2 := wfrom_sum w (fun i => g (tauB n b i)) n 0
    rw [← List.range_eq_range'] at e1 e2
    rw [e1, e2]
    have e3 : (List.range n).map (fun i => w (tauN n b i) (g i)) = ((List.range n).map (tauN n b)).map (fun i => w i (g (tauB n b i))) := by
      rw [List.map_map]
      refine List.map_congr_left (fun i hi => ?_)
      simp only [Function.comp_def, (tau_inv h1 h5 (List.mem_range.mp hi)).2.1]
    rw [e3]
    exact isum_perm (hT.map _)
theorem rows_sum' {n b : Nat} (h1 : 1 ≤ n) (h5 : n ≤ 5) (w : Nat → Nat → Int) {m : List Nat} (hm : m.Perm (List.range n)) : ∃ m', m'.Perm (List.range n) ∧ wfrom w 0 m = wfrom (fun j k => w (tauN n b j) k) 0 m' := by
  obtain ⟨g, hg⟩ : ∃ g : Nat → Nat, g = fun j => m.getD j 0 := ⟨_, rfl⟩
  have hm2 : m = (List.range n).map g := by rw [hg]; exact perm_fun hm
  have hT : ((List.range n).map (tauN n b)).Perm (List.range n) := map_perm (g := tauB n b) (fun i _ => tau_lt h1) (fun i hi => (tau_inv h1 h5 hi).2.1)
  refine ⟨(List.range n).map (fun i => g (tauN n b i)), ?_, ?_⟩
  · have : (List.range n).map (fun i => g (tauN n b i)) = ((List.range n).map (tauN n b)).map g := by rw [List.map_map]; rfl
    rw [this]
    refine (hT.map g).trans ?_
    rw [← hm2]; exact hm
  · rw [hm2]
    have e1 := wfrom_sum (fun j k => w (tauN n b j) k) (fun i => g (tauN n b i)) n 0
    have e2 := wfrom_sum w g n 0
    rw [← List.range_eq_range'] at e1 e2
    rw [e1, e2]
    have e3 : (List.range n).map (fun i => w (tauN n b i) (g (tauN n b i))) = ((List.range n).map (tauN n b)).map (fun i => w i (g i)) := by rw [List.map_map]; rfl
    rw [e3]
    exact (isum_perm (hT.map _)).symm
theorem best_eq {w v : Nat → Nat → Int} {n : Nat} (h0 : ∀ m, m.Perm (List.range n) → 0 ≤ wfrom w 0 m) (h0' : ∀ m, m.Perm (List.range n) → 0 ≤ wfrom v 0 m)
    (h1 : ∀ m, m.Perm (List.range n) → ∃ m', m'.Perm (List.range n) ∧ wfrom w 0 m = wfrom v 0 m') (h2 : ∀ m, m.Perm (List.range n) → ∃ m', m'.Perm (List.range n) ∧ wfrom v 0 m = wfrom w 0 m') : (bestA w n).2 = (bestA v n).2 := by
  obtain ⟨p1, e1, b1⟩ := bestA_spec w n h0
  obtain ⟨p2, e2, b2⟩ := bestA_spec v n h0'
  obtain ⟨m, hm, e3⟩ := h1 _ p1
  obtain ⟨m', hm', e4⟩ := h2 _ p2
  have a1 := b2 m hm
  have a2 := b1 m' hm'
  omega
def rowsW (W : List (List Int)) (b : Nat) : List (List Int) := (List.range W.length).map fun i => rd_L1 W (tauN W.length b i : Int)
def colW (W : List (List Int)) (o i m : Nat) : List Int := (List.range m).map fun k => wN W i (sigN W.length o k)
def colsW (W : List (List Int)) (o : Nat) : List (List Int) := (List.range W.length).map fun i => colW W o i W.length
theorem rd_map {f : Nat → List Int} {n j : Nat} (hj : j < n) : rd_L1 ((List.range n).map f) (j : Int) = f j := by
  rw [rd_L1_get (by simpa using hj)]; simp
theorem wish_rent {W : List (List Int)} {s : Int} (h : Wish W W.length s) : rentR W = some s := by
  have hs0 : isum (rd_L1 W 0) = s := h.sum 0 (by have := h.pos; omega)
  unfold rentR
  rw [hs0, if_pos]
  refine ⟨h.pos, h.five, ?_⟩
  unfold rowsOk
  rw [List.all_eq_true]
  intro j hj
  have hj : j < W.length := by have := List.mem_range'_1.mp hj; omega
  simp only [rowOk, Bool.and_eq_true, decide_eq_true_eq]
  refine ⟨h.row j hj, ?_, h.sum j hj⟩
  rw [List.all_eq_true]
  intro x hx
  obtain ⟨k, hk, rfl⟩ := List.getElem_of_mem hx
  rw [← rd_get hk, inW_iff]
  exact h.ent j k hj (by rw [h.row j hj] at hk; exact hk)
theorem rowsW_wish {W : List (List Int)} {s : Int} (h : Wish W W.length s) (b : Nat) : Wish (rowsW W b) (rowsW W b).length s ∧ (rowsW W b).length = W.length := by
  have hl : (rowsW W b).length = W.length := by simp [rowsW]
  have hp := h.pos
  refine ⟨⟨rfl, by omega, by rw [hl]; exact h.five, fun j hj => ?_, fun j k hj hk => ?_, fun j hj => ?_⟩, hl⟩
  · rw [hl] at hj ⊢
    unfold rowsW; rw [rd_map hj]; exact h.row _ (tau_lt hp)
  · rw [hl] at hj hk
    unfold rowsW; rw [rd_map hj]; exact h.ent _ k (tau_lt hp) hk
  · rw [hl] at hj
    unfold rowsW; rw [rd_map hj]; exact h.sum _ (tau_lt hp)
theorem colsW_wish {W : List (List Int)} {s : Int} (h : Wish W W.length s) (o : Nat) : Wish (colsW W o) (colsW W o).length s ∧ (colsW W o).length = W.length := by
  have hl : (colsW W o).length = W.length := by simp [colsW]
  have hp := h.pos
  have h5 := h.five
  have hS : ((List.range W.length).map (sigN W.length o)).Perm (List.range W.length) := map_perm (g := sigN W.length o) (fun i _ => sig_lt hp) (fun i hi => sig_inv hp h5 hi)
  refine ⟨⟨rfl, by omega, by rw [hl]; exact h5, fun j hj => ?_, fun j k hj hk => ?_, fun j hj => ?_⟩, hl⟩
  · rw [hl] at hj ⊢
    unfold colsW; rw [rd_map hj]; simp [colW]
  · rw [hl] at hj hk
    unfold colsW; rw [rd_map hj]
    have : rd (colW W o j W.length) (k : Int) = wN W j (sigN W.length o k) := by
      rw [rd_get (by simpa [colW] using hk)]; simp [colW]
    rw [this]
    exact h.ent j _ hj (sig_lt hp)
  · rw [hl] at hj
    unfold colsW; rw [rd_map hj]
    have e1 : colW W o j W.length = ((List.range W.length).map (sigN W.length o)).map (fun k => wN W j k) := by unfold colW; rw [List.map_map]; rfl
    have e2 : (List.range W.length).map (fun k => wN W j k) = rd_L1 W (j : Int) := by
      refine List.ext_getElem (by rw [h.row j hj]; simp) (fun i h1 h2 => ?_)
      simp only [List.getElem_map, List.getElem_range, wN]
      rw [rd_get (by rw [h.row j hj]; simpa using h1)]
    rw [e1, isum_perm (hS.map _), e2]
    exact h.sum j hj
theorem small_wish {W : List (List Int)} {s : Int} (h : Wish W W.length s) : smallB W = true := by
  simp only [smallB, Bool.and_eq_true, List.all_eq_true, decide_eq_true_eq]
  have h5 := h.five
  refine ⟨by omega, fun r hr => ?_⟩
  obtain ⟨j, hj, rfl⟩ := List.getElem_of_mem hr
  have := h.row j hj
  rw [rd_L1_get hj] at this
  omega
theorem rows_best {W : List (List Int)} {s : Int} (h : Wish W W.length s) (b : Nat) : (bestA (wN (rowsW W b)) (rowsW W b).length).2 = (bestA (wN W) W.length).2 := by
  obtain ⟨h2, hl⟩ := rowsW_wish h b
  rw [hl]
  have hp := h.pos
  have h5 := h.five
  have hw : ∀ a c, a < W.length → c < W.length → wN (rowsW W b) a c = wN W (tauN W.length b a) c := fun a c ha _ => by
    unfold wN rowsW; rw [rd_map ha]
  have hcg : ∀ m : List Nat, m.Perm (List.range W.length) → wfrom (wN (rowsW W b)) 0 m = wfrom (fun j k => wN W (tauN W.length b j) k) 0 m := fun m hm =>
    wfrom_cg m 0 W.length (fun x hx => by simpa using hm.mem_iff.mp hx) (by rw [hm.length_eq]; simp) hw
  refine best_eq (fun m hm => ?_) (fun m hm => h.perm0 m hm) (fun m hm => ?_) (fun m hm => ?_)
  · rw [hl] at h2; exact h2.perm0 m hm
  · rw [hcg m hm]; exact rows_sum hp h5 (wN W) hm
  · obtain ⟨m', hm', e⟩ := rows_sum' (b := b) hp h5 (wN W) hm
    exact ⟨m', hm', by rw [hcg m' hm']; exact e⟩
theorem cols_best {W : List (List Int)} {s : Int} (h : Wish W W.length s) (o : Nat) : (bestA (wN (colsW W o)) (colsW W o).length).2 = (bestA (wN W) W.length).2 := by
  obtain ⟨h2, hl⟩ := colsW_wish h o
  rw [hl]
  have hp := h.pos
  have h5 := h.five
  have hS : ((List.range W.length).map (sigN W.length o)).Perm (List.range W.length) := map_perm (g := sigN W.length o) (fun i _ => sig_lt hp) (fun i hi => sig_inv hp h5 hi)
  have hw : ∀ a c, a < W.length → c < W.length → wN (colsW W o) a c = wN W a (sigN W.length o c) := fun a c ha hc => by
    show rd (rd_L1 (colsW W o) (a : Int)) (c : Int) = _
    unfold colsW; rw [rd_map ha, rd_get (by simpa [colW] using hc)]; simp [colW]
  have hcg : ∀ m : List Nat, m.Perm (List.range W.length) → wfrom (wN (colsW W o)) 0 m = wfrom (wN W) 0 (m.map (sigN W.length o)) := fun m hm => by
    rw [wfrom_cg m 0 W.length (fun x hx => by simpa using hm.mem_iff.mp hx) (by rw [hm.length_eq]; simp) hw, wfrom_cmap (wN W) (sigN W.length o) m 0]
  have hpm : ∀ m : List Nat, m.Perm (List.range W.length) → (m.map (sigN W.length o)).Perm (List.range W.length) := fun m hm => (hm.map _).trans hS
  refine best_eq (fun m hm => ?_) (fun m hm => h.perm0 m hm) (fun m hm => ⟨_, hpm m hm, hcg m hm⟩) (fun m hm => ⟨_, hpm m hm, ?_⟩)
  · rw [hl] at h2; exact h2.perm0 m hm
  · rw [hcg _ (hpm m hm)]
    have : (m.map (sigN W.length o)).map (sigN W.length o) = m := by
      rw [List.map_map]
      refine (List.map_congr_left fun x hx => ?_).trans (List.map_id m)
      exact sig_inv hp h5 (by simpa using hm.mem_iff.mp hx)
    rw [this]
theorem tmod_tau {n b i : Nat} (h1 : 1 ≤ n) (h5 : n ≤ 5) (hb : b ≤ 255) (hi : i < n) : Int.tmod (wrap64 ((i : Int) + wrap64 (b : Int))) (n : Int) = (tauN n b i : Int) := by
  rw [w64 (n := (b : Int)) (by omega) (by omega), w64 (by omega) (by omega), Int.tmod_eq_emod_of_nonneg (by omega)]
  unfold tauN
  rw [Int.natCast_emod, Int.natCast_add]
theorem tmod_sig {n o k : Nat} (h1 : 1 ≤ n) (h5 : n ≤ 5) (ho : o ≤ 255) (hk : k < n) : Int.tmod (wrap64 (wrap64 ((k : Int) * wrap64 ((n : Int) - 1)) + wrap64 (o : Int))) (n : Int) = (sigN n o k : Int) := by
  have e1 : wrap64 ((n : Int) - 1) = ((n - 1 : Nat) : Int) := by rw [w64 (by omega) (by omega)]; omega
  have hm : k * (n - 1) ≤ 25 := Nat.le_trans (Nat.mul_le_mul (show k ≤ 5 by omega) (show n - 1 ≤ 5 by omega)) (by decide)
  rw [e1, ← Int.natCast_mul, w64 (n := ((k * (n - 1) : Nat) : Int)) (by omega) (by omega), w64 (n := (o : Int)) (by omega) (by omega), w64 (by omega) (by omega), Int.tmod_eq_emod_of_nonneg (by omega)]
  unfold sigN
  rw [Int.natCast_emod, Int.natCast_add]
theorem ren_l2 {W : List (List Int)} {s : Int} (h : Wish W W.length s) (o : Nat) (ho : o ≤ 255) (a : Int) (hle : wfrom (wN W) 0 ((List.range W.length).map (tauN W.length o)) ≤ a) : ∀ d k : Nat, k + d = W.length →
    Ev (fun f => trishawlaw08_ShareRenumbered.l2 f W (o : Int) (W.length : Int) a 0 a 0 a 0 (wfrom (wN W) 0 ((List.range k).map (tauN W.length o))) (k : Int)) true
  | 0, k, e => by
    refine Ev.succ ?_
    obtain rfl : k = W.length := by omega
    simp only [trishawlaw08_ShareRenumbered.l2, if_neg (show ¬ (W.length : Int) < (W.length : Int) by omega), if_true, if_pos hle]
    exact alive_ev'
  | d + 1, k, e => by
    refine Ev.succ ?_
    have hp := h.pos
    have h5 := h.five
    have hk : k < W.length := by omega
    have ht := tau_lt (n := W.length) (b := o) (j := k) hp
    have hrow := h.row k hk
    have hent := h.ent k _ hk ht
    have hs := h.sums ((List.range k).map (tauN W.length o)) 0 (fun x hx => by obtain ⟨i, _, rfl⟩ := List.mem_map.mp hx; exact tau_lt hp) (by simp; omega)
    have hlen : ((List.range k).map (tauN W.length o)).length = k := by simp
    rw [hlen] at hs
    have ih := ren_l2 h o ho a hle d (k + 1) (by omega)
    rw [List.range_succ, List.map_append, List.map_cons, List.map_nil, wfrom_app, hlen, Nat.zero_add] at ih
    simp only [trishawlaw08_ShareRenumbered.l2, if_pos (show (k : Int) < (W.length : Int) by omega), if_pos (show (0 : Int) ≤ (k : Int) by omega), if_neg (show ¬ (W.length : Int) = 0 by omega), tmod_tau hp h5 ho hk, if_pos (show (0 : Int) ≤ (tauN W.length o k : Int) by omega), hrow, if_pos (show (tauN W.length o k : Int) < (W.length : Int) by omega), w64s k (show k < 9223372036854775807 by omega)]
    rw [w64 (n := wfrom (wN W) 0 ((List.range k).map (tauN W.length o)) + rd (rd_L1 W (k : Int)) (tauN W.length o k : Int)) (by omega) (by omega)]
    exact ih
theorem ren_l1 {W : List (List Int)} {s : Int} (h : Wish W W.length s) (b o : Nat) (ho : o ≤ 255) (R C : List (List Int)) (hC : C.length ≤ 1000) {i : Nat} (hi : i < W.length) {r : Bool}
    (hr : Ev (fun f => trishawlaw08_ShareRenumbered.l0 f W (b : Int) (o : Int) (W.length : Int) R (C ++ [colW W o i W.length]) ((i + 1 : Nat) : Int)) r) : ∀ d k : Nat, k + d = W.length →
    Ev (fun f => trishawlaw08_ShareRenumbered.l1 f W (b : Int) (o : Int) (W.length : Int) R C (i : Int) (colW W o i k) (k : Int)) r
  | 0, k, e => by
    refine Ev.succ ?_
    have h5 := h.five
    obtain rfl : k = W.length := by omega
    simp only [trishawlaw08_ShareRenumbered.l1, if_neg (show ¬ (W.length : Int) < (W.length : Int) by omega), if_pos (show C.length < 5864062014805 by omega), w64s i (show i < 9223372036854775807 by omega)]
    exact hr
  | d + 1, k, e => by
    refine Ev.succ ?_
    have hp := h.pos
    have h5 := h.five
    have hk : k < W.length := by omega
    have ht := sig_lt (n := W.length) (o := o) (k := k) hp
    have hrow := h.row i hi
    have ih := ren_l1 h b o ho R C hC hi hr d (k + 1) (by omega)
    have ec : colW W o i (k + 1) = colW W o i k ++ [rd (rd_L1 W (i : Int)) (sigN W.length o k : Int)] := by unfold colW; rw [List.range_succ, List.map_append]; rfl
    rw [ec] at ih
    have hcl : (colW W o i k).length = k := by simp [colW]
    simp only [trishawlaw08_ShareRenumbered.l1, if_pos (show (k : Int) < (W.length : Int) by omega), if_pos (show (0 : Int) ≤ (i : Int) by omega), if_pos (show (i : Int) < (W.length : Int) by omega), if_neg (show ¬ (W.length : Int) = 0 by omega), tmod_sig hp h5 ho hk, if_pos (show (0 : Int) ≤ (sigN W.length o k : Int) by omega), hrow, if_pos (show (sigN W.length o k : Int) < (W.length : Int) by omega), hcl, if_pos (show k < 17592186044416 by omega), w64s k (show k < 9223372036854775807 by omega)]
    exact ih
theorem ren_l0 {W : List (List Int)} {s : Int} (h : Wish W W.length s) (b o : Nat) (hb : b ≤ 255) (ho : o ≤ 255) : ∀ d i : Nat, i + d = W.length →
    Ev (fun f => trishawlaw08_ShareRenumbered.l0 f W (b : Int) (o : Int) (W.length : Int) ((List.range i).map fun i => rd_L1 W (tauN W.length b i : Int)) ((List.range i).map fun i => colW W o i W.length) (i : Int)) true
  | 0, i, e => by
    refine Ev.succ ?_
    have hp := h.pos
    have h5 := h.five
    obtain rfl : i = W.length := by omega
    obtain ⟨h2, hl2⟩ := rowsW_wish h b
    obtain ⟨h3, hl3⟩ := colsW_wish h o
    have e1 : assignR W = (cs (bestA (wN W) W.length).1, (bestA (wN W) W.length).2, 0) := by unfold assignR; rw [wish_rent h]
    have e2 : assignR (rowsW W b) = (cs (bestA (wN (rowsW W b)) (rowsW W b).length).1, (bestA (wN W) W.length).2, 0) := by unfold assignR; rw [wish_rent h2, ← rows_best h b]
    have e3 : assignR (colsW W o) = (cs (bestA (wN (colsW W o)) (colsW W o).length).1, (bestA (wN W) W.length).2, 0) := by unfold assignR; rw [wish_rent h3, ← cols_best h o]
    simp only [trishawlaw08_ShareRenumbered.l0, if_neg (show ¬ (W.length : Int) < (W.length : Int) by omega)]
    have a2 : Ev (fun k => share_Assign.f k ((List.range W.length).map fun i => rd_L1 W (tauN W.length b i : Int))) (assignR (rowsW W b)) := Assign_ev (rowsW W b) (small_wish h2)
    have a3 : Ev (fun k => share_Assign.f k ((List.range W.length).map fun i => colW W o i W.length)) (assignR (colsW W o)) := Assign_ev (colsW W o) (small_wish h3)
    refine Ev.bind (Assign_ev W (small_wish h)) (Ev.bind a2 (Ev.bind a3 ?_))
    rw [e1, e2, e3]
    have hT : ((List.range W.length).map (tauN W.length o)).Perm (List.range W.length) := map_perm (g := tauB W.length o) (fun i _ => tau_lt hp) (fun i hi => (tau_inv hp h5 hi).2.1)
    obtain ⟨_, q1, q2⟩ := bestA_spec (wN W) W.length (fun m hm => h.perm0 m hm)
    have := ren_l2 h o ho (bestA (wN W) W.length).2 (by rw [q1]; exact q2 _ hT) W.length 0 (by omega)
    exact this
  | d + 1, i, e => by
    refine Ev.succ ?_
    have hp := h.pos
    have h5 := h.five
    have hi : i < W.length := by omega
    have ht := tau_lt (n := W.length) (b := b) (j := i) hp
    have ih := ren_l0 h b o hb ho d (i + 1) (by omega)
    rw [List.range_succ, List.map_append, List.map_append] at ih
    simp only [trishawlaw08_ShareRenumbered.l0, if_pos (show (i : Int) < (W.length : Int) by omega), if_neg (show ¬ (W.length : Int) = 0 by omega), tmod_tau hp h5 hb hi, if_pos (show (0 : Int) ≤ (tauN W.length b i : Int) by omega), if_pos (show (tauN W.length b i : Int) < (W.length : Int) by omega), List.length_map, List.length_range, if_pos (show i < 5864062014805 by omega)]
    exact ren_l1 h b o ho _ _ (by simp; omega) hi ih W.length 0 (by omega)
theorem ShareRenumbered_ev (W : List (List Int)) (b o : Int) (hb : (Lit.int .u8 b).wf = true) (ho : (Lit.int .u8 o).wf = true) : Ev (fun k => trishawlaw08_ShareRenumbered.f k W b o) true := by
  have hb := wfu8 hb
  have ho := wfu8 ho
  obtain ⟨b, rfl⟩ := Int.eq_ofNat_of_zero_le hb.1
  obtain ⟨o, rfl⟩ := Int.eq_ofNat_of_zero_le ho.1
  unfold trishawlaw08_ShareRenumbered.f
  refine Ev.bind (rrent_ev W) (Ev.bind (small_ev W) ?_)
  have hal : Ev (fun k => trishawlaw08_ShareRenumbered.j0 k W (b : Int) (o : Int) true) true := by
    refine Ev.succ ?_
    simp only [trishawlaw08_ShareRenumbered.j0, if_true]
    exact alive_ev'
  cases hsm : smallB W
  · simp only [Bool.false_eq_true, if_false]; exact hal
  · simp only [if_true]
    unfold rentB
    cases hr : rentR W with
    | none => exact hal
    | some s =>
      refine Ev.succ ?_
      simp only [trishawlaw08_ShareRenumbered.j0, Bool.not_true, Bool.false_eq_true, if_false]
      exact ren_l0 (rent_wish hr) b o (by omega) (by omega) W.length 0 (by omega)
end Go.Proofs.Ytiafiebalibkdaa.OAll
