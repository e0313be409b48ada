/- A part of the proof of 'topReach_holds', for every input, without a condition. -/
import Derived.Test.YtknecgmmpjggiaaDoorTReTn
import Derived.Test.YtknecgmmpjggiaaDoorTReTe
import Derived.Test.YtknecgmmpjggiaaDoorTReOAllx0
import Derived.Test.YtknecgmmpjggiaaDoorTReOAllx6
import Derived.Test.YtknecgmmpjggiaaDoorTReOAllx7
import Derived.Test.YtknecgmmpjggiaaDoorTReOAllx8
import Derived.Test.YtknecgmmpjggiaaDoorTReQh
import Derived.Test.YtknecgmmpjggiaaDoorTReOAllx11
namespace Go.Proofs.YtknecgmmpjggiaaDoor.OAll
open Go.RowKit Go.Proofs.YtknecgmmpjggiaaDoorW.PrintWords Go.Proofs.YtknecgmmpjggiaaDoorW.PrintLast Go.Proofs.YtknecgmmpjggiaaDoorW.PrintMore
set_option linter.unusedVariables false
set_option linter.unusedSimpArgs false
def outW (l : List S30) : List S32 := l.map fun x => ⟨x.f0, x.f1, 0⟩
def bacW (l : List S30) : List S32 := l.map fun x => ⟨x.f1, x.f0, 0⟩
theorem map_read {n : Nat} {l : List S30} (hs : Sane n l) (h2 : 2 ≤ n) (g : S30 → S32) (hg : ∀ x ∈ l, okS (n : Int) (g x)) : readW (n : Int) (l.map g) = 0 := by
  have h7 := hs.1
  have h14 := hs.2.1
  unfold readW
  rw [if_neg (by omega), if_neg (by omega), if_neg (by rw [List.length_map]; omega), if_pos]
  intro x hx
  obtain ⟨y, hy, rfl⟩ := List.mem_map.1 hx
  exact hg y hy
theorem out_read {n : Nat} {l : List S30} (hs : Sane n l) (h2 : 2 ≤ n) : readW (n : Int) (outW l) = 0 := map_read hs h2 _ fun x hx => by
  have := hs.2.2 x hx
  exact ⟨this.1, this.2.2.1, this.2.1, this.2.2.2.1, this.2.2.2.2, by show (0 : Int) ≤ 0; omega, by show (0 : Int) ≤ 1000; omega⟩
theorem bac_read {n : Nat} {l : List S30} (hs : Sane n l) (h2 : 2 ≤ n) : readW (n : Int) (bacW l) = 0 := map_read hs h2 _ fun x hx => by
  have := hs.2.2 x hx
  exact ⟨this.2.2.1, this.1, this.2.2.2.1, this.2.1, fun e => this.2.2.2.2 e.symm, by show (0 : Int) ≤ 0; omega, by show (0 : Int) ≤ 1000; omega⟩
theorem okW_of {n : Nat} {ways : List S32} (hz : readW (n : Int) ways = 0) : OkW n ways := by
  have hq := readW_zero hz
  refine ⟨hq.2.2, fun x hx => ?_⟩
  unfold readW at hz
  rw [if_neg (by omega), if_neg (by omega), if_neg (by omega)] at hz
  split at hz
  · rename_i h
    have := h x hx
    exact ⟨this.1, this.2.2.1, this.2.1, this.2.2.2.1, this.2.2.2.2.1, this.2.2.2.2.2⟩
  · cases hz
theorem rd_map (l : List S30) (g : S30 → S32) {j : Nat} (h : j < l.length) : rd_T32 (l.map g) (j : Int) = g (l[j]) := by
  unfold rd_T32
  rw [Int.toNat_natCast, List.getD_eq_getElem?_getD, List.getElem?_map, List.getElem?_eq_getElem h]; rfl
def rch0 (n : Nat) (ways : List S32) : Nat := itrI (fun _ => true) ways n 1
theorem rch0_eq (n : Nat) (ways : List S32) : rchI (fun _ => false) ways n 0 = rch0 n ways := rfl
theorem rch0_full {n : Nat} {l : List S30} (g : S30 → S32) (h1 : 1 ≤ n) (hs : Sane n l) (hz : readW (n : Int) (l.map g) = 0) : rch0 n (l.map g) = 2 ^ n - 1 ↔ ∀ Z, Z < 2 ^ n → Z.testBit 0 = true → (∀ x ∈ l, inb Z (g x).f0 = true → inb Z (g x).f1 = true) → Z = 2 ^ n - 1 := by
  have hl : (l.map g).length ≤ 14 := by rw [List.length_map]; exact hs.2.1
  have hr := rchI_rch (p := fun _ => false) hs.1 (okW_of hz) hl (f := 0) (by omega)
  rw [rch0_eq] at hr
  have hm : ∀ Z, shut false (arcsI (fun i => !(fun _ => false) i) (l.map g) (l.map g).length 0) Z ↔ ∀ x ∈ l, inb Z (g x).f0 = true → inb Z (g x).f1 = true := fun Z => by
    constructor
    · intro h x hx
      obtain ⟨j, hj, e⟩ := List.getElem_of_mem hx
      have := h (wayS (rd_T32 (l.map g) (j : Int))) ((arcsI_mem _ _ _ _ _).2 ⟨j, Nat.zero_le _, by rw [List.length_map]; omega, rfl, rfl⟩)
      rw [rd_map l g hj, e] at this
      exact this.1
    · intro h s hms
      obtain ⟨j, _, hj, _, e⟩ := (arcsI_mem _ _ _ _ _).1 hms
      rw [List.length_map, Nat.zero_add] at hj
      rw [rd_map l g hj] at e
      rw [e]
      exact ⟨h _ (List.getElem_mem hj), fun h => by cases h⟩
  constructor
  · intro hX Z hZ h0 hc
    have hsub := hr.1.least Z h0 ((hm Z).2 hc)
    rw [hX] at hsub
    exact subB_antisymm (subB_full hZ) hsub
  · intro h
    exact h _ hr.1.lt hr.1.has ((hm _).1 hr.2)
theorem strong_both {n : Nat} {l : List S30} (h2 : 2 ≤ n) (hs : Sane n l) : cutsN n l = [] ↔ rch0 n (outW l) = 2 ^ n - 1 ∧ rch0 n (bacW l) = 2 ^ n - 1 := by
  rw [str_cuts]
  unfold outW bacW
  rw [rch0_full _ (by omega) hs (out_read hs h2), rch0_full _ (by omega) hs (bac_read hs h2)]
  have hp1 : 1 < 2 ^ n := Nat.one_lt_two_pow (by omega)
  constructor
  · intro h
    refine ⟨fun Z hZ h0 hc => Classical.byContradiction fun hne => ?_, fun Z hZ h0 hc => Classical.byContradiction fun hne => ?_⟩
    · have c0 : 0 < compN n Z := Nat.pos_of_ne_zero fun e => hne (Nat.eq_of_testBit_eq fun i => by
        rw [full_bit]
        have := compN_bit hZ i
        rw [e, Nat.zero_testBit] at this
        by_cases hi : i < n
        · rw [decide_eq_true hi] at this ⊢
          cases hb : Z.testBit i
          · rw [hb] at this; cases this
          · rfl
        · rw [decide_eq_false hi]
          cases hb : Z.testBit i
          · rfl
          · exact absurd (bit_in hZ hb) hi)
      have hlt := compN_lt hZ
      have c1 : compN n Z < 2 ^ n - 1 := by
        rcases Nat.lt_or_ge (compN n Z) (2 ^ n - 1) with g | g
        · exact g
        · have e : compN n Z = 2 ^ n - 1 := by omega
          have := compN_bit hZ 0
          rw [e, full_bit, h0] at this
          simp at this; omega
      obtain ⟨s, hm, hb⟩ := h _ c0 c1
      obtain ⟨b0, b1⟩ := (back_iff _ _).1 hb
      have he := hs.2.2 s hm
      rw [compN_inb hZ he.1 he.2.1] at b0
      rw [compN_inb hZ he.2.2.1 he.2.2.2.1] at b1
      have := hc s hm (by simpa using b0)
      have b1' : inb Z s.f1 = false := by simpa using b1
      have this' : inb Z s.f1 = true := this
      rw [b1'] at this'; cases this'
    · have c0 : 0 < Z := Nat.pos_of_ne_zero fun e => by rw [e] at h0; simp at h0
      obtain ⟨s, hm, hb⟩ := h Z c0 (by omega)
      obtain ⟨b0, b1⟩ := (back_iff _ _).1 hb
      have : inb Z s.f0 = true := hc s hm b1
      rw [b0] at this; cases this
  · rintro ⟨hX, hY⟩ W W0 W1
    refine Classical.byContradiction fun hn => ?_
    have hno : ∀ s ∈ l, backS W s = false := fun s hm => by
      cases hb : backS W s
      · rfl
      · exact absurd ⟨s, hm, hb⟩ hn
    have hW : W < 2 ^ n := by omega
    cases h0 : W.testBit 0
    · have := hX (compN n W) (compN_lt hW) (by rw [compN_bit hW, h0]; simp; omega) fun s hm hf => by
        have he := hs.2.2 s hm
        have hf' : inb (compN n W) s.f0 = true := hf
        show inb (compN n W) s.f1 = true
        rw [compN_inb hW he.1 he.2.1] at hf'
        rw [compN_inb hW he.2.2.1 he.2.2.2.1]
        cases h1 : inb W s.f1
        · rfl
        · have := hno s hm
          rw [(back_iff W s).2 ⟨by simpa using hf', h1⟩] at this; cases this
      obtain ⟨i, hi⟩ := Nat.exists_testBit_of_ne_zero (Nat.pos_iff_ne_zero.1 W0)
      have h1 := congrArg (fun z => z.testBit i) this
      simp only [compN_bit hW, full_bit, hi, Bool.not_true, Bool.and_false] at h1
      simp [bit_in hW hi] at h1
    · have := hY W hW h0 fun s hm hf => by
        have hf' : inb W s.f1 = true := hf
        show inb W s.f0 = true
        cases h1 : inb W s.f0
        · have := hno s hm
          rw [(back_iff W s).2 ⟨h1, hf'⟩] at this; cases this
        · rfl
      omega
theorem braE_eq {n : Nat} {ways : List S32} (h2 : 2 ≤ n) (hz : readW (n : Int) ways = 0) (h14 : ways.length ≤ 14) : braE n ways = if rch0 n ways = 2 ^ n - 1 then 0 else 10 := by
  unfold braE
  have := alone_zero (p := fun _ => false) (by omega) (readW_zero hz |>.2.1 |> fun h => by omega) (okW_of hz) h14
  rw [rch0_eq] at this
  by_cases h : rch0 n ways = 2 ^ n - 1
  · rw [if_pos h, if_pos (this.2 h)]
  · rw [if_neg h, if_neg (fun e => h (this.1 e))]
def strS (a : Int) (l : List S30) (s : ByteArray) : Bool × Int := if readO a l = 0 then (if s.size = l.length ∧ Lib.trimS s.data.toList [60, 62] = [] then ((cutsN a.toNat (signFrom s 0 l)).isEmpty, 0) else (false, 5)) else (false, readO a l)
theorem strong_strS (a : Int) (l : List S30) (s : ByteArray) : Ev (fun k => oneway_Strong.f k a l s) (strS a l s) := by
  unfold oneway_Strong.f oneway_drawn.f strS
  by_cases hr : readO a l = 0
  · obtain ⟨hs, h1, ha⟩ := read_sane hr
    have h14 := hs.2.1
    have hread := oread_ev a l
    rw [if_pos hr] at hread
    rw [if_pos hr]
    have hstep : ∀ r, Ev (fun k => oneway_drawn.l0 k ([] : List (List S30)) [s] (([s] : List ByteArray).length : Int) 0 a l) r → Ev (fun k => (oneway_read.f k a l).bind fun bt162 => if bt162.2.2 = 0 then oneway_drawn.l0 k ([] : List (List S30)) [s] (([s] : List ByteArray).length : Int) 0 bt162.1 bt162.2.1 else some (bt162.1, bt162.2.1, ([] : List (List S30)), bt162.2.2)) r := fun r h => Ev.bind hread (by simp only [if_true]; exact h)
    by_cases hv : s.size = l.length ∧ Lib.trimS s.data.toList [60, 62] = []
    · rw [if_pos hv]
      have hsg : oneway_quarter_signed.f a l s = some (signFrom s 0 l, true) := by
        unfold oneway_quarter_signed.f
        rw [if_pos ⟨hv.1, by rw [hv.1]; omega⟩, if_pos hv.2, if_pos (by omega)]
      have hd : Ev (fun k => oneway_drawn.l0 k ([] : List (List S30)) [s] (([s] : List ByteArray).length : Int) 0 a l) (a, l, [signFrom s 0 l], 0) := by
        refine Ev.succ (Ev.succ ?_)
        simp [oneway_drawn.l0, rdOf, hsg, wrap64]
        exact Ev.pure _
      refine Ev.bind (hstep _ hd) ?_
      have hst := strong_ev (sane_arcs (sign_sane hs s))
      rw [ha] at hst
      simp only [if_true, List.length_cons, List.length_nil]
      refine Ev.bind (a := (cutsN a.toNat (signFrom s 0 l)).isEmpty) ?_ (Ev.pure _)
      exact hst
    · rw [if_neg hv]
      have hsg : oneway_quarter_signed.f a l s = some ([], false) := by
        unfold oneway_quarter_signed.f
        by_cases hsz : s.size = l.length
        · rw [if_pos ⟨hsz, by rw [hsz]; omega⟩, if_neg (fun e => hv ⟨hsz, e⟩)]
        · rw [if_neg (fun e => hsz e.1), if_neg hsz]
      have hd : Ev (fun k => oneway_drawn.l0 k ([] : List (List S30)) [s] (([s] : List ByteArray).length : Int) 0 a l) (a, l, [], 5) := by
        refine Ev.succ ?_
        simp [oneway_drawn.l0, rdOf, hsg]
        exact Ev.pure _
      refine Ev.bind (hstep _ hd) ?_
      simp only [Int.reduceEq, if_false]
      exact Ev.pure _
  · have hread := oread_ev a l
    rw [if_neg hr] at hread
    rw [if_neg hr]
    refine Ev.bind (a := ((0 : Int), ([] : List S30), ([] : List (List S30)), readO a l)) (Ev.bind hread ?_) ?_
    · simp only [if_neg hr]; exact Ev.pure _
    · simp only [if_neg hr]; exact Ev.pure _
theorem reach_f {a : Int} {ways : List S32} (h : readW a ways = 0) : branch_Reach.f a ways = some (((rch0 a.toNat ways : Nat) : Int), 0) := by unfold branch_Reach.f; rw [if_pos h]; rfl
theorem branching_f {a : Int} {ways : List S32} (h : readW a ways = 0) (h14 : ways.length ≤ 14) (hc : ∀ x ∈ ways, x.f2 = 0) : branch_Branching.f a ways = some ([], 0, braE a.toNat ways) := by unfold branch_Branching.f; rw [if_pos ⟨h, h14, hc⟩]
theorem tr_l0 {a : Int} {al : List S30} (h2 : 2 ≤ a) (ha : ((a.toNat : Nat) : Int) = a) (hs : Sane a.toNat al) (b : Bool) (hb : b = (cutsN a.toNat al).isEmpty) : ∀ (suf pre : List S30), al = pre ++ suf →
    Ev (fun k => trishawtop_TopReach.l0 k a b (outW pre) (bacW pre) al pre.length) true := by
  have h14 := hs.2.1
  intro suf
  induction suf with
  | nil =>
    intro pre e
    rw [List.append_nil] at e
    subst e
    have e3 : ¬ (al.length : Int) < (al.length : Int) := by omega
    have z1 := out_read hs (by omega)
    have z2 := bac_read hs (by omega)
    rw [ha] at z1 z2
    have l1 : (outW al).length ≤ 14 := by unfold outW; rw [List.length_map]; exact h14
    have l2 : (bacW al).length ≤ 14 := by unfold bacW; rw [List.length_map]; exact h14
    have c1 : ∀ x ∈ outW al, x.f2 = 0 := fun x hx => by obtain ⟨y, _, rfl⟩ := List.mem_map.1 hx; rfl
    have c2 : ∀ x ∈ bacW al, x.f2 = 0 := fun x hx => by obtain ⟨y, _, rfl⟩ := List.mem_map.1 hx; rfl
    have e1 := braE_eq (n := a.toNat) (ways := outW al) (by omega) (by rw [ha]; exact z1) l1
    have e2 := braE_eq (n := a.toNat) (ways := bacW al) (by omega) (by rw [ha]; exact z2) l2
    have hst := strong_both (n := a.toNat) (by omega) hs
    have hw : wrap64 (wrap64 (2 ^ a.toNat) - 1) = ((2 ^ a.toNat - 1 : Nat) : Int) := by
      have := full_w (n := a.toNat) hs.1
      rwa [Int.toNat_natCast] at this
    obtain ⟨X, hX⟩ : ∃ X, X = rch0 a.toNat (outW al) := ⟨_, rfl⟩
    obtain ⟨Y, hY⟩ : ∃ Y, Y = rch0 a.toNat (bacW al) := ⟨_, rfl⟩
    obtain ⟨F, hF⟩ : ∃ F, F = 2 ^ a.toNat - 1 := ⟨_, rfl⟩
    rw [← hX, ← hF] at e1
    rw [← hY, ← hF] at e2
    rw [← hX, ← hY, ← hF] at hst
    rw [← hF] at hw
    refine Ev.succ ?_
    simp only [trishawtop_TopReach.l0, e3, if_false, reach_f z1, reach_f z2, branching_f z1 l1 c1, branching_f z2 l2 c2, Option.bind_some, if_true, show (0 : Int) ≤ a by omega, show a ≤ 64 by (have := hs.1; omega), hw, ← hX, ← hY, e1, e2, Int.natCast_inj, trishawtop_streets.f]
    by_cases gX : X = F
    · by_cases gY : Y = F
      · have hbt : b = true := by rw [hb, List.isEmpty_iff]; exact hst.2 ⟨gX, gY⟩
        simp only [gX, gY, hbt, if_true, beq_self_eq_true]
        exact Ev.pure _
      · have hbt : b = false := by
          rw [hb]; cases hq : (cutsN a.toNat al).isEmpty
          · rfl
          · exact absurd (hst.1 (List.isEmpty_iff.1 hq)).2 gY
        have q1 : ((Y : Int) == (F : Int)) = false := beq_eq_false_iff_ne.2 (by omega)
        simp [gX, gY, hbt, q1]
        exact Ev.pure _
    · have hbt : b = false := by
        rw [hb]; cases hq : (cutsN a.toNat al).isEmpty
        · rfl
        · exact absurd (hst.1 (List.isEmpty_iff.1 hq)).1 gX
      simp [gX, hbt]
      exact Ev.pure _
  | cons x t ih =>
    intro pre e
    have hn : pre.length < 14 := by rw [e] at h14; simp at h14; omega
    have e7 : (pre ++ [x]).length = pre.length + 1 := by simp
    have e1 : wrap64 ((pre.length : Int) + 1) = (((pre ++ [x]).length : Nat) : Int) := by
      rw [w64s _ (by omega), e7]
    have e2 : rd_T30 al (pre.length : Int) = x := by rw [e]; exact rd30_mid _ _ _
    have e3 : (pre.length : Int) < (al.length : Int) := by rw [e]; exact mid_lt _ _ _
    have l1 : (outW pre).length < 5864062014805 := by unfold outW; rw [List.length_map]; omega
    have l2 : (bacW pre).length < 5864062014805 := by unfold bacW; rw [List.length_map]; omega
    have o1 : outW pre ++ [(⟨x.f0, x.f1, 0⟩ : S32)] = outW (pre ++ [x]) := by simp [outW]
    have o2 : bacW pre ++ [(⟨x.f1, x.f0, 0⟩ : S32)] = bacW (pre ++ [x]) := by simp [bacW]
    refine Ev.succ ?_
    simp only [trishawtop_TopReach.l0, e1, e2, e3, nonneg_len, if_true, l1, l2, o1, o2]
    exact ih (pre ++ [x]) (by rw [e]; simp)
theorem TopReach_ev (a : Int) (l : List S30) (s : ByteArray) : Ev (fun k => trishawtop_TopReach.f k a l s) true := by
  have htrue : Ev (fun k => trishawtop_TopReach.j0 k a l s true) true := by
    refine Ev.succ ?_
    simp only [trishawtop_TopReach.j0, if_true, trishawtop_streets.f, Option.bind_some]
    exact Ev.pure _
  unfold trishawtop_TopReach.f
  by_cases h14 : l.length > 14
  · exact Ev.congr (fun k => if_pos (by omega)) htrue
  refine Ev.congr (fun k => if_neg (by omega)) ?_
  by_cases h2 : a < 2
  · rw [decide_eq_true h2]; exact htrue
  rw [decide_eq_false h2]
  refine Ev.succ ?_
  simp only [trishawtop_TopReach.j0, Bool.false_eq_true, if_false]
  refine Ev.bind (strong_strS a l s) ?_
  unfold strS
  by_cases hr : readO a l = 0
  · obtain ⟨hs, h1, ha⟩ := read_sane hr
    rw [if_pos hr]
    by_cases hv : s.size = l.length ∧ Lib.trimS s.data.toList [60, 62] = []
    · rw [if_pos hv]
      simp only [if_true]
      refine Ev.bind (along_ev (by omega) s hv.1) ?_
      exact tr_l0 (by omega) ha (sign_sane hs s) _ rfl (signFrom s 0 l) [] rfl
    · rw [if_neg hv]
      simp only [Int.reduceEq, if_false, Bool.false_eq_true, trishawtop_streets.f, Option.bind_some]
      exact Ev.pure _
  · rw [if_neg hr]
    simp only [if_neg hr, Bool.false_eq_true, if_false, trishawtop_streets.f, Option.bind_some]
    exact Ev.pure _
theorem TopReach_ex (a : Int) (l : List S30) (s : ByteArray) : ∃ k, trishawtop_TopReach.f k a l s = some true := (TopReach_ev a l s).ex
end Go.Proofs.YtknecgmmpjggiaaDoor.OAll
