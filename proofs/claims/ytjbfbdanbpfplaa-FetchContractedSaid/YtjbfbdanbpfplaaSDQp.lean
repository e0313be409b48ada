/- A part of the proof of 'fetchContracted_holds', for every input, without a condition. -/
import Derived.Test.YtjbfbdanbpfplaaSDQo
import Derived.Test.YtjbfbdanbpfplaaSDQn
namespace Go.Proofs.Ytjbfbdanbpfplaa.OAll
open Go.RowKit Go.Proofs.YtjbfbdanbpfplaaW.PrintWords Go.Proofs.YtjbfbdanbpfplaaW.PrintLast Go.Proofs.YtjbfbdanbpfplaaW.PrintMore
set_option linter.unusedVariables false
set_option linter.unusedSimpArgs false
def toL (lo hi n : Nat) : List Nat := (List.range n).map (toF lo hi)
theorem toL_get {lo hi n v : Nat} (hv : v < n) : rd (ints (toL lo hi n)) (v : Int) = (toF lo hi v : Nat) := by
  rw [rd_ints _ _ (by rw [toL, List.length_map, List.length_range]; exact hv)]
  simp [toL]
theorem set_mid (p t : List Int) (x y : Int) : (p ++ x :: t).set p.length y = p ++ y :: t := by simp
theorem con_l0 (n lo hi : Nat) (h1 : lo < hi) (h2 : hi < n) (hn : n ≤ 7) (st : List S34)
    (next : Ev (fun k => trishawlaw09_FetchContracted.l1 k n st lo hi (ints (toL lo hi n)) [] 0) true) : ∀ (d i : Nat), i + d = n →
    Ev (fun k => trishawlaw09_FetchContracted.l0 k n st lo hi (ints (toL lo hi i) ++ List.replicate d 0) i) true := by
  intro d
  induction d with
  | zero =>
    intro i hi'
    obtain rfl : i = n := by omega
    have e3 : ¬ (i : Int) < (i : Int) := by omega
    refine Ev.succ ?_
    simp only [trishawlaw09_FetchContracted.l0, e3, if_false, List.replicate_zero, List.append_nil]
    exact next
  | succ d ih =>
    intro i hi'
    have e3 : (i : Int) < (n : Int) := by omega
    have hiw : i < 9223372036854775807 := by omega
    have hlen : (ints (toL lo hi i)).length = i := by rw [ints_len, toL, List.length_map, List.length_range]
    have e4 : (i : Int) < ((ints (toL lo hi i) ++ List.replicate (d + 1) (0 : Int)).length : Int) := by
      rw [List.length_append, hlen, List.length_replicate]; omega
    have hset : ∀ y : Int, (ints (toL lo hi i) ++ List.replicate (d + 1) (0 : Int)).set i y = ints (toL lo hi i) ++ y :: List.replicate d 0 := fun y => by
      have := set_mid (ints (toL lo hi i)) (List.replicate d 0) 0 y
      rw [hlen] at this
      exact this
    have hset2 : ∀ x y : Int, (ints (toL lo hi i) ++ x :: List.replicate d 0).set i y = ints (toL lo hi i) ++ y :: List.replicate d 0 := fun x y => by
      have := set_mid (ints (toL lo hi i)) (List.replicate d 0) x y
      rw [hlen] at this
      exact this
    have hgo : ints (toL lo hi i) ++ ((toF lo hi i : Nat) : Int) :: List.replicate d 0 = ints (toL lo hi (i + 1)) ++ List.replicate d 0 := by
      rw [toL, toL, List.range_succ, List.map_append, ints_append]
      simp [ints]
    have ih' := ih (i + 1) (by omega)
    rw [← hgo] at ih'
    refine Ev.succ ?_
    simp only [trishawlaw09_FetchContracted.l0, e3, e4, if_true, Int.natCast_nonneg, Int.toNat_natCast, Option.bind_some, hset, hset2, w64s i hiw]
    by_cases c1 : i = hi
    · have c1' : (i : Int) = (hi : Int) := by omega
      have : toF lo hi i = lo := by rw [toF, if_pos c1]
      rw [this] at ih'
      simp only [c1', if_true]
      subst c1
      exact ih'
    · have c1' : ¬ (i : Int) = (hi : Int) := by omega
      by_cases c2 : i > hi
      · have c2' : (i : Int) > (hi : Int) := by omega
        have : toF lo hi i = i - 1 := by rw [toF, if_neg c1, if_pos c2]
        rw [this] at ih'
        have s1 : ((i : Int) - 1) = ((i - 1 : Nat) : Int) := by omega
        have s2 : i - 1 ≤ 9223372036854775807 := by omega
        simp only [c1', c2', if_true, if_false, s1, w64n _ s2]
        exact ih'
      · have c2' : ¬ (i : Int) > (hi : Int) := by omega
        have : toF lo hi i = i := by rw [toF, if_neg c1, if_neg c2]
        rw [this] at ih'
        simp only [c1', c2', if_false]
        exact ih'
theorem conSt_append (lo hi : Nat) (a b : List S34) : conSt lo hi (a ++ b) = conSt lo hi a ++ conSt lo hi b := by
  rw [conSt, conSt, conSt, List.filter_append, List.map_append]
theorem con_l1 {n : Nat} {st : List S34} (hs : Sane n st) (lo hi : Nat)
    (next : Ev (fun k => (fetch_Cuts.f k n st).bind fun bt299 => ((fetch_Cuts.f k (wrap64 ((n : Int) - 1)) (conSt lo hi st)).bind fun bt303 => (if bt299.2 = 0 then (trishawlaw09_FetchContracted.j3 k n lo hi (ints (toL lo hi n)) bt299.1 bt303.1 (bt303.2 != 0)) else (trishawlaw09_FetchContracted.j3 k n lo hi (ints (toL lo hi n)) bt299.1 bt303.1 true)))) true) : ∀ (suf pre : List S34), st = pre ++ suf →
    Ev (fun k => trishawlaw09_FetchContracted.l1 k n st lo hi (ints (toL lo hi n)) (conSt lo hi pre) pre.length) true := by
  have h14 := hs.2.1
  intro suf
  induction suf with
  | nil =>
    intro pre e
    have e3 : ¬ (pre.length : Int) < (st.length : Int) := by rw [e]; simp
    have e0 : pre = st := by rw [e, List.append_nil]
    refine Ev.succ ?_
    simp only [trishawlaw09_FetchContracted.l1, e3, if_false]
    rw [e0]
    exact next
  | cons x t ih =>
    intro pre e
    have e3 : (pre.length : Int) < (st.length : Int) := by rw [e]; simp; omega
    have hpl := sane_len hs e
    have hm := sane_mem hs e
    have hiw : pre.length < 9223372036854775807 := by omega
    have e2 : rd_T34 st (pre.length : Int) = x := by rw [e]; exact rd34_mid _ _ _
    have hll : (ints (toL lo hi n)).length = n := by rw [ints_len, toL, List.length_map, List.length_range]
    have e4 : x.f0 < ((ints (toL lo hi n)).length : Int) := by rw [hll]; exact hm.2.1
    have e5 : x.f1 < ((ints (toL lo hi n)).length : Int) := by rw [hll]; exact hm.2.2.2.1
    have r0 : rd (ints (toL lo hi n)) x.f0 = (toF lo hi x.f0.toNat : Nat) := by
      have := toL_get (lo := lo) (hi := hi) (n := n) (v := x.f0.toNat) (by omega)
      rwa [show ((x.f0.toNat : Nat) : Int) = x.f0 from by omega] at this
    have r1 : rd (ints (toL lo hi n)) x.f1 = (toF lo hi x.f1.toNat : Nat) := by
      have := toL_get (lo := lo) (hi := hi) (n := n) (v := x.f1.toNat) (by omega)
      rwa [show ((x.f1.toNat : Nat) : Int) = x.f1 from by omega] at this
    have hcl : (conSt lo hi pre).length < 8796093022208 := by
      have := List.length_filter_le (fun s : S34 => !(toF lo hi s.f0.toNat == toF lo hi s.f1.toNat)) pre
      rw [conSt, List.length_map]; omega
    have ih' := ih (pre ++ [x]) (by rw [e]; simp)
    rw [List.length_append, conSt_append] at ih'
    refine Ev.succ ?_
    simp only [trishawlaw09_FetchContracted.l1, e3, if_true, Int.natCast_nonneg, e2, hm.1, hm.2.2.1, e4, e5, r0, r1, w64s _ hiw, hcl, Int.natCast_inj]
    by_cases he : toF lo hi x.f0.toNat = toF lo hi x.f1.toNat
    · simp only [he, if_true]
      have : conSt lo hi [x] = [] := by simp [conSt, he]
      rw [this, List.append_nil] at ih'
      exact ih'
    · simp only [he, if_false]
      have : conSt lo hi [x] = [toS lo hi x] := by simp [conSt, he]
      rw [this] at ih'
      exact ih'
theorem con_l4 (n lo hi : Nat) (tl c1 c2 : List Int) (m : Int) (i : Nat) (hiw : i < 9223372036854775807) (x : Int) (hc : c2.length < 9223372036854775807) (next : Ev (fun k => trishawlaw09_FetchContracted.l2 k n lo hi tl c1 c2 m ((i + 1 : Nat) : Int)) true) :
    ∀ (d j : Nat) (b : Bool), j + d = c2.length → (b = true ∨ ∃ q, j ≤ q ∧ ∃ h : q < c2.length, c2[q] = x) → Ev (fun k => trishawlaw09_FetchContracted.l4 k n lo hi tl c1 c2 m i x b j) true := by
  intro d
  induction d with
  | zero =>
    intro j b hj hb
    have e3 : ¬ (j : Int) < (c2.length : Int) := by omega
    have hb' : b = true := hb.elim id fun ⟨q, h1, h2, _⟩ => by omega
    refine Ev.succ ?_
    simp only [trishawlaw09_FetchContracted.l4, e3, if_false, hb', if_true, w64s i hiw]
    exact next
  | succ d ih =>
    intro j b hj hb
    have hjl : j < c2.length := by omega
    have e3 : (j : Int) < (c2.length : Int) := by omega
    have hjw : j < 9223372036854775807 := by omega
    have r1 : rd c2 (j : Int) = c2[j] := by simp [rd, hjl]
    refine Ev.succ ?_
    cases b
    · simp only [trishawlaw09_FetchContracted.l4, e3, if_true, Bool.false_eq_true, if_false, Int.natCast_nonneg, r1, w64s j hjw]
      refine ih (j + 1) _ (by omega) ?_
      rcases hb with hb | ⟨q, h1, h2, h3⟩
      · cases hb
      · by_cases hq : q = j
        · subst hq; exact Or.inl (beq_iff_eq.mpr h3)
        · exact Or.inr ⟨q, by omega, h2, h3⟩
    · simp only [trishawlaw09_FetchContracted.l4, e3, if_true, w64s j hjw]
      exact ih (j + 1) true (by omega) (Or.inl rfl)
theorem con_l3 (n lo hi : Nat) (h1 : lo < hi) (h2 : hi < n) (hn : n ≤ 7) (c1 c2 : List Int) (m : Int) (i : Nat) (hi' : i < c1.length) (X : Nat) (hX : rd c1 (i : Int) = (X : Int))
    (next : Ev (fun k => trishawlaw09_FetchContracted.l4 k n lo hi (ints (toL lo hi n)) c1 c2 m i ((imgN n lo hi X : Nat) : Int) false 0) true) :
    ∀ (d v acc : Nat), v + d = n → acc < 2 ^ 7 → imgFrom lo hi X v d acc = imgN n lo hi X → Ev (fun k => trishawlaw09_FetchContracted.l3 k n lo hi (ints (toL lo hi n)) c1 c2 m i acc v) true := by
  intro d
  induction d with
  | zero =>
    intro v acc hv ha he
    have e3 : ¬ (v : Int) < (n : Int) := by omega
    refine Ev.succ ?_
    simp only [trishawlaw09_FetchContracted.l3, e3, if_false]
    rw [imgFrom] at he
    rw [he]; exact next
  | succ d ih =>
    intro v acc hv ha he
    have hvn : v < n := by omega
    have e3 : (v : Int) < (n : Int) := by omega
    have e4 : (i : Int) < (c1.length : Int) := by omega
    have h64 : (v : Int) ≤ 64 := by omega
    have hvw : v < 9223372036854775807 := by omega
    have hll : (ints (toL lo hi n)).length = n := by rw [ints_len, toL, List.length_map, List.length_range]
    have e5 : (v : Int) < ((ints (toL lo hi n)).length : Int) := by rw [hll]; exact e3
    have hf := toF_lt h1 h2 hvn
    have hf64 : ((toF lo hi v : Nat) : Int) ≤ 64 := by omega
    have hf62 : toF lo hi v ≤ 62 := by omega
    have hp : 2 ^ toF lo hi v < 2 ^ 7 := Nat.pow_lt_pow_right (by decide) (by omega)
    have hp3 : 2 ^ toF lo hi v < 2 ^ 63 := by omega
    have ha3 : acc < 2 ^ 63 := by omega
    rw [imgFrom] at he
    refine Ev.succ ?_
    simp only [trishawlaw09_FetchContracted.l3, e3, e4, e5, if_true, Int.natCast_nonneg, h64, hX, bit_mod, toL_get hvn, hf64, w64s v hvw, w64pow hf62, or_nat _ _ ha3 hp3, Int.toNat_natCast]
    cases hb : X.testBit v
    · rw [hb] at he
      simp only [Bool.false_eq_true, if_false, Int.zero_ne_one]
      exact ih (v + 1) acc (by omega) ha he
    · rw [hb] at he
      simp only [if_true]
      exact ih (v + 1) _ (by omega) (Nat.or_lt_two_pow ha hp) he
theorem con_l2 {n : Nat} {st : List S34} (hs : Sane n st) {lo hi : Nat} (h1 : lo < hi) (h2 : hi < n) : ∀ (suf pre : List Nat), cutsN n st = pre ++ suf →
    Ev (fun k => trishawlaw09_FetchContracted.l2 k n lo hi (ints (toL lo hi n)) (ints (cutsN n st)) (ints (cutsN (n - 1) (conSt lo hi st))) ((pre.filter fun X => X.testBit lo == X.testBit hi).length : Int) pre.length) true := by
  have hsm := cutsN_small hs
  have hsm2 := cutsN_small (sane_con hs h1 h2)
  have h7 := hs.1
  intro suf
  induction suf with
  | nil =>
    intro pre e
    have e0 : pre = cutsN n st := by rw [e, List.append_nil]
    have e3 : ¬ (pre.length : Int) < ((ints (cutsN n st)).length : Int) := by rw [ints_len, e0]; omega
    have e4 : ((pre.filter fun X => X.testBit lo == X.testBit hi).length : Int) = ((ints (cutsN (n - 1) (conSt lo hi st))).length : Int) := by
      rw [ints_len, e0, con_count hs h1 h2]
    refine Ev.succ ?_
    simp only [trishawlaw09_FetchContracted.l2, e3, if_false, e4, if_true]
    exact alive_ev'
  | cons X t ih =>
    intro pre e
    have hXm : X ∈ cutsN n st := by rw [e]; simp
    have hpl : pre.length < 127 := by rw [e] at hsm; simp at hsm; omega
    have e3 : (pre.length : Int) < ((ints (cutsN n st)).length : Int) := by rw [ints_len, e]; simp; omega
    have hiw : pre.length < 9223372036854775807 := by omega
    have r1 : rd (ints (cutsN n st)) (pre.length : Int) = (X : Int) := by rw [e]; exact rd_intsmid pre t X
    have l64 : (lo : Int) ≤ 64 := by omega
    have g64 : (hi : Int) ≤ 64 := by omega
    have ih' := ih (pre ++ [X]) (by rw [e]; simp)
    rw [List.length_append, List.filter_append] at ih'
    have hfl := List.length_filter_le (fun X : Nat => X.testBit lo == X.testBit hi) pre
    have hfw : (pre.filter fun X => X.testBit lo == X.testBit hi).length < 9223372036854775807 := by omega
    have eb : ((if X.testBit lo = true then (1 : Int) else 0) = (if X.testBit hi = true then 1 else 0)) ↔ X.testBit lo = X.testBit hi := by
      cases X.testBit lo <;> cases X.testBit hi <;> simp
    refine Ev.succ ?_
    simp only [trishawlaw09_FetchContracted.l2, e3, if_true, Int.natCast_nonneg, r1, l64, g64, bit_mod, Int.toNat_natCast, eb, w64s _ hiw, w64s _ hfw]
    by_cases hb : X.testBit lo = X.testBit hi
    · simp only [hb, if_true]
      have hf : [X].filter (fun X => X.testBit lo == X.testBit hi) = [X] := by simp [hb]
      rw [hf, List.length_append] at ih'
      refine con_l3 n lo hi h1 h2 h7 _ _ _ pre.length (by rw [ints_len, e]; simp) X r1 ?_ n 0 0 (by omega) (by decide) rfl
      refine con_l4 n lo hi _ _ _ _ pre.length hiw _ (by rw [ints_len]; omega) ih' _ 0 false (Nat.zero_add _) (Or.inr ?_)
      obtain ⟨q, hq, eq⟩ := List.getElem_of_mem (con_img hs h1 h2 hXm hb)
      exact ⟨q, Nat.zero_le _, by rw [ints_len]; exact hq, by simp [ints, eq]⟩
    · simp only [hb, if_false]
      have hf : [X].filter (fun X => X.testBit lo == X.testBit hi) = [] := by simp [hb]
      rw [hf, List.append_nil] at ih'
      exact ih'
theorem st_ne {n : Nat} {st : List S34} (hs : Sane n st) (h2 : 2 ≤ n) (hc : connB n st = true) : 0 < st.length := by
  rcases Nat.eq_zero_or_pos st.length with h | h
  · have e : st = [] := List.length_eq_zero_iff.mp h
    have h4 : (2 : Nat) ^ 2 ≤ 2 ^ n := Nat.pow_le_pow_right (by decide) h2
    have := (conn_iff hs (by omega)).mp hc 1 (by omega) (by decide) (by rw [e]; intro s hs'; cases hs')
    omega
  · exact h
theorem tmod_nat3 (a : Nat) {l : Nat} (h : 0 < l) : Int.tmod (a : Int) (l : Int) = ((a % l : Nat) : Int) := by
  rw [Int.tmod_eq_emod_of_nonneg (Int.natCast_nonneg _)]; omega
theorem wf8c {x : Int} (h : (Lit.int .u8 x).wf = true) : 0 ≤ x ∧ x ≤ 255 := by
  have h1 : IntKind.u8.min = 0 := by decide
  have h2 : IntKind.u8.max = 255 := by decide
  simp [Lit.wf, h1, h2] at h
  omega
theorem FetchContracted_ev (a : Int) (st : List S34) (a2 : Int) (w2 : (Lit.int .u8 a2).wf = true) : Ev (fun k => trishawlaw09_FetchContracted.f k a st a2) true := by
  have w2' := wf8c w2
  have easy : Ev (fun k => trishawlaw09_FetchContracted.j0 k a st a2 true) true := by
    refine Ev.succ ?_
    simp only [trishawlaw09_FetchContracted.j0, if_true]
    exact alive_ev'
  have main : codeN a st = 0 → ¬ a < 3 → Ev (fun k => trishawlaw09_FetchContracted.j0 k a st a2 false) true := fun h h3 => by
    obtain ⟨hs, hn2, ha, hcn⟩ := code_sane h
    have h7 := hs.1
    obtain ⟨n, rfl⟩ : ∃ n : Nat, a = (n : Int) := ⟨a.toNat, ha.symm⟩
    rw [Int.toNat_natCast] at hs hn2 hcn h7
    have h0 := st_ne hs hn2 hcn
    obtain ⟨q, rfl⟩ : ∃ q : Nat, a2 = (q : Int) := ⟨a2.toNat, by omega⟩
    have hqw : q ≤ 9223372036854775807 := by omega
    have hq : q % st.length < st.length := Nat.mod_lt _ h0
    have lq : ((q % st.length : Nat) : Int) < (st.length : Int) := by omega
    have e0 : ¬ (st.length : Int) = 0 := by omega
    have hnn : (n : Int).toNat ≤ 35184372088832 := by omega
    have hm := hs.2.2 st[q % st.length] (List.getElem_mem hq)
    have r1 : rd_T34 st ((q % st.length : Nat) : Int) = st[q % st.length] := by rw [rd_T34, Int.toNat_natCast, List.getD_eq_getElem?_getD, List.getElem?_eq_getElem hq]; rfl
    generalize st[q % st.length] = s at hm r1
    obtain ⟨lo, hlo⟩ : ∃ lo : Nat, mn s.f0 s.f1 = (lo : Int) := ⟨(mn s.f0 s.f1).toNat, by unfold mn; split <;> omega⟩
    obtain ⟨hi, hhi⟩ : ∃ hi : Nat, mx s.f0 s.f1 = (hi : Int) := ⟨(mx s.f0 s.f1).toNat, by unfold mx; split <;> omega⟩
    have hlh : lo < hi ∧ hi < n := by
      unfold mn at hlo; unfold mx at hhi
      split at hlo <;> split at hhi <;> omega
    refine Ev.succ ?_
    simp only [trishawlaw09_FetchContracted.j0, Bool.false_eq_true, if_false, e0, w64n q hqw, tmod_nat3 q h0, Int.natCast_nonneg, lq, if_true, hnn, r1, hlo, hhi]
    have hcon := sane_con hs hlh.1 hlh.2
    have s1 : ((n : Int) - 1) = ((n - 1 : Nat) : Int) := by omega
    have s2 : n - 1 ≤ 9223372036854775807 := by omega
    have hc' : codeN ((n - 1 : Nat) : Int) (conSt lo hi st) = 0 := code_of (by omega) (by rw [Int.toNat_natCast]; exact hcon) (by rw [Int.toNat_natCast]; exact conn_con hs hlh.1 hlh.2 (by omega) hcn)
    have := con_l0 n lo hi hlh.1 hlh.2 h7 st ?_ n 0 (by omega)
    · exact this
    · refine con_l1 hs lo hi ?_ st [] rfl
      refine Ev.bind (fetch_Cuts_ev n st) ?_
      simp only [s1, w64n _ s2]
      refine Ev.bind (fetch_Cuts_ev _ _) ?_
      simp only [h, hc', if_true, bne_self_eq_false, Int.toNat_natCast]
      refine Ev.succ ?_
      simp only [trishawlaw09_FetchContracted.j3, Bool.false_eq_true, if_false]
      exact con_l2 hs hlh.1 hlh.2 (cutsN n st) [] rfl
  have both : codeN a st = 0 → Ev (fun k => trishawlaw09_FetchContracted.j0 k a st a2 (decide (a < 3))) true := fun h => by
    by_cases h3 : a < 3
    · rw [decide_eq_true h3]; exact easy
    · rw [decide_eq_false h3]; exact main h h3
  unfold trishawlaw09_FetchContracted.f
  simp only [few_eq, Option.bind_some]
  generalize (if (st.length : Int) ≤ 40 then decide ((([] : List Int).length : Int) ≤ 60) else false) = b
  cases b
  · simp only [Bool.false_eq_true, if_false]; exact easy
  · simp only [if_true]
    refine Ev.bind (quarter_ev a st) ?_
    by_cases h : codeN a st = 0
    · simp only [h, if_true]
      exact both h
    · simp only [h, if_false]
      exact easy
end Go.Proofs.Ytjbfbdanbpfplaa.OAll
