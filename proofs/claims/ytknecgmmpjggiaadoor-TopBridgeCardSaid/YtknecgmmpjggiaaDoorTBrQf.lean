/- A part of the proof of 'topBridge_holds', for every input, without a condition. -/
import Derived.Test.YtknecgmmpjggiaaDoorTBrTn
import Derived.Test.YtknecgmmpjggiaaDoorTBrOAllx9
namespace Go.Proofs.YtknecgmmpjggiaaDoor.OAll
open Go.RowKit Go.Proofs.YtknecgmmpjggiaaDoorW.PrintWords Go.Proofs.YtknecgmmpjggiaaDoorW.PrintLast Go.Proofs.YtknecgmmpjggiaaDoorW.PrintMore
set_option linter.unusedVariables false
set_option linter.unusedSimpArgs false
theorem sign_conn {n : Nat} {st : List S30} (hs : Sane n st) (h1 : 1 ≤ n) (s : ByteArray) (hc : connB n st = true) : connB n (signFrom s 0 st) = true := by
  refine (conn_iff (sign_sane hs s) h1).2 fun Y hY h0 hsh => (conn_iff hs h1).1 hc Y hY h0 fun x hx => ?_
  obtain ⟨i, hi, e⟩ := List.getElem_of_mem hx
  have hg := signFrom_get s st 0 i hi
  rw [e] at hg
  have hm := hsh _ (List.mem_of_getElem? hg)
  split at hm
  · exact ⟨fun h => hm.2 rfl h, fun _ h => hm.1 h⟩
  · exact hm
theorem sign_back {n : Nat} {st : List S30} (hs : Sane n st) (h1 : 1 ≤ n) (s : ByteArray) (hc : connB n (signFrom s 0 st) = true) : connB n st = true := by
  refine (conn_iff hs h1).2 fun Y hY h0 hsh => (conn_iff (sign_sane hs s) h1).1 hc Y hY h0 fun x hx => ?_
  obtain ⟨y, hy, rfl | rfl⟩ := signFrom_mem s st 0 x hx
  · exact hsh _ hy
  · exact ⟨fun h => (hsh y hy).2 rfl h, fun _ h => (hsh y hy).1 h⟩
theorem bridge_set {n : Nat} {st : List S30} (hs : Sane n st) {b : Nat} (hb : b ∈ bridN n st) : ∃ X, X < 2 ^ n ∧ (∀ j x, st[j]? = some x → j ≠ b → inb X x.f0 = inb X x.f1) ∧ ∃ x, st[b]? = some x ∧ inb X x.f0 = true ∧ inb X x.f1 = false := by
  unfold bridN bridFrom at hb
  obtain ⟨hr, hbb⟩ := List.mem_filter.1 hb
  have hbl : b < st.length := by have := List.mem_range'_1.1 hr; omega
  have hbs : st[b]? = some (st.getD b z30) := by rw [List.getD_eq_getElem?_getD, List.getElem?_eq_getElem hbl]; rfl
  obtain ⟨x, hx⟩ : ∃ x, x = st.getD b z30 := ⟨_, rfl⟩
  unfold bridB at hbb
  rw [← hx] at hbb hbs
  have hm := List.mem_of_getElem? hbs
  have he := hs.2.2 x hm
  have ha := both_arcs hs b
  have hc : x.f0.toNat < n := by have := he.1; have := he.2.1; omega
  have hneg := of_decide_eq_true hbb
  refine ⟨reachX n (farN n (bothFrom b 0 st) x.f0.toNat), reachX_lt _ _, fun j y hy hj => ?_, x, hbs, ?_, ?_⟩
  · have hy2 := hs.2.2 y (List.mem_of_getElem? hy)
    have c1 := farN_CL ha.2.2 hc y ((bothFrom_mem b y st 0).2 ⟨j, y, hy, by omega, .inl rfl⟩)
    have c2 := farN_CL ha.2.2 hc (turnS y) ((bothFrom_mem b (turnS y) st 0).2 ⟨j, y, hy, by omega, .inr rfl⟩)
    have i0 := reachX_inb (n := n) (farN n (bothFrom b 0 st) x.f0.toNat) hy2.1 hy2.2.1
    have i1 := reachX_inb (n := n) (farN n (bothFrom b 0 st) x.f0.toNat) hy2.2.2.1 hy2.2.2.2.1
    rw [Bool.eq_iff_iff, i0, i1]
    exact ⟨c1, c2⟩
  · rw [reachX_inb _ he.1 he.2.1]
    have := farN_self ha.2.2 hc
    rwa [Int.toNat_of_nonneg he.1] at this
  · cases h : inb (reachX n (farN n (bothFrom b 0 st) x.f0.toNat)) x.f1
    · rfl
    · rw [reachX_inb _ he.2.2.1 he.2.2.2.1] at h; omega
theorem bridge_sign {n : Nat} {st : List S30} (hs : Sane n st) {b : Nat} (hb : b ∈ bridN n st) (s : ByteArray) : ∃ X, X < 2 ^ n ∧ 0 < X ∧ X < 2 ^ n - 1 ∧ (∀ j r, (signFrom s 0 st)[j]? = some r → j ≠ b → inb X r.f0 = inb X r.f1) ∧ ∃ r, (signFrom s 0 st)[b]? = some r ∧ (outS X r = true ∨ backS X r = true) := by
  obtain ⟨X, hX, hno, x, hx, x0, x1⟩ := bridge_set hs hb
  have hm := List.mem_of_getElem? hx
  have he := hs.2.2 x hm
  have hget : ∀ j r, (signFrom s 0 st)[j]? = some r → ∃ y, st[j]? = some y ∧ (r = y ∨ r = turnS y) := fun j r hr => by
    have hj : j < st.length := by
      rw [← signFrom_len s st 0]; exact (List.getElem?_eq_some_iff.1 hr).1
    rw [signFrom_get s st 0 j hj] at hr
    refine ⟨st[j], List.getElem?_eq_getElem hj, ?_⟩
    have hr := Option.some.inj hr
    rw [← hr]; split
    · exact .inr rfl
    · exact .inl rfl
  have hbl : b < st.length := (List.getElem?_eq_some_iff.1 hx).1
  refine ⟨X, hX, Nat.pos_of_ne_zero fun e => by rw [e] at x0; simp [inb] at x0, ?_, fun j r hr hj => ?_, ?_⟩
  · rcases Nat.lt_or_ge X (2 ^ n - 1) with h | h
    · exact h
    · have e : X = 2 ^ n - 1 := by omega
      rw [e, inb_full he.2.2.1 he.2.2.2.1] at x1; cases x1
  · obtain ⟨y, hy, rfl | rfl⟩ := hget j r hr
    · exact hno j _ hy hj
    · exact (hno j y hy hj).symm
  · have hbr := signFrom_get s st 0 b hbl
    refine ⟨_, hbr, ?_⟩
    have e : st[b] = x := by rw [List.getElem?_eq_getElem hbl] at hx; exact Option.some.inj hx
    rw [e]
    split
    · right; rw [back_iff]; exact ⟨x1, x0⟩
    · left; rw [out_iff]; exact ⟨x0, x1⟩
theorem bridge_mend {n : Nat} {st : List S30} (hs : Sane n st) (h1 : 1 ≤ n) (hc : connB n st = true) {b : Nat} (hb : b ∈ bridN n st) (s : ByteArray) : b ∈ (mendN n (signFrom s 0 st)).2.1 := by
  have hs' := sign_sane hs s
  have hc' := sign_conn hs h1 s hc
  obtain ⟨⟨M, hM, hh, hmn⟩, _⟩ := mend_spec hs' h1 hc'
  have h14 := hs'.2.1
  have hpow : 2 ^ (signFrom s 0 st).length ≤ 2 ^ 14 := Nat.pow_le_pow_right (by decide) h14
  obtain ⟨X, hX, X0, X1, hno, r, hr, hcr⟩ := bridge_sign hs hb s
  have key : ∀ Y, 0 < Y → Y < 2 ^ n - 1 → (∀ j q, (signFrom s 0 st)[j]? = some q → j ≠ b → inb Y q.f0 = inb Y q.f1) → outS Y r = true → M.testBit b = true := by
    intro Y Y0 Y1 hnoY ho
    have hcut : isCutB n (signFrom s 0 st) Y = true := isCut_mk Y0 Y1 fun q hq => by
      obtain ⟨j, hj, e⟩ := List.getElem_of_mem hq
      have hj' : (signFrom s 0 st)[j]? = some q := by rw [List.getElem?_eq_getElem hj, e]
      cases hbq : backS Y q
      · rfl
      · obtain ⟨b0, b1⟩ := (back_iff Y q).1 hbq
        by_cases hjb : j = b
        · subst hjb
          rw [hr] at hj'
          have := Option.some.inj hj'
          subst this
          obtain ⟨o0, o1⟩ := (out_iff Y r).1 ho
          rw [o0] at b0; cases b0
        · have := hnoY j q hj' hjb
          rw [b0, b1] at this; cases this
    have hne := hits_iff.1 hh (cross (signFrom s 0 st) Y) (List.mem_map.2 ⟨Y, cutsN_mem.2 hcut, rfl⟩)
    obtain ⟨i, hi⟩ := Nat.exists_testBit_of_ne_zero hne
    rw [Nat.testBit_and, Bool.and_eq_true] at hi
    obtain ⟨q, hq, hoq⟩ := (cross_bit _ _ _).1 hi.1
    by_cases hib : i = b
    · rw [← hib]; exact hi.2
    · have := hnoY i q hq hib
      obtain ⟨o0, o1⟩ := (out_iff Y q).1 hoq
      rw [o0, o1] at this; cases this
  have hMb : M.testBit b = true := by
    rcases hcr with ho | hbk
    · exact key X X0 X1 hno ho
    · have hin : ∀ (j : Nat) (q : S30), (signFrom s 0 st)[j]? = some q → inb (compN n X) q.f0 = !inb X q.f0 ∧ inb (compN n X) q.f1 = !inb X q.f1 := fun j q hq => by
        have he := hs'.2.2 q (List.mem_of_getElem? hq)
        exact ⟨compN_inb hX he.1 he.2.1, compN_inb hX he.2.2.1 he.2.2.2.1⟩
      obtain ⟨b0, b1⟩ := (back_iff X r).1 hbk
      obtain ⟨c0, c1⟩ := hin b r hr
      have ho : outS (compN n X) r = true := (out_iff _ _).2 ⟨by rw [c0, b0]; rfl, by rw [c1, b1]; rfl⟩
      have hlt := compN_lt hX
      have he := hs'.2.2 r (List.mem_of_getElem? hr)
      refine key (compN n X) (Nat.pos_of_ne_zero fun e => ?_) ?_ (fun j q hq hj => by rw [(hin j q hq).1, (hin j q hq).2, hno j q hq hj]) ho
      · rw [e] at c0; rw [b0] at c0; simp [inb] at c0
      · rcases Nat.lt_or_ge (compN n X) (2 ^ n - 1) with h | h
        · exact h
        · have e : compN n X = 2 ^ n - 1 := by omega
          rw [e, inb_full he.2.2.1 he.2.2.2.1, b1] at c1; cases c1
  rw [hmn]
  exact (bitsN_mem (by omega)).2 hMb
theorem strong_nobridge {n : Nat} {st : List S30} (hs : Sane n st) (s : ByteArray) (hc : cutsN n (signFrom s 0 st) = []) : bridN n st = [] := by
  refine List.eq_nil_iff_forall_not_mem.2 fun b hb => ?_
  have hs' := sign_sane hs s
  obtain ⟨X, hX, X0, X1, hno, r, hr, hcr⟩ := bridge_sign hs hb s
  have hstr := str_cuts.1 hc
  have only : ∀ Y, (∀ j q, (signFrom s 0 st)[j]? = some q → j ≠ b → inb Y q.f0 = inb Y q.f1) → 0 < Y → Y < 2 ^ n - 1 → backS Y r = true := by
    intro Y hnoY Y0 Y1
    obtain ⟨q, hq, hbq⟩ := hstr Y Y0 Y1
    obtain ⟨j, hj, e⟩ := List.getElem_of_mem hq
    have hj' : (signFrom s 0 st)[j]? = some q := by rw [List.getElem?_eq_getElem hj, e]
    by_cases hjb : j = b
    · subst hjb
      rw [hr] at hj'
      have := Option.some.inj hj'
      subst this; exact hbq
    · obtain ⟨b0, b1⟩ := (back_iff Y q).1 hbq
      have := hnoY j q hj' hjb
      rw [b0, b1] at this; cases this
  have g1 := only X hno X0 X1
  obtain ⟨b0, b1⟩ := (back_iff X r).1 g1
  have hin : ∀ (j : Nat) (q : S30), (signFrom s 0 st)[j]? = some q → inb (compN n X) q.f0 = !inb X q.f0 ∧ inb (compN n X) q.f1 = !inb X q.f1 := fun j q hq => by
    have he := hs'.2.2 q (List.mem_of_getElem? hq)
    exact ⟨compN_inb hX he.1 he.2.1, compN_inb hX he.2.2.1 he.2.2.2.1⟩
  obtain ⟨c0, c1⟩ := hin b r hr
  have hlt := compN_lt hX
  have he := hs'.2.2 r (List.mem_of_getElem? hr)
  have g2 := only (compN n X) (fun j q hq hj => by rw [(hin j q hq).1, (hin j q hq).2, hno j q hq hj]) (Nat.pos_of_ne_zero fun e => by rw [e] at c0; rw [b0] at c0; simp [inb] at c0) (by
    rcases Nat.lt_or_ge (compN n X) (2 ^ n - 1) with h | h
    · exact h
    · have e : compN n X = 2 ^ n - 1 := by omega
      rw [e, inb_full he.2.2.1 he.2.2.2.1, b1] at c1; cases c1)
  obtain ⟨d0, d1⟩ := (back_iff _ _).1 g2
  rw [c0, b0] at d0; cases d0
theorem nobridge_BF {n : Nat} {st : List S30} (hs : Sane n st) (hb : bridN n st = []) : BF n st := by
  intro pre s post e X hX hc
  refine Classical.byContradiction fun hn => ?_
  have hno : ∀ r, r ∈ pre ++ post → inb X r.f0 = inb X r.f1 := fun r hr => by
    cases a : inb X r.f0 <;> cases b : inb X r.f1
    · rfl
    · exact absurd ⟨r, hr, .inr ((back_iff _ _).2 ⟨a, b⟩)⟩ hn
    · exact absurd ⟨r, hr, .inl ((out_iff _ _).2 ⟨a, b⟩)⟩ hn
    · rfl
  have hbl : pre.length < st.length := by rw [e]; simp
  have hget : st.getD pre.length z30 = s := by rw [e]; simp
  have hsm : s ∈ st := by rw [e]; simp
  have he := hs.2.2 s hsm
  have ha := both_arcs hs pre.length
  have hcl : s.f0.toNat < n := by have := he.1; have := he.2.1; omega
  have hother : ∀ r, r ∈ bothFrom pre.length 0 st → inb X r.f0 = inb X r.f1 := fun r hr => by
    obtain ⟨m, q, h1, h2, h3⟩ := (bothFrom_mem pre.length r st 0).1 hr
    have hq : q ∈ pre ++ post := by
      rw [e, List.getElem?_append] at h1
      split at h1
      · exact List.mem_append_left _ (List.mem_of_getElem? h1)
      · rename_i hge
        rcases Nat.lt_trichotomy m pre.length with g | g | g
        · omega
        · omega
        · obtain ⟨z, hz⟩ : ∃ z, m - pre.length = z + 1 := ⟨m - pre.length - 1, by omega⟩
          rw [hz, List.getElem?_cons_succ] at h1
          exact List.mem_append_right _ (List.mem_of_getElem? h1)
    rcases h3 with rfl | rfl
    · exact hno _ hq
    · exact (hno q hq).symm
  have hreach : 0 ≤ rd (farN n (bothFrom pre.length 0 st) s.f0.toNat) s.f1 := by
    rcases Int.lt_or_le (rd (farN n (bothFrom pre.length 0 st) s.f0.toNat) s.f1) 0 with h | h
    · have : pre.length ∈ bridN n st := by
        unfold bridN bridFrom
        refine List.mem_filter.2 ⟨List.mem_range'_1.2 ⟨Nat.zero_le _, by omega⟩, ?_⟩
        unfold bridB; rw [hget]; exact decide_eq_true h
      rw [hb] at this; cases this
    · exact h
  have hin := farN_in ha.2.2 hcl (fun v => inb X v = inb X s.f0) (fun r hr h0 => by rw [← hother r hr]; exact h0) (by rw [Int.toNat_of_nonneg he.1]) s.f1 he.2.2.1 he.2.2.2.1 hreach
  rcases hc with h | h
  · obtain ⟨o0, o1⟩ := (out_iff _ _).1 h
    rw [o0, o1] at hin; cases hin
  · obtain ⟨o0, o1⟩ := (back_iff _ _).1 h
    rw [o0, o1] at hin; cases hin
theorem bt_strB (σ : List Bool) (j : Nat) (hj : j < σ.length) : bt (strB σ) (j : Int) = if σ[j] then 62 else 60 := by
  have hj' : (j : Int).toNat < (strB σ).size := by rw [strB_size]; simpa using hj
  rw [← bt_at (strB σ) (j : Int) hj']
  have e : (strB σ)[(j : Int).toNat]'hj' = signB σ[j] := by
    show ((σ.map signB).toArray)[(j : Int).toNat]'_ = _
    simp
  rw [e]
  cases σ[j] <;> rfl
theorem sign_orL : ∀ (st : List S30) (τ σ : List Bool) (i : Nat), τ.length = st.length → (∀ j, j < st.length → ∀ b, τ[j]? = some b → bt (strB σ) ((i + j : Nat) : Int) = if b then 62 else 60) → signFrom (strB σ) i st = orL st τ
  | [], τ, σ, i, h, _ => by cases τ with | nil => rfl | cons _ _ => simp at h
  | x :: t, [], σ, i, h, _ => by simp at h
  | x :: t, b :: u, σ, i, h, hb => by
    show _ :: signFrom (strB σ) (i + 1) t = _ :: orL t u
    rw [sign_orL t u σ (i + 1) (by simpa using h) fun j hj c hc => by
      have := hb (j + 1) (by simpa using hj) c (by simpa using hc)
      rw [show i + 1 + j = i + (j + 1) by omega]; exact this]
    have h0 := hb 0 (by simp) b rfl
    rw [Nat.add_zero] at h0
    rw [h0]
    cases b <;> rfl
theorem first_none {sb : Nat → Bool} : ∀ (d i : Nat), firstFrom sb d i = none → ∀ k, i ≤ k → k < i + d → sb k = false
  | 0, i, _, k, h1, h2 => by omega
  | d + 1, i, h, k, h1, h2 => by
    rw [firstFrom] at h
    split at h
    · cases h
    · rename_i hs
      rcases Nat.eq_or_lt_of_le h1 with e | e
      · rw [← e]; simpa using hs
      · exact first_none d (i + 1) h k e (by omega)
theorem first_some {sb : Nat → Bool} : ∀ (d i k : Nat), firstFrom sb d i = some k → sb k = true
  | 0, i, k, h => by cases h
  | d + 1, i, k, h => by
    rw [firstFrom] at h
    split at h
    · rename_i hs; rw [← Option.some.inj h]; exact hs
    · exact first_some d (i + 1) k h
theorem nofirst_bridge {n : Nat} {st : List S30} (hs : Sane n st) (h1 : 1 ≤ n) (hc : connB n st = true) (h : firstN n st = none) : bridN n st ≠ [] := by
  intro hb
  obtain ⟨τ, hl, hstr⟩ := robbins hs h1 hc (nobridge_BF hs hb)
  obtain ⟨k, hk, he⟩ := sgn_all st.length τ hl
  have hsb := first_none _ 0 h k (Nat.zero_le _) (by omega)
  have e : signFrom (strB (sgn st.length k)) 0 st = orL st τ := by
    rw [he]
    refine sign_orL st τ τ 0 hl fun j hj b hb' => ?_
    rw [Nat.zero_add, bt_strB τ j (by omega)]
    rw [List.getElem?_eq_getElem (by omega)] at hb'
    rw [Option.some.inj hb']
  unfold sbN at hsb
  rw [e, str_cuts.2 hstr] at hsb
  cases hsb
theorem mendN_len (n : Nat) (st : List S30) : (mendN n st).2.1.length ≤ 30 := by
  have : ∀ (l : List Nat) (all : List Nat) (s : Bool × List Nat × Nat), s.2.1.length ≤ 30 → (l.foldl (tellN all) s).2.1.length ≤ 30 := by
    intro l all
    induction l with
    | nil => intro s h; exact h
    | cons x t ih => intro s h; exact ih _ (tellN_len all s x h)
  exact this _ _ _ (by simp)
theorem tb_l1 {a : Int} {l : List S30} {B M : List Nat} (hM : M.length ≤ 30) {i : Nat} (hi : i < B.length) (hBl : B.length ≤ 30) (next : Ev (fun k => trishawtop_TopBridge.l0 k a l (ints B) (ints M) ((i + 1 : Nat) : Int)) true) : ∀ (d j : Nat) (inn : Bool), j + d = M.length → (inn = true ∨ ∃ q, j ≤ q ∧ M[q]? = some (B[i]'hi)) →
    Ev (fun k => trishawtop_TopBridge.l1 k a l (ints B) (ints M) i inn j) true := by
  have hlM : ((ints M).length : Int) = (M.length : Int) := by rw [ints_len]
  have hlB : ((ints B).length : Int) = (B.length : Int) := by rw [ints_len]
  have ei : wrap64 ((i : Int) + 1) = ((i + 1 : Nat) : Int) := w64s _ (by omega)
  intro d
  induction d with
  | zero =>
    intro j inn e h
    have e3 : ¬ (j : Int) < (M.length : Int) := by omega
    have hin : inn = true := by
      rcases h with h | ⟨q, hq, hq'⟩
      · exact h
      · have := (List.getElem?_eq_some_iff.1 hq').1; omega
    refine Ev.succ ?_
    simp only [trishawtop_TopBridge.l1, hlM, e3, hin, if_false, if_true, ei]
    exact next
  | succ d ih =>
    intro j inn e h
    have e3 : (j : Int) < (M.length : Int) := by omega
    have ej : wrap64 ((j : Int) + 1) = ((j + 1 : Nat) : Int) := w64s _ (by omega)
    have hj : j < M.length := by omega
    refine Ev.succ ?_
    cases hin : inn
    · have e5 : (i : Int) < (B.length : Int) := by omega
      simp only [trishawtop_TopBridge.l1, hlM, hlB, e3, e5, if_true, Bool.false_eq_true, if_false, Int.natCast_nonneg, ej, rd_ints M j hj, rd_ints B i hi]
      refine ih (j + 1) _ (by omega) ?_
      rcases h with h | ⟨q, hq, hq'⟩
      · rw [hin] at h; cases h
      · rcases Nat.eq_or_lt_of_le hq with g | g
        · left
          subst g
          rw [List.getElem?_eq_getElem hj] at hq'
          rw [Option.some.inj hq']; exact beq_self_eq_true _
        · exact .inr ⟨q, g, hq'⟩
    · simp only [trishawtop_TopBridge.l1, hlM, e3, if_true, ej]
      exact ih (j + 1) true (by omega) (.inl rfl)
theorem tb_l0 {a : Int} {l : List S30} {B M : List Nat} (hM : M.length ≤ 30) (hBl : B.length ≤ 30) (hsub : ∀ b ∈ B, b ∈ M) (last : Ev (fun k => trishawtop_TopBridge.l0 k a l (ints B) (ints M) ((B.length : Nat) : Int)) true) : ∀ (d i : Nat), i + d = B.length → Ev (fun k => trishawtop_TopBridge.l0 k a l (ints B) (ints M) i) true := by
  intro d
  induction d with
  | zero => intro i e; have : i = B.length := by omega
            rw [this]; exact last
  | succ d ih =>
    intro i e
    have hi : i < B.length := by omega
    have hlB : ((ints B).length : Int) = (B.length : Int) := by rw [ints_len]
    have e3 : (i : Int) < (B.length : Int) := by omega
    refine Ev.succ ?_
    simp only [trishawtop_TopBridge.l0, hlB, e3, if_true]
    obtain ⟨q, hq, e'⟩ := List.getElem_of_mem (hsub _ (List.getElem_mem hi))
    exact tb_l1 hM hi hBl (ih (i + 1) (by omega)) M.length 0 false (by omega) (.inr ⟨q, Nat.zero_le _, by rw [List.getElem?_eq_getElem hq, e']⟩)
theorem TopBridge_ev (a : Int) (l : List S30) (s : ByteArray) : Ev (fun k => trishawtop_TopBridge.f k a l s) true := by
  have htrue : ∀ (l : List S30), Ev (fun k => trishawtop_TopBridge.j0 k a l s true) true := fun l => by
    refine Ev.succ ?_
    simp only [trishawtop_TopBridge.j0, if_true, trishawtop_streets.f, Option.bind_some]
    exact Ev.pure _
  unfold trishawtop_TopBridge.f
  by_cases h14 : l.length > 14
  · refine Ev.congr (fun k => if_pos (by omega)) (htrue l)
  refine Ev.congr (fun k => if_neg (by omega)) ?_
  by_cases h2 : a < 2
  · exact Ev.congr (fun k => if_pos h2) (htrue l)
  refine Ev.congr (fun k => if_neg h2) ?_
  by_cases hsz' : ¬ s.size = l.length
  · have hsz := hsz'
    have : ((s.size : Int) != (l.length : Int)) = true := bne_iff_ne.2 (fun e => hsz (by omega))
    rw [this]; exact htrue l
  have hsz : s.size = l.length := Classical.not_not.1 hsz'
  have hne : ((s.size : Int) != (l.length : Int)) = false := by rw [hsz]; simp
  rw [hne]
  refine Ev.succ ?_
  simp only [trishawtop_TopBridge.j0, Bool.false_eq_true, if_false]
  refine Ev.bind (bridges_ev a l) (Ev.bind (along_ev (by omega) s hsz) (Ev.bind (fetch_Mend_ev a (signFrom s 0 l)) ?_))
  by_cases hr : readO a l = 0
  · obtain ⟨hs, h1, ha⟩ := read_sane hr
    simp only [if_pos hr, if_true]
    by_cases hc : codeN a (signFrom s 0 l) = 0
    · simp only [if_pos hc]
      refine Ev.succ ?_
      simp only [trishawtop_TopBridge.j1, bne_self_eq_false, Bool.false_eq_true, if_false]
      have hcs := code_sane hc
      have hconn := sign_back hs h1 s hcs.2.2.2
      have hcode : ∀ s', codeN a (signFrom s' 0 l) = 0 := fun s' => code_of ⟨by omega, by have := hs.1; omega⟩ (sign_sane hs s') (sign_conn hs h1 s' hconn)
      have hBl : (bridN a.toNat l).length ≤ 30 := by
        have : (bridN a.toNat l).length ≤ (List.range' 0 l.length).length := List.length_filter_le _ _
        rw [List.length_range'] at this; omega
      refine tb_l0 (mendN_len _ _) hBl (fun b hb => bridge_mend hs h1 hconn hb s) ?_ (bridN a.toNat l).length 0 (by omega)
      have hlB : ((ints (bridN a.toNat l)).length : Int) = ((bridN a.toNat l).length : Int) := by rw [ints_len]
      refine Ev.succ ?_
      simp only [trishawtop_TopBridge.l0, hlB, Int.lt_irrefl, if_false, oneway_First.f, if_pos hr, Option.bind_some]
      cases hf : firstN a.toNat l with
      | none =>
        have hb := nofirst_bridge hs h1 hconn hf
        have hpos : 0 < (bridN a.toNat l).length := List.length_pos_iff.2 hb
        simp only [firstE, Int.reduceEq, if_false, if_true, trishawtop_streets.f, Option.bind_some]
        exact Ev.congr (fun k => if_pos (by omega)) (Ev.pure _)
      | some k0 =>
        have hk0 := first_some _ 0 k0 hf
        have hcut : cutsN a.toNat (signFrom (strB (sgn l.length k0)) 0 l) = [] := by
          unfold sbN at hk0; exact List.isEmpty_iff.1 hk0
        have hb := strong_nobridge hs _ hcut
        have hm := (mend_empty (sign_sane hs (strB (sgn l.length k0))) h1 (sign_conn hs h1 _ hconn)).2 hcut
        simp only [firstE, if_true, firstS]
        refine Ev.bind (along_ev (by omega) (strB (sgn l.length k0)) (by rw [strB_size, sgn_len])) (Ev.bind (fetch_Mend_ev a _) ?_)
        simp only [if_pos (hcode _), if_true, hm, hb, ints, List.map_nil, List.length_nil, Int.natCast_zero, trishawtop_streets.f, Option.bind_some]
        exact Ev.pure _
    · simp only [if_neg hc]
      have hbne : (codeN a (signFrom s 0 l) != 0) = true := bne_iff_ne.2 hc
      rw [hbne]
      refine Ev.succ ?_
      simp only [trishawtop_TopBridge.j1, if_true, if_neg hc, List.length_nil, Int.natCast_zero, trishawtop_streets.f, Option.bind_some]
      exact Ev.pure _
  · simp only [if_neg hr]
    refine Ev.succ ?_
    by_cases hc : codeN a (signFrom s 0 l) = 0
    · simp only [trishawtop_TopBridge.j1, if_true, if_neg hr, if_pos hc, List.length_nil, Int.natCast_zero, trishawtop_streets.f, Option.bind_some]
      exact Ev.pure _
    · simp only [trishawtop_TopBridge.j1, if_true, if_neg hr, if_neg hc, List.length_nil, Int.natCast_zero, trishawtop_streets.f, Option.bind_some]
      exact Ev.pure _
theorem TopBridge_ex (a : Int) (l : List S30) (s : ByteArray) : ∃ k, trishawtop_TopBridge.f k a l s = some true := (TopBridge_ev a l s).ex
end Go.Proofs.YtknecgmmpjggiaaDoor.OAll
