/- A part of the proof of 'topBridge_holds', for every input, without a condition. -/
import Derived.Test.YtknecgmmpjggiaaDoorTBrQa
namespace Go.Proofs.YtknecgmmpjggiaaDoor.OAll
open Go.RowKit Go.Proofs.YtknecgmmpjggiaaDoorW.PrintWords Go.Proofs.YtknecgmmpjggiaaDoorW.PrintLast Go.Proofs.YtknecgmmpjggiaaDoorW.PrintMore
set_option linter.unusedVariables false
set_option linter.unusedSimpArgs false
def orL : List S30 → List Bool → List S30
  | s :: t, b :: u => (if b then s else turnS s) :: orL t u
  | _, _ => []
def StrP (n : Nat) (A : S30 → Prop) : Prop := ∀ X, 0 < X → X < 2 ^ n - 1 → ∃ s, A s ∧ backS X s = true
theorem StrP.imp {n : Nat} {A B : S30 → Prop} (h : StrP n A) (hi : ∀ s, A s → B s) : StrP n B := fun X h0 h1 => by
  obtain ⟨s, hs, hb⟩ := h X h0 h1
  exact ⟨s, hi s hs, hb⟩
theorem not_str {n : Nat} {A : S30 → Prop} (h : ¬ StrP n A) : ∃ X, 0 < X ∧ X < 2 ^ n - 1 ∧ ∀ s, A s → backS X s = false :=
  Classical.byContradiction fun hn => h fun X h0 h1 => Classical.byContradiction fun hs => hn ⟨X, h0, h1, fun s hs' => by
    cases hb : backS X s
    · rfl
    · exact absurd ⟨s, hs', hb⟩ hs⟩
theorem back_iff (X : Nat) (s : S30) : backS X s = true ↔ inb X s.f0 = false ∧ inb X s.f1 = true := by
  unfold backS; cases inb X s.f0 <;> cases inb X s.f1 <;> simp
theorem out_iff (X : Nat) (s : S30) : outS X s = true ↔ inb X s.f0 = true ∧ inb X s.f1 = false := by
  unfold outS; cases inb X s.f0 <;> cases inb X s.f1 <;> simp
theorem inb_and (X Y : Nat) (v : Int) : inb (X &&& Y) v = (inb X v && inb Y v) := Nat.testBit_and _ _ _
theorem inb_or (X Y : Nat) (v : Int) : inb (X ||| Y) v = (inb X v || inb Y v) := Nat.testBit_or _ _ _
def Ends (n : Nat) (s : S30) : Prop := 0 ≤ s.f0 ∧ s.f0 < n ∧ 0 ≤ s.f1 ∧ s.f1 < n ∧ s.f0 ≠ s.f1
theorem rob_step {n : Nat} {A : S30 → Prop} {s : S30} (hv : ∀ r, A r → Ends n r) (h : StrP n (fun r => A r ∨ r = s ∨ r = turnS s))
    (hb : ∀ X, X < 2 ^ n → outS X s = true → ∃ r, A r ∧ (outS X r = true ∨ backS X r = true)) :
    StrP n (fun r => A r ∨ r = s) ∨ StrP n (fun r => A r ∨ r = turnS s) := by
  rcases Classical.em (StrP n (fun r => A r ∨ r = s)) with h1 | h1
  · exact .inl h1
  refine .inr (Classical.byContradiction fun h2 => ?_)
  obtain ⟨X, X0, X1, hX⟩ := not_str h1
  obtain ⟨Y, Y0, Y1, hY⟩ := not_str h2
  have oX : backS X (turnS s) = true := by
    obtain ⟨r, hr, hb'⟩ := h X X0 X1
    rcases hr with hr | rfl | rfl
    · rw [hX r (.inl hr)] at hb'; cases hb'
    · rw [hX _ (.inr rfl)] at hb'; cases hb'
    · exact hb'
  have oY : backS Y s = true := by
    obtain ⟨r, hr, hb'⟩ := h Y Y0 Y1
    rcases hr with hr | rfl | rfl
    · rw [hY r (.inl hr)] at hb'; cases hb'
    · exact hb'
    · rw [hY _ (.inr rfl)] at hb'; cases hb'
  obtain ⟨x1, x0⟩ := (back_iff _ _).1 oX
  obtain ⟨y0, y1⟩ := (back_iff _ _).1 oY
  have x1' : inb X s.f1 = false := x1
  have x0' : inb X s.f0 = true := x0
  have hZ : X &&& Y = 0 := Classical.byContradiction fun hne => by
    have hle : X &&& Y ≤ X := Nat.and_le_left
    obtain ⟨r, hr, hb'⟩ := h (X &&& Y) (Nat.pos_of_ne_zero hne) (by omega)
    rw [back_iff, inb_and, inb_and] at hb'
    obtain ⟨q0, q1⟩ := hb'
    have q2 : inb X r.f1 = true := by revert q1; cases inb X r.f1 <;> simp
    have q3 : inb Y r.f1 = true := by revert q1; cases inb Y r.f1 <;> simp
    cases q4 : inb X r.f0
    · have bX : backS X r = true := (back_iff _ _).2 ⟨q4, q2⟩
      rcases hr with hr | rfl | rfl
      · rw [hX r (.inl hr)] at bX; cases bX
      · rw [hX _ (.inr rfl)] at bX; cases bX
      · have : inb Y s.f0 = true := q3
        rw [y0] at this; cases this
    · have q5 : inb Y r.f0 = false := by revert q0; rw [q4]; simp
      have bY : backS Y r = true := (back_iff _ _).2 ⟨q5, q3⟩
      rcases hr with hr | rfl | rfl
      · rw [hY r (.inl hr)] at bY; cases bY
      · rw [x1'] at q2; cases q2
      · rw [hY _ (.inr rfl)] at bY; cases bY
  have hU : X ||| Y = 2 ^ n - 1 := Classical.byContradiction fun hne => by
    have hlt : X ||| Y < 2 ^ n := Nat.or_lt_two_pow (by omega) (by omega)
    have hge : X ≤ X ||| Y := Nat.left_le_or
    obtain ⟨r, hr, hb'⟩ := h (X ||| Y) (by omega) (by omega)
    rw [back_iff, inb_or, inb_or] at hb'
    obtain ⟨q0, q1⟩ := hb'
    have q2 : inb X r.f0 = false := by revert q0; cases inb X r.f0 <;> simp
    have q3 : inb Y r.f0 = false := by revert q0; cases inb Y r.f0 <;> simp
    cases q4 : inb X r.f1
    · have q5 : inb Y r.f1 = true := by revert q1; rw [q4]; simp
      have bY : backS Y r = true := (back_iff _ _).2 ⟨q3, q5⟩
      rcases hr with hr | rfl | rfl
      · rw [hY r (.inl hr)] at bY; cases bY
      · rw [x0'] at q2; cases q2
      · rw [hY _ (.inr rfl)] at bY; cases bY
    · have bX : backS X r = true := (back_iff _ _).2 ⟨q2, q4⟩
      rcases hr with hr | rfl | rfl
      · rw [hX r (.inl hr)] at bX; cases bX
      · rw [hX _ (.inr rfl)] at bX; cases bX
      · have : inb Y s.f1 = false := q3
        rw [y1] at this; cases this
  obtain ⟨r, hr, hc⟩ := hb X (by omega) ((out_iff _ _).2 ⟨x0', x1'⟩)
  rcases hc with hc | hc
  · obtain ⟨c0, c1⟩ := (out_iff _ _).1 hc
    have e := hv r hr
    have d0 : inb Y r.f0 = false := by
      have : inb (X &&& Y) r.f0 = false := by rw [hZ]; simp [inb]
      rw [inb_and, c0] at this; simpa using this
    have d1 : inb Y r.f1 = true := by
      have : inb (X ||| Y) r.f1 = true := by rw [hU]; unfold inb; rw [full_bit]; have := e.2.2.1; have := e.2.2.2.1; exact decide_eq_true (by omega)
      rw [inb_or, c1] at this; simpa using this
    have := (back_iff _ _).2 ⟨d0, d1⟩
    rw [hY r (.inl hr)] at this; cases this
  · rw [hX r (.inl hr)] at hc; cases hc
theorem orL_snoc : ∀ (pre : List S30) (σ : List Bool) (s : S30) (b : Bool), σ.length = pre.length → orL (pre ++ [s]) (σ ++ [b]) = orL pre σ ++ [if b then s else turnS s]
  | [], [], _, _, _ => rfl
  | p :: t, c :: u, s, b, h => by
    show _ :: orL (t ++ [s]) (u ++ [b]) = _ :: (orL t u ++ [_])
    rw [orL_snoc t u s b (by simpa using h)]
  | [], _ :: _, _, _, h => by simp at h
  | _ :: _, [], _, _, h => by simp at h
theorem orL_mem : ∀ (pre : List S30) (σ : List Bool), σ.length = pre.length → ∀ r, r ∈ pre → r ∈ orL pre σ ∨ turnS r ∈ orL pre σ
  | [], [], _, r, h => by simp at h
  | p :: t, c :: u, h, r, hr => by
    show r ∈ _ :: orL t u ∨ turnS r ∈ _ :: orL t u
    rcases List.mem_cons.1 hr with rfl | hr
    · cases c <;> simp
    · rcases orL_mem t u (by simpa using h) r hr with h' | h'
      · exact .inl (List.mem_cons_of_mem _ h')
      · exact .inr (List.mem_cons_of_mem _ h')
  | _ :: _, [], h, _, _ => by simp at h
  | [], _ :: _, h, _, _ => by simp at h
theorem orL_back : ∀ (pre : List S30) (σ : List Bool), ∀ r, r ∈ orL pre σ → r ∈ pre ∨ turnS r ∈ pre
  | [], σ, r, h => by simp [orL] at h
  | p :: t, [], r, h => by simp [orL] at h
  | p :: t, c :: u, r, h => by
    have h' : r ∈ (if c then p else turnS p) :: orL t u := h
    rcases List.mem_cons.1 h' with rfl | h'
    · cases c
      · exact .inr (by show p ∈ _; simp)
      · exact .inl (by simp)
    · rcases orL_back t u r h' with h' | h'
      · exact .inl (List.mem_cons_of_mem _ h')
      · exact .inr (List.mem_cons_of_mem _ h')
theorem ends_turn {n : Nat} {s : S30} (h : Ends n (turnS s)) : Ends n s := ⟨h.2.2.1, h.2.2.2.1, h.1, h.2.1, fun e => h.2.2.2.2 e.symm⟩
theorem out_turn (X : Nat) (s : S30) : outS X (turnS s) = backS X s := by unfold outS backS turnS; cases inb X s.f0 <;> cases inb X s.f1 <;> rfl
def BF (n : Nat) (st : List S30) : Prop := ∀ pre s post, st = pre ++ s :: post → ∀ X, X < 2 ^ n → (outS X s = true ∨ backS X s = true) → ∃ r, r ∈ pre ++ post ∧ (outS X r = true ∨ backS X r = true)
theorem cross_turn {X : Nat} {r : S30} (h : outS X r = true ∨ backS X r = true) : outS X (turnS r) = true ∨ backS X (turnS r) = true := by
  rw [out_turn, turn_back]; exact h.symm
theorem rob {n : Nat} {st : List S30} (hv : ∀ s ∈ st, Ends n s) (hB : BF n st) : ∀ (suf pre : List S30) (σ : List Bool), st = pre ++ suf → σ.length = pre.length →
    StrP n (fun r => r ∈ orL pre σ ∨ r ∈ suf ∨ turnS r ∈ suf) → ∃ τ : List Bool, τ.length = st.length ∧ StrP n (fun r => r ∈ orL st τ)
  | [], pre, σ, e, hl, h => by
    rw [List.append_nil] at e
    subst e
    exact ⟨σ, hl, h.imp fun s hs => by simpa using hs⟩
  | s :: t, pre, σ, e, hl, h => by
    have hvt : ∀ r, (r ∈ orL pre σ ∨ r ∈ t ∨ turnS r ∈ t) → Ends n r := by
      intro r hr
      rcases hr with hr | hr | hr
      · rcases orL_back pre σ r hr with hr | hr
        · exact hv r (by rw [e]; exact List.mem_append_left _ hr)
        · exact ends_turn (hv _ (by rw [e]; exact List.mem_append_left _ hr))
      · exact hv r (by rw [e]; exact List.mem_append_right _ (List.mem_cons_of_mem _ hr))
      · exact ends_turn (hv _ (by rw [e]; exact List.mem_append_right _ (List.mem_cons_of_mem _ hr)))
    have h' : StrP n (fun r => (r ∈ orL pre σ ∨ r ∈ t ∨ turnS r ∈ t) ∨ r = s ∨ r = turnS s) := h.imp fun r hr => by
      rcases hr with hr | hr | hr
      · exact .inl (.inl hr)
      · rcases List.mem_cons.1 hr with hr | hr
        · exact .inr (.inl hr)
        · exact .inl (.inr (.inl hr))
      · rcases List.mem_cons.1 hr with hr | hr
        · exact .inr (.inr (show r = turnS s by rw [← hr]; rfl))
        · exact .inl (.inr (.inr hr))
    have hb : ∀ X, X < 2 ^ n → outS X s = true → ∃ r, (r ∈ orL pre σ ∨ r ∈ t ∨ turnS r ∈ t) ∧ (outS X r = true ∨ backS X r = true) := by
      intro X hX ho
      obtain ⟨r, hr, hc⟩ := hB pre s t e X hX (.inl ho)
      rcases List.mem_append.1 hr with hr | hr
      · rcases orL_mem pre σ hl r hr with hr | hr
        · exact ⟨r, .inl hr, hc⟩
        · exact ⟨turnS r, .inl hr, cross_turn hc⟩
      · exact ⟨r, .inr (.inl hr), hc⟩
    have e' : st = (pre ++ [s]) ++ t := by rw [e]; simp
    rcases rob_step hvt h' hb with g | g
    · refine rob hv hB t (pre ++ [s]) (σ ++ [true]) e' (by simp [hl]) (g.imp fun r hr => ?_)
      rw [orL_snoc _ _ _ _ hl]
      rcases hr with (hr | hr) | hr
      · exact .inl (List.mem_append_left _ hr)
      · exact .inr hr
      · exact .inl (List.mem_append_right _ (by simp [hr]))
    · refine rob hv hB t (pre ++ [s]) (σ ++ [false]) e' (by simp [hl]) (g.imp fun r hr => ?_)
      rw [orL_snoc _ _ _ _ hl]
      rcases hr with (hr | hr) | hr
      · exact .inl (List.mem_append_left _ hr)
      · exact .inr hr
      · exact .inl (List.mem_append_right _ (by simp [hr]))
theorem sane_ends {n : Nat} {st : List S30} (hs : Sane n st) : ∀ s ∈ st, Ends n s := hs.2.2
theorem inb_full {n : Nat} {v : Int} (h0 : 0 ≤ v) (h1 : v < n) : inb (2 ^ n - 1) v = true := by unfold inb; rw [full_bit]; exact decide_eq_true (by omega)
theorem conn_cross {n : Nat} {st : List S30} (hs : Sane n st) (h1 : 1 ≤ n) (hc : connB n st = true) {X : Nat} (X0 : 0 < X) (X1 : X < 2 ^ n - 1) : ∃ s, s ∈ st ∧ (outS X s = true ∨ backS X s = true) := by
  refine Classical.byContradiction fun hn => ?_
  have hno : ∀ s ∈ st, inb X s.f0 = inb X s.f1 := fun s hm => by
    cases a : inb X s.f0 <;> cases b : inb X s.f1
    · rfl
    · exact absurd ⟨s, hm, .inr ((back_iff _ _).2 ⟨a, b⟩)⟩ hn
    · exact absurd ⟨s, hm, .inl ((out_iff _ _).2 ⟨a, b⟩)⟩ hn
    · rfl
  have hX : X < 2 ^ n := by omega
  cases h0 : X.testBit 0
  · have := (conn_iff hs h1).1 hc (compN n X) (compN_lt hX) (by rw [compN_bit hX, h0]; simp; omega) (fun s hm => by
      have e := sane_ends hs s hm
      have c0 := compN_inb hX e.1 e.2.1
      have c1 := compN_inb hX e.2.2.1 e.2.2.2.1
      refine ⟨fun h => ?_, fun _ h => ?_⟩
      · rw [c0] at h; rw [c1, ← hno s hm]; exact h
      · rw [c1] at h; rw [c0, hno s hm]; exact h)
    obtain ⟨i, hi⟩ := Nat.exists_testBit_of_ne_zero (Nat.pos_iff_ne_zero.1 X0)
    have := congrArg (fun z => z.testBit i) this
    simp only [compN_bit hX, full_bit, hi, Bool.not_true, Bool.and_false] at this
    have hl := bit_in hX hi
    simp [hl] at this
  · have := (conn_iff hs h1).1 hc X hX h0 (fun s hm => ⟨fun h => by rw [← hno s hm]; exact h, fun _ h => by rw [hno s hm]; exact h⟩)
    omega
theorem robbins {n : Nat} {st : List S30} (hs : Sane n st) (h1 : 1 ≤ n) (hc : connB n st = true) (hB : BF n st) : ∃ τ : List Bool, τ.length = st.length ∧ StrP n (fun r => r ∈ orL st τ) :=
  rob (sane_ends hs) hB st [] [] rfl rfl fun X X0 X1 => by
    obtain ⟨s, hm, h | h⟩ := conn_cross hs h1 hc X0 X1
    · exact ⟨turnS s, .inr (.inr hm), by rw [turn_back]; exact h⟩
    · exact ⟨s, .inr (.inl hm), h⟩
theorem str_cuts {n : Nat} {st : List S30} : cutsN n st = [] ↔ StrP n (fun r => r ∈ st) := by
  constructor
  · intro h X X0 X1
    refine Classical.byContradiction fun hn => ?_
    have : X ∈ cutsN n st := cutsN_mem.2 (isCut_mk X0 X1 fun s hm => by
      cases hb : backS X s
      · rfl
      · exact absurd ⟨s, hm, hb⟩ hn)
    rw [h] at this; cases this
  · intro h
    refine List.eq_nil_iff_forall_not_mem.2 fun X hX => ?_
    obtain ⟨X0, X1, hb⟩ := isCut_pos (cutsN_mem.1 hX)
    obtain ⟨s, hm, hs⟩ := h X X0 X1
    rw [hb s hm] at hs; cases hs
def sgn (m k : Nat) : List Bool := (List.range m).map fun i => k.testBit (m - 1 - i)
theorem sgn_succ (m k : Nat) (b : Bool) : sgn (m + 1) (2 * k + b.toNat) = sgn m k ++ [b] := by
  unfold sgn
  rw [List.range_succ, List.map_append, List.map_singleton]
  congr 1
  · refine List.map_congr_left fun i hi => ?_
    have hi' := List.mem_range.1 hi
    have : m + 1 - 1 - i = (m - 1 - i) + 1 := by omega
    rw [this, Nat.testBit_succ]
    congr 1
    cases b <;> simp <;> omega
  · have : m + 1 - 1 - m = 0 := by omega
    rw [this, Nat.testBit_zero]
    congr 1
    cases b <;> simp <;> omega
theorem sgn_all : ∀ (m : Nat) (σ : List Bool), σ.length = m → ∃ k, k < 2 ^ m ∧ sgn m k = σ
  | 0, σ, h => ⟨0, by decide, by cases σ with | nil => rfl | cons _ _ => simp at h⟩
  | m + 1, σ, h => by
    have hne : σ ≠ [] := fun e => by rw [e] at h; simp at h
    have hs := List.dropLast_concat_getLast hne
    obtain ⟨k, hk, he⟩ := sgn_all m σ.dropLast (by simp [h])
    refine ⟨2 * k + (σ.getLast hne).toNat, ?_, ?_⟩
    · rw [Nat.pow_succ]
      have : (σ.getLast hne).toNat ≤ 1 := Bool.toNat_le _
      omega
    · rw [sgn_succ, he, hs]
theorem sgn_len (m k : Nat) : (sgn m k).length = m := by simp [sgn]
end Go.Proofs.YtknecgmmpjggiaaDoor.OAll
