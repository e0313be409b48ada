/- A part of the proof of 'topReach_holds', for every input, without a condition. -/
import Derived.Lib.OthersKept
import Derived.Test.YtknecgmmpjggiaaDoorTReTf
import Derived.Test.YtknecgmmpjggiaaDoorTReTg
namespace Go.Proofs.YtknecgmmpjggiaaDoor.OAll
open Go.RowKit Go.Proofs.YtknecgmmpjggiaaDoorW.PrintWords Go.Proofs.YtknecgmmpjggiaaDoorW.PrintLast Go.Proofs.YtknecgmmpjggiaaDoorW.PrintMore
set_option linter.unusedVariables false
set_option linter.unusedSimpArgs false
def signFrom (s : ByteArray) : Nat → List S30 → List S30
  | _, [] => []
  | i, x :: t => (if bt s i = 60 then ⟨x.f1, x.f0⟩ else x) :: signFrom s (i + 1) t
theorem signFrom_len (s : ByteArray) : ∀ (l : List S30) (i : Nat), (signFrom s i l).length = l.length
  | [], _ => rfl
  | x :: t, i => by show (signFrom s (i + 1) t).length + 1 = _; rw [signFrom_len s t (i + 1)]; rfl
theorem signFrom_get (s : ByteArray) : ∀ (l : List S30) (i j : Nat) (h : j < l.length), (signFrom s i l)[j]? = some (if bt s ((i + j : Nat) : Int) = 60 then ⟨l[j].f1, l[j].f0⟩ else l[j])
  | x :: t, i, 0, h => by simp [signFrom]
  | x :: t, i, j + 1, h => by
    show (signFrom s (i + 1) t)[j]? = _
    rw [signFrom_get s t (i + 1) j (by simpa using h)]
    have : i + 1 + j = i + (j + 1) := by omega
    rw [this]; rfl
def signTo (s : ByteArray) (l : List S30) (p : Nat) : List S30 := (signFrom s 0 l).take p ++ l.drop p
theorem signTo_zero (s : ByteArray) (l : List S30) : signTo s l 0 = l := by simp [signTo]
theorem signTo_all (s : ByteArray) (l : List S30) : signTo s l l.length = signFrom s 0 l := by
  unfold signTo
  rw [List.drop_length, List.append_nil, ← signFrom_len s l 0, List.take_length]
theorem signTo_len (s : ByteArray) (l : List S30) (p : Nat) (hp : p ≤ l.length) : (signTo s l p).length = l.length := by
  simp [signTo, signFrom_len]; omega
theorem signTo_at (s : ByteArray) (l : List S30) (p : Nat) (hp : p < l.length) : (signTo s l p)[p]? = some l[p] := by
  unfold signTo
  rw [List.getElem?_append_right (by simp [signFrom_len]; omega)]
  simp [signFrom_len, Nat.min_eq_left (Nat.le_of_lt hp), hp]
theorem signTo_step (s : ByteArray) (l : List S30) (p : Nat) (hp : p < l.length) : signTo s l (p + 1) = (signTo s l p).set p (if bt s (p : Int) = 60 then ⟨l[p].f1, l[p].f0⟩ else l[p]) := by
  refine List.ext_getElem? fun j => ?_
  have h1 := signFrom_len s l 0
  have h2 := signTo_len s l p (Nat.le_of_lt hp)
  rw [List.getElem?_set, h2]
  unfold signTo
  rcases Nat.lt_trichotomy j p with h | h | h
  · rw [if_neg (by omega), List.getElem?_append_left (by rw [List.length_take, h1]; omega), List.getElem?_append_left (by rw [List.length_take, h1]; omega), List.getElem?_take_of_lt (by omega), List.getElem?_take_of_lt h]
  · subst h
    rw [if_pos rfl, if_pos hp, List.getElem?_append_left (by rw [List.length_take, h1]; omega), List.getElem?_take_of_lt (by omega), signFrom_get s l 0 j hp, Nat.zero_add]
  · rw [if_neg (by omega), List.getElem?_append_right (by rw [List.length_take, h1]; omega), List.getElem?_append_right (by rw [List.length_take, h1]; omega), List.length_take, List.length_take, h1, List.getElem?_drop, List.getElem?_drop]
    congr 1; omega
theorem take_two {α : Type} {cs : List α} {i : Nat} {a b : α} : (cs.drop (i * 2)).take 2 = [a, b] ↔ cs[i * 2]? = some a ∧ cs[i * 2 + 1]? = some b := by
  constructor
  · intro h
    have h0 := congrArg (fun z => z[0]?) h
    have h1 := congrArg (fun z => z[1]?) h
    simp only [List.getElem?_take, List.getElem?_drop] at h0 h1
    exact ⟨by simpa using h0, by simpa using h1⟩
  · rintro ⟨h0, h1⟩
    refine List.ext_getElem? fun k => ?_
    match k with
    | 0 => simp [List.getElem?_take, List.getElem?_drop, h0]
    | 1 => simp [List.getElem?_take, List.getElem?_drop, h1]
    | k + 2 => simp [List.getElem?_take, List.getElem?_drop]; intro h; omega
theorem R30_put {w : World} {base g n cap e : Nat} {ok : Nat → Prop} {xs : List S30} (h : Kd.R k30 e w base ok (.slice (some ⟨g, 0, none⟩) n cap) xs) (i : Nat) (hi : i < n) (a b : Int) :
    Kd.R k30 e ((w.setCell ⟨g, i * 2, none⟩ (.int .i64 a)).setCell ⟨g, i * 2 + 1, none⟩ (.int .i64 b)) base ok (.slice (some ⟨g, 0, none⟩) n cap) (xs.set i ⟨a, b⟩) := by
  obtain ⟨hn, _, _⟩ := Kd.R_reads' h
  obtain ⟨hok, inner, ho, hl, hrep⟩ := h
  subst hn
  have h1 := (ho.stored (i * 2) (.int .i64 a)).1
  have h2 := (h1.stored (i * 2 + 1) (.int .i64 b)).1
  refine ⟨hok, (inner.set (i * 2) (.int .i64 a)).set (i * 2 + 1) (.int .i64 b), ?_, ?_, ?_⟩
  · rw [List.length_set]; exact h2
  · simpa using hl
  · intro j p hj
    rw [List.getElem?_set] at hj
    split at hj
    · rename_i hij
      subst hij
      have hlen : i * 2 + 1 < inner.length := by rw [hl]; show _ < xs.length * 2; omega
      obtain rfl := Option.some.inj hj
      have : (((inner.set (i * 2) (Value.int .i64 a)).set (i * 2 + 1) (Value.int .i64 b)).drop (i * 2)).take 2 = [Value.int .i64 a, Value.int .i64 b] := take_two.2 ⟨by simp [List.getElem?_set, show i * 2 < inner.length by omega], by simp [List.getElem?_set, hlen]⟩
      show k30.M _ _ _ _ (((_ : List Value).drop (i * 2)).take 2)
      rw [this]
      exact k30_mkM _ _ _ _
    · rename_i hij
      have h0 := k30_openM (hrep j p hj)
      have h0' : (inner.drop (j * 2)).take 2 = _ := h0
      obtain ⟨q0, q1⟩ := take_two.1 h0'
      have : (((inner.set (i * 2) (Value.int .i64 a)).set (i * 2 + 1) (Value.int .i64 b)).drop (j * 2)).take 2 = [Value.int .i64 p.f0, Value.int .i64 p.f1] := take_two.2 ⟨by rw [List.getElem?_set, if_neg (by omega), List.getElem?_set, if_neg (by omega), q0], by rw [List.getElem?_set, if_neg (by omega), List.getElem?_set, if_neg (by omega), q1]⟩
      show k30.M _ _ _ _ (((_ : List Value).drop (j * 2)).take 2)
      rw [this]
      exact k30_mkM _ _ _ _
theorem drop_all {α : Type} (p : α → Bool) : ∀ l : List α, (∀ x ∈ l.dropWhile p, p x = true) → ∀ x ∈ l, p x = true
  | [], _, x, hx => by simp at hx
  | a :: t, h, x, hx => by
    cases ha : p a
    · rw [List.dropWhile_cons, if_neg (by simp [ha])] at h
      exact h x hx
    · rw [List.dropWhile_cons, if_pos ha] at h
      rcases List.mem_cons.1 hx with rfl | hx
      · exact ha
      · exact drop_all p t h x hx
theorem drop_nil {α : Type} (p : α → Bool) : ∀ l : List α, (∀ x ∈ l, p x = true) → l.dropWhile p = []
  | [], _ => rfl
  | a :: t, h => by
    rw [List.dropWhile_cons, if_pos (h a (List.mem_cons_self))]
    exact drop_nil p t fun x hx => h x (List.mem_cons_of_mem _ hx)
theorem trim_nil (l cs : List UInt8) : Lib.trimS l cs = [] ↔ ∀ b ∈ l, cs.contains b = true := by
  unfold Lib.trimS Lib.trimLeftS Lib.trimRightS
  constructor
  · intro h b hb
    have h1 : ∀ x ∈ l.reverse.dropWhile (cs.contains ·), cs.contains x = true := fun x hx => by
      have := drop_all (cs.contains ·) _ (fun y hy => by rw [h] at hy; cases hy) x (List.mem_reverse.2 hx)
      exact this
    exact drop_all (cs.contains ·) _ h1 b (List.mem_reverse.2 hb)
  · intro h
    rw [drop_nil (cs.contains ·) l.reverse fun x hx => h x (List.mem_reverse.1 hx)]
    rfl
theorem sign_ascii {s : ByteArray} (h : Lib.trimS s.data.toList [60, 62] = []) (p : Nat) (hp : p < s.size) : (s[p]'hp).toNat < 128 := by
  have := (trim_nil _ _).1 h (s[p]'hp) (by
    show s.data[p]'hp ∈ _
    exact Array.getElem_mem_toList _)
  have h2 : (s[p]'hp) = 60 ∨ (s[p]'hp) = 62 := by simpa using this
  rcases h2 with h2 | h2 <;> rw [h2] <;> decide
def oneway_quarter_signed.f (a0_0 : Int) (l0_1 : List S30) (a1 : ByteArray) : Option (List S30 × Bool) :=
  if a1.size = l0_1.length ∧ a1.size ≤ 9223372036854775807 then (if Lib.trimS a1.data.toList [60, 62] = [] then (if l0_1.length < 8796093022208 then some (signFrom a1 0 l0_1, true) else none) else some ([], false)) else (if a1.size = l0_1.length then none else some ([], false))
set_option maxRecDepth 100000 in
set_option maxHeartbeats 4000000 in
theorem oneway_quarter_signed.calls (a0_0 : Int) (A0_1 : Option Addr) (c0_1 : Nat) (l0_1 : List S30) (a1 : ByteArray) (r1 : List S30) (r2 : Bool) (w : World) (hr0_1 : Kd.C k30 w A0_1 l0_1.length l0_1) (hc0_1 : l0_1.length ≤ c0_1) (h : oneway_quarter_signed.f a0_0 l0_1 a1 = some (r1, r2)) :
    Calls Tryd.prog 29 #[.agg #[.int .i64 a0_0, .slice A0_1 l0_1.length c0_1], .string a1] w fun e w' => ∃ v0_ : Value, e = .returned (.tuple #[v0_, .bool r2]) ∧ Kd.R k30 30 w' w.heap.size (fun _ => True) v0_ r1 ∧ Below w.heap.size w w' := by
  have hu46 := Tryd.underlying46
  have hu30 := Tryd.underlying30
  have hu9 := Tryd.underlying9
  have HR := Aside0.mk hr0_1
  have HC := Aside0.mk hc0_1
  unfold oneway_quarter_signed.f at h
  by_cases hsz : a1.size = l0_1.length
  · have hbig : a1.size ≤ 9223372036854775807 := by rw [hsz]; exact Kd.C_max hr0_1
    rw [if_pos ⟨hsz, hbig⟩] at h
    have hne : ((a1.size : Int) != (l0_1.length : Int)) = false := by rw [hsz]; simp
    have HB := Aside0.mk hbig
    have HS := Aside0.mk hsz
    clear hr0_1 hc0_1 hbig hsz
    by_cases ht : Lib.trimS a1.data.toList [60, 62] = []
    · rw [if_pos ht] at h
      by_cases hl : l0_1.length < 8796093022208
      · rw [if_pos hl] at h
        simp only [Option.some.injEq, Prod.mk.injEq] at h
        obtain ⟨rfl, rfl⟩ := h
        have HT := Aside0.mk ht
        have HL := Aside0.mk hl
        clear ht hl
        have HQ0 : Aside0 ((w.alloc (.cells #[.int .i64 a0_0, .slice A0_1 l0_1.length c0_1] 46)).cell? ⟨w.heap.size, 1, none⟩ = some (.slice A0_1 l0_1.length c0_1)) := ⟨(blk_cell (blk_new w _) 1).trans rfl⟩
        have HB0 : Aside0 (Below w.heap.size w (w.alloc (.cells #[.int .i64 a0_0, .slice A0_1 l0_1.length c0_1] 46))) := ⟨below_alloc (Below.refl _ _) _⟩
        go_enter Tryd.func29, Tryd.ntmps29
        go_wp2_with (first | (go_at_call 43; refine (trim_calls a1 _ HB.out).mono ?_; rintro e w1 ⟨rfl, hb1⟩; rw [HT.out]; have HB1 := Aside0.mk (below_step HB0.out hb1); have hc20 : w1.cell? ⟨w.heap.size, 1, none⟩ = some (.slice A0_1 l0_1.length c0_1) := pw_cell_below hb1 HQ0.out; clear hb1) | (go_at_call 44; refine (slices_Clone_arcs.calls A0_1 c0_1 l0_1 l0_1 _ (Kd.C_below HR.out HB1.out) HC.out (by unfold slices_Clone_arcs.f; rw [if_pos (by simpa using HL.out)])).mono ?_; rintro e w2 ⟨v2, rfl, ho2, hb2⟩; have HO2 := Aside0.mk ho2; have HB2 := Aside0.mk (below_step HB1.out hb2); obtain ⟨Ao, co, rfl⟩ := Kd.R_slice ho2; clear ho2 hb2))
        have HI := Aside0.mk (World.iter_heap w2 a1 0)
        have HR3 : Aside0 (Kd.R k30 30 (w2.iter a1 0) w1.heap.size (fun k => k < w2.heap.size) (.slice Ao l0_1.length co) l0_1) := ⟨Kd.R_mono (Kd.R_below (Kd.R_bound HO2.out) (below_alloc (Below.refl _ _) _)) (fun k hk => hk.2.2.1)⟩
        have HB3 : Aside0 (Below w.heap.size w (w2.iter a1 0)) := ⟨below_step HB2.out (below_alloc (Below.refl _ _) _)⟩
        have HBS : Aside0 (w.heap.size ≤ w1.heap.size) := ⟨HB1.out.size⟩
        have HBS2 : Aside0 (w.heap.size ≤ w2.heap.size) := ⟨HB2.out.size⟩
        clear hc20 HB1 HB2 HO2
        go_loopg [7] l0_1.length (fun kq v7 w' => Aside0 (kq ≤ l0_1.length) ∧ Aside0 (w'.heap[w2.heap.size]? = some (.stringIter a1 (l0_1.length - kq))) ∧ Aside0 (Kd.R k30 30 w' w1.heap.size (fun k => k < w2.heap.size) (.slice Ao l0_1.length co) (signTo a1 l0_1 (l0_1.length - kq))) ∧ Aside0 (Below w.heap.size w w'))
        case atStart => exact ⟨⟨Nat.le_refl _⟩, ⟨by rw [Nat.sub_self]; exact HI.out⟩, ⟨by rw [Nat.sub_self, signTo_zero]; exact HR3.out⟩, HB3⟩
        case round =>
          clear HI HR3 HB3
          obtain ⟨HK, HIT, HRR, HBB⟩ := hrel
          cases gk with
          | zero =>
            have hit : wr.heap[w2.heap.size]? = some (.stringIter a1 l0_1.length) := by simpa using HIT.out
            have hnx : ∀ ty, (Instr.next (.pointer (some ⟨w2.heap.size, 0, none⟩)) true ty).run Tryd.prog wr = _ := fun ty => Lib.run_next_end_at wr _ a1 l0_1.length ty hit (by have := HS.out; omega)
            have HRE : Aside0 (Kd.R k30 30 wr w1.heap.size (fun k => k < w2.heap.size) (.slice Ao l0_1.length co) (signFrom a1 0 l0_1)) := ⟨by have := HRR.out; rwa [Nat.sub_zero, signTo_all] at this⟩
            clear hit
            go_wp2
            go_ret2
            exact ⟨_, rfl, Kd.R_mono (Kd.R_lower HRE.out HBS.out) (fun _ _ => trivial), HBB.out⟩
          | succ k1 =>
            obtain ⟨p, hp⟩ : ∃ p, p = l0_1.length - (k1 + 1) := ⟨_, rfl⟩
            have hk1 := HK.out
            have hpl : p < l0_1.length := by omega
            have hps : p < a1.size := by have := HS.out; omega
            have HP : Aside0 (l0_1.length - k1 = p + 1) := ⟨by omega⟩
            rw [← hp] at HIT HRR
            obtain ⟨W, hW⟩ : ∃ W, W = wr.iterAt w2.heap.size a1 (p + 1) := ⟨_, rfl⟩
            have hnx : ∀ ty, (Instr.next (.pointer (some ⟨w2.heap.size, 0, none⟩)) true ty).run Tryd.prog wr = .ok (.tuple #[.bool true, .int .i64 p, .int .i32 (bt a1 (p : Int))]) W := fun ty => by
              rw [Lib.run_next_ascii_at wr _ a1 p ty HIT.out hps (sign_ascii HT.out p hps), hW]
              have := bt_at a1 (p : Int) (by simpa using hps)
              rw [← this]; rfl
            have HIW : Aside0 (W.heap[w2.heap.size]? = some (.stringIter a1 (p + 1))) := ⟨by rw [hW]; exact Lib.iterAt_heap wr _ a1 p _ HIT.out⟩
            have HRW : Aside0 (Kd.R k30 30 W w1.heap.size (fun k => k < w2.heap.size) (.slice Ao l0_1.length co) (signTo a1 l0_1 p)) := ⟨by rw [hW]; exact Kd.R_move HRR.out (fun k hk => Lib.iterAt_other wr _ k a1 (p + 1) (by omega))⟩
            have HBW : Aside0 (Below w.heap.size w W) := ⟨by rw [hW]; exact Lib.below_iterAt HBB.out HBS2.out a1 (p + 1)⟩
            have HPL := Aside0.mk hpl
            clear hk1 hpl hps hW HIT HRR HBB hp
            by_cases hb : bt a1 (p : Int) = 60
            · have hbb : (bt a1 (p : Int) == 60) = true := beq_iff_eq.2 hb
              have HQ : ∃ g, Ao = some ⟨g, 0, none⟩ := by
                obtain ⟨g, cap, e, _⟩ := Kd.R_form HRW.out (by rw [signTo_len _ _ _ (Nat.le_of_lt HPL.out)]; have := HPL.out; omega)
                injection e with e; exact ⟨g, e⟩
              obtain ⟨g, rfl⟩ := HQ
              have HX : Aside0 (signTo a1 l0_1 (p + 1) = (signTo a1 l0_1 p).set p ⟨(l0_1[p]'HPL.out).f1, (l0_1[p]'HPL.out).f0⟩) := ⟨by rw [signTo_step a1 l0_1 p HPL.out, if_pos hb]⟩
              obtain ⟨x, hx⟩ : ∃ x, x = l0_1[p]'HPL.out := ⟨_, rfl⟩
              rw [← hx] at HX
              have hrd : rd_T30 (signTo a1 l0_1 p) (p : Int) = x := by
                unfold rd_T30
                rw [Int.toNat_natCast, List.getD_eq_getElem?_getD, signTo_at a1 l0_1 p HPL.out, hx]; rfl
              have hlen : (signTo a1 l0_1 p).length = l0_1.length := signTo_len _ _ _ (Nat.le_of_lt HPL.out)
              obtain ⟨hc1, hc2⟩ : W.cell? ⟨g, p * 2, none⟩ = some (.int .i64 x.f0) ∧ W.cell? ⟨g, p * 2 + 1, none⟩ = some (.int .i64 x.f1) := by
                have hpl := HPL.out
                obtain ⟨ad, e, h1, h2⟩ := at_T30 (Kd.R_reads' HRW.out).2.2 (p : Int) (by omega) (by omega)
                cases e
                rw [hrd, Int.toNat_natCast, add_plain] at h1
                rw [hrd, Int.toNat_natCast, add_plain] at h2
                exact ⟨h1, h2⟩
              obtain ⟨hf1, hf2⟩ : W.frozen? ⟨g, p * 2, none⟩ = false ∧ W.frozen? ⟨g, p * 2 + 1, none⟩ = false := by
                have hpl := HPL.out
                obtain ⟨g', cap, e, _, _, cs, hcs⟩ := Kd.R_form HRW.out (by rw [hlen]; omega)
                simp only [Value.slice.injEq, Option.some.injEq, Addr.mk.injEq] at e
                obtain ⟨⟨rfl, _⟩, _⟩ := e
                exact ⟨blk_frozen hcs _, blk_frozen hcs _⟩
              have v1b := eq_true (show (0 : Int) ≤ (p : Int) by omega)
              have v2b := eq_true (show (p : Int) < (l0_1.length : Int) by have := HPL.out; omega)
              have hg1 : w1.heap.size ≤ g ∧ g < w2.heap.size := by
                refine ⟨Kd.R_base HRW.out g (by simp [Value.ownBlock]), HRW.out.1 g (by simp [Value.ownBlock])⟩
              obtain ⟨W2, hW2⟩ : ∃ W2, W2 = ((W.setCell ⟨g, p * 2, none⟩ (.int .i64 x.f1)).setCell ⟨g, p * 2 + 1, none⟩ (.int .i64 x.f0)).drew := ⟨_, rfl⟩
              have HR2 : Aside0 (Kd.R k30 30 W2 w1.heap.size (fun k => k < w2.heap.size) (.slice (some ⟨g, 0, none⟩) l0_1.length co) (signTo a1 l0_1 (p + 1))) := ⟨by
                rw [hW2, HX.out]; exact R30_put HRW.out p (by have := HPL.out; omega) x.f1 x.f0⟩
              have HI2 : Aside0 (W2.heap[w2.heap.size]? = some (.stringIter a1 (p + 1))) := ⟨by
                rw [hW2]
                show ((W.setCell _ _).setCell _ _).heap[_]? = _
                rw [Below.heap_setCell _ _ _ _ (by show _ ≠ g; omega), Below.heap_setCell _ _ _ _ (by show _ ≠ g; omega)]
                exact HIW.out⟩
              have HB2 : Aside0 (Below w.heap.size w W2) := ⟨by
                rw [hW2]
                have h1 := HBS.out
                exact below_drew ((HBW.out.setCell (p := ⟨g, p * 2, none⟩) (by show _ ≤ g; omega) _).setCell (p := ⟨g, p * 2 + 1, none⟩) (by show _ ≤ g; omega) _)⟩
              clear hb hx hrd hlen
              go_wp2
              go_region
              rw [← hW2]
              clear hW2
              go_wp2
              go_roundg k1
              case measure => omega
              case rel => exact ⟨⟨by have := HK.out; omega⟩, ⟨by rw [HP.out]; exact HI2.out⟩, ⟨by rw [HP.out]; exact HR2.out⟩, HB2⟩
            · have hbb : (bt a1 (p : Int) == 60) = false := beq_eq_false_iff_ne.2 hb
              have HX : Aside0 (signTo a1 l0_1 (p + 1) = signTo a1 l0_1 p) := ⟨by
                rw [signTo_step a1 l0_1 p HPL.out, if_neg hb]
                refine List.ext_getElem? fun j => ?_
                rw [List.getElem?_set]
                split
                · rename_i hj; subst hj
                  rw [if_pos (by rw [signTo_len _ _ _ (Nat.le_of_lt HPL.out)]; exact HPL.out), signTo_at a1 l0_1 _ HPL.out]
                · rfl⟩
              clear hb
              go_wp2
              go_roundg k1
              case measure => omega
              case rel => exact ⟨⟨by have := HK.out; omega⟩, ⟨by rw [HP.out]; exact HIW.out⟩, ⟨by rw [HP.out, HX.out]; exact HRW.out⟩, HBW⟩
      · rw [if_neg hl] at h; cases h
    · rw [if_neg ht] at h
      simp only [Option.some.injEq, Prod.mk.injEq] at h
      obtain ⟨rfl, rfl⟩ := h
      have HB0 : Aside0 (Below w.heap.size w (w.alloc (.cells #[.int .i64 a0_0, .slice A0_1 l0_1.length c0_1] 46))) := ⟨below_alloc (Below.refl _ _) _⟩
      obtain ⟨tt, htt⟩ : ∃ tt, tt = Lib.trimS a1.data.toList [60, 62] := ⟨_, rfl⟩
      rw [← htt] at ht
      have HTT := Aside0.mk htt
      have hst : tt.isEmpty = false := by
        cases tt with
        | nil => exact absurd rfl ht
        | cons _ _ => rfl
      clear htt
      go_enter Tryd.func29, Tryd.ntmps29
      go_wp2_with (first | (go_at_call 43; refine (trim_calls a1 _ HB.out).mono ?_; rintro e w1 ⟨rfl, hb1⟩; rw [← HTT.out]; have HB1 := Aside0.mk (below_step HB0.out hb1); clear hb1))
      go_ret2
      exact ⟨_, rfl, Kd.R_nil _ _ _ _ _, HB1.out⟩
  · rw [if_neg (fun e => hsz e.1), if_neg hsz] at h
    simp only [Option.some.injEq, Prod.mk.injEq] at h
    obtain ⟨rfl, rfl⟩ := h
    have hne : ((a1.size : Int) != (l0_1.length : Int)) = true := bne_iff_ne.2 (fun e => hsz (by omega))
    clear hr0_1 hc0_1 hsz
    have HB0 : Aside0 (Below w.heap.size w (w.alloc (.cells #[.int .i64 a0_0, .slice A0_1 l0_1.length c0_1] 46))) := ⟨below_alloc (Below.refl _ _) _⟩
    go_enter Tryd.func29, Tryd.ntmps29
    go_wp2
    go_ret2
    exact ⟨_, rfl, Kd.R_nil _ _ _ _ _, HB0.out⟩
end Go.Proofs.YtknecgmmpjggiaaDoor.OAll
