/- A part of the proof of 'topReach_holds', for every input, without a condition. -/
import Derived.Test.YtknecgmmpjggiaaDoorTReTr
namespace Go.Proofs.YtknecgmmpjggiaaDoor.OAll
open Go.RowKit Go.Proofs.YtknecgmmpjggiaaDoorW.PrintWords Go.Proofs.YtknecgmmpjggiaaDoorW.PrintLast Go.Proofs.YtknecgmmpjggiaaDoorW.PrintMore
set_option linter.unusedVariables false
set_option linter.unusedSimpArgs false
theorem never_calls (i : Int) (w : World) : Calls Tryd.prog 31 #[.int .i64 i] w fun e w' => e = .returned (.bool false) ∧ w' = w := by
  go_enter Tryd.func31, Tryd.ntmps31
  go_wp2
  go_ret
  exact ⟨rfl, rfl⟩
def Looks (w : World) (v : Value) (m : Nat) (p : Nat → Bool) : Prop := ∀ W, Below w.heap.size w W → ∀ i : Nat, i < m → (Instr.lookup 82 v (.int .i64 (i : Int)) false).run Tryd.prog W = .ok (.bool (p i)) W
theorem Looks.below {w w1 : World} {v : Value} {m : Nat} {p : Nat → Bool} (h : Looks w v m p) (hb : Below w.heap.size w w1) : Looks w1 v m p := fun W hW i hi => h W (below_step hb hW) i hi
inductive OutV (w : World) (fv : Value) (m : Nat) (p : Nat → Bool) : Prop where
  | never (h : fv = .func (.func 31) #[] #[]) (hp : ∀ i, p i = false)
  | maps (G M : Nat) (vg vm : Value) (pg pm : Nat → Bool) (h : fv = .func (.func 35) #[] #[.pointer (some ⟨G, 0, none⟩), .pointer (some ⟨M, 0, none⟩)]) (hg : w.heap[G]? = some (.cells #[vg] 82 (0, 0))) (hm : w.heap[M]? = some (.cells #[vm] 82 (0, 0))) (lg : Looks w vg m pg) (lm : Looks w vm m pm) (hp : ∀ i, p i = (pg i || pm i))
theorem OutV.below {w w1 : World} {fv : Value} {m : Nat} {p : Nat → Bool} (h : OutV w fv m p) (hb : Below w.heap.size w w1) : OutV w1 fv m p := by
  cases h with
  | never h hp => exact .never h hp
  | maps G M vg vm pg pm h hg hm lg lm hp => exact .maps G M vg vm pg pm h (blk_below hg hb) (blk_below hm hb) (lg.below hb) (lm.below hb) hp
set_option maxRecDepth 100000 in
theorem gone_calls (i m : Nat) (G M : Nat) (vg vm : Value) (pg pm : Nat → Bool) (w : World) (hi : i < m) (hg : w.heap[G]? = some (.cells #[vg] 82 (0, 0))) (hm : w.heap[M]? = some (.cells #[vm] 82 (0, 0))) (lg : Looks w vg m pg) (lm : Looks w vm m pm) :
    Calls Tryd.prog 35 #[.int .i64 (i : Int), .pointer (some ⟨G, 0, none⟩), .pointer (some ⟨M, 0, none⟩)] w fun e w' => e = .returned (.bool (pg i || pm i)) ∧ w' = w := by
  have e1 : w.cell? ⟨G, 0, none⟩ = some vg := (blk_cell hg 0).trans rfl
  have e2 : w.cell? ⟨M, 0, none⟩ = some vm := (blk_cell hm 0).trans rfl
  have l1 := lg w (Below.refl _ _) i hi
  have l2 := lm w (Below.refl _ _) i hi
  have hu82 := Tryd.underlying82
  clear hg hm lg lm hi
  cases h1 : pg i
  · rw [h1] at l1
    cases h2 : pm i
    · rw [h2] at l2
      go_enter Tryd.func35, Tryd.ntmps35
      go_wp2
      go_ret
      exact ⟨rfl, rfl⟩
    · rw [h2] at l2
      go_enter Tryd.func35, Tryd.ntmps35
      go_wp2
      go_ret
      exact ⟨rfl, rfl⟩
  · rw [h1] at l1
    go_enter Tryd.func35, Tryd.ntmps35
    go_wp2
    go_ret
    exact ⟨rfl, rfl⟩
def Zer (ls : List Int) (m : Nat) : Prop := ls.length = m ∧ ∀ j : Nat, j < m → rd ls (j : Int) = 0
set_option maxRecDepth 100000 in
theorem free_calls (i : Nat) (L F : Nat) (A1 : Option Addr) (m c1 : Nat) (ls : List Int) (fv : Value) (p : Nat → Bool) (w : World) (hi : i < m) (hl : w.heap[L]? = some (.cells #[.slice A1 m c1] 35 (0, 0))) (hf : w.heap[F]? = some (.cells #[fv] 51 (0, 0))) (hC : Kd.C (Kd.int .i64) w A1 m ls) (hz : Zer ls m) (ho : OutV w fv m p) :
    Calls Tryd.prog 65 #[.int .i64 (i : Int), .pointer (some ⟨L, 0, none⟩), .pointer (some ⟨F, 0, none⟩)] w fun e w' => e = .returned (.bool (!p i)) ∧ w' = w := by
  have e1 : w.cell? ⟨L, 0, none⟩ = some (.slice A1 m c1) := (blk_cell hl 0).trans rfl
  have e2 : w.cell? ⟨F, 0, none⟩ = some fv := (blk_cell hf 0).trans rfl
  obtain ⟨ad, e, x0⟩ := Kd.at_int hC (i : Int) (by omega) (by omega)
  cases e
  rw [Int.toNat_natCast, hz.2 i hi] at x0
  have p1 := eq_true (show (0 : Int) ≤ (i : Int) by omega)
  have p2 := eq_true (show (i : Int) < (m : Int) by omega)
  cases ho with
  | never h hp =>
    subst h
    rw [hp i]
    clear hl hf hC hz hi hp
    go_enter Tryd.func65, Tryd.ntmps65
    go_wp2_with (go_at_call 31; refine (never_calls (i : Int) _).mono ?_; rintro e w1 ⟨rfl, rfl⟩)
    go_ret
    exact ⟨rfl, rfl⟩
  | maps G M vg vm pg pm h hg hm lg lm hp =>
    subst h
    rw [hp i]
    have HG := Aside0.mk (gone_calls i m G M vg vm pg pm w hi hg hm lg lm)
    clear hl hf hC hz hi hp hg hm lg lm
    go_enter Tryd.func65, Tryd.ntmps65
    go_wp2_with (go_at_call 35; refine HG.out.mono ?_; rintro e w1 ⟨rfl, rfl⟩)
    go_ret
    exact ⟨by cases pg i <;> cases pm i <;> rfl, rfl⟩
structure AlS (w : World) (T L F FR : Nat) (B n : Nat) (A : Option Addr) (c : Nat) (ways : List S32) (A1 : Option Addr) (c1 : Nat) (ls : List Int) (fv : Value) (p : Nat → Bool) : Prop where
  bt : w.heap[T]? = some (.cells #[.pointer (some ⟨B, 0, none⟩)] 52 (0, 0))
  bl : w.heap[L]? = some (.cells #[.slice A1 ways.length c1] 35 (0, 0))
  bf : w.heap[F]? = some (.cells #[fv] 51 (0, 0))
  br : w.heap[FR]? = some (.cells #[.func (.func 65) #[] #[.pointer (some ⟨L, 0, none⟩), .pointer (some ⟨F, 0, none⟩)]] 51 (0, 0))
  town : Town w B n A c ways
  C : Kd.C (Kd.int .i64) w A1 ways.length ls
  out : OutV w fv ways.length p
theorem AlS.below {w w1 : World} {T L F FR : Nat} {B n : Nat} {A : Option Addr} {c : Nat} {ways : List S32} {A1 : Option Addr} {c1 : Nat} {ls : List Int} {fv : Value} {p : Nat → Bool} (h : AlS w T L F FR B n A c ways A1 c1 ls fv p) (hb : Below w.heap.size w w1) : AlS w1 T L F FR B n A c ways A1 c1 ls fv p :=
  ⟨blk_below h.bt hb, blk_below h.bl hb, blk_below h.bf hb, blk_below h.br hb, h.town.below hb, Kd.C_below h.C hb, h.out.below hb⟩
set_option maxRecDepth 100000 in
set_option maxHeartbeats 4000000 in
theorem reached_calls (T L F FR : Nat) (B n : Nat) (A : Option Addr) (c : Nat) (ways : List S32) (A1 : Option Addr) (c1 : Nat) (ls : List Int) (fv : Value) (p : Nat → Bool) (f : Nat) (w : World) (hS : AlS w T L F FR B n A c ways A1 c1 ls fv p) (hn : n ≤ 7) (ho : OkW n ways) (hz : Zer ls ways.length) (hf : f < n) :
    Calls Tryd.prog 66 #[.int .i64 (f : Int), .pointer (some ⟨T, 0, none⟩), .pointer (some ⟨FR, 0, none⟩)] w fun e w' => e = .returned (.int .i64 ((itrI (fun i => !p i) ways n (2 ^ f) : Nat) : Int)) ∧ Below w.heap.size w w' := by
  have q0 := hS.town.n0
  have q1 : w.cell? ⟨T, 0, none⟩ = some (.pointer (some ⟨B, 0, none⟩)) := (blk_cell hS.bt 0).trans rfl
  have hu78 := Tryd.underlying78
  have hu32 := Tryd.underlying32
  have HS := Aside0.mk hS
  have HO := Aside0.mk ho
  have HZ := Aside0.mk hz
  have HN := Aside0.mk (And.intro hf hn)
  have hsh : wrap64 ((2 : Int) ^ f) = ((2 ^ f : Nat) : Int) := w64pow (by omega)
  have hmf : min f 64 = f := by omega
  obtain ⟨r, hr⟩ : ∃ r, r = itrI (fun i => !p i) ways n (2 ^ f) := ⟨_, rfl⟩
  rw [← hr]
  have HR := Aside0.mk hr
  obtain ⟨q, hq⟩ : ∃ q : Nat → Bool, q = fun i => !p i := ⟨_, rfl⟩
  rw [← hq] at HR
  have HQ := Aside0.mk hq
  obtain ⟨f2, hf2⟩ : ∃ f2 : Nat, f2 = 2 ^ f := ⟨_, rfl⟩
  rw [← hf2] at hsh HR
  have HF2 : Aside0 (f2 < 2 ^ n) := ⟨by rw [hf2]; exact Nat.pow_lt_pow_right (by decide) hf⟩
  clear hS ho hz hf hn hr hq hf2
  go_enter Tryd.func66, Tryd.ntmps66
  go_wp2
  try rw [hsh]
  go_loopg [5, 14] n (fun kq v5 v14 w' => ∃ (j s : Nat), v5 = .int .i64 (s : Int) ∧ v14 = .int .i64 (j : Int) ∧ Aside0 (j + kq = n) ∧ Aside0 (itrI q ways kq s = r ∧ s < 2 ^ n) ∧ Aside0 (Below w.heap.size w w'))
  case atStart => exact ⟨0, f2, by first | rfl | rw [hsh], rfl, ⟨by omega⟩, ⟨HR.out.symm, HF2.out⟩, ⟨Below.refl _ _⟩⟩
  case round =>
    clear q0 q1 hsh hmf
    obtain ⟨j, s, rfl, rfl, HJ, HT, HB⟩ := hrel
    cases gk with
    | zero =>
      have hj : j = n := HJ.out
      subst hj
      have hsr : s = r := HT.out.1
      subst hsr
      go_wp2
      go_ret
      exact ⟨rfl, HB.out⟩
    | succ G =>
      have v1 := eq_true (show j < n by have := HJ.out; omega)
      have v1b := eq_true (show (j : Int) < (n : Int) by have := HJ.out; omega)
      obtain ⟨s1, hs1⟩ : ∃ s1, s1 = pasI q ways ways.length 0 s := ⟨_, rfl⟩
      have HS1 : Aside0 (itrI q ways G s1 = r) := ⟨by rw [hs1]; exact HT.out.1⟩
      have HS2 := Aside0.mk hs1
      have HSL := Aside0.mk HT.out.2
      have q1 : wr.cell? ⟨T, 0, none⟩ = some (.pointer (some ⟨B, 0, none⟩)) := (blk_cell (HS.out.below HB.out).bt 0).trans rfl
      have q2 := (HS.out.below HB.out).town.w1
      clear hs1 HT
      go_wp2
      clear q1 q2
      go_loopg [5, 21] ways.length (fun kq v5 v21 w' => ∃ (i t : Nat), v5 = .int .i64 (t : Int) ∧ v21 = .int .i64 (i : Int) ∧ Aside0 (i + kq = ways.length) ∧ Aside0 (pasI q ways kq i t = s1 ∧ t < 2 ^ n) ∧ Aside0 (Below w.heap.size w w'))
      case atStart => exact ⟨0, s, rfl, rfl, ⟨by omega⟩, ⟨HS2.out.symm, HSL.out⟩, HB⟩
      case round =>
        clear HB
        obtain ⟨i, t, rfl, rfl, HI, HT1, HB⟩ := hrel
        cases gk with
        | zero =>
          have hi : i = ways.length := HI.out
          have v2 := eq_false (show ¬ i < ways.length by omega)
          have v2b := eq_false (show ¬ (i : Int) < (ways.length : Int) by omega)
          have ht : t = s1 := HT1.out.1
          have HTL := Aside0.mk HT1.out.2
          have E1 := Aside0.mk (w64s j (by have := HJ.out; have := HN.out; omega))
          subst ht
          clear hi
          go_wp2
          go_roundg G
          case measure => omega
          case rel => exact ⟨j + 1, t, rfl, by rw [E1.out], ⟨by have := HJ.out; omega⟩, ⟨HS1.out, HTL.out⟩, HB⟩
        | succ k1 =>
          have hi : i < ways.length := by have := HI.out; omega
          have v2 := eq_true hi
          have v2b := eq_true (show (i : Int) < (ways.length : Int) by omega)
          have p1 := eq_true (show (0 : Int) ≤ (i : Int) by omega)
          have hok := HO.out.2 _ (rd_T32_mem hi)
          obtain ⟨x, hx⟩ : ∃ x, x = rd_T32 ways (i : Int) := ⟨_, rfl⟩
          have hSW := HS.out.below HB.out
          obtain ⟨ad, e0, x0, x1, x2⟩ := at_T32 hSW.town.C (i : Int) (by omega) (by omega)
          cases e0
          rw [← hx] at x0 x1 x2 hok
          obtain ⟨a, ha⟩ := Int.eq_ofNat_of_zero_le hok.1
          obtain ⟨b, hb⟩ := Int.eq_ofNat_of_zero_le hok.2.2.1
          rw [ha] at x0
          rw [hb] at x1
          rw [Int.toNat_natCast] at x0 x1 x2
          have hab : a ≤ 7 ∧ b ≤ 7 := by have := HN.out; rw [ha, hb] at hok; omega
          have m1 : min a 64 = a := by omega
          have m2 : min b 64 = b := by omega
          have ht128 := pow128 HN.out.2 HT1.out.2
          have E1 := Aside0.mk (w64s i (by have := HI.out; have := HO.out.1; omega))
          have hstp : stpI q ways i t = if q i && t.testBit a then t ||| 2 ^ b else t := by
            unfold stpI; rw [← hx, ha, hb, Int.toNat_natCast, Int.toNat_natCast]
          have hlt := stpI_lt (p := q) HO.out hi HT1.out.2
          have HP : Aside0 (pasI q ways k1 (i + 1) (stpI q ways i t) = s1 ∧ stpI q ways i t < 2 ^ n) := ⟨HT1.out.1, hlt⟩
          have hbW := below_alloc (Below.refl wr.heap.size wr) (.cells #[.int .i64 x.f0, .int .i64 x.f1, .int .i64 x.f2] 32 (0, 0))
          rw [ha, hb] at hbW
          have HSW := Aside0.mk (hSW.below hbW)
          have HBW := Aside0.mk (below_step HB.out hbW)
          have HNW := Aside0.mk (blk_new wr (.cells #[.int .i64 (a : Int), .int .i64 (b : Int), .int .i64 x.f2] 32))
          have fr : (wr.alloc (.cells #[.int .i64 (a : Int), .int .i64 (b : Int), .int .i64 x.f2] 32)).cell? ⟨FR, 0, none⟩ = some (.func (.func 65) #[] #[.pointer (some ⟨L, 0, none⟩), .pointer (some ⟨F, 0, none⟩)]) := (blk_cell HSW.out.br 0).trans rfl
          have HQI : Aside0 (q i = !p i) := ⟨by rw [HQ.out]⟩
          have HII := Aside0.mk hi
          have b1y : t.testBit a = true → Go.bits .and .i64 ((t : Int) / 2 ^ a) 1 = 1 := bit_yes (by omega)
          have b1n : t.testBit a = false → Go.bits .and .i64 ((t : Int) / 2 ^ a) 1 = 0 := bit_no (by omega)
          have b2 := or_pow ht128 hab.2
          clear hx ha hb hok hi hab ht128 hlt HT1 hSW hbW
          cases hq : q i
          · rw [hq] at hstp HQI
            rw [hstp] at HP
            have HP2 : Aside0 (pasI q ways k1 (i + 1) t = s1 ∧ t < 2 ^ n) := ⟨by simpa using HP.out⟩
            clear hstp HP hq b1y b1n b2
            go_wp2_with (go_at_call 65; refine (free_calls i L F A1 ways.length c1 ls fv p _ HII.out HSW.out.bl HSW.out.bf HSW.out.C HZ.out HSW.out.out).mono ?_; rintro e w4 ⟨rfl, rfl⟩; rw [← HQI.out])
            go_roundg k1
            case measure => omega
            case rel => exact ⟨i + 1, t, rfl, by rw [E1.out], ⟨by have := HI.out; omega⟩, HP2, HBW⟩
          · rw [hq] at hstp HQI
            rw [hstp] at HP
            cases t1 : t.testBit a
            · have b1 := b1n t1
              have HP2 : Aside0 (pasI q ways k1 (i + 1) t = s1 ∧ t < 2 ^ n) := ⟨by have := HP.out; rw [t1] at this; simpa using this⟩
              clear hstp HP hq b1y b1n b2 t1
              go_wp2_with (go_at_call 65; refine (free_calls i L F A1 ways.length c1 ls fv p _ HII.out HSW.out.bl HSW.out.bf HSW.out.C HZ.out HSW.out.out).mono ?_; rintro e w4 ⟨rfl, rfl⟩; rw [← HQI.out])
              go_roundg k1
              case measure => omega
              case rel => exact ⟨i + 1, t, rfl, by rw [E1.out], ⟨by have := HI.out; omega⟩, HP2, HBW⟩
            · have b1 := b1y t1
              have HP2 : Aside0 (pasI q ways k1 (i + 1) (t ||| 2 ^ b) = s1 ∧ t ||| 2 ^ b < 2 ^ n) := ⟨by have := HP.out; rw [t1] at this; simpa using this⟩
              clear hstp HP hq b1y b1n t1
              go_wp2_with (go_at_call 65; refine (free_calls i L F A1 ways.length c1 ls fv p _ HII.out HSW.out.bl HSW.out.bf HSW.out.C HZ.out HSW.out.out).mono ?_; rintro e w4 ⟨rfl, rfl⟩; rw [← HQI.out])
              go_roundg k1
              case measure => omega
              case rel => exact ⟨i + 1, t ||| 2 ^ b, rfl, by rw [E1.out], ⟨by have := HI.out; omega⟩, HP2, HBW⟩
end Go.Proofs.YtknecgmmpjggiaaDoor.OAll
