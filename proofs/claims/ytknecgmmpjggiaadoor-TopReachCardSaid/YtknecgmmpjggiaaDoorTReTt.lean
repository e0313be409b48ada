/- A part of the proof of 'topReach_holds', for every input, without a condition. -/
import Derived.Test.YtknecgmmpjggiaaDoorTReTs
namespace Go.Proofs.YtknecgmmpjggiaaDoor.OAll
open Go.RowKit Go.Proofs.YtknecgmmpjggiaaDoorW.PrintWords Go.Proofs.YtknecgmmpjggiaaDoorW.PrintLast Go.Proofs.YtknecgmmpjggiaaDoorW.PrintMore
set_option linter.unusedVariables false
set_option linter.unusedSimpArgs false
theorem pasI_lt {p : Nat → Bool} {n : Nat} {ways : List S32} (ho : OkW n ways) : ∀ (d i s : Nat), i + d ≤ ways.length → s < 2 ^ n → pasI p ways d i s < 2 ^ n
  | 0, _, _, _, h => h
  | d + 1, i, s, hi, h => by rw [pasI]; exact pasI_lt ho d (i + 1) _ (by omega) (stpI_lt ho (by omega) h)
theorem itrI_lt {p : Nat → Bool} {n : Nat} {ways : List S32} (ho : OkW n ways) : ∀ (r s : Nat), s < 2 ^ n → itrI p ways r s < 2 ^ n
  | 0, _, h => h
  | r + 1, s, h => by rw [itrI]; exact itrI_lt ho r _ (pasI_lt ho _ 0 s (by omega) h)
def setF (R : Nat → Nat) (c : Nat) : Nat → Nat → Nat → Nat
  | 0, _, s => s
  | d + 1, i, s => setF R c d (i + 1) (if (R i).testBit c then s ||| 2 ^ i else s)
def badF (R : Nat → Nat) (c s : Nat) : Nat → Nat → Bool
  | 0, _ => false
  | d + 1, i => if s.testBit i && !(R c).testBit i then true else badF R c s d (i + 1)
def alF (R : Nat → Nat) (n : Nat) : Nat → Nat → Nat
  | 0, _ => 0
  | d + 1, c => if (R 0).testBit c then alF R n d (c + 1) else if badF R c (setF R c n 0 0) n 0 then alF R n d (c + 1) else setF R c n 0 0
theorem setF_lt {R : Nat → Nat} {c n : Nat} : ∀ (d i s : Nat), i + d ≤ n → s < 2 ^ n → setF R c d i s < 2 ^ n
  | 0, _, _, _, h => h
  | d + 1, i, s, hi, h => by
    rw [setF]
    refine setF_lt d (i + 1) _ (by omega) ?_
    split
    · exact Nat.or_lt_two_pow h (Nat.pow_lt_pow_right (by decide) (by omega))
    · exact h
def rchI (p : Nat → Bool) (ways : List S32) (n f : Nat) : Nat := itrI (fun i => !p i) ways n (2 ^ f)
set_option maxRecDepth 100000 in
set_option maxHeartbeats 8000000 in
theorem alone_calls (B n : Nat) (A : Option Addr) (c : Nat) (ways : List S32) (A1 : Option Addr) (c1 : Nat) (ls : List Int) (fv : Value) (p : Nat → Bool) (w : World) (hT : Town w B n A c ways) (hC : Kd.C (Kd.int .i64) w A1 ways.length ls) (hout : OutV w fv ways.length p) (h1 : 1 ≤ n) (hn : n ≤ 7) (ho : OkW n ways) (hz : Zer ls ways.length) :
    Calls Tryd.prog 48 #[.pointer (some ⟨B, 0, none⟩), .slice A1 ways.length c1, fv] w fun e w' => e = .returned (.int .i64 ((alF (rchI p ways n) n n 0 : Nat) : Int)) ∧ Below w.heap.size w w' := by
  obtain ⟨f0, caps, hfv⟩ : ∃ f0 caps, fv = .func f0 #[] caps := by
    cases hout with
    | never h _ => exact ⟨_, _, h⟩
    | maps G M vg vm pg pm h _ _ _ _ _ => exact ⟨_, _, h⟩
  subst hfv
  obtain ⟨W0, hW0⟩ : ∃ W0, W0 = ((((w.alloc (.cells #[.pointer (some ⟨B, 0, none⟩)] 52)).alloc (.cells #[.slice A1 ways.length c1] 35)).alloc (.cells #[.func f0 #[] caps] 51)).alloc (.cells #[.func (.func 65) #[] #[.pointer (some ⟨w.heap.size + 1, 0, none⟩), .pointer (some ⟨w.heap.size + 2, 0, none⟩)]] 51)) := ⟨_, rfl⟩
  have hB0 : Below w.heap.size w W0 := by rw [hW0]; exact below_alloc (below_alloc (below_alloc (below_alloc (Below.refl _ _) _) _) _) _
  have hS0 : AlS W0 w.heap.size (w.heap.size + 1) (w.heap.size + 2) (w.heap.size + 3) B n A c ways A1 c1 ls (.func f0 #[] caps) p := by
    refine ⟨?_, ?_, ?_, ?_, hT.below hB0, Kd.C_below hC hB0, hout.below hB0⟩
    · rw [hW0]; exact blk_alloc (blk_alloc (blk_alloc (blk_new w _) _) _) _
    · rw [hW0]
      have := blk_new (w.alloc (.cells #[.pointer (some ⟨B, 0, none⟩)] 52)) (.cells #[.slice A1 ways.length c1] 35)
      rw [World.size_alloc] at this
      exact blk_alloc (blk_alloc this _) _
    · rw [hW0]
      have := blk_new ((w.alloc (.cells #[.pointer (some ⟨B, 0, none⟩)] 52)).alloc (.cells #[.slice A1 ways.length c1] 35)) (.cells #[.func f0 #[] caps] 51)
      rw [World.size_alloc, World.size_alloc] at this
      exact blk_alloc this _
    · rw [hW0]
      have := blk_new (((w.alloc (.cells #[.pointer (some ⟨B, 0, none⟩)] 52)).alloc (.cells #[.slice A1 ways.length c1] 35)).alloc (.cells #[.func f0 #[] caps] 51)) (.cells #[.func (.func 65) #[] #[.pointer (some ⟨w.heap.size + 1, 0, none⟩), .pointer (some ⟨w.heap.size + 2, 0, none⟩)]] 51)
      rw [World.size_alloc, World.size_alloc, World.size_alloc] at this
      exact this
  have HB0 := Aside0.mk hB0
  have HS0 := Aside0.mk hS0
  have HO := Aside0.mk ho
  have HZ := Aside0.mk hz
  have HN := Aside0.mk (And.intro h1 hn)
  have hu78 := Tryd.underlying78
  have hmf : ∀ (fn : Fn) (first cap : Array Value) (w : World), (Instr.makeFunc fn first cap).run Tryd.prog w = .ok (.func fn first cap) w := fun _ _ _ _ => rfl
  obtain ⟨R, hR⟩ : ∃ R, R = rchI p ways n := ⟨_, rfl⟩
  have HCALL : Aside0 (∀ (f : Nat) (W : World), Below W0.heap.size W0 W → f < n → Calls Tryd.prog 66 #[.int .i64 (f : Int), .pointer (some ⟨w.heap.size, 0, none⟩), .pointer (some ⟨w.heap.size + 1 + 1 + 1, 0, none⟩)] W fun e w' => e = .returned (.int .i64 ((R f : Nat) : Int)) ∧ Below W.heap.size W w') := ⟨fun f W hW hf => by
    rw [hR]
    exact reached_calls w.heap.size (w.heap.size + 1) (w.heap.size + 2) (w.heap.size + 3) B n A c ways A1 c1 ls (.func f0 #[] caps) p f W (hS0.below hW) hn ho hz hf⟩
  have HRL : Aside0 (∀ f, f < n → R f < 128) := ⟨fun f hf => by rw [hR]; exact pow128 hn (itrI_lt ho n _ (Nat.pow_lt_pow_right (by decide) hf))⟩
  rw [← hR]
  obtain ⟨r, hr⟩ : ∃ r, r = alF R n n 0 := ⟨_, rfl⟩
  rw [← hr]
  have HR := Aside0.mk hr
  have HW := Aside0.mk hW0
  clear hT hC hout h1 hn ho hz hB0 hS0 hR hr hW0
  go_enter Tryd.func48, Tryd.ntmps48
  go_wp2
  go_step3
  go_wp2_with fail
  try rw [← HW.out]
  have HRL0 : Aside0 (R 0 < 128) := ⟨HRL.out 0 (by have := HN.out; omega)⟩
  refine (HCALL.out 0 _ (Below.refl _ _) (by have := HN.out; omega)).mono ?_
  rintro e w1 ⟨rfl, hb1⟩
  have HB1 := Aside0.mk hb1
  have q1 : w1.cell? ⟨w.heap.size, 0, none⟩ = some (.pointer (some ⟨B, 0, none⟩)) := (blk_cell (HS0.out.below hb1).bt 0).trans rfl
  have q0 := (HS0.out.below hb1).town.n0
  clear hb1
  go_wp2
  go_step3
  go_wp2
  clear q1 q0
  go_loopg [22] n (fun kq v22 w' => ∃ j : Nat, v22 = .int .i64 (j : Int) ∧ Aside0 (j + kq = n) ∧ Aside0 (alF R n kq j = r) ∧ Aside0 (Below W0.heap.size W0 w'))
  case atStart => exact ⟨0, rfl, ⟨by omega⟩, ⟨HR.out.symm⟩, HB1⟩
  case round =>
    clear HB1
    obtain ⟨j, rfl, HJ, HA, HB⟩ := hrel
    cases gk with
    | zero =>
      have v1 := eq_false (show ¬ j < n by have := HJ.out; omega)
      have v1b := eq_false (show ¬ (j : Int) < (n : Int) by have := HJ.out; omega)
      have hr0 : r = 0 := HA.out.symm
      subst hr0
      go_wp2
      (try rw [Exit.noGoto_ret])
      go_ret
      exact ⟨rfl, below_step HB0.out HB.out⟩
    | succ G =>
      have hj : j < n := by have := HJ.out; omega
      have v1 := eq_true hj
      have v1b := eq_true (show (j : Int) < (n : Int) by omega)
      have m1 : min j 64 = j := by have := HN.out; omega
      have E1 := Aside0.mk (w64s j (by have := HN.out; omega))
      have HJN := Aside0.mk hj
      cases t0 : (R 0).testBit j
      · have b0 := bit_no (show R 0 < 2 ^ 63 by have := HRL0.out; omega) t0
        obtain ⟨st, hst⟩ : ∃ st, st = setF R j n 0 0 := ⟨_, rfl⟩
        have HST := Aside0.mk hst
        have hA : (if badF R j st n 0 then alF R n G (j + 1) else st) = r := by
          have := HA.out
          rw [alF, t0, ← hst] at this
          simpa using this
        have HA2 := Aside0.mk hA
        have q1 : wr.cell? ⟨w.heap.size, 0, none⟩ = some (.pointer (some ⟨B, 0, none⟩)) := (blk_cell (HS0.out.below HB.out).bt 0).trans rfl
        have q0 := (HS0.out.below HB.out).town.n0
        clear hj t0 hst hA HA
        go_wp2
        clear q1 q0
        go_loopg [11, 34] n (fun kq v11 v34 w' => ∃ (i s : Nat), v11 = .int .i64 (s : Int) ∧ v34 = .int .i64 (i : Int) ∧ Aside0 (i + kq = n) ∧ Aside0 (setF R j kq i s = st ∧ s < 2 ^ n) ∧ Aside0 (Below W0.heap.size W0 w'))
        case atStart => exact ⟨0, 0, rfl, rfl, ⟨by omega⟩, ⟨HST.out.symm, Nat.two_pow_pos n⟩, HB⟩
        case round =>
          clear HB
          obtain ⟨i, s, rfl, rfl, HI, HSE, HB⟩ := hrel
          cases gk with
          | zero =>
            have v2 := eq_false (show ¬ i < n by have := HI.out; omega)
            have v2b := eq_false (show ¬ (i : Int) < (n : Int) by have := HI.out; omega)
            have hs : s = st := HSE.out.1
            have HSL : Aside0 (s < 128) := ⟨pow128 HN.out.2 HSE.out.2⟩
            subst hs
            have q1 : wr.cell? ⟨w.heap.size, 0, none⟩ = some (.pointer (some ⟨B, 0, none⟩)) := (blk_cell (HS0.out.below HB.out).bt 0).trans rfl
            have q0 := (HS0.out.below HB.out).town.n0
            go_wp2
            clear q1 q0
            go_loopg [53] n (fun kq v53 w' => ∃ i : Nat, v53 = .int .i64 (i : Int) ∧ Aside0 (i + kq = n) ∧ Aside0 (badF R j s kq i = badF R j s n 0) ∧ Aside0 (Below W0.heap.size W0 w'))
            case atStart => exact ⟨0, rfl, ⟨by omega⟩, ⟨rfl⟩, HB⟩
            case round =>
              clear HB HI v2 v2b
              obtain ⟨i, rfl, HI, HBD, HB⟩ := hrel
              cases gk with
              | zero =>
                have v2 := eq_false (show ¬ i < n by have := HI.out; omega)
                have v2b := eq_false (show ¬ (i : Int) < (n : Int) by have := HI.out; omega)
                have hbd : badF R j s n 0 = false := HBD.out.symm
                have hr0 : s = r := by have := HA2.out; rw [hbd] at this; simpa using this
                subst hr0
                clear hbd
                go_wp2
                (try rw [Exit.noGoto_ret])
                go_ret
                exact ⟨rfl, below_step HB0.out HB.out⟩
              | succ k1 =>
                have hi : i < n := by have := HI.out; omega
                have v2 := eq_true hi
                have v2b := eq_true (show (i : Int) < (n : Int) by omega)
                have m2 : min i 64 = i := by have := HN.out; omega
                have E2 := Aside0.mk (w64s i (by have := HN.out; omega))
                have HRJ : Aside0 (R j < 128) := ⟨HRL.out j HJN.out⟩
                clear hi
                cases t1 : s.testBit i
                · have b1 := bit_no (show s < 2 ^ 63 by have := HSL.out; omega) t1
                  have HBD2 : Aside0 (badF R j s k1 (i + 1) = badF R j s n 0) := ⟨by have := HBD.out; rw [badF, t1] at this; simpa using this⟩
                  clear t1 HBD
                  go_wp2
                  go_roundg k1
                  case measure => omega
                  case rel => exact ⟨i + 1, by first | rw [E2.out] | rw [Int.natCast_succ], ⟨by have := HI.out; omega⟩, HBD2, HB⟩
                · have b1 := bit_yes (show s < 2 ^ 63 by have := HSL.out; omega) t1
                  cases t2 : (R j).testBit i
                  · have b2 := bit_no (show R j < 2 ^ 63 by have := HRJ.out; omega) t2
                    have hbd : badF R j s n 0 = true := by have := HBD.out; rw [badF, t1, t2] at this; simpa using this.symm
                    have HA3 : Aside0 (alF R n G (j + 1) = r) := ⟨by have := HA2.out; rw [hbd] at this; simpa using this⟩
                    clear t1 t2 HBD hbd
                    go_wp2_with (go_at_call 66; refine (HCALL.out j _ HB.out HJN.out).mono ?_; rintro e w5 ⟨rfl, hb5⟩; have HB5 := Aside0.mk (below_step HB.out hb5); clear hb5)
                    go_roundg G
                    case measure => omega
                    case rel => exact ⟨j + 1, by first | rw [E1.out] | rw [Int.natCast_succ], ⟨by have := HJ.out; omega⟩, HA3, HB5⟩
                  · have b2 := bit_yes (show R j < 2 ^ 63 by have := HRJ.out; omega) t2
                    have HBD2 : Aside0 (badF R j s k1 (i + 1) = badF R j s n 0) := ⟨by have := HBD.out; rw [badF, t1, t2] at this; simpa using this⟩
                    clear t1 t2 HBD
                    go_wp2_with (go_at_call 66; refine (HCALL.out j _ HB.out HJN.out).mono ?_; rintro e w5 ⟨rfl, hb5⟩; have HB5 := Aside0.mk (below_step HB.out hb5); clear hb5)
                    go_roundg k1
                    case measure => omega
                    case rel => exact ⟨i + 1, by first | rw [E2.out] | rw [Int.natCast_succ], ⟨by have := HI.out; omega⟩, HBD2, HB5⟩
          | succ k1 =>
            have hi : i < n := by have := HI.out; omega
            have v2 := eq_true hi
            have v2b := eq_true (show (i : Int) < (n : Int) by omega)
            have m2 : min i 64 = i := by have := HN.out; omega
            have E2 := Aside0.mk (w64s i (by have := HN.out; omega))
            have HRI : Aside0 (R i < 128) := ⟨HRL.out i hi⟩
            have HII := Aside0.mk hi
            have bo := or_pow (pow128 HN.out.2 HSE.out.2) (show i ≤ 7 by have := HN.out; omega)
            have hlt : s ||| 2 ^ i < 2 ^ n := Nat.or_lt_two_pow HSE.out.2 (Nat.pow_lt_pow_right (by decide) hi)
            have HLT := Aside0.mk hlt
            clear hi hlt
            cases t1 : (R i).testBit j
            · have b1 := bit_no (show R i < 2 ^ 63 by have := HRI.out; omega) t1
              have HSE2 : Aside0 (setF R j k1 (i + 1) s = st ∧ s < 2 ^ n) := ⟨by have := HSE.out.1; rw [setF, t1] at this; simpa using this, HSE.out.2⟩
              clear t1 HSE bo
              go_wp2_with (go_at_call 66; refine (HCALL.out i _ HB.out HII.out).mono ?_; rintro e w5 ⟨rfl, hb5⟩; have HB5 := Aside0.mk (below_step HB.out hb5); clear hb5)
              go_roundg k1
              case measure => omega
              case rel => exact ⟨i + 1, s, rfl, by first | rw [E2.out] | rw [Int.natCast_succ], ⟨by have := HI.out; omega⟩, HSE2, HB5⟩
            · have b1 := bit_yes (show R i < 2 ^ 63 by have := HRI.out; omega) t1
              have HSE2 : Aside0 (setF R j k1 (i + 1) (s ||| 2 ^ i) = st ∧ s ||| 2 ^ i < 2 ^ n) := ⟨by have := HSE.out.1; rw [setF, t1] at this; simpa using this, HLT.out⟩
              clear t1 HSE
              go_wp2_with (go_at_call 66; refine (HCALL.out i _ HB.out HII.out).mono ?_; rintro e w5 ⟨rfl, hb5⟩; have HB5 := Aside0.mk (below_step HB.out hb5); clear hb5)
              go_roundg k1
              case measure => omega
              case rel => exact ⟨i + 1, s ||| 2 ^ i, rfl, by first | rw [E2.out] | rw [Int.natCast_succ], ⟨by have := HI.out; omega⟩, HSE2, HB5⟩
      · have b0 := bit_yes (show R 0 < 2 ^ 63 by have := HRL0.out; omega) t0
        have HA3 : Aside0 (alF R n G (j + 1) = r) := ⟨by have := HA.out; rw [alF, t0] at this; simpa using this⟩
        clear hj t0 HA
        go_wp2
        go_roundg G
        case measure => omega
        case rel => exact ⟨j + 1, by first | rw [E1.out] | rw [Int.natCast_succ], ⟨by have := HJ.out; omega⟩, HA3, HB⟩
end Go.Proofs.YtknecgmmpjggiaaDoor.OAll
