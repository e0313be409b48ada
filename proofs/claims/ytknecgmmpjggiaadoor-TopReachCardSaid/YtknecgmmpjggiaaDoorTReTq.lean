/- A part of the proof of 'topReach_holds', for every input, without a condition. -/
import Derived.Test.YtknecgmmpjggiaaDoorTReTd
import Derived.Test.YtknecgmmpjggiaaDoorTReQb
namespace Go.Proofs.YtknecgmmpjggiaaDoor.OAll
open Go.RowKit Go.Proofs.YtknecgmmpjggiaaDoorW.PrintWords Go.Proofs.YtknecgmmpjggiaaDoorW.PrintLast Go.Proofs.YtknecgmmpjggiaaDoorW.PrintMore
set_option linter.unusedVariables false
set_option linter.unusedSimpArgs false
def stpI (p : Nat → Bool) (ways : List S32) (i s : Nat) : Nat := if p i && s.testBit (rd_T32 ways (i : Int)).f0.toNat then s ||| 2 ^ (rd_T32 ways (i : Int)).f1.toNat else s
def pasI (p : Nat → Bool) (ways : List S32) : Nat → Nat → Nat → Nat
  | 0, _, s => s
  | d + 1, i, s => pasI p ways d (i + 1) (stpI p ways i s)
def itrI (p : Nat → Bool) (ways : List S32) : Nat → Nat → Nat
  | 0, s => s
  | r + 1, s => itrI p ways r (pasI p ways ways.length 0 s)
theorem stpI_lt {p : Nat → Bool} {n : Nat} {ways : List S32} (ho : OkW n ways) {i s : Nat} (hi : i < ways.length) (hs : s < 2 ^ n) : stpI p ways i s < 2 ^ n := by
  have h := ho.2 _ (rd_T32_mem hi)
  unfold stpI
  split
  · exact Nat.or_lt_two_pow hs (Nat.pow_lt_pow_right (by decide) (by omega))
  · exact hs
theorem pow128 {n s : Nat} (hn : n ≤ 7) (h : s < 2 ^ n) : s < 128 := by
  have : (2 : Nat) ^ n ≤ 2 ^ 7 := Nat.pow_le_pow_right (by decide) hn
  omega
theorem or_pow {s b : Nat} (hs : s < 128) (hb : b ≤ 7) : Go.bits .or .i64 (s : Int) (wrap64 ((2 : Int) ^ b)) = ((s ||| 2 ^ b : Nat) : Int) := by
  have h : (2 : Nat) ^ b ≤ 2 ^ 7 := Nat.pow_le_pow_right (by decide) hb
  have e : wrap64 ((2 : Int) ^ b) = ((2 ^ b : Nat) : Int) := w64pow (by omega)
  rw [e, or_nat' _ _ (by omega) (by omega)]
def allL (m : Nat) : List Int := (List.range m).map Int.ofNat
theorem allL_len (m : Nat) : (allL m).length = m := by simp [allL]
theorem allL_rd {m j : Nat} (h : j < m) : rd (allL m) (j : Int) = (j : Int) := by
  unfold rd allL
  rw [Int.toNat_natCast, List.getD_eq_getElem?_getD]
  simp [h]
set_option maxRecDepth 100000 in
set_option maxHeartbeats 4000000 in
theorem town_reach (B n : Nat) (A : Option Addr) (c : Nat) (ways : List S32) (A1 : Option Addr) (c1 : Nat) (w : World) (hT : Town w B n A c ways) (hn : n ≤ 7) (h0 : 1 ≤ n) (ho : OkW n ways) (hL : Kd.C (Kd.int .i64) w A1 ways.length (allL ways.length)) :
    Calls Tryd.prog 17 #[.pointer (some ⟨B, 0, none⟩), .slice A1 ways.length c1] w fun e w' => e = .returned (.int .i64 ((itrI (fun _ => true) ways n 1 : Nat) : Int)) ∧ Below w.heap.size w w' := by
  have q0 := hT.n0
  have hu78 := Tryd.underlying78
  have hu32 := Tryd.underlying32
  have HT := Aside0.mk hT
  have HO := Aside0.mk ho
  have HL := Aside0.mk hL
  have HN := Aside0.mk (And.intro h0 hn)
  obtain ⟨r, hr⟩ : ∃ r, r = itrI (fun _ => true) ways n 1 := ⟨_, rfl⟩
  rw [← hr]
  have HR := Aside0.mk hr
  clear hT ho hL h0 hn hr
  go_enter Tryd.func17, Tryd.ntmps17
  go_wp2
  go_loopg [5, 13] n (fun kq v5 v13 w' => ∃ (j s : Nat), v5 = .int .i64 (s : Int) ∧ v13 = .int .i64 (j : Int) ∧ Aside0 (j + kq = n) ∧ Aside0 (itrI (fun _ => true) ways kq s = r ∧ s < 2 ^ n) ∧ Aside0 (Below w.heap.size w w'))
  case atStart => exact ⟨0, 1, rfl, rfl, ⟨by omega⟩, ⟨HR.out.symm, Nat.one_lt_two_pow (by have := HN.out; omega)⟩, ⟨Below.refl _ _⟩⟩
  case round =>
    clear q0
    obtain ⟨j, s, rfl, rfl, HJ, HS, HB⟩ := hrel
    cases gk with
    | zero =>
      have hj : j = n := HJ.out
      subst hj
      have hsr : s = r := HS.out.1
      subst hsr
      go_wp2
      go_ret
      exact ⟨rfl, HB.out⟩
    | succ G =>
      have v1 := eq_true (show j < n by have := HJ.out; omega)
      have v1b := eq_true (show (j : Int) < (n : Int) by have := HJ.out; omega)
      obtain ⟨s1, hs1⟩ : ∃ s1, s1 = pasI (fun _ => true) ways ways.length 0 s := ⟨_, rfl⟩
      have HS1 : Aside0 (itrI (fun _ => true) ways G s1 = r) := ⟨by rw [hs1]; exact HS.out.1⟩
      have HS2 := Aside0.mk hs1
      have HSL := Aside0.mk HS.out.2
      clear hs1 HS
      go_wp2
      go_loopg [5, 17] ways.length (fun kq v5 v17 w' => ∃ (i t : Nat), v5 = .int .i64 (t : Int) ∧ v17 = .int .i64 (i : Int) ∧ Aside0 (i + kq = ways.length) ∧ Aside0 (pasI (fun _ => true) ways kq i t = s1 ∧ t < 2 ^ n) ∧ Aside0 (Below w.heap.size w w'))
      case atStart => exact ⟨0, s, rfl, rfl, ⟨by omega⟩, ⟨HS2.out.symm, HSL.out⟩, HB⟩
      case round =>
        clear HB
        obtain ⟨i, t, rfl, rfl, HI, HT1, HB⟩ := hrel
        cases gk with
        | zero =>
          have hi : i = ways.length := HI.out
          have v2 := eq_false (show ¬ i < ways.length by omega)
          have v2b := eq_false (show ¬ (i : Int) < (ways.length : Int) by omega)
          have ht : t = s1 := HT1.out.1
          have HTL := Aside0.mk HT1.out.2
          have E1 := Aside0.mk (w64s j (by have := HJ.out; have := HN.out; omega))
          subst ht
          clear hi
          go_wp2
          go_roundg G
          case measure => omega
          case rel => exact ⟨j + 1, t, rfl, by rw [E1.out], ⟨by have := HJ.out; omega⟩, ⟨HS1.out, HTL.out⟩, HB⟩
        | succ k1 =>
          have hi : i < ways.length := by have := HI.out; omega
          have v2 := eq_true hi
          have v2b := eq_true (show (i : Int) < (ways.length : Int) by omega)
          have p1 := eq_true (show (0 : Int) ≤ (i : Int) by omega)
          have hok := HO.out.2 _ (rd_T32_mem hi)
          obtain ⟨x, hx⟩ : ∃ x, x = rd_T32 ways (i : Int) := ⟨_, rfl⟩
          obtain ⟨al, el, xl⟩ := Kd.at_int (Kd.C_below HL.out HB.out) (i : Int) (by omega) (by omega)
          cases el
          rw [Int.toNat_natCast, allL_rd hi] at xl
          obtain ⟨ad, e0, x0, x1, x2⟩ := at_T32 (Kd.C_below HT.out.C HB.out) (i : Int) (by omega) (by omega)
          cases e0
          have hw1 := (HT.out.below HB.out).w1
          rw [← hx] at x0 x1 x2 hok
          obtain ⟨a, ha⟩ := Int.eq_ofNat_of_zero_le hok.1
          obtain ⟨b, hb⟩ := Int.eq_ofNat_of_zero_le hok.2.2.1
          rw [ha] at x0
          rw [hb] at x1
          rw [Int.toNat_natCast] at x0 x1 x2
          have hab : a ≤ 7 ∧ b ≤ 7 := by have := HN.out; rw [ha, hb] at hok; omega
          have m1 : min a 64 = a := by omega
          have m2 : min b 64 = b := by omega
          have ht128 := pow128 HN.out.2 HT1.out.2
          have E1 := Aside0.mk (w64s i (by have := HI.out; have := HO.out.1; omega))
          have hstp : stpI (fun _ => true) ways i t = if t.testBit a = true then t ||| 2 ^ b else t := by
            unfold stpI; rw [← hx, ha, hb, Int.toNat_natCast, Int.toNat_natCast]; simp
          have hlt := stpI_lt (p := fun _ => true) HO.out hi HT1.out.2
          have HP : Aside0 (pasI (fun _ => true) ways k1 (i + 1) (stpI (fun _ => true) ways i t) = s1 ∧ stpI (fun _ => true) ways i t < 2 ^ n) := ⟨HT1.out.1, hlt⟩
          by_cases t1 : t.testBit a = true
          · have b1 := bit_yes (by omega) t1
            have b2 := or_pow ht128 hab.2
            rw [hstp, if_pos t1] at HP
            clear hx ha hb hok hi t1 hab ht128 hstp hlt HT1
            go_wp2
            go_roundg k1
            case measure => omega
            case rel => exact ⟨i + 1, t ||| 2 ^ b, rfl, by rw [E1.out], ⟨by have := HI.out; omega⟩, HP, ⟨below_alloc HB.out _⟩⟩
          · have t1' := Bool.eq_false_iff.mpr t1
            have b1 := bit_no (by omega) t1'
            rw [hstp, if_neg t1] at HP
            clear hx ha hb hok hi t1 t1' hab ht128 hstp hlt HT1
            go_wp2
            go_roundg k1
            case measure => omega
            case rel => exact ⟨i + 1, t, rfl, by rw [E1.out], ⟨by have := HI.out; omega⟩, HP, ⟨below_alloc HB.out _⟩⟩
end Go.Proofs.YtknecgmmpjggiaaDoor.OAll
