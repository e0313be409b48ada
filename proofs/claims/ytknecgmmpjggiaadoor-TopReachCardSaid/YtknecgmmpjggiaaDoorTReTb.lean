/- A part of the proof of 'topReach_holds', for every input, without a condition. -/
import Derived.Maps.OwnSet
import Derived.Test.YtknecgmmpjggiaaDoorTReTa
namespace Go.Proofs.YtknecgmmpjggiaaDoor.OAll
open Go.RowKit Go.Proofs.YtknecgmmpjggiaaDoorW.PrintWords Go.Proofs.YtknecgmmpjggiaaDoorW.PrintLast Go.Proofs.YtknecgmmpjggiaaDoorW.PrintMore
set_option linter.unusedVariables false
set_option linter.unusedSimpArgs false
theorem entL_mem (ways : List S32) (s : Nat) : ∀ i, ∀ x ∈ entL ways s i, 0 ≤ x ∧ x < (i : Int)
  | 0, x, h => by simp [entL] at h
  | i + 1, x, h => by
    rw [entL, List.mem_append] at h
    rcases h with h | h
    · have := entL_mem ways s i x h; omega
    · split at h
      · rw [List.mem_singleton] at h; omega
      · simp at h
theorem rd_of {l : List Int} {j : Nat} (h : j < l.length) : rd l (j : Int) ∈ l := by
  have : rd l (j : Int) = l[j] := by simp [rd, List.getD_eq_getElem?_getD, h]
  rw [this]
  exact List.getElem_mem h
theorem wf_small {k : Int} (h0 : 0 ≤ k) (h1 : k < 1000) : (Lit.int .i64 k).wf = true := by
  have h2 : IntKind.i64.min = -9223372036854775808 := by decide
  have h3 : IntKind.i64.max = 9223372036854775807 := by decide
  simp [Lit.wf, h2, h3]
  omega
theorem look_none (k : Int) (h0 : 0 ≤ k) (h1 : k < 1000) (w : World) : (Instr.lookup 82 (.map none) (.int .i64 k) false).run Tryd.prog w = .ok (.bool false) w :=
  Maps.look_nil false (Maps.int_keyed Tryd.underlying3) Tryd.underlying82 (Tryd.zeroValue4 w) (kl := .int .i64 k) (by simp [keyOf, Tryd.underlying3, mapKey, wf_small h0 h1])
def narS (s : Int × Int) (many set : Int) : Int × Int := if s.1 < 0 ∨ many < s.1 then (many, set) else s
def narF (ways : List S32) : Nat → Nat → Int × Int → Int × Int
  | 0, _, s => s
  | d + 1, set, s => narF ways d (set + 2) (narS s ((entL ways set ways.length).length : Int) (set : Int))
set_option maxRecDepth 100000 in
set_option maxHeartbeats 4000000 in
theorem town_narrow (B n : Nat) (A : Option Addr) (c : Nat) (ways : List S32) (w : World) (hT : Town w B n A c ways) (hn : 1 ≤ n ∧ n ≤ 7) (ho : OkW n ways) :
    Calls Tryd.prog 28 #[.pointer (some ⟨B, 0, none⟩), .map none] w fun e w' => e = .returned (.tuple #[.int .i64 (narF ways (2 ^ (n - 1) - 1) 2 (-1, 0)).1, .int .i64 (narF ways (2 ^ (n - 1) - 1) 2 (-1, 0)).2]) ∧ Below w.heap.size w w' := by
  have HT := Aside0.mk hT
  have HO := Aside0.mk ho
  have hpow : 2 ^ n = 2 * 2 ^ (n - 1) := by
    obtain ⟨m, rfl⟩ : ∃ m, n = m + 1 := ⟨n - 1, by omega⟩
    rw [Nat.add_sub_cancel, Nat.pow_succ]; omega
  have h1p : 1 ≤ 2 ^ (n - 1) := Nat.one_le_two_pow
  have h2p : 2 ^ (n - 1) ≤ 2 ^ 6 := Nat.pow_le_pow_right (by omega) (by omega)
  obtain ⟨r, hr⟩ : ∃ r, r = narF ways (2 ^ (n - 1) - 1) 2 (-1, 0) := ⟨_, rfl⟩
  rw [← hr]
  obtain ⟨full, hfull⟩ : ∃ full : Nat, full = 2 ^ n - 1 := ⟨_, rfl⟩
  have HP := Aside0.mk (And.intro hpow (And.intro h1p (And.intro h2p (And.intro hr (And.intro hfull hn)))))
  clear hT ho hpow h1p h2p hr hfull
  go_enter Tryd.func28, Tryd.ntmps28
  go_wp2
  go_loopg [6, 7, 8] (2 ^ (n - 1) - 1) (fun kq v6 v7 v8 w' => ∃ (s1 s2 : Int) (set : Nat), v6 = .int .i64 s1 ∧ v7 = .int .i64 s2 ∧ v8 = .int .i64 (set : Int) ∧ Aside0 (set + 2 * kq = 2 ^ n ∧ narF ways kq set (s1, s2) = r ∧ s1 ≤ 30) ∧ Aside0 (Below w.heap.size w w'))
  case atStart =>
    obtain ⟨hpow, h1p, h2p, hr, hfull, hn⟩ := HP.out
    exact ⟨-1, 0, 2, rfl, rfl, rfl, ⟨by omega, hr.symm, by omega⟩, ⟨Below.refl _ _⟩⟩
  case round =>
    obtain ⟨s1, s2, set, rfl, rfl, rfl, HS, HB⟩ := hrel
    obtain ⟨G, hG⟩ : ∃ G, G = gk := ⟨_, rfl⟩
    subst hG
    have HTn := Aside0.mk (HT.out.below HB.out)
    have hset : set < 1024 := by have := HS.out.1; obtain ⟨hpow, h1p, h2p, hr, hfull, hn⟩ := HP.out; omega
    have HSET := Aside0.mk hset
    clear hset
    by_cases c1 : set ≤ full
    · have k1 : decide (set ≤ 2 ^ n - 1) = true := decide_eq_true (by have := HP.out.2.2.2.2.1; omega)
      have C1 := Aside0.mk c1
      clear c1
      go_wp2_with (first | (go_at_call 41; refine (town_everybody B n A c ways _ HTn.out HP.out.2.2.2.2.2.2).mono ?_; rintro e w' ⟨rfl, rfl⟩) | (go_at_call 42; refine (town_entering B n A c ways set _ HTn.out HP.out.2.2.2.2.2.2 HO.out HSET.out).mono ?_; rintro e w5 ⟨v5, rfl, hR5, hb5⟩; obtain ⟨A5, c5, rfl⟩ := Kd.R_slice hR5; have HR5 := Aside0.mk hR5; have HB5 := Aside0.mk (below_step HB.out hb5); clear hR5 hb5))
      obtain ⟨E, hE⟩ : ∃ E, E = entL ways set ways.length := ⟨_, rfl⟩
      have hEl : E.length ≤ 30 := by have h1 := entL_len ways set ways.length; have h2 := HO.out.1; rw [← hE] at h1; omega
      rw [← hE] at HR5 ⊢
      have HE := Aside0.mk (And.intro hE hEl)
      clear hE hEl
      go_loopg [9, 22] E.length (fun kq v9 v22 w' => ∃ j : Nat, v9 = .int .i64 (j : Int) ∧ v22 = .int .i64 (j : Int) ∧ Aside0 (j + kq = E.length) ∧ Aside0 (w' = w5))
      case atStart => exact ⟨0, rfl, rfl, ⟨by omega⟩, ⟨rfl⟩⟩
      case round =>
        obtain ⟨j, rfl, rfl, HJ, HW⟩ := hrel
        obtain rfl := HW.out
        by_cases c2 : j < E.length
        · have k2 : ((j : Int) < (E.length : Int)) = True := eq_true (by omega)
          have k3 : decide ((j : Int) < (E.length : Int)) = true := decide_eq_true (by omega)
          have p1 : ((0 : Int) ≤ (j : Int)) = True := eq_true (by omega)
          obtain ⟨ad, e0, x0⟩ := Kd.at_int (Kd.R_reads' HR5.out).2.2 (j : Int) (by omega) (by omega)
          cases e0
          rw [Int.toNat_natCast] at x0
          have e1 : wrap64 ((j : Int) + 1) = ((j + 1 : Nat) : Int) := by have := HE.out.2; unfold wrap64; omega
          have E1 := Aside0.mk e1
          have C2 := Aside0.mk c2
          clear e1 c2
          have hmem := entL_mem ways set ways.length (rd E (j : Int)) (by rw [← HE.out.1]; exact rd_of C2.out)
          have hlk := fun w => look_none (rd E (j : Int)) hmem.1 (by have := HO.out.1; have := hmem.2; omega) w
          clear hmem
          go_wp2
          go_roundg (E.length - (j + 1))
          case measure => have := HJ.out; have := C2.out; omega
          case rel => exact ⟨j + 1, by rw [E1.out], by rw [E1.out], ⟨by have := HJ.out; have := C2.out; omega⟩, ⟨rfl⟩⟩
        · have k2 : ((j : Int) < (E.length : Int)) = False := eq_false (by omega)
          have k3 : decide ((j : Int) < (E.length : Int)) = false := decide_eq_false (by omega)
          have hj : j = E.length := by have := HJ.out; omega
          have e1 : wrap64 ((set : Int) + 2) = ((set + 2 : Nat) : Int) := by have := HSET.out; unfold wrap64; omega
          have E1 := Aside0.mk e1
          have HJ2 := Aside0.mk hj
          have hnx : ∀ k', G = k' + 1 → narF ways k' (set + 2) (narS (s1, s2) (j : Int) (set : Int)) = r := fun k' hk => by
            have := HS.out.2.1
            rw [hk, narF, ← HE.out.1, ← HJ2.out] at this
            exact this
          have HNX := Aside0.mk hnx
          clear hj e1 c2 hnx
          by_cases c3 : s1 < 0
          · have q1 : decide (s1 < 0) = true := decide_eq_true c3
            have C3 := Aside0.mk c3
            clear c3
            go_wp2
            go_roundg (G - 1)
            case measure => have := HS.out.1; have := C1.out; obtain ⟨hpow, h1p, h2p, hr, hfull, hn⟩ := HP.out; omega
            case rel =>
              obtain ⟨hpow, h1p, h2p, hr, hfull, hn⟩ := HP.out
              have g1 := HS.out.1
              have g2 := C1.out
              have hx := HNX.out (G - 1) (by omega)
              rw [narS, if_pos (.inl C3.out)] at hx
              exact ⟨(j : Int), (set : Int), set + 2, rfl, rfl, by rw [E1.out], ⟨by omega, hx, by have := HE.out.2; have := HJ2.out; omega⟩, HB5⟩
          · have q1 : decide (s1 < 0) = false := decide_eq_false c3
            have C3 := Aside0.mk c3
            clear c3
            by_cases c4 : (j : Int) < s1
            · have q2 : decide ((j : Int) < s1) = true := decide_eq_true c4
              have C4 := Aside0.mk c4
              clear c4
              go_wp2
              go_roundg (G - 1)
              case measure => have := HS.out.1; have := C1.out; obtain ⟨hpow, h1p, h2p, hr, hfull, hn⟩ := HP.out; omega
              case rel =>
                obtain ⟨hpow, h1p, h2p, hr, hfull, hn⟩ := HP.out
                have g1 := HS.out.1
                have g2 := C1.out
                have hx := HNX.out (G - 1) (by omega)
                rw [narS, if_pos (.inr C4.out)] at hx
                exact ⟨(j : Int), (set : Int), set + 2, rfl, rfl, by rw [E1.out], ⟨by omega, hx, by have := HE.out.2; have := HJ2.out; omega⟩, HB5⟩
            · have q2 : decide ((j : Int) < s1) = false := decide_eq_false c4
              have C4 := Aside0.mk c4
              clear c4
              go_wp2
              go_roundg (G - 1)
              case measure => have := HS.out.1; have := C1.out; obtain ⟨hpow, h1p, h2p, hr, hfull, hn⟩ := HP.out; omega
              case rel =>
                obtain ⟨hpow, h1p, h2p, hr, hfull, hn⟩ := HP.out
                have g1 := HS.out.1
                have g2 := C1.out
                have hx := HNX.out (G - 1) (by omega)
                rw [narS, if_neg (fun q => by have a1 := C3.out; have a2 := C4.out; rcases q with q | q <;> (simp only at q; omega))] at hx
                exact ⟨s1, s2, set + 2, rfl, rfl, by rw [E1.out], ⟨by omega, hx, HS.out.2.2⟩, HB5⟩
    · have k1 : decide (set ≤ 2 ^ n - 1) = false := decide_eq_false (by have := HP.out.2.2.2.2.1; omega)
      have C1 := Aside0.mk c1
      clear c1
      go_wp2_with (go_at_call 41; refine (town_everybody B n A c ways _ HTn.out HP.out.2.2.2.2.2.2).mono ?_; rintro e w' ⟨rfl, rfl⟩)
      go_ret2
      obtain ⟨hpow, h1p, h2p, hr, hfull, hn⟩ := HP.out
      have hk : G = 0 := by have := HS.out.1; have := C1.out; omega
      have hS := HS.out.2.1
      rw [hk, narF] at hS
      rw [← hS]
      exact ⟨rfl, HB.out⟩
end Go.Proofs.YtknecgmmpjggiaaDoor.OAll
