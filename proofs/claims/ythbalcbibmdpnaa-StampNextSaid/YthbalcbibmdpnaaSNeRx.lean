/- A part of the proof of 'stampNext_holds', for every input, without a condition. -/
import Derived.Test.YthbalcbibmdpnaaSNeRw
import Derived.Test.YthbalcbibmdpnaaSNeOAllx2
import Derived.Test.YthbalcbibmdpnaaSNeOAllx11
namespace Go.Proofs.Ythbalcbibmdpnaa.OAll
open Go.RowKit Go.Shelf Go.Proofs.YthbalcbibmdpnaaW.PrintWords Go.Proofs.YthbalcbibmdpnaaW.PrintLast Go.Proofs.YthbalcbibmdpnaaW.PrintMore
set_option linter.unusedVariables false
set_option linter.unusedSimpArgs false
def stamp_Next.l0 : Nat → Int → List Int → Int → Int → Int → Option (Int × Int)
  | 0, _, _, _, _, _ => none
  | k + 1, h, l, best, most, v => if v ≤ 200 then (slices_BinarySearch_int_int.f k l v).bind fun b => if b.2 = true then stamp_Next.l0 k h l best most (wrap64 (v + 1)) else (if 0 ≤ b.1 ∧ b.1 ≤ (l.length : Int) then (stamp_reach.f k h (l.take b.1.toNat ++ v :: l.drop b.1.toNat)).bind fun tu => (if most < tu then stamp_Next.l0 k h l v tu (wrap64 (v + 1)) else stamp_Next.l0 k h l best most (wrap64 (v + 1))) else none) else some (best, most)
def stamp_Next.f (k : Nat) (a0 : Int) (l1 : List Int) : Option (Int × Int × Int) := (stamp_read.f k a0 l1).bind fun t => if t = 0 then (if (l1.length : Int) = 6 then some (0, 0, 8) else if 1 ≤ l1.length ∧ l1.length ≤ 100 then (stamp_Next.l0 k a0 l1 0 (-1) 1).bind fun b => some (b.1, b.2, 0) else none) else some (0, 0, t)
theorem R_some {w : World} {base : Nat} {ok : Nat → Prop} {v : Value} {xs : List Int} (h : Kd.R (Kd.int .i64) 3 w base ok v xs) (hx : 1 ≤ xs.length) : ∃ g cap, v = .slice (some ⟨g, 0, none⟩) xs.length cap ∧ g < w.heap.size := by
  obtain ⟨_, ho⟩ := Kd.own_of_R h
  rcases ho with ⟨_, h0⟩ | ⟨g, cap, cur, rfl, _, hg, _⟩
  · omega
  · exact ⟨g, cap, rfl, blk_lt hg⟩
set_option maxHeartbeats 8000000 in
set_option maxRecDepth 100000 in
theorem stamp_Next.calls (k : Nat) (a0 : Int) (A1 : Option Addr) (c1 : Nat) (l1 : List Int) (r1 : Int) (r2 : Int) (r3 : Int) (w : World) (hr1 : Kd.C (Kd.int .i64) w A1 l1.length l1) (hc1 : l1.length ≤ c1) (h : stamp_Next.f k a0 l1 = some (r1, r2, r3)) :
    Calls Try.prog 37 #[.int .i64 a0, .slice A1 l1.length c1] w fun e w' => e = .returned (.tuple #[.int .i64 r1, .int .i64 r2, .int .i64 r3]) ∧ Below w.heap.size w w' := by
  have HR1 := Aside0.mk hr1
  have HC1 := Aside0.mk hc1
  clear hr1 hc1
  have HB := Aside0.mk (Below.refl w.heap.size w)
  unfold stamp_Next.f at h
  obtain ⟨t, A30, H⟩ := Option.bind_eq_some_iff.mp h
  clear h
  have A3 := Aside0.mk A30
  clear A30
  by_cases c4 : t = 0
  · rw [if_pos c4] at H
    have c4b0 : (t == 0) = true := beq_iff_eq.mpr c4
    have c4b1 : (t != 0) = false := bne_eq_false_iff_eq.mpr c4
    clear c4
    by_cases c5 : (l1.length : Int) = 6
    · rw [if_pos c5] at H
      have c5b0 : ((l1.length : Int) == 6) = true := beq_iff_eq.mpr c5
      clear c5
      simp only [Option.some.injEq, Prod.mk.injEq] at H
      obtain ⟨rfl, rfl, rfl⟩ := H
      go_enter Try.func37, Try.ntmps37
      go_wp2_with (go_at_call 52; refine (stamp_read.calls k a0 _ _ l1 t _ HR1.out HC1.out A3.out).mono ?_; rintro e w' ⟨rfl, ⟨nd, rfl⟩⟩)
      go_ret3
      exact ⟨rfl, pw_below_drewN HB.out _⟩
    · rw [if_neg c5] at H
      have c5b0 : ((l1.length : Int) == 6) = false := beq_eq_false_iff_ne.mpr c5
      clear c5
      split at H
      · rename_i hlen
        have HL := Aside0.mk hlen
        clear hlen
        obtain ⟨⟨q1, q2⟩, HQ, H⟩ := Option.bind_eq_some_iff.mp H
        simp only [Option.some.injEq, Prod.mk.injEq] at H
        obtain ⟨rfl, rfl, rfl⟩ := H
        have H' := Aside0.mk HQ
        clear HQ
        have hclone : slices_Clone_int_int.f l1 = some l1 := by
          unfold slices_Clone_int_int.f
          rw [if_pos (by have := HL.out; simp; omega)]
        have HCL := Aside0.mk hclone
        clear hclone
        go_enter Try.func37, Try.ntmps37
        go_wp2_with (go_at_call 52; refine (stamp_read.calls k a0 _ _ l1 t _ HR1.out HC1.out A3.out).mono ?_; rintro e w' ⟨rfl, ⟨nd, rfl⟩⟩)
        go_loopg [8, 9, 10] k (fun kq v8 v9 v10 w' => ∃ (x8 : Int) (x9 : Int) (x10 : Int), v8 = .int .i64 x8 ∧ v9 = .int .i64 x9 ∧ v10 = .int .i64 x10 ∧ Aside0 (stamp_Next.l0 kq a0 l1 x8 x9 x10 = some (q1, q2)) ∧ Aside0 (kq ≤ k) ∧ Aside0 (Below w.heap.size w w'))
        case atStart => exact ⟨0, -1, 1, rfl, rfl, rfl, H', ⟨Nat.le_refl _⟩, ⟨pw_below_drewN HB.out _⟩⟩
        case round =>
          clear H'
          try clear c4b0
          try clear c4b1
          try clear c5b0
          obtain ⟨x8, x9, x10, rfl, rfl, rfl, HA, HK1, HB⟩ := hrel
          cases gk with
          | zero => exact absurd HA.out (by simp [stamp_Next.l0])
          | succ k1 =>
            have H := HA.out
            clear HA
            simp only [stamp_Next.l0] at H
            by_cases c6 : x10 ≤ 200
            · rw [if_pos c6] at H
              have c6b0 : decide (x10 ≤ 200) = true := decide_eq_true c6
              clear c6
              obtain ⟨⟨b1, b2⟩, A70, H⟩ := Option.bind_eq_some_iff.mp H
              have A7 := Aside0.mk A70
              clear A70
              cases b2 with
              | true =>
                rw [if_pos rfl] at H
                have H' := Aside0.mk H
                clear H
                go_wp2_with (go_at_call 56; refine (slices_BinarySearch_int_int.calls k1 _ _ l1 x10 b1 true _ (Kd.C_below HR1.out HB.out) HC1.out A7.out).mono ?_; rintro e w' ⟨rfl, ⟨nd, rfl⟩⟩)
                go_roundg k1
                case measure => have := HK1.out; omega
                case rel => exact ⟨x8, x9, wrap64 (x10 + 1), rfl, rfl, (by first | rfl | (simp; done)), H', ⟨by have := HK1.out; omega⟩, ⟨pw_below_drewN HB.out _⟩⟩
              | false =>
                rw [if_neg (by simp)] at H
                split at H
                · rename_i hb1
                  obtain ⟨i, rfl⟩ := Int.eq_ofNat_of_zero_le hb1.1
                  have HI := Aside0.mk hb1.2
                  clear hb1
                  obtain ⟨tu, A80, H⟩ := Option.bind_eq_some_iff.mp H
                  simp only [Int.toNat_natCast] at A80
                  obtain ⟨lst, hlst⟩ : ∃ lst, lst = l1.take i ++ x10 :: l1.drop i := ⟨_, rfl⟩
                  rw [← hlst] at A80
                  have A8 := Aside0.mk A80
                  have LST := Aside0.mk hlst
                  clear A80 hlst
                  by_cases c7 : x9 < tu
                  · rw [if_pos c7] at H
                    have c7b : decide (x9 < tu) = true := decide_eq_true c7
                    clear c7
                    have H' := Aside0.mk H
                    clear H
                    go_wp2_with (first | (go_at_call 56; refine (slices_BinarySearch_int_int.calls k1 _ _ l1 x10 (i : Int) false _ (Kd.C_below HR1.out HB.out) HC1.out A7.out).mono ?_; rintro e w' ⟨rfl, ⟨nd, rfl⟩⟩) | (go_at_call 43; refine (slices_Clone_int_int.calls _ _ l1 l1 _ (Kd.C_below HR1.out (pw_below_drewN HB.out _)) HC1.out HCL.out).mono ?_; rintro e w5 ⟨v5, rfl, hR5, hb5⟩; obtain ⟨g, cap, rfl, hgl⟩ := R_some hR5 HL.out.1; have HR5 := Aside0.mk (And.intro hR5 (And.intro hgl hb5)); clear hR5 hgl hb5) | (go_at_call 57; refine (insert_calls g l1.length cap i w5.heap.size x10 l1 _ _ (Kd.R_alloc HR5.out.1 _) (by have := HL.out; omega) rfl (by have := HI.out; omega) (by have := below_size HR5.out.2.2; simp only [World.size_alloc]; omega) (blk_new w5 _) (by have := HR5.out.2.1; omega)).mono ?_; rintro e w6 ⟨v6, rfl, hR6, hb6⟩; rw [← LST.out] at hR6; obtain ⟨A6, c6, rfl⟩ := Kd.R_slice hR6; have HR6 := Aside0.mk (And.intro hR6 hb6); clear hR6 hb6) | (go_at_call 47; refine (stamp_reach.calls k1 a0 _ _ lst tu _ (Kd.R_reads' HR6.out.1).2.2 (Kd.R_reads' HR6.out.1).2.1 A8.out).mono ?_; rintro e w7 ⟨rfl, hb7⟩; have HB7 := Aside0.mk hb7; clear hb7))
                    have hs0 := below_size HB.out
                    have HBA : Below w.heap.size w w5 := (pw_below_drewN HB.out _).trans (HR5.out.2.2.mono hs0)
                    have HBC : Below w.heap.size w w6 := (below_alloc HBA _).trans (HR6.out.2.mono hs0)
                    have HBD : Below w.heap.size w w7 := HBC.trans (HB7.out.mono (below_size HBC))
                    go_roundg k1
                    case measure => have := HK1.out; omega
                    case rel => exact ⟨x10, tu, wrap64 (x10 + 1), rfl, rfl, (by first | rfl | (simp; done)), H', ⟨by have := HK1.out; omega⟩, ⟨HBD⟩⟩
                  · rw [if_neg c7] at H
                    have c7b : decide (x9 < tu) = false := decide_eq_false c7
                    clear c7
                    have H' := Aside0.mk H
                    clear H
                    go_wp2_with (first | (go_at_call 56; refine (slices_BinarySearch_int_int.calls k1 _ _ l1 x10 (i : Int) false _ (Kd.C_below HR1.out HB.out) HC1.out A7.out).mono ?_; rintro e w' ⟨rfl, ⟨nd, rfl⟩⟩) | (go_at_call 43; refine (slices_Clone_int_int.calls _ _ l1 l1 _ (Kd.C_below HR1.out (pw_below_drewN HB.out _)) HC1.out HCL.out).mono ?_; rintro e w5 ⟨v5, rfl, hR5, hb5⟩; obtain ⟨g, cap, rfl, hgl⟩ := R_some hR5 HL.out.1; have HR5 := Aside0.mk (And.intro hR5 (And.intro hgl hb5)); clear hR5 hgl hb5) | (go_at_call 57; refine (insert_calls g l1.length cap i w5.heap.size x10 l1 _ _ (Kd.R_alloc HR5.out.1 _) (by have := HL.out; omega) rfl (by have := HI.out; omega) (by have := below_size HR5.out.2.2; simp only [World.size_alloc]; omega) (blk_new w5 _) (by have := HR5.out.2.1; omega)).mono ?_; rintro e w6 ⟨v6, rfl, hR6, hb6⟩; rw [← LST.out] at hR6; obtain ⟨A6, c6, rfl⟩ := Kd.R_slice hR6; have HR6 := Aside0.mk (And.intro hR6 hb6); clear hR6 hb6) | (go_at_call 47; refine (stamp_reach.calls k1 a0 _ _ lst tu _ (Kd.R_reads' HR6.out.1).2.2 (Kd.R_reads' HR6.out.1).2.1 A8.out).mono ?_; rintro e w7 ⟨rfl, hb7⟩; have HB7 := Aside0.mk hb7; clear hb7))
                    have hs0 := below_size HB.out
                    have HBA : Below w.heap.size w w5 := (pw_below_drewN HB.out _).trans (HR5.out.2.2.mono hs0)
                    have HBC : Below w.heap.size w w6 := (below_alloc HBA _).trans (HR6.out.2.mono hs0)
                    have HBD : Below w.heap.size w w7 := HBC.trans (HB7.out.mono (below_size HBC))
                    go_roundg k1
                    case measure => have := HK1.out; omega
                    case rel => exact ⟨x8, x9, wrap64 (x10 + 1), rfl, rfl, (by first | rfl | (simp; done)), H', ⟨by have := HK1.out; omega⟩, ⟨HBD⟩⟩
                · cases H
            · rw [if_neg c6] at H
              have c6b0 : decide (x10 ≤ 200) = false := decide_eq_false c6
              clear c6
              simp only [Option.some.injEq, Prod.mk.injEq] at H
              obtain ⟨rfl, rfl⟩ := H
              go_wp2
              go_ret3
              exact ⟨rfl, HB.out⟩
      · cases H
  · rw [if_neg c4] at H
    have c4b0 : (t == 0) = false := beq_eq_false_iff_ne.mpr c4
    have c4b1 : (t != 0) = true := bne_iff_ne.mpr c4
    clear c4
    simp only [Option.some.injEq, Prod.mk.injEq] at H
    obtain ⟨rfl, rfl, rfl⟩ := H
    go_enter Try.func37, Try.ntmps37
    go_wp2_with (go_at_call 52; refine (stamp_read.calls k a0 _ _ l1 t _ HR1.out HC1.out A3.out).mono ?_; rintro e w' ⟨rfl, ⟨nd, rfl⟩⟩)
    go_ret3
    exact ⟨rfl, pw_below_drewN HB.out _⟩
end Go.Proofs.Ythbalcbibmdpnaa.OAll
