/- A part of the proof of 'topBridge_holds', for every input, without a condition. -/
import Derived.Test.YtknecgmmpjggiaaDoorTBrTl
import Derived.Test.YtknecgmmpjggiaaDoorTBrOAllx5
namespace Go.Proofs.YtknecgmmpjggiaaDoor.OAll
open Go.RowKit Go.Proofs.YtknecgmmpjggiaaDoorW.PrintWords Go.Proofs.YtknecgmmpjggiaaDoorW.PrintLast Go.Proofs.YtknecgmmpjggiaaDoorW.PrintMore
set_option linter.unusedVariables false
set_option linter.unusedSimpArgs false
structure FiS (w0 : World) (B N O E : Nat) (n : Int) (w : World) (so : ByteArray) (eo : Int) : Prop where
  lo : Below B w0 w
  hN : B ≤ N
  hO : B ≤ O
  hE : B ≤ E
  ne1 : N ≠ O
  ne2 : N ≠ E
  ne3 : O ≠ E
  bn : w.heap[N]? = some (.cells #[.int .i64 n] 3 (0, 0))
  bo : w.heap[O]? = some (.cells #[.string so] 9 (0, 0))
  be : w.heap[E]? = some (.cells #[.int .i64 eo] 24 (0, 0))
theorem FiS.below {w0 : World} {B N O E : Nat} {n : Int} {w w1 : World} {so : ByteArray} {eo : Int} (h : FiS w0 B N O E n w so eo) (hb : Below w.heap.size w w1) : FiS w0 B N O E n w1 so eo :=
  ⟨h.lo.trans (hb.mono (Nat.le_trans h.hN (Nat.le_of_lt (blk_lt h.bn)))), h.hN, h.hO, h.hE, h.ne1, h.ne2, h.ne3, blk_below h.bn hb, blk_below h.bo hb, blk_below h.be hb⟩
theorem FiS.put {w0 : World} {B N O E : Nat} {n : Int} {w : World} {so : ByteArray} {eo : Int} (h : FiS w0 B N O E n w so eo) (s : ByteArray) (e : Int) :
    FiS w0 B N O E n ((w.setCell ⟨O, 0, none⟩ (.string s)).setCell ⟨E, 0, none⟩ (.int .i64 e)) s e :=
  ⟨(h.lo.setCell (p := ⟨O, 0, none⟩) h.hO _).setCell (p := ⟨E, 0, none⟩) h.hE _, h.hN, h.hO, h.hE, h.ne1, h.ne2, h.ne3,
    blk_far (blk_far h.bn h.ne1 _) h.ne2 _, blk_far (blk_put h.bo 0 _ rfl) h.ne3 _, blk_put (blk_far h.be (fun e => h.ne3 e.symm) _) 0 _ rfl⟩
set_option maxRecDepth 100000 in
set_option maxHeartbeats 1000000 in
theorem first_on (K : Nat) (w0 : World) (B N O E : Nat) (n : Int) (so : ByteArray) (eo : Int) (s : ByteArray) (A : Option Addr) (c : Nat) (a : List S30) (b : Bool) (w : World) (hS : FiS w0 B N O E n w so eo) (hC : Kd.C k30 w A a.length a) (hc : a.length ≤ c) (h : oneway_arcs_strong.f K a n = some b) :
    Calls Tryd.prog 27 #[.string s, .slice A a.length c, .pointer (some ⟨N, 0, none⟩), .pointer (some ⟨O, 0, none⟩), .pointer (some ⟨E, 0, none⟩)] w fun e w' => e = .returned (.bool (if b then true else eo == 0)) ∧ FiS w0 B N O E n w' (if b then s else so) (if b then 0 else eo) ∧ Kept w w' (fun k_ => k_ = O ∨ k_ = E) := by
  have HS := Aside0.mk hS
  have HC := Aside0.mk hC
  have Hc := Aside0.mk hc
  have HH := Aside0.mk h
  have e0 : w.cell? ⟨N, 0, none⟩ = some (.int .i64 n) := (blk_cell hS.bn 0).trans rfl
  clear hS hC hc h
  go_enter Tryd.func27, Tryd.ntmps27
  cases b
  · go_wp2_with (first | (go_at_call 15; refine (oneway_arcs_strong.calls K A c a n false _ HC.out Hc.out HH.out).mono ?_; rintro e w1 ⟨rfl, hb1⟩; have HS1 := Aside0.mk (HS.out.below hb1); have HK1 := Aside0.mk (Kept.of_below hb1 (fun k_ => k_ = O ∨ k_ = E)); have e1 : w1.cell? ⟨E, 0, none⟩ = some (.int .i64 eo) := (blk_cell HS1.out.be 0).trans rfl; clear hb1))
    go_ret
    exact ⟨rfl, HS1.out, HK1.out⟩
  · go_wp2_with (first | (go_at_call 15; refine (oneway_arcs_strong.calls K A c a n true _ HC.out Hc.out HH.out).mono ?_; rintro e w1 ⟨rfl, hb1⟩; have HS1 := Aside0.mk (HS.out.below hb1); have HS2 := Aside0.mk (HS1.out.put s 0); have HK2 := Aside0.mk (((Kept.of_below hb1 (fun k_ => k_ = O ∨ k_ = E)).setCell (p := ⟨O, 0, none⟩) (.inl (.inl rfl)) (.string s)).setCell (p := ⟨E, 0, none⟩) (.inl (.inr rfl)) (.int .i64 0)); have e1 : w1.cell? ⟨O, 0, none⟩ = some (.string so) := (blk_cell HS1.out.bo 0).trans rfl; have e2 : w1.cell? ⟨E, 0, none⟩ = some (.int .i64 eo) := (blk_cell HS1.out.be 0).trans rfl; have g1 := blk_frozen HS1.out.bo 0; have g2 := blk_frozen HS1.out.be 0; have n3 := HS1.out.ne3; clear hb1))
    go_ret
    exact ⟨rfl, HS2.out, HK2.out⟩
def firstFrom (sb : Nat → Bool) : Nat → Nat → Option Nat
  | 0, _ => none
  | d + 1, i => if sb i then some i else firstFrom sb d (i + 1)
def firstS (L : Nat) (r : Option Nat) : ByteArray := match r with | some k => strB (sgn L k) | none => ⟨#[]⟩
def firstE (r : Option Nat) : Int := match r with | some _ => 0 | none => 10
theorem strB_size (σ : List Bool) : (strB σ).size = σ.length := by show (σ.map signB).toArray.size = _; simp
theorem strB_trim (σ : List Bool) : Lib.trimS (strB σ).data.toList [60, 62] = [] := by
  rw [trim_nil]
  intro b hb
  have : b ∈ σ.map signB := by simpa [strB] using hb
  obtain ⟨x, _, rfl⟩ := List.mem_map.1 this
  cases x <;> decide
theorem signed_strB (a : Int) (l : List S30) (σ : List Bool) (h : σ.length = l.length) (hl : l.length ≤ 14) : oneway_quarter_signed.f a l (strB σ) = some (signFrom (strB σ) 0 l, true) := by
  unfold oneway_quarter_signed.f
  rw [if_pos ⟨by rw [strB_size, h], by rw [strB_size]; omega⟩, if_pos (strB_trim σ), if_pos (by omega)]
set_option maxRecDepth 100000 in
set_option maxHeartbeats 4000000 in
theorem all_calls (w0 : World) (B N O E : Nat) (n : Int) (a0 : Int) (A : Option Addr) (c : Nat) (l : List S30) (sb : Nat → Bool) (w : World) (hS : FiS w0 B N O E n w ⟨#[]⟩ 10) (hF : Kd.F k30 w (fun k_ => k_ ≠ O ∧ k_ ≠ E) A l.length l) (hc : l.length ≤ c) (hl : l.length ≤ 14)
    (hsb : ∀ k, k < 2 ^ l.length → ∃ K, oneway_arcs_strong.f K (signFrom (strB (sgn l.length k)) 0 l) n = some (sb k)) :
    Calls Tryd.prog 26 #[.agg #[.int .i64 a0, .slice A l.length c], .func (.func 27) #[] #[.pointer (some ⟨N, 0, none⟩), .pointer (some ⟨O, 0, none⟩), .pointer (some ⟨E, 0, none⟩)]] w fun e w' => e = .returned (.tuple #[]) ∧ FiS w0 B N O E n w' (firstS l.length (firstFrom sb (2 ^ l.length) 0)) (firstE (firstFrom sb (2 ^ l.length) 0)) ∧ Kept w w' (fun k_ => k_ = O ∨ k_ = E) := by
  have hu46 := Tryd.underlying46
  have HS := Aside0.mk hS
  have HF := Aside0.mk hF
  have Hc := Aside0.mk hc
  have HL := Aside0.mk hl
  have HSB := Aside0.mk hsb
  have hpow : 2 ^ l.length ≤ 2 ^ 14 := Nat.pow_le_pow_right (by omega) hl
  obtain ⟨M, hM⟩ : ∃ M : Nat, M = 2 ^ l.length := ⟨_, rfl⟩
  have HB0 : Below w.heap.size w (w.alloc (.cells #[.int .i64 a0, .slice A l.length c] 46)) := below_alloc (Below.refl _ _) _
  have HS0 := Aside0.mk (HS.out.below HB0)
  have HK0 := Aside0.mk (Kept.of_below HB0 (fun k_ => k_ = O ∨ k_ = E))
  have HQ0 := Aside0.mk (blk_new w (.cells #[.int .i64 a0, .slice A l.length c] 46))
  have HOE : Aside0 (O < w.heap.size ∧ E < w.heap.size) := ⟨blk_lt hS.bo, blk_lt hS.be⟩
  have hshl : wrap64 (2 ^ l.length) = (M : Int) := by rw [hM, w64pow (by omega)]
  have hmin : min l.length 64 = l.length := by omega
  clear hS hF hc hl hsb HB0
  go_enter Tryd.func26, Tryd.ntmps26
  go_wp2
  rw [hshl]
  have HPW := Aside0.mk (And.intro hpow hM)
  clear hpow hM hshl hmin
  go_loopg [12] M (fun kq v12 w' => ∃ i : Nat, v12 = .int .i64 i ∧ Aside0 (i + kq = M) ∧ Aside0 (firstFrom sb M 0 = firstFrom sb kq i) ∧ Aside0 (FiS w0 B N O E n w' ⟨#[]⟩ 10) ∧ Aside0 (Kept w w' (fun k_ => k_ = O ∨ k_ = E)) ∧ Aside0 (w'.heap[w.heap.size]? = some (.cells #[.int .i64 a0, .slice A l.length c] 46 (0, 0))))
  case atStart => exact ⟨0, rfl, ⟨by omega⟩, ⟨rfl⟩, HS0, HK0, HQ0⟩
  case round =>
    clear HS0 HK0 HQ0
    obtain ⟨i, rfl, HI, HFF, HS1, HK1, HQ1⟩ := hrel
    cases gk with
    | zero =>
      have v2 : (i < M) = False := eq_false (by have := HI.out; omega)
      have HR : Aside0 (firstFrom sb M 0 = none) := HFF
      go_wp2
      first | go_end0 | ((try simp only [Exit.inBlock, Exit.then]); refine bodyPost_ret (results_none rfl _ _ _) rfl ?_)
      rw [← HPW.out.2, HR.out]
      exact ⟨rfl, HS1.out, HK1.out⟩
    | succ k1 =>
      have hiM : i < M := by have := HI.out; omega
      have v2 := eq_true hiM
      obtain ⟨K1, hK1⟩ := HSB.out i (by rw [← HPW.out.2]; exact hiM)
      have HK := Aside0.mk hK1
      have HI14 : Aside0 (i < 2 ^ 14) := ⟨by have := HPW.out.1; have := HPW.out.2; omega⟩
      have q1 : wr.cell? ⟨w.heap.size, 0, none⟩ = some (.int .i64 a0) := (blk_cell HQ1.out 0).trans rfl
      have q2 : wr.cell? ⟨w.heap.size, 1, none⟩ = some (.slice A l.length c) := (blk_cell HQ1.out 1).trans rfl
      have HSG := Aside0.mk (signed_strB a0 l (sgn l.length i) (sgn_len _ _) HL.out)
      clear hiM hK1
      go_wp2_with (first | (go_at_call 40; refine (oneway_spelled a0 A c l i _ HL.out HI14.out).mono ?_; rintro e w1 ⟨rfl, hb1⟩; have HS2 := Aside0.mk (HS1.out.below hb1); have HK2 := Aside0.mk (HK1.out.below hb1); have HQ2 := Aside0.mk (blk_below HQ1.out hb1); have q3 : w1.cell? ⟨w.heap.size, 0, none⟩ = some (.int .i64 a0) := (blk_cell HQ2.out 0).trans rfl; have q4 : w1.cell? ⟨w.heap.size, 1, none⟩ = some (.slice A l.length c) := (blk_cell HQ2.out 1).trans rfl; clear hb1) | (go_at_call 29; refine (oneway_quarter_signed.calls a0 A c l (strB (sgn l.length i)) _ true _ (Kd.F_now (Kd.F_kept (Kd.F_bound HF.out) HK2.out (fun k_ hk => by have := hk.1; omega))) Hc.out HSG.out).mono ?_; rintro e w2 ⟨v2_, rfl, ho2, hb2⟩; obtain ⟨Aa, ca, rfl⟩ := Kd.R_slice ho2; have HO3 := Aside0.mk ho2; have HS3 := Aside0.mk (HS2.out.below hb2); have HK3 := Aside0.mk (HK2.out.below hb2); have HQ3 := Aside0.mk (blk_below HQ2.out hb2); clear ho2 hb2))
      cases hb : sb i
      · rw [hb] at HK
        refine (first_on K1 w0 B N O E n ⟨#[]⟩ 10 (strB (sgn l.length i)) Aa ca _ false _ HS3.out (Kd.R_reads' HO3.out).2.2 (Kd.R_reads' HO3.out).2.1 HK.out).mono ?_
        rintro e w4 ⟨rfl, hS4, hk4⟩
        have HS4 : Aside0 (FiS w0 B N O E n w4 ⟨#[]⟩ 10) := ⟨hS4⟩
        have HK4 := Aside0.mk (HK3.out.then_ hk4 (fun k_ hk => .inl hk))
        have HQ4 := Aside0.mk (blk_kept HQ3.out hk4 (by have := HOE.out; omega))
        have HF4 : Aside0 (firstFrom sb M 0 = firstFrom sb k1 (i + 1)) := ⟨by rw [HFF.out, firstFrom, hb]; rfl⟩
        clear hS4 hk4 hb q1 q2 q3 q4
        go_wp2
        go_roundg k1
        case measure => omega
        case rel => exact ⟨i + 1, by rw [w64s i (by have := HI14.out; omega)], ⟨by have := HI.out; omega⟩, HF4, HS4, HK4, HQ4⟩
      · rw [hb] at HK
        refine (first_on K1 w0 B N O E n ⟨#[]⟩ 10 (strB (sgn l.length i)) Aa ca _ true _ HS3.out (Kd.R_reads' HO3.out).2.2 (Kd.R_reads' HO3.out).2.1 HK.out).mono ?_
        rintro e w4 ⟨rfl, hS4, hk4⟩
        have HS4 : Aside0 (FiS w0 B N O E n w4 (strB (sgn l.length i)) 0) := ⟨hS4⟩
        have HK4 := Aside0.mk (HK3.out.then_ hk4 (fun k_ hk => .inl hk))
        have HF4 : Aside0 (firstFrom sb M 0 = some i) := ⟨by rw [HFF.out, firstFrom, hb]; rfl⟩
        clear hS4 hk4 hb q1 q2 q3 q4
        go_wp2
        first | go_end0 | ((try simp only [Exit.inBlock, Exit.then]); refine bodyPost_ret (results_none rfl _ _ _) rfl ?_)
        rw [← HPW.out.2, HF4.out]
        exact ⟨rfl, HS4.out, HK4.out⟩
end Go.Proofs.YtknecgmmpjggiaaDoor.OAll
