/- A part of the proof of 'fetchStrong_holds', for every input, without a condition. -/
import Derived.Test.YtjbfbdanbpfplaaSTOAllx0
import Derived.Test.YtjbfbdanbpfplaaSTOAllx2
import Derived.Test.YtjbfbdanbpfplaaSTOAllx3
import Derived.Test.YtjbfbdanbpfplaaSTOAllx4
namespace Go.Proofs.Ytjbfbdanbpfplaa.OAll
open Go.RowKit Go.Proofs.YtjbfbdanbpfplaaW.PrintWords Go.Proofs.YtjbfbdanbpfplaaW.PrintLast Go.Proofs.YtjbfbdanbpfplaaW.PrintMore
attribute [local go_sem] max2_int min2_int max_two min_two max_three min_three max_four min_four
set_option linter.unusedVariables false
set_option linter.unusedSimpArgs false
theorem fetch_has_c (set c : Int) (Bs : Nat) (w : World) (hs : w.cell? ⟨Bs, 0, none⟩ = some (.int .i64 set)) :
  Calls Try.prog 73 #[.int .i64 c, .pointer (some ⟨Bs, 0, none⟩)] w fun e w' => e = .returned (.bool (Go.bits .and .i64 c set == 0)) ∧ w = w' := by
 go_enter Try.func73, Try.ntmps73
 go_wp2
 go_ret
 exact ⟨rfl, rfl⟩
def firstAt (p : Int → Bool) : List Int → Int → Int
 | [], _ => -1
 | x :: xs, i => if p x then i else firstAt p xs (i + 1)
theorem firstAt_drop (p : Int → Bool) (xs : List Int) (k : Nat) (hk : k < xs.length) : firstAt p (xs.drop k) k = if p (rd xs k) then (k : Int) else firstAt p (xs.drop (k + 1)) (k + 1 : Nat) := by
 rw [List.drop_eq_getElem_cons hk, firstAt]
 simp [rd, List.getD_eq_getElem?_getD, List.getElem?_eq_getElem hk]
theorem fetch_has_i (set : Int) (Bs : Nat) (A : Option Addr) (n : Nat) (xs : List Int) (w : World) (hr : Kd.C (Kd.int .i64) w A xs.length xs) (hn : xs.length ≤ 9223372036854775807) (hs : w.cell? ⟨Bs, 0, none⟩ = some (.int .i64 set)) :
  Calls Try.prog 76 #[.slice A xs.length n, .func (.func 73) #[] #[.pointer (some ⟨Bs, 0, none⟩)]] w fun e w' => e = .returned (.int .i64 (firstAt (fun c => Go.bits .and .i64 c set == 0) xs 0)) ∧ w = w' := by
 have HR := Aside0.mk hr
 clear hr
 go_enter Try.func76, Try.ntmps76
 go_wp2
 go_loop [8] (fun v8 => ∃ k : Nat, v8 = .int .i64 (k : Int) ∧ k ≤ xs.length ∧ Aside0 (firstAt (fun c => Go.bits .and .i64 c set == 0) xs 0 = firstAt (fun c => Go.bits .and .i64 c set == 0) (xs.drop k) k)) (fun v8 => xs.length - (intOf v8).toNat)
 case atStart => exact ⟨0, rfl, Nat.zero_le _, ⟨rfl⟩⟩
 case round =>
  obtain ⟨k, rfl, hk, HX⟩ := hrel
  by_cases hlt : k < xs.length
  ·have hf := firstAt_drop (fun c => Go.bits .and .i64 c set == 0) xs k hlt
   rw [← HX.out] at hf
   have HF := Aside0.mk hf
   clear hf HX
   obtain ⟨ad, e1, hx⟩ := Kd.at_int HR.out (k : Int) (by omega) (by omega)
   cases e1
   rw [Int.toNat_natCast] at hx
   cases hb : (Go.bits .and .i64 (rd xs k) set == 0)
   ·rw [hb, if_neg (by simp)] at HF
    go_wp2_with (go_at_call 73; refine (fetch_has_c set _ Bs _ hs).mono ?_; rintro e w' ⟨rfl, rfl⟩)
    go_round
    case rel => exact ⟨k + 1, by go_num, by omega, HF⟩
    case measure => simp [intOf]; omega
   ·rw [hb, if_pos rfl] at HF
    go_wp2_with (go_at_call 73; refine (fetch_has_c set _ Bs _ hs).mono ?_; rintro e w' ⟨rfl, rfl⟩)
    go_ret
    exact ⟨by rw [HF.out]; rfl, rfl⟩
  ·have hke : k = xs.length := by omega
   have HE := Aside0.mk hke
   clear hke
   go_wp2
   go_ret
   exact ⟨by rw [HX.out, HE.out]; simp [firstAt], rfl⟩
theorem firstAt_neg (p : Int → Bool) : ∀ (xs : List Int) (i : Int), 0 ≤ i → decide (0 ≤ firstAt p xs i) = xs.any p
 | [], i, h => by simp [firstAt]
 | x :: xs, i, h => by
  rw [firstAt, List.any_cons]
  cases hp : p x
  ·simp only [Bool.false_eq_true, if_false, Bool.false_or]
   exact firstAt_neg p xs (i + 1) (by omega)
  ·simp [h]
theorem fetch_has_a (set : Int) (Bs : Nat) (A : Option Addr) (n : Nat) (xs : List Int) (w : World) (hr : Kd.C (Kd.int .i64) w A xs.length xs) (hn : xs.length ≤ 9223372036854775807) (hs : w.cell? ⟨Bs, 0, none⟩ = some (.int .i64 set)) :
  Calls Try.prog 69 #[.slice A xs.length n, .func (.func 73) #[] #[.pointer (some ⟨Bs, 0, none⟩)]] w fun e w' => e = .returned (.bool (xs.any fun c => Go.bits .and .i64 c set == 0)) ∧ w = w' := by
 go_enter Try.func69, Try.ntmps69
 go_wp2_with (go_at_call 76; refine (fetch_has_i set Bs _ _ xs _ hr hn hs).mono ?_; rintro e w' ⟨rfl, rfl⟩)
 go_ret
 exact ⟨by rw [← firstAt_neg _ _ _ (Int.le_refl 0)]; rfl, rfl⟩
def fetch_tell.f (k : Nat) (all : List Int) (set : Int) (found : Bool) (best : List Int) (many : Int) : Option (Bool × List Int × Int) :=
 if all.any (fun c => Go.bits .and .i64 c set == 0) = true then some (found, best, many) else
  (fetch_list.f k set).bind fun l => if found = false then some (true, l, 1) else if (l.length : Int) < (best.length : Int) then some (true, l, 1) else
   if (l.length : Int) = (best.length : Int) then (slices_Compare_int_int.f k l best).bind fun c => if c < 0 then some (found, l, wrap64 (many + 1)) else some (found, best, wrap64 (many + 1)) else some (found, best, many)
structure TellS (NA : Nat) (w : World) (all : List Int) (found : Bool) (best : List Int) (many : Int) : Prop where
 ba : ∃ A c, w.heap[NA]? = some (.cells #[.slice A all.length c] 23 (0, 0)) ∧ Kd.R (Kd.int .i64) 3 w 0 (fun k => k < NA) (.slice A all.length c) all
 bb : ∃ v, w.heap[NA + 1]? = some (.cells #[v] 23 (0, 0)) ∧ Kd.R (Kd.int .i64) 3 w (NA + 4) (fun _ => True) v best
 bm : w.heap[NA + 2]? = some (.cells #[.int .i64 many] 3 (0, 0))
 bf : w.heap[NA + 3]? = some (.cells #[.bool found] 4 (0, 0))
theorem TellS.below {NA : Nat} {w w1 : World} {all : List Int} {found : Bool} {best : List Int} {many : Int} (h : TellS NA w all found best many) (hb : Below w.heap.size w w1) : TellS NA w1 all found best many := by
 obtain ⟨⟨A, c, h1, h2⟩, ⟨v, h3, h4⟩, h5, h6⟩ := h
 exact ⟨⟨A, c, blk_below h1 hb, Kd.R_below h2 hb⟩, ⟨v, blk_below h3 hb, Kd.R_below h4 hb⟩, blk_below h5 hb, blk_below h6 hb⟩
theorem TellS.put_best {NA : Nat} {w : World} {all : List Int} {found : Bool} {best : List Int} {many : Int} (h : TellS NA w all found best many) {v : Value} {l : List Int} (hv : Kd.R (Kd.int .i64) 3 w (NA + 4) (fun _ => True) v l) : TellS NA (w.setCell ⟨NA + 1, 0, none⟩ v) all found l many := by
 obtain ⟨⟨A, c, h1, h2⟩, ⟨v0, h3, h4⟩, h5, h6⟩ := h
 refine ⟨⟨A, c, blk_far h1 (by simp) _, Kd.R_far h2 (fun k hk => by show k ≠ NA + 1; omega) _⟩, ⟨v, blk_put h3 0 v rfl, ?_⟩, blk_far h5 (by simp) _, blk_far h6 (by simp) _⟩
 exact Kd.R_mono (Kd.R_far (Kd.R_bound hv) (fun k hk => by show k ≠ NA + 1; have := hk.2.1; omega) _) (fun _ _ => trivial)
theorem TellS.put_many {NA : Nat} {w : World} {all : List Int} {found : Bool} {best : List Int} {many : Int} (h : TellS NA w all found best many) (m : Int) : TellS NA (w.setCell ⟨NA + 2, 0, none⟩ (.int .i64 m)) all found best m := by
 obtain ⟨⟨A, c, h1, h2⟩, ⟨v0, h3, h4⟩, h5, h6⟩ := h
 refine ⟨⟨A, c, blk_far h1 (by simp) _, Kd.R_far h2 (fun k hk => by show k ≠ NA + 2; omega) _⟩, ⟨v0, blk_far h3 (by simp) _, ?_⟩, blk_put h5 0 _ rfl, blk_far h6 (by simp) _⟩
 exact Kd.R_mono (Kd.R_far (Kd.R_bound h4) (fun k hk => by show k ≠ NA + 2; have := hk.2.1; omega) _) (fun _ _ => trivial)
theorem TellS.put_found {NA : Nat} {w : World} {all : List Int} {found : Bool} {best : List Int} {many : Int} (h : TellS NA w all found best many) (f : Bool) : TellS NA (w.setCell ⟨NA + 3, 0, none⟩ (.bool f)) all f best many := by
 obtain ⟨⟨A, c, h1, h2⟩, ⟨v0, h3, h4⟩, h5, h6⟩ := h
 refine ⟨⟨A, c, blk_far h1 (by simp) _, Kd.R_far h2 (fun k hk => by show k ≠ NA + 3; omega) _⟩, ⟨v0, blk_far h3 (by simp) _, ?_⟩, blk_far h5 (by simp) _, blk_put h6 0 _ rfl⟩
 exact Kd.R_mono (Kd.R_far (Kd.R_bound h4) (fun k hk => by show k ≠ NA + 3; have := hk.2.1; omega) _) (fun _ _ => trivial)
theorem R_past {w : World} {N : Nat} {v : Value} {l : List Int} (h : Kd.R (Kd.int .i64) 3 w N (fun _ => True) v l) (j : Nat) (hj : j < N) (u : Value) : Kd.R (Kd.int .i64) 3 (w.setCell ⟨j, 0, none⟩ u) N (fun _ => True) v l :=
 Kd.R_mono (Kd.R_far (Kd.R_bound h) (fun k hk => by show k ≠ j; have := hk.2.1; omega) _) (fun _ _ => trivial)
theorem TellS.size {NA : Nat} {w : World} {all : List Int} {found : Bool} {best : List Int} {many : Int} (h : TellS NA w all found best many) : NA + 4 ≤ w.heap.size := blk_lt h.bf
theorem fetch_tell.calls (k NA : Nat) (all : List Int) (set : Int) (found : Bool) (best : List Int) (many : Int) (f2 : Bool) (b2 : List Int) (m2 : Int) (w : World) (hT : TellS NA w all found best many) (hn : all.length ≤ 9223372036854775807)
  (h : fetch_tell.f k all set found best many = some (f2, b2, m2)) :
  Calls Try.prog 72 #[.int .i64 set, .pointer (some ⟨NA, 0, none⟩), .pointer (some ⟨NA + 3, 0, none⟩), .pointer (some ⟨NA + 1, 0, none⟩), .pointer (some ⟨NA + 2, 0, none⟩)] w fun e w' => e = .returned (.tuple #[]) ∧ TellS NA w' all f2 b2 m2 ∧ Below NA w w' := by
 have hmf : ∀ (fn : Fn) (first cap : Array Value) (w : World), (Instr.makeFunc fn first cap).run Try.prog w = .ok (.func fn first cap) w := fun _ _ _ _ => rfl
 have hz := hT.size
 have hB0 : Below w.heap.size w (w.alloc (.cells #[.int .i64 set] 3)) := below_alloc (Below.refl _ _) _
 have hT0 := hT.below hB0
 have hs0 : (w.alloc (.cells #[.int .i64 set] 3)).cell? ⟨w.heap.size, 0, none⟩ = some (.int .i64 set) := (blk_cell (blk_new w (.cells #[.int .i64 set] 3)) 0).trans rfl
 obtain ⟨⟨A, c, h1, h2⟩, ⟨v0, h3, h4⟩, h5, h6⟩ := hT0
 have c1 : (w.alloc (.cells #[.int .i64 set] 3)).cell? ⟨NA, 0, none⟩ = some (.slice A all.length c) := (blk_cell h1 0).trans rfl
 have R1 := Aside0.mk (Kd.R_reads' h2).2.2
 unfold fetch_tell.f at h
 by_cases hany : all.any (fun c => Go.bits .and .i64 c set == 0) = true
 ·rw [if_pos hany] at h
  simp only [Option.some.injEq, Prod.mk.injEq] at h
  obtain ⟨rfl, rfl, rfl⟩ := h
  have HT := Aside0.mk (hT.below hB0)
  clear h2 h4 h1 h3 h5 h6 hT
  go_enter Try.func72, Try.ntmps72
  go_wp2_with (go_at_call 69; refine (fetch_has_a set w.heap.size _ _ all _ R1.out hn hs0).mono ?_; rw [hany]; rintro e w' ⟨rfl, rfl⟩)
  refine bodyPost_ret (results_none rfl _ _ _) rfl ?_
  exact ⟨rfl, HT.out, hB0.mono (by omega)⟩
 ·rw [if_neg hany] at h
  obtain ⟨l, hl, h⟩ := Option.bind_eq_some_iff.mp h
  have hany' : all.any (fun c => Go.bits .and .i64 c set == 0) = false := by simpa using hany
  have HT := Aside0.mk (hT.below hB0)
  have HL := Aside0.mk hl
  clear h2 h4 h1 h3 h5 h6 hT hany hl
  cases found
  ·rw [if_pos rfl] at h
   simp only [Option.some.injEq, Prod.mk.injEq] at h
   obtain ⟨rfl, rfl, rfl⟩ := h
   clear h
   go_enter Try.func72, Try.ntmps72
   go_wp2_with (go_at_call 69; refine (fetch_has_a set w.heap.size _ _ all _ R1.out hn hs0).mono ?_; rw [hany']; rintro e w' ⟨rfl, rfl⟩)
   refine (fetch_list.calls k set l _ HL.out).mono ?_
   rintro e w1 ⟨v1, rfl, ho, hb⟩
   have hT1 := HT.out.below hb
   obtain ⟨A2, d2, rfl⟩ := Kd.R_slice ho
   have HO := Aside0.mk (Kd.R_lower ho (show NA + 4 ≤ (w.alloc (.cells #[.int .i64 set] 3)).heap.size by simp; omega))
   have HT1 := Aside0.mk hT1
   have hB1 := Aside0.mk ((below_then hB0 hB0.size hb).mono (show NA ≤ w.heap.size by omega))
   obtain ⟨_, ⟨v3, k3, k4⟩, k5, k6⟩ := hT1
   obtain ⟨A3, d3, rfl⟩ := Kd.R_slice k4
   have H4 := Aside0.mk k4
   have e1 : w1.cell? ⟨NA + 1, 0, none⟩ = some (.slice A3 best.length d3) := (blk_cell k3 0).trans rfl
   have e2 : w1.cell? ⟨NA + 2, 0, none⟩ = some (.int .i64 many) := (blk_cell k5 0).trans rfl
   have e3 : w1.cell? ⟨NA + 3, 0, none⟩ = some (.bool false) := (blk_cell k6 0).trans rfl
   have g1 := blk_frozen k3 0
   have g2 := blk_frozen k5 0
   have g3 := blk_frozen k6 0
   clear ho k3 k4 k5 k6
   go_wp2
   first | go_end0 | ((try simp only [Exit.inBlock, Exit.then]); refine bodyPost_ret (results_none rfl _ _ _) rfl ?_)
   exact ⟨rfl, ((HT1.out.put_best HO.out).put_many 1).put_found true, ((hB1.out.setCell (by simp) _).setCell (by simp) _).setCell (by simp) _⟩
  ·rw [if_neg (by simp)] at h
   by_cases hlt : (l.length : Int) < (best.length : Int)
   ·rw [if_pos hlt] at h
    simp only [Option.some.injEq, Prod.mk.injEq] at h
    obtain ⟨rfl, rfl, rfl⟩ := h
    have b1 : decide ((l.length : Int) < (best.length : Int)) = true := decide_eq_true hlt
    have b2 : decide (l.length < best.length) = true := decide_eq_true (by omega)
    clear h hlt
    go_enter Try.func72, Try.ntmps72
    go_wp2_with (go_at_call 69; refine (fetch_has_a set w.heap.size _ _ all _ R1.out hn hs0).mono ?_; rw [hany']; rintro e w' ⟨rfl, rfl⟩)
    refine (fetch_list.calls k set l _ HL.out).mono ?_
    rintro e w1 ⟨v1, rfl, ho, hb⟩
    have hT1 := HT.out.below hb
    obtain ⟨A2, d2, rfl⟩ := Kd.R_slice ho
    have HO := Aside0.mk (Kd.R_lower ho (show NA + 4 ≤ (w.alloc (.cells #[.int .i64 set] 3)).heap.size by simp; omega))
    have HT1 := Aside0.mk hT1
    have hB1 := Aside0.mk ((below_then hB0 hB0.size hb).mono (show NA ≤ w.heap.size by omega))
    obtain ⟨_, ⟨v3, k3, k4⟩, k5, k6⟩ := hT1
    obtain ⟨A3, d3, rfl⟩ := Kd.R_slice k4
    have H4 := Aside0.mk k4
    have e1 : w1.cell? ⟨NA + 1, 0, none⟩ = some (.slice A3 best.length d3) := (blk_cell k3 0).trans rfl
    have e2 : w1.cell? ⟨NA + 2, 0, none⟩ = some (.int .i64 many) := (blk_cell k5 0).trans rfl
    have e3 : w1.cell? ⟨NA + 3, 0, none⟩ = some (.bool true) := (blk_cell k6 0).trans rfl
    have g1 := blk_frozen k3 0
    have g2 := blk_frozen k5 0
    have g3 := blk_frozen k6 0
    clear ho k3 k4 k5 k6
    go_wp2
    first | go_end0 | ((try simp only [Exit.inBlock, Exit.then]); refine bodyPost_ret (results_none rfl _ _ _) rfl ?_)
    exact ⟨rfl, ((HT1.out.put_best HO.out).put_many 1).put_found true, ((hB1.out.setCell (by simp) _).setCell (by simp) _).setCell (by simp) _⟩
   ·rw [if_neg hlt] at h
    have b1 : decide ((l.length : Int) < (best.length : Int)) = false := decide_eq_false hlt
    have b2 : decide (l.length < best.length) = false := decide_eq_false (by omega)
    by_cases heq : (l.length : Int) = (best.length : Int)
    ·rw [if_pos heq] at h
     obtain ⟨c2, hc, h⟩ := Option.bind_eq_some_iff.mp h
     have HC := Aside0.mk hc
     have b3 : ((l.length : Int) == (best.length : Int)) = true := by simpa using heq
     have b4 : (l.length == best.length) = true := by rw [beq_iff_eq]; omega
     clear hc hlt heq
     by_cases hc0 : c2 < 0
     ·rw [if_pos hc0] at h
      simp only [Option.some.injEq, Prod.mk.injEq] at h
      obtain ⟨rfl, rfl, rfl⟩ := h
      have b5 : decide (c2 < 0) = true := decide_eq_true hc0
      clear h hc0
      go_enter Try.func72, Try.ntmps72
      go_wp2_with (go_at_call 69; refine (fetch_has_a set w.heap.size _ _ all _ R1.out hn hs0).mono ?_; rw [hany']; rintro e w' ⟨rfl, rfl⟩)
      refine (fetch_list.calls k set l _ HL.out).mono ?_
      rintro e w1 ⟨v1, rfl, ho, hb⟩
      have hT1 := HT.out.below hb
      obtain ⟨A2, d2, rfl⟩ := Kd.R_slice ho
      have HO := Aside0.mk (Kd.R_lower ho (show NA + 4 ≤ (w.alloc (.cells #[.int .i64 set] 3)).heap.size by simp; omega))
      have HT1 := Aside0.mk hT1
      have hB1 := Aside0.mk ((below_then hB0 hB0.size hb).mono (show NA ≤ w.heap.size by omega))
      obtain ⟨_, ⟨v3, k3, k4⟩, k5, k6⟩ := hT1
      obtain ⟨A3, d3, rfl⟩ := Kd.R_slice k4
      have H4 := Aside0.mk k4
      have e1 : w1.cell? ⟨NA + 1, 0, none⟩ = some (.slice A3 best.length d3) := (blk_cell k3 0).trans rfl
      have e2 : w1.cell? ⟨NA + 2, 0, none⟩ = some (.int .i64 many) := (blk_cell k5 0).trans rfl
      have e3 : w1.cell? ⟨NA + 3, 0, none⟩ = some (.bool true) := (blk_cell k6 0).trans rfl
      have g1 := blk_frozen k3 0
      have g2 := blk_frozen k5 0
      have g3 := blk_frozen k6 0
      clear ho k3 k4 k5 k6
      have O2 := Aside0.mk (R_past HO.out (NA + 2) (by omega) (.int .i64 (wrap64 (many + 1))))
      have O4 := Aside0.mk (R_past H4.out (NA + 2) (by omega) (.int .i64 (wrap64 (many + 1))))
      go_wp2_with (go_at_call 74; refine (slices_Compare_int_int.calls k A2 d2 l A3 d3 best c2 _ (Kd.R_reads' O2.out).2.2 (Kd.R_reads' O2.out).2.1 (Kd.R_reads' O4.out).2.2 (Kd.R_reads' O4.out).2.1 HC.out).mono ?_; rintro e w2 ⟨rfl, ⟨nq, rfl⟩⟩)
      first | go_end0 | ((try simp only [Exit.inBlock, Exit.then]); refine bodyPost_ret (results_none rfl _ _ _) rfl ?_)
      exact ⟨rfl, (((HT1.out.put_many (wrap64 (many + 1))).below (pw_below_drewN (Below.refl _ _) nq)).put_best (Kd.R_drewN O2.out nq)), (pw_below_drewN (hB1.out.setCell (by simp) _) nq).setCell (by simp) _⟩
     ·rw [if_neg hc0] at h
      simp only [Option.some.injEq, Prod.mk.injEq] at h
      obtain ⟨rfl, rfl, rfl⟩ := h
      have b5 : decide (c2 < 0) = false := decide_eq_false hc0
      clear h hc0
      go_enter Try.func72, Try.ntmps72
      go_wp2_with (go_at_call 69; refine (fetch_has_a set w.heap.size _ _ all _ R1.out hn hs0).mono ?_; rw [hany']; rintro e w' ⟨rfl, rfl⟩)
      refine (fetch_list.calls k set l _ HL.out).mono ?_
      rintro e w1 ⟨v1, rfl, ho, hb⟩
      have hT1 := HT.out.below hb
      obtain ⟨A2, d2, rfl⟩ := Kd.R_slice ho
      have HO := Aside0.mk (Kd.R_lower ho (show NA + 4 ≤ (w.alloc (.cells #[.int .i64 set] 3)).heap.size by simp; omega))
      have HT1 := Aside0.mk hT1
      have hB1 := Aside0.mk ((below_then hB0 hB0.size hb).mono (show NA ≤ w.heap.size by omega))
      obtain ⟨_, ⟨v3, k3, k4⟩, k5, k6⟩ := hT1
      obtain ⟨A3, d3, rfl⟩ := Kd.R_slice k4
      have H4 := Aside0.mk k4
      have e1 : w1.cell? ⟨NA + 1, 0, none⟩ = some (.slice A3 best.length d3) := (blk_cell k3 0).trans rfl
      have e2 : w1.cell? ⟨NA + 2, 0, none⟩ = some (.int .i64 many) := (blk_cell k5 0).trans rfl
      have e3 : w1.cell? ⟨NA + 3, 0, none⟩ = some (.bool true) := (blk_cell k6 0).trans rfl
      have g1 := blk_frozen k3 0
      have g2 := blk_frozen k5 0
      have g3 := blk_frozen k6 0
      clear ho k3 k4 k5 k6
      have O2 := Aside0.mk (R_past HO.out (NA + 2) (by omega) (.int .i64 (wrap64 (many + 1))))
      have O4 := Aside0.mk (R_past H4.out (NA + 2) (by omega) (.int .i64 (wrap64 (many + 1))))
      go_wp2_with (go_at_call 74; refine (slices_Compare_int_int.calls k A2 d2 l A3 d3 best c2 _ (Kd.R_reads' O2.out).2.2 (Kd.R_reads' O2.out).2.1 (Kd.R_reads' O4.out).2.2 (Kd.R_reads' O4.out).2.1 HC.out).mono ?_; rintro e w2 ⟨rfl, ⟨nq, rfl⟩⟩)
      first | go_end0 | ((try simp only [Exit.inBlock, Exit.then]); refine bodyPost_ret (results_none rfl _ _ _) rfl ?_)
      exact ⟨rfl, ((HT1.out.put_many (wrap64 (many + 1))).below (pw_below_drewN (Below.refl _ _) nq)), pw_below_drewN (hB1.out.setCell (by simp) _) nq⟩
    ·rw [if_neg heq] at h
     simp only [Option.some.injEq, Prod.mk.injEq] at h
     obtain ⟨rfl, rfl, rfl⟩ := h
     have b3 : ((l.length : Int) == (best.length : Int)) = false := by rw [beq_eq_false_iff_ne]; exact heq
     have b4 : (l.length == best.length) = false := by rw [beq_eq_false_iff_ne]; omega
     clear h hlt heq
     go_enter Try.func72, Try.ntmps72
     go_wp2_with (go_at_call 69; refine (fetch_has_a set w.heap.size _ _ all _ R1.out hn hs0).mono ?_; rw [hany']; rintro e w' ⟨rfl, rfl⟩)
     refine (fetch_list.calls k set l _ HL.out).mono ?_
     rintro e w1 ⟨v1, rfl, ho, hb⟩
     have hT1 := HT.out.below hb
     obtain ⟨A2, d2, rfl⟩ := Kd.R_slice ho
     have HO := Aside0.mk (Kd.R_lower ho (show NA + 4 ≤ (w.alloc (.cells #[.int .i64 set] 3)).heap.size by simp; omega))
     have HT1 := Aside0.mk hT1
     have hB1 := Aside0.mk ((below_then hB0 hB0.size hb).mono (show NA ≤ w.heap.size by omega))
     obtain ⟨_, ⟨v3, k3, k4⟩, k5, k6⟩ := hT1
     obtain ⟨A3, d3, rfl⟩ := Kd.R_slice k4
     have H4 := Aside0.mk k4
     have e1 : w1.cell? ⟨NA + 1, 0, none⟩ = some (.slice A3 best.length d3) := (blk_cell k3 0).trans rfl
     have e2 : w1.cell? ⟨NA + 2, 0, none⟩ = some (.int .i64 many) := (blk_cell k5 0).trans rfl
     have e3 : w1.cell? ⟨NA + 3, 0, none⟩ = some (.bool true) := (blk_cell k6 0).trans rfl
     have g1 := blk_frozen k3 0
     have g2 := blk_frozen k5 0
     have g3 := blk_frozen k6 0
     clear ho k3 k4 k5 k6
     go_wp2
     first | go_end0 | ((try simp only [Exit.inBlock, Exit.then]); refine bodyPost_ret (results_none rfl _ _ _) rfl ?_)
     exact ⟨rfl, HT1.out, hB1.out⟩
def fetch_quarter_fewest.l1 : Nat → List Int → Int → Int → Bool → List Int → Int → Option (List Int × Int)
 | 0, _, _, _, _, _, _ => none
 | k + 1, all, lim, set, found, best, many => if set < lim then (fetch_tell.f k all set found best many).bind fun t => fetch_quarter_fewest.l1 k all lim (wrap64 (set + 1)) t.1 t.2.1 t.2.2 else some (best, many)
def fetch_quarter_fewest.l0 : Nat → Int → List S34 → List Int → List Int → Int → Option (List Int × Int)
 | 0, _, _, _, _, _ => none
 | k + 1, n, streets, cuts, all, i => if i < (cuts.length : Int) then (if 0 ≤ i then ((fetch_quarter_crossing.f k n streets (rd cuts i)).bind fun t => if all.length < 17592186044416 then fetch_quarter_fewest.l0 k n streets cuts (all ++ [t]) (wrap64 (i + 1)) else none) else none) else fetch_quarter_fewest.l1 k all (wrap64 (2 ^ min streets.length 64)) 0 false [] 0
def fetch_quarter_fewest.f (k : Nat) (n : Int) (streets : List S34) : Option (List Int × Int) := (fetch_quarter_cuts.f k n streets).bind fun cuts => fetch_quarter_fewest.l0 k n streets cuts [] 0
theorem TellS.start (w : World) (A : Option Addr) (c : Nat) (all : List Int) (ha : Kd.R (Kd.int .i64) 3 w 0 (fun k => k < w.heap.size) (.slice A all.length c) all) :
  TellS w.heap.size ((((w.alloc (.cells #[.slice A all.length c] 23)).alloc (.cells #[.slice none 0 0] 23)).alloc (.cells #[.int .i64 0] 3)).alloc (.cells #[.bool false] 4)) all false [] 0 := by
 have h1 := blk_new w (.cells #[.slice A all.length c] 23)
 have h2 := blk_new (w.alloc (.cells #[.slice A all.length c] 23)) (.cells #[.slice none 0 0] 23)
 have h3 := blk_new ((w.alloc (.cells #[.slice A all.length c] 23)).alloc (.cells #[.slice none 0 0] 23)) (.cells #[.int .i64 0] 3)
 have h4 := blk_new (((w.alloc (.cells #[.slice A all.length c] 23)).alloc (.cells #[.slice none 0 0] 23)).alloc (.cells #[.int .i64 0] 3)) (.cells #[.bool false] 4)
 simp only [World.size_alloc] at h2 h3 h4
 exact ⟨⟨A, c, blk_alloc (blk_alloc (blk_alloc h1 _) _) _, Kd.R_alloc (Kd.R_alloc (Kd.R_alloc (Kd.R_alloc ha _) _) _) _⟩, ⟨_, blk_alloc (blk_alloc h2 _) _, Kd.R_nil _ _ _ _ _⟩, blk_alloc h3 _, h4⟩
theorem fetch_finder.calls (A : Option Addr) (c : Nat) (all : List Int) (w : World) (ha : Kd.R (Kd.int .i64) 3 w 0 (fun _ => True) (.slice A all.length c) all) :
  Calls Try.prog 67 #[.slice A all.length c] w fun e w' => e = .returned (.tuple #[.func (.func 72) #[] #[.pointer (some ⟨w.heap.size, 0, none⟩), .pointer (some ⟨w.heap.size + 3, 0, none⟩), .pointer (some ⟨w.heap.size + 1, 0, none⟩), .pointer (some ⟨w.heap.size + 2, 0, none⟩)], .func (.func 75) #[] #[.pointer (some ⟨w.heap.size + 1, 0, none⟩), .pointer (some ⟨w.heap.size + 2, 0, none⟩)]]) ∧ TellS w.heap.size w' all false [] 0 ∧ Below w.heap.size w w' := by
 have hmf : ∀ (fn : Fn) (first cap : Array Value) (w : World), (Instr.makeFunc fn first cap).run Try.prog w = .ok (.func fn first cap) w := fun _ _ _ _ => rfl
 have HA := Aside0.mk (Kd.R_mono (Kd.R_bound ha) (ok' := fun k => k < w.heap.size) (fun k hk => hk.2.2.1))
 clear ha
 go_enter Try.func67, Try.ntmps67
 go_wp2
 go_ret2
 exact ⟨rfl, TellS.start w A c all HA.out, below_alloc (below_alloc (below_alloc (below_alloc (Below.refl _ _) _) _) _) _⟩
set_option maxHeartbeats 1000000 in
theorem fetch_quarter_fewest.calls (k : Nat) (a0_0 : Int) (A0_1 : Option Addr) (c0_1 : Nat) (l0_1 : List (S34)) (r1 : List Int) (r2 : Int) (w : World) (hr0_1 : Kd.C k34 w A0_1 l0_1.length l0_1) (hc0_1 : l0_1.length ≤ c0_1) (h : fetch_quarter_fewest.f k a0_0 l0_1 = some (r1, r2)) :
  Calls Try.prog 51 #[.agg #[.int .i64 a0_0, .slice A0_1 l0_1.length c0_1]] w fun e w' => ∃ v0_ : Value, e = .returned (.tuple #[v0_, .int .i64 r2]) ∧ Kd.R (Kd.int .i64) 3 w' w.heap.size (fun _ => True) v0_ r1 ∧ Below w.heap.size w w' := by
 have hmf : ∀ (fn : Fn) (first cap : Array Value) (w : World), (Instr.makeFunc fn first cap).run Try.prog w = .ok (.func fn first cap) w := fun _ _ _ _ => rfl
 have hu58 := Try.underlying58
 have HR := Aside0.mk hr0_1
 have HC := Aside0.mk hc0_1
 clear hr0_1 hc0_1
 obtain ⟨cuts, hcu, h⟩ := Option.bind_eq_some_iff.mp h
 have HCU := Aside0.mk hcu
 have H' := Aside0.mk h
 clear hcu h
 have hB0 := Aside0.mk (below_alloc (Below.refl w.heap.size w) (.cells #[.int .i64 a0_0, .slice A0_1 l0_1.length c0_1] 58))
 have hx0 : (w.alloc (.cells #[.int .i64 a0_0, .slice A0_1 l0_1.length c0_1] 58)).cell? ⟨w.heap.size, 0, none⟩ = some (.int .i64 a0_0) := (blk_cell (blk_new w (.cells #[.int .i64 a0_0, .slice A0_1 l0_1.length c0_1] 58)) 0).trans rfl
 have hx1 : (w.alloc (.cells #[.int .i64 a0_0, .slice A0_1 l0_1.length c0_1] 58)).cell? ⟨w.heap.size, 1, none⟩ = some (.slice A0_1 l0_1.length c0_1) := (blk_cell (blk_new w (.cells #[.int .i64 a0_0, .slice A0_1 l0_1.length c0_1] 58)) 1).trans rfl
 go_enter Try.func51, Try.ntmps51
 go_wp2_with fail
 refine (fetch_quarter_cuts.calls k a0_0 A0_1 c0_1 l0_1 cuts _ (Kd.C_below HR.out hB0.out) HC.out HCU.out).mono ?_
 rintro e w1 ⟨v1, rfl, ho, hb⟩
 obtain ⟨A2, d2, rfl⟩ := Kd.R_slice ho
 have HO := Aside0.mk (Kd.R_lower ho hB0.out.size)
 have HB := Aside0.mk (below_then hB0.out hB0.out.size hb)
 have BK := Aside0.mk (blk_below (blk_new w (.cells #[.int .i64 a0_0, .slice A0_1 l0_1.length c0_1] 58)) hb)
 clear ho hb hx0 hx1
 go_wp2_with fail
 go_loopg [4, 13] k (fun kq v4 v13 w' => ∃ (x4 : List Int) (x13 : Int), v13 = .int .i64 x13 ∧ Aside0 (fetch_quarter_fewest.l0 kq a0_0 l0_1 cuts x4 x13 = some (r1, r2)) ∧ Aside0 (kq ≤ k) ∧ Aside0 (Kd.R (Kd.int .i64) 3 w' w.heap.size (fun _ => True) v4 x4) ∧ Aside0 (Kd.R (Kd.int .i64) 3 w' w.heap.size (fun k_ => some k_ ≠ v4.ownBlock) (.slice A2 cuts.length d2) cuts) ∧ Aside0 (w'.heap[w.heap.size]? = some (.cells #[.int .i64 a0_0, (.slice A0_1 l0_1.length c0_1)] 58 (0, 0))) ∧ Aside0 (Below w.heap.size w w'))
 case atStart => exact ⟨[], 0, rfl, H', ⟨Nat.le_refl _⟩, ⟨Kd.R_nil _ _ _ _ _⟩, ⟨Kd.R_mono HO.out (fun _ _ => by simp [Value.ownBlock])⟩, BK, HB⟩
 case round =>
  clear H' HO HB BK
  obtain ⟨x4, x13, rfl, HA, HK1, HO4, HO, BK, HB⟩ := hrel
  cases gk with
  | zero => exact absurd HA.out (by simp [fetch_quarter_fewest.l0])
  | succ k1 =>
   have H := HA.out
   clear HA
   simp only [fetch_quarter_fewest.l0] at H
   by_cases c6 : x13 < (cuts.length : Int)
   ·rw [if_pos c6] at H
    have c6b0 : decide (x13 < (cuts.length : Int)) = true := decide_eq_true c6
    by_cases c7 : 0 ≤ x13
    ·rw [if_pos c7] at H
     obtain ⟨t, ht, H⟩ := Option.bind_eq_some_iff.mp H
     by_cases c9 : x4.length < 17592186044416
     ·rw [if_pos c9] at H
      have L9 := Aside0.mk c9
      have A7 := Aside0.mk ht
      have H' := Aside0.mk H
      obtain ⟨ad, e1, hx⟩ := Kd.at_int (Kd.R_reads' HO.out).2.2 x13 c7 c6
      cases e1
      have c7b := eq_true c7
      have c6b := eq_true c6
      have hx0 : wr.cell? ⟨w.heap.size, 0, none⟩ = some (.int .i64 a0_0) := (blk_cell BK.out 0).trans rfl
      have hx1 : wr.cell? ⟨w.heap.size, 1, none⟩ = some (.slice A0_1 l0_1.length c0_1) := (blk_cell BK.out 1).trans rfl
      clear c9 ht H c7 c6
      go_wp2_with fail
      refine (fetch_quarter_crossing.calls k1 a0_0 A0_1 c0_1 l0_1 (rd cuts x13) t _ (Kd.C_below HR.out HB.out) HC.out A7.out).mono ?_
      rintro e w2 ⟨rfl, hb⟩
      have HB2 := Aside0.mk (below_step HB.out hb)
      have BK2 := Aside0.mk (blk_below BK.out hb)
      have HO42 := Aside0.mk (Kd.R_below HO4.out hb)
      have HO2 := Aside0.mk (Kd.R_below HO.out hb)
      clear hb hx0 hx1 hx HB BK HO4 HO
      go_wp2_with ((with_reducible refine gate_builtin (b := .append) (xs := #[.tmp 17, .tmp 21]) rfl ?_); at_builtin; refine Kd.R_append (Kd.int .i64) (w0 := w) w.heap.size rfl (.tmp 17) (.tmp 21) 23 3 (.int .i64 0) 8 rfl Try.underlying23 info3 rfl (by decide) (by omega) u4 x4 t [.int .i64 t] (fun _ => True) (fun _ => False) rfl rfl ?aP (fun _ hk => hk.elim) ?aF ?aO ?aB ?aS ?aL ?_; (case aP => exact rfl); (case aB => exact HB2.out); (case aF => exact (fun _ _ => trivial)); (case aO => exact HO42.out); (case aS => exact below_size HB2.out); (case aL => have := L9.out; omega); intro v5 w5 ho hb hg hat; have HO5 := Aside0.mk ho; have HB5 := Aside0.mk hb; have BK5 := Aside0.mk (blk_grown BK2.out hg (Kd.R_ne HO42.out BK2.out (by decide))); have HOc := Aside0.mk (Kd.R_grown (Kd.R_bound HO2.out) hg (fun k hk => hk.1)); have HAt := Aside0.mk hat; clear ho hb hg hat)
      go_roundg k1
      case measure => have := HK1.out; omega
      case rel => exact ⟨_, _, rfl, H', ⟨by have := HK1.out; omega⟩, HO5, ⟨Kd.R_mono HOc.out (fun k_ hk => by rcases HAt.out with h | ⟨b, h, hle⟩; (· rw [h]; exact hk.1); (· rw [h]; intro he; injection he with he; have := hk.2.2.1; omega))⟩, BK5, HB5⟩
     ·rw [if_neg c9] at H
      exact absurd H (by simp)
    ·rw [if_neg c7] at H
     exact absurd H (by simp)
   ·rw [if_neg c6] at H
    have c6b0 : decide (x13 < (cuts.length : Int)) = false := decide_eq_false c6
    have H' := Aside0.mk H
    have hx0 : wr.cell? ⟨w.heap.size, 0, none⟩ = some (.int .i64 a0_0) := (blk_cell BK.out 0).trans rfl
    have hx1 : wr.cell? ⟨w.heap.size, 1, none⟩ = some (.slice A0_1 l0_1.length c0_1) := (blk_cell BK.out 1).trans rfl
    clear H c6
    obtain ⟨A4, d4, rfl⟩ := Kd.R_slice HO4.out
    have hn4 := Aside0.mk (Kd.C_max (Kd.R_reads' HO4.out).2.2)
    go_wp2_with fail
    refine (fetch_finder.calls A4 d4 x4 _ (Kd.R_lower HO4.out (Nat.zero_le _))).mono ?_
    rintro e w2 ⟨rfl, hT, hb⟩
    have HT := Aside0.mk hT
    have HB2 := Aside0.mk (below_step HB.out hb)
    have BK2 := blk_below BK.out hb
    have hlt := blk_lt BK.out
    have hy1 : w2.cell? ⟨w.heap.size, 1, none⟩ = some (.slice A0_1 l0_1.length c0_1) := (blk_cell BK2 1).trans rfl
    obtain ⟨NA, hNA⟩ : ∃ NA, NA = wr.heap.size := ⟨_, rfl⟩
    have HS := Aside0.mk HB.out.size
    rw [← hNA] at HT HS hlt ⊢
    clear hT hb hx0 hx1 HO BK BK2 HO4 hNA
    go_wp2
    go_loopg [33] k1 (fun kq v33 w' => ∃ (x33 : Int) (f : Bool) (b : List Int) (m : Int), v33 = .int .i64 x33 ∧ Aside0 (fetch_quarter_fewest.l1 kq x4 (wrap64 (2 ^ min l0_1.length 64)) x33 f b m = some (r1, r2)) ∧ Aside0 (kq ≤ k1) ∧ Aside0 (TellS NA w' x4 f b m) ∧ Aside0 (Below w.heap.size w w'))
    case atStart => exact ⟨0, false, [], 0, rfl, H', ⟨Nat.le_refl _⟩, HT, HB2⟩
    case round =>
     clear H' HT HB2 HB hy1
     obtain ⟨x33, f, b, m, rfl, HA, HK2, HT, HB⟩ := hrel
     cases gk with
     | zero => exact absurd HA.out (by simp [fetch_quarter_fewest.l1])
     | succ k2 =>
      have H := HA.out
      clear HA
      simp only [fetch_quarter_fewest.l1] at H
      by_cases c6 : x33 < wrap64 (2 ^ min l0_1.length 64)
      ·rw [if_pos c6] at H
       have c6b0 : decide (x33 < wrap64 (2 ^ min l0_1.length 64)) = true := decide_eq_true c6
       obtain ⟨⟨f2, b2, m2⟩, ht, H⟩ := Option.bind_eq_some_iff.mp H
       have H' := Aside0.mk H
       have A7 := Aside0.mk ht
       clear ht H c6
       go_wp2_with (go_at_call 72; refine (fetch_tell.calls k2 NA x4 x33 f b m f2 b2 m2 _ HT.out hn4.out A7.out).mono ?_; rintro e w3 ⟨rfl, hT3, hb3⟩; have HT3 := Aside0.mk hT3; have HB3 := Aside0.mk (HB.out.trans (hb3.mono HS.out)); clear hT3 hb3)
       go_roundg k2
       case measure => have := HK2.out; omega
       case rel => exact ⟨_, _, _, _, rfl, H', ⟨by have := HK2.out; omega⟩, HT3, HB3⟩
      ·rw [if_neg c6] at H
       have c6b0 : decide (x33 < wrap64 (2 ^ min l0_1.length 64)) = false := decide_eq_false c6
       simp only [Option.some.injEq, Prod.mk.injEq] at H
       obtain ⟨rfl, rfl⟩ := H
       have hT := HT.out
       obtain ⟨_, ⟨v3, h3, h4⟩, h5, h6⟩ := hT
       obtain ⟨A3, d3, rfl⟩ := Kd.R_slice h4
       have e1 : wr.cell? ⟨NA + 1, 0, none⟩ = some (.slice A3 b.length d3) := (blk_cell h3 0).trans rfl
       have e2 : wr.cell? ⟨NA + 2, 0, none⟩ = some (.int .i64 m) := (blk_cell h5 0).trans rfl
       have H4 := Aside0.mk (Kd.R_lower h4 (show w.heap.size ≤ NA + 4 by have := HS.out; omega))
       clear c6 h3 h4 h5 h6
       go_wp2
       repeat (go_quiet (fail); try go_wp2)
       go_ret2
       exact ⟨_, rfl, Kd.R_drewN H4.out _, pw_below_drewN HB.out _⟩
theorem fetch_tell.mono : ∀ a0 a1 a2 a3 a4 k, LeO (fetch_tell.f k a0 a1 a2 a3 a4) (fetch_tell.f (k + 1) a0 a1 a2 a3 a4) := by
 intro a0 a1 a2 a3 a4 k
 unfold fetch_tell.f
 repeat' first
   | (with_reducible exact fetch_list.mono _ _)
   | (with_reducible exact slices_Compare_int_int.mono _ _ _)
   | (with_reducible exact LeO.refl _)
   | (with_reducible refine LeO.ite ?_ ?_)
   | (with_reducible refine LeO.bind ?_ (fun _ => ?_))
theorem fetch_quarter_fewest.mono_l : ∀ k, (∀ y0 y1 y2 y3 y4 y5, LeO (fetch_quarter_fewest.l1 k y0 y1 y2 y3 y4 y5) (fetch_quarter_fewest.l1 (k + 1) y0 y1 y2 y3 y4 y5)) ∧ (∀ y0 y1 y2 y3 y4, LeO (fetch_quarter_fewest.l0 k y0 y1 y2 y3 y4) (fetch_quarter_fewest.l0 (k + 1) y0 y1 y2 y3 y4))
 | 0 => ⟨fun _ _ _ _ _ _ r h => by simp [fetch_quarter_fewest.l1] at h, fun _ _ _ _ _ r h => by simp [fetch_quarter_fewest.l0] at h⟩
 | k + 1 => by
  obtain ⟨ih0, ih1⟩ := fetch_quarter_fewest.mono_l k
  refine ⟨?_, ?_⟩
  ·intro y0 y1 y2 y3 y4 y5
   unfold fetch_quarter_fewest.l1
   repeat' first
   | (with_reducible exact ih0 _ _ _ _ _ _)
   | (with_reducible exact ih1 _ _ _ _ _)
   | (with_reducible exact fetch_list.mono _ _)
   | (with_reducible exact slices_Compare_int_int.mono _ _ _)
   | (with_reducible exact fetch_quarter_crossing.mono _ _ _ _)
   | (with_reducible exact fetch_quarter_cuts.mono _ _ _)
   | (with_reducible exact fetch_read.mono _ _ _)
   | (with_reducible exact fetch_tell.mono _ _ _ _ _ _)
   | (with_reducible exact LeO.refl _)
   | (with_reducible exact LeO.none _)
   | (with_reducible refine LeO.ite ?_ ?_)
   | (with_reducible refine LeO.bind ?_ (fun _ => ?_))
   | exact ih0 _ _ _ _ _ _
   | exact ih1 _ _ _ _ _
   | exact fetch_list.mono _ _
   | exact slices_Compare_int_int.mono _ _ _
   | exact fetch_quarter_crossing.mono _ _ _ _
   | exact fetch_quarter_cuts.mono _ _ _
   | exact fetch_read.mono _ _ _
   | exact fetch_tell.mono _ _ _ _ _ _
   | exact LeO.none _
   | refine LeO.ite ?_ ?_
   | refine LeO.bind ?_ (fun _ => ?_)
  ·intro y0 y1 y2 y3 y4
   unfold fetch_quarter_fewest.l0
   repeat' first
   | (with_reducible exact ih0 _ _ _ _ _ _)
   | (with_reducible exact ih1 _ _ _ _ _)
   | (with_reducible exact fetch_list.mono _ _)
   | (with_reducible exact slices_Compare_int_int.mono _ _ _)
   | (with_reducible exact fetch_quarter_crossing.mono _ _ _ _)
   | (with_reducible exact fetch_quarter_cuts.mono _ _ _)
   | (with_reducible exact fetch_read.mono _ _ _)
   | (with_reducible exact fetch_tell.mono _ _ _ _ _ _)
   | (with_reducible exact LeO.refl _)
   | (with_reducible exact LeO.none _)
   | (with_reducible refine LeO.ite ?_ ?_)
   | (with_reducible refine LeO.bind ?_ (fun _ => ?_))
   | exact ih0 _ _ _ _ _ _
   | exact ih1 _ _ _ _ _
   | exact fetch_list.mono _ _
   | exact slices_Compare_int_int.mono _ _ _
   | exact fetch_quarter_crossing.mono _ _ _ _
   | exact fetch_quarter_cuts.mono _ _ _
   | exact fetch_read.mono _ _ _
   | exact fetch_tell.mono _ _ _ _ _ _
   | exact LeO.none _
   | refine LeO.ite ?_ ?_
   | refine LeO.bind ?_ (fun _ => ?_)
theorem fetch_quarter_fewest.mono : ∀ a0 a1 k, LeO (fetch_quarter_fewest.f k a0 a1) (fetch_quarter_fewest.f (k + 1) a0 a1) := by
 intro a0 a1 k
 obtain ⟨ih0, ih1⟩ := fetch_quarter_fewest.mono_l k
 unfold fetch_quarter_fewest.f
 repeat' first
   | (with_reducible exact ih0 _ _ _ _ _ _)
   | (with_reducible exact ih1 _ _ _ _ _)
   | (with_reducible exact fetch_list.mono _ _)
   | (with_reducible exact slices_Compare_int_int.mono _ _ _)
   | (with_reducible exact fetch_quarter_crossing.mono _ _ _ _)
   | (with_reducible exact fetch_quarter_cuts.mono _ _ _)
   | (with_reducible exact fetch_read.mono _ _ _)
   | (with_reducible exact fetch_tell.mono _ _ _ _ _ _)
   | (with_reducible exact LeO.refl _)
   | (with_reducible exact LeO.none _)
   | (with_reducible refine LeO.ite ?_ ?_)
   | (with_reducible refine LeO.bind ?_ (fun _ => ?_))
   | exact ih0 _ _ _ _ _ _
   | exact ih1 _ _ _ _ _
   | exact fetch_list.mono _ _
   | exact slices_Compare_int_int.mono _ _ _
   | exact fetch_quarter_crossing.mono _ _ _ _
   | exact fetch_quarter_cuts.mono _ _ _
   | exact fetch_read.mono _ _ _
   | exact fetch_tell.mono _ _ _ _ _ _
   | exact LeO.none _
   | refine LeO.ite ?_ ?_
   | refine LeO.bind ?_ (fun _ => ?_)
def fetch_Mend.f (k : Nat) (a0 : Int) (l1 : List (S34)) : Option (List Int × Int) := (fetch_read.f k a0 l1).bind fun bt166 => (if bt166.2.2 = 0 then ((fetch_quarter_fewest.f k bt166.1 bt166.2.1).bind fun bt172 => (some (bt172.1, 0))) else (some (([] : List Int), bt166.2.2)))
theorem fetch_Mend.mono : ∀ a0 a1 k, LeO (fetch_Mend.f k a0 a1) (fetch_Mend.f (k + 1) a0 a1) := by
 intro a0 a1 k
 unfold fetch_Mend.f
 repeat' first
   | (with_reducible exact fetch_quarter_fewest.mono _ _ _)
   | (with_reducible exact fetch_read.mono _ _ _)
   | (with_reducible exact LeO.refl _)
   | (with_reducible exact LeO.none _)
   | (with_reducible refine LeO.ite ?_ ?_)
   | (with_reducible refine LeO.bind ?_ (fun _ => ?_))
   | exact fetch_quarter_fewest.mono _ _ _
   | exact fetch_read.mono _ _ _
   | exact LeO.none _
   | refine LeO.ite ?_ ?_
   | refine LeO.bind ?_ (fun _ => ?_)
set_option maxHeartbeats 8000000 in
set_option maxRecDepth 100000 in
theorem fetch_Mend.calls (k : Nat) (a0 : Int) (A1 : Option Addr) (c1 : Nat) (l1 : List (S34)) (r1 : List Int) (r2 : Int) (w : World) (hr1 : Kd.C k34 w A1 l1.length l1) (hc1 : l1.length ≤ c1) (h : fetch_Mend.f k a0 l1 = some (r1, r2)) :
  Calls Try.prog 23 #[.int .i64 a0, .slice A1 l1.length c1] w fun e w' => ∃ v0_ : Value, e = .returned (.tuple #[v0_, .int .i64 r2]) ∧ Kd.R (Kd.int .i64) 3 w' w.heap.size (fun _ => True) v0_ r1 ∧ Below w.heap.size w w' := by
 have hu58 := Try.underlying58
 have HR1 := Aside0.mk hr1
 have HC1 := Aside0.mk hc1
 clear hr1 hc1
 have HB := Aside0.mk (Below.refl w.heap.size w)
 have H : ((fetch_read.f k a0 l1).bind fun bt166 => (if bt166.2.2 = 0 then ((fetch_quarter_fewest.f k bt166.1 bt166.2.1).bind fun bt172 => (some (bt172.1, 0))) else (some (([] : List Int), bt166.2.2)))) = some (r1, r2) := h
 clear h
 replace H := Option.bind_eq_some_iff.mp H
 obtain ⟨⟨t166, t167, t170⟩, A30, H⟩ := H
 replace H : (if t170 = 0 then ((fetch_quarter_fewest.f k t166 t167).bind fun bt172 => (some (bt172.1, 0))) else (some (([] : List Int), t170))) = some (r1, r2) := H
 have A3 := Aside0.mk A30
 clear A30
 by_cases c4 : t170 = 0
 ·rw [if_pos c4] at H
  have c4b0 : (t170 == 0) = true := beq_iff_eq.mpr c4
  have c4b1 : (t170 != 0) = false := bne_eq_false_iff_eq.mpr c4
  clear c4
  replace H := Option.bind_eq_some_iff.mp H
  obtain ⟨⟨t172, t175⟩, A50, H⟩ := H
  replace H : (some (t172, 0)) = some (r1, r2) := H
  have A5 := Aside0.mk A50
  clear A50
  simp only [Option.some.injEq, Prod.mk.injEq] at H
  obtain ⟨rfl, rfl⟩ := H
  go_enter Try.func23, Try.ntmps23
  go_wp2_with (first | ((with_reducible refine gate_callee (f := 44) rfl ?_); refine goesL_ (some 13) rfl rfl Try.func44 (by kernel_rfl) rfl #[.int .i64 a0, .slice A1 l1.length c1] rfl (by (try simp only [List.map_toArray, List.map_cons, List.map_nil]); first | done | rfl | (simp only [List.length_drop, List.length_take]; rfl)) ?_; (with_reducible refine (fetch_read.calls k a0 (fun k_ => k_ < w.heap.size) _ _ l1 t166 t167 t170 _ ?side1 A3.out).mono ?_); (case side1 => exact Kd.V_mk HC1.out (Kd.F_below (Kd.C_F k34_heap HR1.out) (by repeat (first | (with_reducible first | exact HB.out | apply below_alloc | apply pw_below_drewN | apply below_drew1) | exact HB.out)))); rintro e w6 ⟨v168, rfl, ho0, hb⟩; refine ⟨_, rfl, ?_⟩; have n0_ := Aside0.mk (Kd.V_lower (Kd.V_mono (ok' := fun k_ => True) ho0 (fun k_ hk_ => trivial)) (below_size (by repeat (first | (with_reducible first | exact HB.out | apply below_alloc | apply pw_below_drewN | apply below_drew1) | exact HB.out)))); have n1_ := Aside0.mk (below_step (by repeat (first | (with_reducible first | exact HB.out | apply below_alloc | apply pw_below_drewN | apply below_drew1) | exact HB.out)) hb); clear HB; have HO169 := n0_; have HB := n1_; clear n0_ n1_; (try clear hb); (try clear hb2); (try clear hk); (try clear hi); (try clear ho0)) | ((with_reducible refine gate_dst (N := 6) rfl ?_); refine box_event ?hg (N := 6) ?hd (cs := #[.int .i64 0, .slice none 0 0]) (t := 58) ?hr ?_; (case hd => rfl); (case hg => rfl); (case hr => first | (go_simp; done) | (go_simp; rfl)); intro gb171 hg w7 hbox hb; have n0_ := Aside0.mk (Kd.V_below (Kd.V_elderB (by (with_reducible repeat (first | apply Kd.V_alloc | apply Kd.V_drewN | apply Kd.V_drew)); exact HO169.out) gb171 (Nat.le_of_eq hg.symm)) hb); have n1_ := Aside0.mk (below_step (by repeat (first | (with_reducible first | exact HB.out | apply below_alloc | apply pw_below_drewN | apply below_drew1) | exact HB.out)) hb); have n2_ := Aside0.mk (hbox); have n3_ := Aside0.mk ((by rw [hg]; exact (below_size (by repeat (first | (with_reducible first | exact HB.out | apply below_alloc | apply pw_below_drewN | apply below_drew1) | exact HB.out))) : w.heap.size ≤ gb171)); have n4_ := Aside0.mk ((by rw [hg]; exact (below_size (by repeat (first | (with_reducible first | exact HB.out | apply below_alloc | apply pw_below_drewN | apply below_drew1) | exact HB.out))) : w.heap.size ≤ gb171)); clear HO169; clear HB; have HO169 := n0_; have HB := n1_; have BK171 := n2_; have GW171 := n3_; have GE171 := n4_; clear n0_ n1_ n2_ n3_ n4_; clear hb hbox hg; have hcz8_0 : w7.cell? ⟨gb171, 0, none⟩ = some (.int .i64 0) := (blk_cell BK171.out 0).trans rfl; have hcz8_1 : w7.cell? ⟨gb171, 1, none⟩ = some (.slice none 0 0) := (blk_cell BK171.out 1).trans rfl; have hfz8_0 := blk_frozen BK171.out 0; have hfz8_1 := blk_frozen BK171.out 1; obtain ⟨Ao9, co9, eo9⟩ := Kd.V_slice HO169.out; subst eo9) | ((with_reducible refine gate_callee (f := 51) rfl ?_); refine goesL_ (some 21) rfl rfl Try.func51 (by kernel_rfl) rfl #[.agg #[.int .i64 t166, .slice Ao9 t167.length co9]] rfl (by (try simp only [List.map_toArray, List.map_cons, List.map_nil]); first | done | rfl | (simp only [List.length_drop, List.length_take]; rfl)) ?_; (with_reducible refine (fetch_quarter_fewest.calls k t166 _ _ t167 t172 t175 _ ?side1 ?side2 A5.out).mono ?_); (case side1 => refine (Kd.V_reads' (e := 34) (base := w.heap.size) (ok := fun k_ => (True ∧ k_ ≠ gb171)) (n := t167.length) (c := co9) ?_).2.2; exact (by (with_reducible repeat (first | apply Kd.V_alloc | apply Kd.V_drewN | apply Kd.V_drew)); exact (Kd.V_mono (Kd.V_far (p := ⟨gb171, 1, none⟩) (Kd.V_far (p := ⟨gb171, 0, none⟩) (Kd.V_mono HO169.out (fun k_ hk => (⟨hk, hk.2⟩ : _ ∧ k_ ≠ gb171))) (fun _ hk => hk.2) (.int .i64 t166)) (fun _ hk => hk.2) (.slice Ao9 t167.length co9)) (fun _ h_ => h_.1)))); (case side2 => exact (Kd.V_reads' HO169.out).2.1); rintro e w10 ⟨v173, rfl, ho0, hb⟩; refine ⟨_, rfl, ?_⟩; have n0_ := Aside0.mk (Kd.V_elder' (by (with_reducible repeat (first | apply Kd.V_alloc | apply Kd.V_drewN | apply Kd.V_drew)); exact (Kd.V_mono (Kd.V_far (p := ⟨gb171, 1, none⟩) (Kd.V_far (p := ⟨gb171, 0, none⟩) (Kd.V_mono HO169.out (fun k_ hk => (⟨hk, hk.2⟩ : _ ∧ k_ ≠ gb171))) (fun _ hk => hk.2) (.int .i64 t166)) (fun _ hk => hk.2) (.slice Ao9 t167.length co9)) (fun _ h_ => h_.1))) (Kd.R_base ho0) hb); have n1_ := Aside0.mk (Kd.R_lower ho0 (below_size (by repeat (first | (with_reducible first | exact HB.out | apply below_alloc | apply pw_below_drewN | apply below_drew1 | refine below_set ?_ GE171.out) | exact HB.out)))); have n2_ := Aside0.mk (blk_below (g := gb171) (o := .cells #[.int .i64 t166, .slice Ao9 t167.length co9] 58 (0, 0)) (by (with_reducible repeat (first | refine blk_drewN ?_ _ | refine blk_drew ?_ | refine blk_alloc ?_ _)); refine blk_put (cs := #[.int .i64 t166, .slice none 0 0]) ?_ 1 _ rfl; (with_reducible repeat (first | refine blk_drewN ?_ _ | refine blk_drew ?_ | refine blk_alloc ?_ _)); refine blk_put (cs := #[.int .i64 0, .slice none 0 0]) ?_ 0 _ rfl; (with_reducible repeat (first | refine blk_drewN ?_ _ | refine blk_drew ?_ | refine blk_alloc ?_ _)); exact BK171.out) hb); have n3_ := Aside0.mk (below_step (by repeat (first | (with_reducible first | exact HB.out | apply below_alloc | apply pw_below_drewN | apply below_drew1 | refine below_set ?_ GE171.out) | exact HB.out)) hb); clear HO169; clear BK171; clear HB; have HO169 := n0_; have HO174 := n1_; have BK171 := n2_; have HB := n3_; clear n0_ n1_ n2_ n3_; (try clear hb); (try clear hb2); (try clear hk); (try clear hi); (try clear ho0)))
  go_ret2
  exact ⟨_, by first | rfl | (simp [errW_none, errW_some] <;> rfl) | (simp [*, errW_none, errW_some] <;> rfl), by (with_reducible repeat (first | apply Kd.R_alloc | apply Kd.R_drewN | apply Kd.R_drew)); exact HO174.out, by repeat (first | (with_reducible first | exact HB.out | apply below_alloc | apply pw_below_drewN | apply below_drew1 | refine below_set ?_ GE171.out) | exact HB.out)⟩
 ·rw [if_neg c4] at H
  have c4b0 : (t170 == 0) = false := beq_eq_false_iff_ne.mpr c4
  have c4b1 : (t170 != 0) = true := bne_iff_ne.mpr c4
  simp only [Option.some.injEq, Prod.mk.injEq] at H
  obtain ⟨rfl, rfl⟩ := H
  go_enter Try.func23, Try.ntmps23
  go_wp2_with (first | ((with_reducible refine gate_callee (f := 44) rfl ?_); refine goesL_ (some 13) rfl rfl Try.func44 (by kernel_rfl) rfl #[.int .i64 a0, .slice A1 l1.length c1] rfl (by (try simp only [List.map_toArray, List.map_cons, List.map_nil]); first | done | rfl | (simp only [List.length_drop, List.length_take]; rfl)) ?_; (with_reducible refine (fetch_read.calls k a0 (fun k_ => k_ < w.heap.size) _ _ l1 t166 t167 t170 _ ?side1 A3.out).mono ?_); (case side1 => exact Kd.V_mk HC1.out (Kd.F_below (Kd.C_F k34_heap HR1.out) (by repeat (first | (with_reducible first | exact HB.out | apply below_alloc | apply pw_below_drewN | apply below_drew1) | exact HB.out)))); rintro e w11 ⟨v168, rfl, ho0, hb⟩; refine ⟨_, rfl, ?_⟩; have n0_ := Aside0.mk (Kd.V_lower (Kd.V_mono (ok' := fun k_ => True) ho0 (fun k_ hk_ => trivial)) (below_size (by repeat (first | (with_reducible first | exact HB.out | apply below_alloc | apply pw_below_drewN | apply below_drew1) | exact HB.out)))); have n1_ := Aside0.mk (below_step (by repeat (first | (with_reducible first | exact HB.out | apply below_alloc | apply pw_below_drewN | apply below_drew1) | exact HB.out)) hb); clear HB; have HO169 := n0_; have HB := n1_; clear n0_ n1_; (try clear hb); (try clear hb2); (try clear hk); (try clear hi); (try clear ho0)) | ((with_reducible refine gate_dst (N := 6) rfl ?_); refine box_event ?hg (N := 6) ?hd (cs := #[.int .i64 0, .slice none 0 0]) (t := 58) ?hr ?_; (case hd => rfl); (case hg => rfl); (case hr => first | (go_simp; done) | (go_simp; rfl)); intro gb171 hg w12 hbox hb; have n0_ := Aside0.mk (Kd.V_below (Kd.V_elderB (by (with_reducible repeat (first | apply Kd.V_alloc | apply Kd.V_drewN | apply Kd.V_drew)); exact HO169.out) gb171 (Nat.le_of_eq hg.symm)) hb); have n1_ := Aside0.mk (below_step (by repeat (first | (with_reducible first | exact HB.out | apply below_alloc | apply pw_below_drewN | apply below_drew1) | exact HB.out)) hb); have n2_ := Aside0.mk (hbox); have n3_ := Aside0.mk ((by rw [hg]; exact (below_size (by repeat (first | (with_reducible first | exact HB.out | apply below_alloc | apply pw_below_drewN | apply below_drew1) | exact HB.out))) : w.heap.size ≤ gb171)); have n4_ := Aside0.mk ((by rw [hg]; exact (below_size (by repeat (first | (with_reducible first | exact HB.out | apply below_alloc | apply pw_below_drewN | apply below_drew1) | exact HB.out))) : w.heap.size ≤ gb171)); clear HO169; clear HB; have HO169 := n0_; have HB := n1_; have BK171 := n2_; have GW171 := n3_; have GE171 := n4_; clear n0_ n1_ n2_ n3_ n4_; clear hb hbox hg; have hcz13_0 : w12.cell? ⟨gb171, 0, none⟩ = some (.int .i64 0) := (blk_cell BK171.out 0).trans rfl; have hcz13_1 : w12.cell? ⟨gb171, 1, none⟩ = some (.slice none 0 0) := (blk_cell BK171.out 1).trans rfl; have hfz13_0 := blk_frozen BK171.out 0; have hfz13_1 := blk_frozen BK171.out 1; obtain ⟨Ao14, co14, eo14⟩ := Kd.V_slice HO169.out; subst eo14))
  go_ret2
  exact ⟨_, by first | rfl | (simp [errW_none, errW_some] <;> rfl) | (simp [*, errW_none, errW_some] <;> rfl), by first | exact Kd.R_nil _ _ _ _ _ | exact Kd.N_nil _ _ _ _ _ | exact Kd.V_nil _ _ _ _ _ | exact Kd.Q_nil _ _ _ _ _ | exact Kd.S_nil _ _ _ _ _, by repeat (first | (with_reducible first | exact HB.out | apply below_alloc | apply pw_below_drewN | apply below_drew1 | refine below_set ?_ GE171.out) | exact HB.out)⟩
def fetch_Smallest.l0 : Nat → Int → Int → List Int → Int → Int → Int → List (S34) → Option (Int × Int × Int)
 | 0, _, _, _, _, _, _, _ => none
 | k + 1, x9, x10, x24, x25, x26, x182000, x182001 => if x26 < x25 then (if 0 ≤ x26 then (if x26 < (x24.length : Int) then ((fetch_quarter_crossing.f k x182000 x182001 (rd x24 x26)).bind fun t186 => ((fetch_list.f k t186).bind fun t187 => (if x9 < 0 then (fetch_Smallest.l0 k (t187.length : Int) (rd x24 x26) x24 x25 (wrap64 (x26 + 1)) x182000 x182001) else (if (t187.length : Int) < x9 then (fetch_Smallest.l0 k (t187.length : Int) (rd x24 x26) x24 x25 (wrap64 (x26 + 1)) x182000 x182001) else (fetch_Smallest.l0 k x9 x10 x24 x25 (wrap64 (x26 + 1)) x182000 x182001))))) else (none)) else (none)) else (if x9 < 0 then (some (0, 0, 10)) else (some (x9, x10, 0)))
def fetch_Smallest.f (k : Nat) (a0 : Int) (l1 : List (S34)) : Option (Int × Int × Int) := (fetch_read.f k a0 l1).bind fun bt176 => (if bt176.2.2 = 0 then ((fetch_quarter_cuts.f k bt176.1 bt176.2.1).bind fun t182 => (fetch_Smallest.l0 k (-1) 0 t182 (t182.length : Int) 0 bt176.1 bt176.2.1)) else (some (0, 0, bt176.2.2)))
theorem fetch_Smallest.mono_l : ∀ k, (∀ y0 y1 y2 y3 y4 y5 y6, LeO (fetch_Smallest.l0 k y0 y1 y2 y3 y4 y5 y6) (fetch_Smallest.l0 (k + 1) y0 y1 y2 y3 y4 y5 y6))
 | 0 => fun _ _ _ _ _ _ _ r h => by simp [fetch_Smallest.l0] at h
 | k + 1 => by
  have ih0 := fetch_Smallest.mono_l k
  ·intro y0 y1 y2 y3 y4 y5 y6
   unfold fetch_Smallest.l0
   repeat' first
   | (with_reducible exact ih0 _ _ _ _ _ _ _)
   | (with_reducible exact fetch_list.mono _ _)
   | (with_reducible exact fetch_quarter_crossing.mono _ _ _ _)
   | (with_reducible exact fetch_quarter_cuts.mono _ _ _)
   | (with_reducible exact fetch_read.mono _ _ _)
   | (with_reducible exact LeO.refl _)
   | (with_reducible exact LeO.none _)
   | (with_reducible refine LeO.ite ?_ ?_)
   | (with_reducible refine LeO.bind ?_ (fun _ => ?_))
   | exact ih0 _ _ _ _ _ _ _
   | exact fetch_list.mono _ _
   | exact fetch_quarter_crossing.mono _ _ _ _
   | exact fetch_quarter_cuts.mono _ _ _
   | exact fetch_read.mono _ _ _
   | exact LeO.none _
   | refine LeO.ite ?_ ?_
   | refine LeO.bind ?_ (fun _ => ?_)
theorem fetch_Smallest.mono : ∀ a0 a1 k, LeO (fetch_Smallest.f k a0 a1) (fetch_Smallest.f (k + 1) a0 a1) := by
 intro a0 a1 k
 have ih0 := fetch_Smallest.mono_l k
 unfold fetch_Smallest.f
 repeat' first
   | (with_reducible exact ih0 _ _ _ _ _ _ _)
   | (with_reducible exact fetch_list.mono _ _)
   | (with_reducible exact fetch_quarter_crossing.mono _ _ _ _)
   | (with_reducible exact fetch_quarter_cuts.mono _ _ _)
   | (with_reducible exact fetch_read.mono _ _ _)
   | (with_reducible exact LeO.refl _)
   | (with_reducible exact LeO.none _)
   | (with_reducible refine LeO.ite ?_ ?_)
   | (with_reducible refine LeO.bind ?_ (fun _ => ?_))
   | exact ih0 _ _ _ _ _ _ _
   | exact fetch_list.mono _ _
   | exact fetch_quarter_crossing.mono _ _ _ _
   | exact fetch_quarter_cuts.mono _ _ _
   | exact fetch_read.mono _ _ _
   | exact LeO.none _
   | refine LeO.ite ?_ ?_
   | refine LeO.bind ?_ (fun _ => ?_)
set_option maxHeartbeats 8000000 in
set_option maxRecDepth 100000 in
theorem fetch_Smallest.calls (k : Nat) (a0 : Int) (A1 : Option Addr) (c1 : Nat) (l1 : List (S34)) (r1 : Int) (r2 : Int) (r3 : Int) (w : World) (hr1 : Kd.C k34 w A1 l1.length l1) (hc1 : l1.length ≤ c1) (h : fetch_Smallest.f k a0 l1 = some (r1, r2, r3)) :
  Calls Try.prog 30 #[.int .i64 a0, .slice A1 l1.length c1] w fun e w' => e = .returned (.tuple #[.int .i64 r1, .int .i64 r2, .int .i64 r3]) ∧ Below w.heap.size w w' := by
 have hu58 := Try.underlying58
 have HR1 := Aside0.mk hr1
 have HC1 := Aside0.mk hc1
 clear hr1 hc1
 have HB := Aside0.mk (Below.refl w.heap.size w)
 have H : ((fetch_read.f k a0 l1).bind fun bt176 => (if bt176.2.2 = 0 then ((fetch_quarter_cuts.f k bt176.1 bt176.2.1).bind fun t182 => (fetch_Smallest.l0 k (-1) 0 t182 (t182.length : Int) 0 bt176.1 bt176.2.1)) else (some (0, 0, bt176.2.2)))) = some (r1, r2, r3) := h
 clear h
 replace H := Option.bind_eq_some_iff.mp H
 obtain ⟨⟨t176, t177, t180⟩, A30, H⟩ := H
 replace H : (if t180 = 0 then ((fetch_quarter_cuts.f k t176 t177).bind fun t182 => (fetch_Smallest.l0 k (-1) 0 t182 (t182.length : Int) 0 t176 t177)) else (some (0, 0, t180))) = some (r1, r2, r3) := H
 have A3 := Aside0.mk A30
 clear A30
 by_cases c4 : t180 = 0
 ·rw [if_pos c4] at H
  have c4b0 : (t180 == 0) = true := beq_iff_eq.mpr c4
  have c4b1 : (t180 != 0) = false := bne_eq_false_iff_eq.mpr c4
  clear c4
  replace H := Option.bind_eq_some_iff.mp H
  obtain ⟨t182, A50, H⟩ := H
  replace H : (fetch_Smallest.l0 k (-1) 0 t182 (t182.length : Int) 0 t176 t177) = some (r1, r2, r3) := H
  have A5 := Aside0.mk A50
  clear A50
  have H' := Aside0.mk H
  clear H
  go_enter Try.func30, Try.ntmps30
  go_wp2_with (first | ((with_reducible refine gate_callee (f := 44) rfl ?_); refine goesL_ (some 17) rfl rfl Try.func44 (by kernel_rfl) rfl #[.int .i64 a0, .slice A1 l1.length c1] rfl (by (try simp only [List.map_toArray, List.map_cons, List.map_nil]); first | done | rfl | (simp only [List.length_drop, List.length_take]; rfl)) ?_; (with_reducible refine (fetch_read.calls k a0 (fun k_ => k_ < w.heap.size) _ _ l1 t176 t177 t180 _ ?side1 A3.out).mono ?_); (case side1 => exact Kd.V_mk HC1.out (Kd.F_below (Kd.C_F k34_heap HR1.out) (by repeat (first | (with_reducible first | exact HB.out | apply below_alloc | apply pw_below_drewN | apply below_drew1) | exact HB.out)))); rintro e w6 ⟨v178, rfl, ho0, hb⟩; refine ⟨_, rfl, ?_⟩; have n0_ := Aside0.mk (Kd.V_lower (Kd.V_mono (ok' := fun k_ => True) ho0 (fun k_ hk_ => trivial)) (below_size (by repeat (first | (with_reducible first | exact HB.out | apply below_alloc | apply pw_below_drewN | apply below_drew1) | exact HB.out)))); have n1_ := Aside0.mk (below_step (by repeat (first | (with_reducible first | exact HB.out | apply below_alloc | apply pw_below_drewN | apply below_drew1) | exact HB.out)) hb); clear HB; have HO179 := n0_; have HB := n1_; clear n0_ n1_; (try clear hb); (try clear hb2); (try clear hk); (try clear hi); (try clear ho0)) | ((with_reducible refine gate_dst (N := 7) rfl ?_); refine box_event ?hg (N := 7) ?hd (cs := #[.int .i64 0, .slice none 0 0]) (t := 58) ?hr ?_; (case hd => rfl); (case hg => rfl); (case hr => first | (go_simp; done) | (go_simp; rfl)); intro gb181 hg w7 hbox hb; have n0_ := Aside0.mk (Kd.V_below (Kd.V_elderB (by (with_reducible repeat (first | apply Kd.V_alloc | apply Kd.V_drewN | apply Kd.V_drew)); exact HO179.out) gb181 (Nat.le_of_eq hg.symm)) hb); have n1_ := Aside0.mk (below_step (by repeat (first | (with_reducible first | exact HB.out | apply below_alloc | apply pw_below_drewN | apply below_drew1) | exact HB.out)) hb); have n2_ := Aside0.mk (hbox); have n3_ := Aside0.mk ((by rw [hg]; exact (below_size (by repeat (first | (with_reducible first | exact HB.out | apply below_alloc | apply pw_below_drewN | apply below_drew1) | exact HB.out))) : w.heap.size ≤ gb181)); have n4_ := Aside0.mk ((by rw [hg]; exact (below_size (by repeat (first | (with_reducible first | exact HB.out | apply below_alloc | apply pw_below_drewN | apply below_drew1) | exact HB.out))) : w.heap.size ≤ gb181)); clear HO179; clear HB; have HO179 := n0_; have HB := n1_; have BK181 := n2_; have GW181 := n3_; have GE181 := n4_; clear n0_ n1_ n2_ n3_ n4_; clear hb hbox hg; have hcz8_0 : w7.cell? ⟨gb181, 0, none⟩ = some (.int .i64 0) := (blk_cell BK181.out 0).trans rfl; have hcz8_1 : w7.cell? ⟨gb181, 1, none⟩ = some (.slice none 0 0) := (blk_cell BK181.out 1).trans rfl; have hfz8_0 := blk_frozen BK181.out 0; have hfz8_1 := blk_frozen BK181.out 1; obtain ⟨Ao9, co9, eo9⟩ := Kd.V_slice HO179.out; subst eo9) | ((with_reducible refine gate_callee (f := 45) rfl ?_); refine goesL_ (some 24) rfl rfl Try.func45 (by kernel_rfl) rfl #[.agg #[.int .i64 t176, .slice Ao9 t177.length co9]] rfl (by (try simp only [List.map_toArray, List.map_cons, List.map_nil]); first | done | rfl | (simp only [List.length_drop, List.length_take]; rfl)) ?_; (with_reducible refine (fetch_quarter_cuts.calls k t176 _ _ t177 t182 _ ?side1 ?side2 A5.out).mono ?_); (case side1 => refine (Kd.V_reads' (e := 34) (base := w.heap.size) (ok := fun k_ => (True ∧ k_ ≠ gb181)) (n := t177.length) (c := co9) ?_).2.2; exact (by (with_reducible repeat (first | apply Kd.V_alloc | apply Kd.V_drewN | apply Kd.V_drew)); exact (Kd.V_mono (Kd.V_far (p := ⟨gb181, 1, none⟩) (Kd.V_far (p := ⟨gb181, 0, none⟩) (Kd.V_mono HO179.out (fun k_ hk => (⟨hk, hk.2⟩ : _ ∧ k_ ≠ gb181))) (fun _ hk => hk.2) (.int .i64 t176)) (fun _ hk => hk.2) (.slice Ao9 t177.length co9)) (fun _ h_ => h_.1)))); (case side2 => exact (Kd.V_reads' HO179.out).2.1); rintro e w10 ⟨v183, rfl, ho0, hb⟩; refine ⟨_, rfl, ?_⟩; have n0_ := Aside0.mk (Kd.V_elder' (by (with_reducible repeat (first | apply Kd.V_alloc | apply Kd.V_drewN | apply Kd.V_drew)); exact (Kd.V_mono (Kd.V_far (p := ⟨gb181, 1, none⟩) (Kd.V_far (p := ⟨gb181, 0, none⟩) (Kd.V_mono HO179.out (fun k_ hk => (⟨hk, hk.2⟩ : _ ∧ k_ ≠ gb181))) (fun _ hk => hk.2) (.int .i64 t176)) (fun _ hk => hk.2) (.slice Ao9 t177.length co9)) (fun _ h_ => h_.1))) (Kd.R_base ho0) hb); have n1_ := Aside0.mk (Kd.R_lower ho0 (below_size (by repeat (first | (with_reducible first | exact HB.out | apply below_alloc | apply pw_below_drewN | apply below_drew1 | refine below_set ?_ GE181.out) | exact HB.out)))); have n2_ := Aside0.mk (blk_below (g := gb181) (o := .cells #[.int .i64 t176, .slice Ao9 t177.length co9] 58 (0, 0)) (by (with_reducible repeat (first | refine blk_drewN ?_ _ | refine blk_drew ?_ | refine blk_alloc ?_ _)); refine blk_put (cs := #[.int .i64 t176, .slice none 0 0]) ?_ 1 _ rfl; (with_reducible repeat (first | refine blk_drewN ?_ _ | refine blk_drew ?_ | refine blk_alloc ?_ _)); refine blk_put (cs := #[.int .i64 0, .slice none 0 0]) ?_ 0 _ rfl; (with_reducible repeat (first | refine blk_drewN ?_ _ | refine blk_drew ?_ | refine blk_alloc ?_ _)); exact BK181.out) hb); have n3_ := Aside0.mk (below_step (by repeat (first | (with_reducible first | exact HB.out | apply below_alloc | apply pw_below_drewN | apply below_drew1 | refine below_set ?_ GE181.out) | exact HB.out)) hb); clear HO179; clear BK181; clear HB; have HO179 := n0_; have HO184 := n1_; have BK181 := n2_; have HB := n3_; clear n0_ n1_ n2_ n3_; (try clear hb); (try clear hb2); (try clear hk); (try clear hi); (try clear ho0); obtain ⟨Ao11, co11, eo11⟩ := Kd.R_slice HO184.out; subst eo11))
  go_loopg [9, 10, 26] k (fun kq v9 v10 v26 w' => ∃ (x9_1 : Int) (x10_1 : Int) (x26_1 : Int), v9 = .int .i64 x9_1 ∧ v10 = .int .i64 x10_1 ∧ v26 = .int .i64 x26_1 ∧ Aside0 (fetch_Smallest.l0 kq x9_1 x10_1 t182 (t182.length : Int) x26_1 t176 t177 = some (r1, r2, r3)) ∧ Aside0 (kq ≤ k) ∧ Aside0 (Kd.R (Kd.int .i64) 3 w' w.heap.size (fun _ => True) (.slice Ao11 t182.length co11) t182) ∧ Aside0 (Kd.V k34 34 w' w.heap.size (fun k_ => some k_ ≠ ((.slice Ao11 t182.length co11) : Value).ownBlock ∧ k_ ≠ gb181) (.slice Ao9 t177.length co9) t177) ∧ Aside0 (w'.heap[gb181]? = some (.cells #[.int .i64 t176, (.slice Ao9 t177.length co9)] 58 (0, 0))) ∧ Aside0 (Below w.heap.size w w'))
  case atStart => exact ⟨((-1)), (0), (0), (by first | rfl | (simp; done) | (simp [*]; done)), (by first | rfl | (simp; done) | (simp [*]; done)), (by first | rfl | (simp; done) | (simp [*]; done)), H', ⟨Nat.le_refl _⟩, ⟨by (with_reducible repeat (first | apply Kd.R_alloc | apply Kd.R_drewN | apply Kd.R_drew)); exact HO184.out⟩, ⟨by (with_reducible repeat (first | apply Kd.V_alloc | apply Kd.V_drewN | apply Kd.V_drew)); exact Kd.V_mono HO179.out (fun _ hk => ⟨hk.2, hk.1.2⟩)⟩, ⟨by (with_reducible repeat (first | refine blk_drewN ?_ _ | refine blk_drew ?_ | refine blk_alloc ?_ _)); exact BK181.out⟩, ⟨by repeat (first | (with_reducible first | exact HB.out | apply below_alloc | apply pw_below_drewN | apply below_drew1 | refine below_set ?_ GE181.out) | exact HB.out)⟩⟩
  case round =>
   clear H'
   try clear c1
   try clear p2
   try clear c3
   try clear c4
   try clear c4b0
   try clear c4b1
   try clear hcz8_0
   try clear hcz8_1
   try clear hfz8_0
   try clear hfz8_1
   obtain ⟨x9_1, x10_1, x26_1, rfl, rfl, rfl, HA, HK1, HO_24, HO_182001, BK181, HB⟩ := hrel
   cases gk with
   | zero => exact absurd HA.out (by simp [fetch_Smallest.l0])
   | succ k1 =>
    have H := HA.out
    clear HA
    simp only [fetch_Smallest.l0] at H
    by_cases c12 : x26_1 < (t182.length : Int)
    ·rw [if_pos c12] at H
     have c12b0 : decide (x26_1 < (t182.length : Int)) = true := decide_eq_true c12
     clear c12
     by_cases c13 : 0 ≤ x26_1
     ·rw [if_pos c13] at H
      have c13b0 : decide (0 ≤ x26_1) = true := decide_eq_true c13
      clear c13
      by_cases c14 : x26_1 < (t182.length : Int)
      ·rw [if_pos c14] at H
       have c14b0 : decide (x26_1 < (t182.length : Int)) = true := decide_eq_true c14
       clear c14
       replace H := Option.bind_eq_some_iff.mp H
       obtain ⟨t186, A150, H⟩ := H
       replace H : ((fetch_list.f k1 t186).bind fun t187 => (if x9_1 < 0 then (fetch_Smallest.l0 k1 (t187.length : Int) (rd t182 x26_1) t182 (t182.length : Int) (wrap64 (x26_1 + 1)) t176 t177) else (if (t187.length : Int) < x9_1 then (fetch_Smallest.l0 k1 (t187.length : Int) (rd t182 x26_1) t182 (t182.length : Int) (wrap64 (x26_1 + 1)) t176 t177) else (fetch_Smallest.l0 k1 x9_1 x10_1 t182 (t182.length : Int) (wrap64 (x26_1 + 1)) t176 t177)))) = some (r1, r2, r3) := H
       have A15 := Aside0.mk A150
       clear A150
       replace H := Option.bind_eq_some_iff.mp H
       obtain ⟨t187, A160, H⟩ := H
       replace H : (if x9_1 < 0 then (fetch_Smallest.l0 k1 (t187.length : Int) (rd t182 x26_1) t182 (t182.length : Int) (wrap64 (x26_1 + 1)) t176 t177) else (if (t187.length : Int) < x9_1 then (fetch_Smallest.l0 k1 (t187.length : Int) (rd t182 x26_1) t182 (t182.length : Int) (wrap64 (x26_1 + 1)) t176 t177) else (fetch_Smallest.l0 k1 x9_1 x10_1 t182 (t182.length : Int) (wrap64 (x26_1 + 1)) t176 t177))) = some (r1, r2, r3) := H
       have A16 := Aside0.mk A160
       clear A160
       by_cases c17 : x9_1 < 0
       ·rw [if_pos c17] at H
        have c17b0 : decide (x9_1 < 0) = true := decide_eq_true c17
        clear c17
        have H' := Aside0.mk H
        clear H
        have p185 : 0 ≤ (x26_1 : Int) := of_decide_eq_true (by first | (with_reducible assumption) | assumption)
        have q185 : x26_1 < (t182.length : Int) := of_decide_eq_true (by first | (with_reducible assumption) | assumption)
        obtain ⟨ad185, e185, hx185_0⟩ := Kd.at_int (Kd.R_reads' HO_24.out).2.2 x26_1 p185 q185
        cases e185
        replace p185 := eq_true p185
        replace q185 := eq_true q185
        have hcz18_0 : wr.cell? ⟨gb181, 0, none⟩ = some (.int .i64 t176) := (blk_cell BK181.out 0).trans rfl
        have hcz18_1 : wr.cell? ⟨gb181, 1, none⟩ = some (.slice Ao9 t177.length co9) := (blk_cell BK181.out 1).trans rfl
        have hfz18_0 := blk_frozen BK181.out 0
        have hfz18_1 := blk_frozen BK181.out 1
        go_wp2_with (first | ((with_reducible refine gate_callee (f := 48) rfl ?_); refine goesL_ (some 32) rfl rfl Try.func48 (by kernel_rfl) rfl #[.agg #[.int .i64 t176, .slice Ao9 t177.length co9], .int .i64 (rd t182 x26_1)] rfl (by (try simp only [List.map_toArray, List.map_cons, List.map_nil]); first | done | rfl | (simp only [List.length_drop, List.length_take]; rfl)) ?_; (with_reducible refine (fetch_quarter_crossing.calls k1 t176 _ _ t177 (rd t182 x26_1) t186 _ ?side1 ?side2 A15.out).mono ?_); (case side1 => repeat (first | exact (Kd.V_reads' HO_182001.out).2.2 | (with_reducible refine Kd.C_alloc ?_ _) | (with_reducible refine Kd.C_drewN ?_ _) | (with_reducible refine Kd.C_drew ?_))); (case side2 => exact (Kd.V_reads' HO_182001.out).2.1); rintro e w19 ⟨rfl, hb⟩; refine ⟨_, rfl, ?_⟩; have n0_ := Aside0.mk (Kd.R_below (by (with_reducible repeat (first | apply Kd.R_alloc | apply Kd.R_drewN | apply Kd.R_drew)); exact HO_24.out) hb); have n1_ := Aside0.mk (Kd.V_below (by (with_reducible repeat (first | apply Kd.V_alloc | apply Kd.V_drewN | apply Kd.V_drew)); exact HO_182001.out) hb); have n2_ := Aside0.mk (blk_below (g := gb181) (o := .cells #[.int .i64 t176, .slice Ao9 t177.length co9] 58 (0, 0)) (by (with_reducible repeat (first | refine blk_drewN ?_ _ | refine blk_drew ?_ | refine blk_alloc ?_ _)); exact BK181.out) hb); have n3_ := Aside0.mk (below_step (by repeat (first | (with_reducible first | exact HB.out | apply below_alloc | apply pw_below_drewN | apply below_drew1 | refine below_set ?_ GE181.out) | exact HB.out)) hb); clear HO_24; clear HO_182001; clear BK181; clear HB; have HO_24 := n0_; have HO_182001 := n1_; have BK181 := n2_; have HB := n3_; clear n0_ n1_ n2_ n3_; (try clear hb); (try clear hb2); (try clear hk); (try clear hi)) | ((with_reducible refine gate_callee (f := 54) rfl ?_); refine goesL_ (some 33) rfl rfl Try.func54 (by kernel_rfl) rfl #[.int .i64 t186] rfl (by (try simp only [List.map_toArray, List.map_cons, List.map_nil]); first | done | rfl | (simp only [List.length_drop, List.length_take]; rfl)) ?_; (with_reducible refine (fetch_list.calls k1 t186 t187 _ A16.out).mono ?_); rintro e w20 ⟨v188, rfl, ho0, hb⟩; refine ⟨_, rfl, ?_⟩; have n0_ := Aside0.mk (Kd.R_elder' (by (with_reducible repeat (first | apply Kd.R_alloc | apply Kd.R_drewN | apply Kd.R_drew)); exact HO_24.out) (Kd.R_base ho0) hb); have n1_ := Aside0.mk (Kd.V_elder' (by (with_reducible repeat (first | apply Kd.V_alloc | apply Kd.V_drewN | apply Kd.V_drew)); exact HO_182001.out) (Kd.R_base ho0) hb); have n2_ := Aside0.mk (Kd.R_lower (Kd.R_new' ho0 (Kd.R_lt (by (with_reducible repeat (first | apply Kd.R_alloc | apply Kd.R_drewN | apply Kd.R_drew)); exact HO_24.out))) (below_size (by repeat (first | (with_reducible first | exact HB.out | apply below_alloc | apply pw_below_drewN | apply below_drew1 | refine below_set ?_ GE181.out) | exact HB.out)))); have n3_ := Aside0.mk (blk_below (g := gb181) (o := .cells #[.int .i64 t176, .slice Ao9 t177.length co9] 58 (0, 0)) (by (with_reducible repeat (first | refine blk_drewN ?_ _ | refine blk_drew ?_ | refine blk_alloc ?_ _)); exact BK181.out) hb); have n4_ := Aside0.mk (below_step (by repeat (first | (with_reducible first | exact HB.out | apply below_alloc | apply pw_below_drewN | apply below_drew1 | refine below_set ?_ GE181.out) | exact HB.out)) hb); clear HO_24; clear HO_182001; clear BK181; clear HB; have HO_24 := n0_; have HO_182001 := n1_; have HO189 := n2_; have BK181 := n3_; have HB := n4_; clear n0_ n1_ n2_ n3_ n4_; (try clear hb); (try clear hb2); (try clear hk); (try clear hi); (try clear ho0); obtain ⟨Ao21, co21, eo21⟩ := Kd.R_slice HO189.out; subst eo21))
        go_roundg k1
        case measure => have := HK1.out; omega
        case rel => exact ⟨((t187.length : Int)), (rd t182 x26_1), (wrap64 (x26_1 + 1)), (by first | rfl | (simp; done) | (simp [*]; done)), (by first | rfl | (simp; done) | (simp [*]; done)), (by first | rfl | (simp; done) | (simp [*]; done)), H', ⟨by have := HK1.out; omega⟩, ⟨by (with_reducible repeat (first | apply Kd.R_alloc | apply Kd.R_drewN | apply Kd.R_drew)); exact Kd.R_mono HO_24.out (fun _ hk => trivial)⟩, ⟨by (with_reducible repeat (first | apply Kd.V_alloc | apply Kd.V_drewN | apply Kd.V_drew)); exact Kd.V_mono HO_182001.out (fun _ hk => ⟨hk.1.1, hk.1.2⟩)⟩, ⟨by (with_reducible repeat (first | refine blk_drewN ?_ _ | refine blk_drew ?_ | refine blk_alloc ?_ _)); exact BK181.out⟩, ⟨by repeat (first | (with_reducible first | exact HB.out | apply below_alloc | apply pw_below_drewN | apply below_drew1 | refine below_set ?_ GE181.out) | exact HB.out)⟩⟩
       ·rw [if_neg c17] at H
        have c17b0 : decide (x9_1 < 0) = false := decide_eq_false c17
        clear c17
        by_cases c22 : (t187.length : Int) < x9_1
        ·rw [if_pos c22] at H
         have c22b0 : decide ((t187.length : Int) < x9_1) = true := decide_eq_true c22
         clear c22
         have H' := Aside0.mk H
         clear H
         have p185 : 0 ≤ (x26_1 : Int) := of_decide_eq_true (by first | (with_reducible assumption) | assumption)
         have q185 : x26_1 < (t182.length : Int) := of_decide_eq_true (by first | (with_reducible assumption) | assumption)
         obtain ⟨ad185, e185, hx185_0⟩ := Kd.at_int (Kd.R_reads' HO_24.out).2.2 x26_1 p185 q185
         cases e185
         replace p185 := eq_true p185
         replace q185 := eq_true q185
         have hcz23_0 : wr.cell? ⟨gb181, 0, none⟩ = some (.int .i64 t176) := (blk_cell BK181.out 0).trans rfl
         have hcz23_1 : wr.cell? ⟨gb181, 1, none⟩ = some (.slice Ao9 t177.length co9) := (blk_cell BK181.out 1).trans rfl
         have hfz23_0 := blk_frozen BK181.out 0
         have hfz23_1 := blk_frozen BK181.out 1
         go_wp2_with (first | ((with_reducible refine gate_callee (f := 48) rfl ?_); refine goesL_ (some 32) rfl rfl Try.func48 (by kernel_rfl) rfl #[.agg #[.int .i64 t176, .slice Ao9 t177.length co9], .int .i64 (rd t182 x26_1)] rfl (by (try simp only [List.map_toArray, List.map_cons, List.map_nil]); first | done | rfl | (simp only [List.length_drop, List.length_take]; rfl)) ?_; (with_reducible refine (fetch_quarter_crossing.calls k1 t176 _ _ t177 (rd t182 x26_1) t186 _ ?side1 ?side2 A15.out).mono ?_); (case side1 => repeat (first | exact (Kd.V_reads' HO_182001.out).2.2 | (with_reducible refine Kd.C_alloc ?_ _) | (with_reducible refine Kd.C_drewN ?_ _) | (with_reducible refine Kd.C_drew ?_))); (case side2 => exact (Kd.V_reads' HO_182001.out).2.1); rintro e w24 ⟨rfl, hb⟩; refine ⟨_, rfl, ?_⟩; have n0_ := Aside0.mk (Kd.R_below (by (with_reducible repeat (first | apply Kd.R_alloc | apply Kd.R_drewN | apply Kd.R_drew)); exact HO_24.out) hb); have n1_ := Aside0.mk (Kd.V_below (by (with_reducible repeat (first | apply Kd.V_alloc | apply Kd.V_drewN | apply Kd.V_drew)); exact HO_182001.out) hb); have n2_ := Aside0.mk (blk_below (g := gb181) (o := .cells #[.int .i64 t176, .slice Ao9 t177.length co9] 58 (0, 0)) (by (with_reducible repeat (first | refine blk_drewN ?_ _ | refine blk_drew ?_ | refine blk_alloc ?_ _)); exact BK181.out) hb); have n3_ := Aside0.mk (below_step (by repeat (first | (with_reducible first | exact HB.out | apply below_alloc | apply pw_below_drewN | apply below_drew1 | refine below_set ?_ GE181.out) | exact HB.out)) hb); clear HO_24; clear HO_182001; clear BK181; clear HB; have HO_24 := n0_; have HO_182001 := n1_; have BK181 := n2_; have HB := n3_; clear n0_ n1_ n2_ n3_; (try clear hb); (try clear hb2); (try clear hk); (try clear hi)) | ((with_reducible refine gate_callee (f := 54) rfl ?_); refine goesL_ (some 33) rfl rfl Try.func54 (by kernel_rfl) rfl #[.int .i64 t186] rfl (by (try simp only [List.map_toArray, List.map_cons, List.map_nil]); first | done | rfl | (simp only [List.length_drop, List.length_take]; rfl)) ?_; (with_reducible refine (fetch_list.calls k1 t186 t187 _ A16.out).mono ?_); rintro e w25 ⟨v188, rfl, ho0, hb⟩; refine ⟨_, rfl, ?_⟩; have n0_ := Aside0.mk (Kd.R_elder' (by (with_reducible repeat (first | apply Kd.R_alloc | apply Kd.R_drewN | apply Kd.R_drew)); exact HO_24.out) (Kd.R_base ho0) hb); have n1_ := Aside0.mk (Kd.V_elder' (by (with_reducible repeat (first | apply Kd.V_alloc | apply Kd.V_drewN | apply Kd.V_drew)); exact HO_182001.out) (Kd.R_base ho0) hb); have n2_ := Aside0.mk (Kd.R_lower (Kd.R_new' ho0 (Kd.R_lt (by (with_reducible repeat (first | apply Kd.R_alloc | apply Kd.R_drewN | apply Kd.R_drew)); exact HO_24.out))) (below_size (by repeat (first | (with_reducible first | exact HB.out | apply below_alloc | apply pw_below_drewN | apply below_drew1 | refine below_set ?_ GE181.out) | exact HB.out)))); have n3_ := Aside0.mk (blk_below (g := gb181) (o := .cells #[.int .i64 t176, .slice Ao9 t177.length co9] 58 (0, 0)) (by (with_reducible repeat (first | refine blk_drewN ?_ _ | refine blk_drew ?_ | refine blk_alloc ?_ _)); exact BK181.out) hb); have n4_ := Aside0.mk (below_step (by repeat (first | (with_reducible first | exact HB.out | apply below_alloc | apply pw_below_drewN | apply below_drew1 | refine below_set ?_ GE181.out) | exact HB.out)) hb); clear HO_24; clear HO_182001; clear BK181; clear HB; have HO_24 := n0_; have HO_182001 := n1_; have HO189 := n2_; have BK181 := n3_; have HB := n4_; clear n0_ n1_ n2_ n3_ n4_; (try clear hb); (try clear hb2); (try clear hk); (try clear hi); (try clear ho0); obtain ⟨Ao26, co26, eo26⟩ := Kd.R_slice HO189.out; subst eo26))
         go_roundg k1
         case measure => have := HK1.out; omega
         case rel => exact ⟨((t187.length : Int)), (rd t182 x26_1), (wrap64 (x26_1 + 1)), (by first | rfl | (simp; done) | (simp [*]; done)), (by first | rfl | (simp; done) | (simp [*]; done)), (by first | rfl | (simp; done) | (simp [*]; done)), H', ⟨by have := HK1.out; omega⟩, ⟨by (with_reducible repeat (first | apply Kd.R_alloc | apply Kd.R_drewN | apply Kd.R_drew)); exact Kd.R_mono HO_24.out (fun _ hk => trivial)⟩, ⟨by (with_reducible repeat (first | apply Kd.V_alloc | apply Kd.V_drewN | apply Kd.V_drew)); exact Kd.V_mono HO_182001.out (fun _ hk => ⟨hk.1.1, hk.1.2⟩)⟩, ⟨by (with_reducible repeat (first | refine blk_drewN ?_ _ | refine blk_drew ?_ | refine blk_alloc ?_ _)); exact BK181.out⟩, ⟨by repeat (first | (with_reducible first | exact HB.out | apply below_alloc | apply pw_below_drewN | apply below_drew1 | refine below_set ?_ GE181.out) | exact HB.out)⟩⟩
        ·rw [if_neg c22] at H
         have c22b0 : decide ((t187.length : Int) < x9_1) = false := decide_eq_false c22
         clear c22
         have H' := Aside0.mk H
         clear H
         have p185 : 0 ≤ (x26_1 : Int) := of_decide_eq_true (by first | (with_reducible assumption) | assumption)
         have q185 : x26_1 < (t182.length : Int) := of_decide_eq_true (by first | (with_reducible assumption) | assumption)
         obtain ⟨ad185, e185, hx185_0⟩ := Kd.at_int (Kd.R_reads' HO_24.out).2.2 x26_1 p185 q185
         cases e185
         replace p185 := eq_true p185
         replace q185 := eq_true q185
         have hcz27_0 : wr.cell? ⟨gb181, 0, none⟩ = some (.int .i64 t176) := (blk_cell BK181.out 0).trans rfl
         have hcz27_1 : wr.cell? ⟨gb181, 1, none⟩ = some (.slice Ao9 t177.length co9) := (blk_cell BK181.out 1).trans rfl
         have hfz27_0 := blk_frozen BK181.out 0
         have hfz27_1 := blk_frozen BK181.out 1
         go_wp2_with (first | ((with_reducible refine gate_callee (f := 48) rfl ?_); refine goesL_ (some 32) rfl rfl Try.func48 (by kernel_rfl) rfl #[.agg #[.int .i64 t176, .slice Ao9 t177.length co9], .int .i64 (rd t182 x26_1)] rfl (by (try simp only [List.map_toArray, List.map_cons, List.map_nil]); first | done | rfl | (simp only [List.length_drop, List.length_take]; rfl)) ?_; (with_reducible refine (fetch_quarter_crossing.calls k1 t176 _ _ t177 (rd t182 x26_1) t186 _ ?side1 ?side2 A15.out).mono ?_); (case side1 => repeat (first | exact (Kd.V_reads' HO_182001.out).2.2 | (with_reducible refine Kd.C_alloc ?_ _) | (with_reducible refine Kd.C_drewN ?_ _) | (with_reducible refine Kd.C_drew ?_))); (case side2 => exact (Kd.V_reads' HO_182001.out).2.1); rintro e w28 ⟨rfl, hb⟩; refine ⟨_, rfl, ?_⟩; have n0_ := Aside0.mk (Kd.R_below (by (with_reducible repeat (first | apply Kd.R_alloc | apply Kd.R_drewN | apply Kd.R_drew)); exact HO_24.out) hb); have n1_ := Aside0.mk (Kd.V_below (by (with_reducible repeat (first | apply Kd.V_alloc | apply Kd.V_drewN | apply Kd.V_drew)); exact HO_182001.out) hb); have n2_ := Aside0.mk (blk_below (g := gb181) (o := .cells #[.int .i64 t176, .slice Ao9 t177.length co9] 58 (0, 0)) (by (with_reducible repeat (first | refine blk_drewN ?_ _ | refine blk_drew ?_ | refine blk_alloc ?_ _)); exact BK181.out) hb); have n3_ := Aside0.mk (below_step (by repeat (first | (with_reducible first | exact HB.out | apply below_alloc | apply pw_below_drewN | apply below_drew1 | refine below_set ?_ GE181.out) | exact HB.out)) hb); clear HO_24; clear HO_182001; clear BK181; clear HB; have HO_24 := n0_; have HO_182001 := n1_; have BK181 := n2_; have HB := n3_; clear n0_ n1_ n2_ n3_; (try clear hb); (try clear hb2); (try clear hk); (try clear hi)) | ((with_reducible refine gate_callee (f := 54) rfl ?_); refine goesL_ (some 33) rfl rfl Try.func54 (by kernel_rfl) rfl #[.int .i64 t186] rfl (by (try simp only [List.map_toArray, List.map_cons, List.map_nil]); first | done | rfl | (simp only [List.length_drop, List.length_take]; rfl)) ?_; (with_reducible refine (fetch_list.calls k1 t186 t187 _ A16.out).mono ?_); rintro e w29 ⟨v188, rfl, ho0, hb⟩; refine ⟨_, rfl, ?_⟩; have n0_ := Aside0.mk (Kd.R_elder' (by (with_reducible repeat (first | apply Kd.R_alloc | apply Kd.R_drewN | apply Kd.R_drew)); exact HO_24.out) (Kd.R_base ho0) hb); have n1_ := Aside0.mk (Kd.V_elder' (by (with_reducible repeat (first | apply Kd.V_alloc | apply Kd.V_drewN | apply Kd.V_drew)); exact HO_182001.out) (Kd.R_base ho0) hb); have n2_ := Aside0.mk (Kd.R_lower (Kd.R_new' ho0 (Kd.R_lt (by (with_reducible repeat (first | apply Kd.R_alloc | apply Kd.R_drewN | apply Kd.R_drew)); exact HO_24.out))) (below_size (by repeat (first | (with_reducible first | exact HB.out | apply below_alloc | apply pw_below_drewN | apply below_drew1 | refine below_set ?_ GE181.out) | exact HB.out)))); have n3_ := Aside0.mk (blk_below (g := gb181) (o := .cells #[.int .i64 t176, .slice Ao9 t177.length co9] 58 (0, 0)) (by (with_reducible repeat (first | refine blk_drewN ?_ _ | refine blk_drew ?_ | refine blk_alloc ?_ _)); exact BK181.out) hb); have n4_ := Aside0.mk (below_step (by repeat (first | (with_reducible first | exact HB.out | apply below_alloc | apply pw_below_drewN | apply below_drew1 | refine below_set ?_ GE181.out) | exact HB.out)) hb); clear HO_24; clear HO_182001; clear BK181; clear HB; have HO_24 := n0_; have HO_182001 := n1_; have HO189 := n2_; have BK181 := n3_; have HB := n4_; clear n0_ n1_ n2_ n3_ n4_; (try clear hb); (try clear hb2); (try clear hk); (try clear hi); (try clear ho0); obtain ⟨Ao30, co30, eo30⟩ := Kd.R_slice HO189.out; subst eo30))
         go_roundg k1
         case measure => have := HK1.out; omega
         case rel => exact ⟨(x9_1), (x10_1), (wrap64 (x26_1 + 1)), (by first | rfl | (simp; done) | (simp [*]; done)), (by first | rfl | (simp; done) | (simp [*]; done)), (by first | rfl | (simp; done) | (simp [*]; done)), H', ⟨by have := HK1.out; omega⟩, ⟨by (with_reducible repeat (first | apply Kd.R_alloc | apply Kd.R_drewN | apply Kd.R_drew)); exact Kd.R_mono HO_24.out (fun _ hk => trivial)⟩, ⟨by (with_reducible repeat (first | apply Kd.V_alloc | apply Kd.V_drewN | apply Kd.V_drew)); exact Kd.V_mono HO_182001.out (fun _ hk => ⟨hk.1.1, hk.1.2⟩)⟩, ⟨by (with_reducible repeat (first | refine blk_drewN ?_ _ | refine blk_drew ?_ | refine blk_alloc ?_ _)); exact BK181.out⟩, ⟨by repeat (first | (with_reducible first | exact HB.out | apply below_alloc | apply pw_below_drewN | apply below_drew1 | refine below_set ?_ GE181.out) | exact HB.out)⟩⟩
      ·rw [if_neg c14] at H
       exact absurd H (by simp)
     ·rw [if_neg c13] at H
      exact absurd H (by simp)
    ·rw [if_neg c12] at H
     have c12b0 : decide (x26_1 < (t182.length : Int)) = false := decide_eq_false c12
     clear c12
     by_cases c31 : x9_1 < 0
     ·rw [if_pos c31] at H
      have c31b0 : decide (x9_1 < 0) = true := decide_eq_true c31
      clear c31
      simp only [Option.some.injEq, Prod.mk.injEq] at H
      obtain ⟨rfl, rfl, rfl⟩ := H
      go_wp2
      go_ret3
      exact ⟨by first | rfl | (simp [errW_none, errW_some] <;> rfl) | (simp [*, errW_none, errW_some] <;> rfl), by repeat (first | (with_reducible first | exact HB.out | apply below_alloc | apply pw_below_drewN | apply below_drew1 | refine below_set ?_ GE181.out) | exact HB.out)⟩
     ·rw [if_neg c31] at H
      have c31b0 : decide (x9_1 < 0) = false := decide_eq_false c31
      clear c31
      simp only [Option.some.injEq, Prod.mk.injEq] at H
      obtain ⟨rfl, rfl, rfl⟩ := H
      go_wp2
      go_ret3
      exact ⟨by first | rfl | (simp [errW_none, errW_some] <;> rfl) | (simp [*, errW_none, errW_some] <;> rfl), by repeat (first | (with_reducible first | exact HB.out | apply below_alloc | apply pw_below_drewN | apply below_drew1 | refine below_set ?_ GE181.out) | exact HB.out)⟩
 ·rw [if_neg c4] at H
  have c4b0 : (t180 == 0) = false := beq_eq_false_iff_ne.mpr c4
  have c4b1 : (t180 != 0) = true := bne_iff_ne.mpr c4
  simp only [Option.some.injEq, Prod.mk.injEq] at H
  obtain ⟨rfl, rfl, rfl⟩ := H
  go_enter Try.func30, Try.ntmps30
  go_wp2_with (first | ((with_reducible refine gate_callee (f := 44) rfl ?_); refine goesL_ (some 17) rfl rfl Try.func44 (by kernel_rfl) rfl #[.int .i64 a0, .slice A1 l1.length c1] rfl (by (try simp only [List.map_toArray, List.map_cons, List.map_nil]); first | done | rfl | (simp only [List.length_drop, List.length_take]; rfl)) ?_; (with_reducible refine (fetch_read.calls k a0 (fun k_ => k_ < w.heap.size) _ _ l1 t176 t177 t180 _ ?side1 A3.out).mono ?_); (case side1 => exact Kd.V_mk HC1.out (Kd.F_below (Kd.C_F k34_heap HR1.out) (by repeat (first | (with_reducible first | exact HB.out | apply below_alloc | apply pw_below_drewN | apply below_drew1) | exact HB.out)))); rintro e w32 ⟨v178, rfl, ho0, hb⟩; refine ⟨_, rfl, ?_⟩; have n0_ := Aside0.mk (Kd.V_lower (Kd.V_mono (ok' := fun k_ => True) ho0 (fun k_ hk_ => trivial)) (below_size (by repeat (first | (with_reducible first | exact HB.out | apply below_alloc | apply pw_below_drewN | apply below_drew1) | exact HB.out)))); have n1_ := Aside0.mk (below_step (by repeat (first | (with_reducible first | exact HB.out | apply below_alloc | apply pw_below_drewN | apply below_drew1) | exact HB.out)) hb); clear HB; have HO179 := n0_; have HB := n1_; clear n0_ n1_; (try clear hb); (try clear hb2); (try clear hk); (try clear hi); (try clear ho0)) | ((with_reducible refine gate_dst (N := 7) rfl ?_); refine box_event ?hg (N := 7) ?hd (cs := #[.int .i64 0, .slice none 0 0]) (t := 58) ?hr ?_; (case hd => rfl); (case hg => rfl); (case hr => first | (go_simp; done) | (go_simp; rfl)); intro gb181 hg w33 hbox hb; have n0_ := Aside0.mk (Kd.V_below (Kd.V_elderB (by (with_reducible repeat (first | apply Kd.V_alloc | apply Kd.V_drewN | apply Kd.V_drew)); exact HO179.out) gb181 (Nat.le_of_eq hg.symm)) hb); have n1_ := Aside0.mk (below_step (by repeat (first | (with_reducible first | exact HB.out | apply below_alloc | apply pw_below_drewN | apply below_drew1) | exact HB.out)) hb); have n2_ := Aside0.mk (hbox); have n3_ := Aside0.mk ((by rw [hg]; exact (below_size (by repeat (first | (with_reducible first | exact HB.out | apply below_alloc | apply pw_below_drewN | apply below_drew1) | exact HB.out))) : w.heap.size ≤ gb181)); have n4_ := Aside0.mk ((by rw [hg]; exact (below_size (by repeat (first | (with_reducible first | exact HB.out | apply below_alloc | apply pw_below_drewN | apply below_drew1) | exact HB.out))) : w.heap.size ≤ gb181)); clear HO179; clear HB; have HO179 := n0_; have HB := n1_; have BK181 := n2_; have GW181 := n3_; have GE181 := n4_; clear n0_ n1_ n2_ n3_ n4_; clear hb hbox hg; have hcz34_0 : w33.cell? ⟨gb181, 0, none⟩ = some (.int .i64 0) := (blk_cell BK181.out 0).trans rfl; have hcz34_1 : w33.cell? ⟨gb181, 1, none⟩ = some (.slice none 0 0) := (blk_cell BK181.out 1).trans rfl; have hfz34_0 := blk_frozen BK181.out 0; have hfz34_1 := blk_frozen BK181.out 1; obtain ⟨Ao35, co35, eo35⟩ := Kd.V_slice HO179.out; subst eo35))
  go_ret3
  exact ⟨by first | rfl | (simp [errW_none, errW_some] <;> rfl) | (simp [*, errW_none, errW_some] <;> rfl), by repeat (first | (with_reducible first | exact HB.out | apply below_alloc | apply pw_below_drewN | apply below_drew1 | refine below_set ?_ GE181.out) | exact HB.out)⟩
def trishawlaw09_four.f  : Option ((List (S34))) := some (([(⟨0, 1⟩ : S34), (⟨0, 2⟩ : S34), (⟨1, 3⟩ : S34), (⟨2, 3⟩ : S34)] : List (S34)))
set_option maxHeartbeats 8000000 in
set_option maxRecDepth 100000 in
theorem trishawlaw09_four.calls  (r : List (S34)) (w : World) (h : trishawlaw09_four.f  = some r) :
  Calls Try.prog 43 #[] w fun e w' => ∃ v0_ : Value, e = .returned (v0_) ∧ Kd.R k34 34 w' w.heap.size (fun _ => True) v0_ r ∧ Below w.heap.size w w' := by
 have hu34 := Try.underlying34
 have HB := Aside0.mk (Below.refl w.heap.size w)
 have H : (some (([(⟨0, 1⟩ : S34), (⟨0, 2⟩ : S34), (⟨1, 3⟩ : S34), (⟨2, 3⟩ : S34)] : List (S34)))) = some r := h
 clear h
 obtain ⟨y190, hy190⟩ : ∃ y_ : List (S34), y_ = (([(⟨0, 1⟩ : S34), (⟨0, 2⟩ : S34), (⟨1, 3⟩ : S34), (⟨2, 3⟩ : S34)] : List (S34))) := ⟨_, rfl⟩
 replace H : (some y190) = some r := by first | (rw [hy190]; with_reducible exact H) | (have H2_ := (Option.bind_some _ _).symm.trans H; rw [hy190]; with_reducible exact H2_) | (have H2_ := (Option.bind_some _ _).symm.trans H; with_reducible exact H2_) | with_reducible exact H | (rw [hy190]; exact H) | exact H
 have Ny190 := Aside0.mk hy190
 clear hy190
 obtain rfl := Option.some.inj H
 go_enter Try.func43, Try.ntmps43
 go_wp2_with (first | ((with_reducible refine gate_dst (N := 5) rfl ?_); refine Kd.R_lit k34 _ 34 ?hg (N := 5) ?hd (xs := ([(⟨0, 1⟩ : S34), (⟨0, 2⟩ : S34), (⟨1, 3⟩ : S34), (⟨2, 3⟩ : S34)] : List (S34))) (inner := [.int .i64 0, .int .i64 1, .int .i64 0, .int .i64 2, .int .i64 1, .int .i64 3, .int .i64 2, .int .i64 3]) (ok := fun _ => True) (okp := fun _ => True) ?hr ?hp (fun _ hk => hk) trivial (Below.refl _ _) (Nat.le_refl _) (by simp) ?_; (case hd => rfl); (case hg => rfl); (case hr => first | (go_simp; done) | (go_simp; rfl)); (case hp => exact (Reps.c2 (show Kd.M k34 _ _ _ (⟨0, 1⟩ : S34) [.int .i64 0, .int .i64 1] from (k34_mkM _ _ _ (⟨0, 1⟩ : S34) )) (Reps.c2 (show Kd.M k34 _ _ _ (⟨0, 2⟩ : S34) [.int .i64 0, .int .i64 2] from (k34_mkM _ _ _ (⟨0, 2⟩ : S34) )) (Reps.c2 (show Kd.M k34 _ _ _ (⟨1, 3⟩ : S34) [.int .i64 1, .int .i64 3] from (k34_mkM _ _ _ (⟨1, 3⟩ : S34) )) (Reps.c2 (show Kd.M k34 _ _ _ (⟨2, 3⟩ : S34) [.int .i64 2, .int .i64 3] from (k34_mkM _ _ _ (⟨2, 3⟩ : S34) )) (Reps.none _ _)))))); intro v191 w1 ho2 hb hg_ hnew_; clear hg_ hnew_; (first | rw [← Ny190.out] at ho2 | (simp only [Int.reduceToNat] at ho2; rw [← Ny190.out] at ho2)); have n0_ := Aside0.mk (Kd.R_lower ho2 (below_size (by repeat (first | (with_reducible first | exact HB.out | apply below_alloc | apply pw_below_drewN | apply below_drew1) | exact HB.out)))); have n1_ := Aside0.mk (below_step (by repeat (first | (with_reducible first | exact HB.out | apply below_alloc | apply pw_below_drewN | apply below_drew1) | exact HB.out)) hb); clear HB; have HO192 := n0_; have HB := n1_; clear n0_ n1_; clear hb ho2))
 go_ret
 exact ⟨_, by first | rfl | (simp [errW_none, errW_some] <;> rfl) | (simp [*, errW_none, errW_some] <;> rfl), by (with_reducible repeat (first | apply Kd.R_alloc | apply Kd.R_drewN | apply Kd.R_drew)); exact HO192.out, by repeat (first | (with_reducible first | exact HB.out | apply below_alloc | apply pw_below_drewN | apply below_drew1) | exact HB.out)⟩
end Go.Proofs.Ytjbfbdanbpfplaa.OAll
