/- A part of the proof of 'topReach_holds', for every input, without a condition. -/
import Derived.Test.YtknecgmmpjggiaaDoorTReOAllx0
import Derived.Test.YtknecgmmpjggiaaDoorTReOAllx1
import Derived.Test.YtknecgmmpjggiaaDoorTReOAllx2
import Derived.Test.YtknecgmmpjggiaaDoorTReOAllx3
namespace Go.Proofs.YtknecgmmpjggiaaDoor.OAll
open Go.RowKit Go.Proofs.YtknecgmmpjggiaaDoorW.PrintWords Go.Proofs.YtknecgmmpjggiaaDoorW.PrintLast Go.Proofs.YtknecgmmpjggiaaDoorW.PrintMore
attribute [local go_sem] max2_int min2_int max_two min_two max_three min_three max_four min_four
set_option linter.unusedVariables false
set_option linter.unusedSimpArgs false
theorem fetch_has_c (set c : Int) (Bs : Nat) (w : World) (hs : w.cell? ⟨Bs, 0, none⟩ = some (.int .i64 set)) :
  Calls Tryd.prog 52 #[.int .i64 c, .pointer (some ⟨Bs, 0, none⟩)] w fun e w' => e = .returned (.bool (Go.bits .and .i64 c set == 0)) ∧ w = w' := by
 go_enter Tryd.func52, Tryd.ntmps52
 go_wp2
 go_ret
 exact ⟨rfl, rfl⟩
def firstAt (p : Int → Bool) : List Int → Int → Int
 | [], _ => -1
 | x :: xs, i => if p x then i else firstAt p xs (i + 1)
theorem firstAt_drop (p : Int → Bool) (xs : List Int) (k : Nat) (hk : k < xs.length) : firstAt p (xs.drop k) k = if p (rd xs k) then (k : Int) else firstAt p (xs.drop (k + 1)) (k + 1 : Nat) := by
 rw [List.drop_eq_getElem_cons hk, firstAt]
 simp [rd, List.getD_eq_getElem?_getD, List.getElem?_eq_getElem hk]
theorem fetch_has_i (set : Int) (Bs : Nat) (A : Option Addr) (n : Nat) (xs : List Int) (w : World) (hr : Kd.C (Kd.int .i64) w A xs.length xs) (hn : xs.length ≤ 9223372036854775807) (hs : w.cell? ⟨Bs, 0, none⟩ = some (.int .i64 set)) :
  Calls Tryd.prog 49 #[.slice A xs.length n, .func (.func 52) #[] #[.pointer (some ⟨Bs, 0, none⟩)]] w fun e w' => e = .returned (.int .i64 (firstAt (fun c => Go.bits .and .i64 c set == 0) xs 0)) ∧ w = w' := by
 have HR := Aside0.mk hr
 clear hr
 go_enter Tryd.func49, Tryd.ntmps49
 go_wp2
 go_loop [8] (fun v8 => ∃ k : Nat, v8 = .int .i64 (k : Int) ∧ k ≤ xs.length ∧ Aside0 (firstAt (fun c => Go.bits .and .i64 c set == 0) xs 0 = firstAt (fun c => Go.bits .and .i64 c set == 0) (xs.drop k) k)) (fun v8 => xs.length - (intOf v8).toNat)
 case atStart => exact ⟨0, rfl, Nat.zero_le _, ⟨rfl⟩⟩
 case round =>
  obtain ⟨k, rfl, hk, HX⟩ := hrel
  by_cases hlt : k < xs.length
  ·have hf := firstAt_drop (fun c => Go.bits .and .i64 c set == 0) xs k hlt
   rw [← HX.out] at hf
   have HF := Aside0.mk hf
   clear hf HX
   obtain ⟨ad, e1, hx⟩ := Kd.at_int HR.out (k : Int) (by omega) (by omega)
   cases e1
   rw [Int.toNat_natCast] at hx
   cases hb : (Go.bits .and .i64 (rd xs k) set == 0)
   ·rw [hb, if_neg (by simp)] at HF
    go_wp2_with (go_at_call 52; refine (fetch_has_c set _ Bs _ hs).mono ?_; rintro e w' ⟨rfl, rfl⟩)
    go_round
    case rel => exact ⟨k + 1, by go_num, by omega, HF⟩
    case measure => simp [intOf]; omega
   ·rw [hb, if_pos rfl] at HF
    go_wp2_with (go_at_call 52; refine (fetch_has_c set _ Bs _ hs).mono ?_; rintro e w' ⟨rfl, rfl⟩)
    go_ret
    exact ⟨by rw [HF.out]; rfl, rfl⟩
  ·have hke : k = xs.length := by omega
   have HE := Aside0.mk hke
   clear hke
   go_wp2
   go_ret
   exact ⟨by rw [HX.out, HE.out]; simp [firstAt], rfl⟩
theorem firstAt_neg (p : Int → Bool) : ∀ (xs : List Int) (i : Int), 0 ≤ i → decide (0 ≤ firstAt p xs i) = xs.any p
 | [], i, h => by simp [firstAt]
 | x :: xs, i, h => by
  rw [firstAt, List.any_cons]
  cases hp : p x
  ·simp only [Bool.false_eq_true, if_false, Bool.false_or]
   exact firstAt_neg p xs (i + 1) (by omega)
  ·simp [h]
theorem fetch_has_a (set : Int) (Bs : Nat) (A : Option Addr) (n : Nat) (xs : List Int) (w : World) (hr : Kd.C (Kd.int .i64) w A xs.length xs) (hn : xs.length ≤ 9223372036854775807) (hs : w.cell? ⟨Bs, 0, none⟩ = some (.int .i64 set)) :
  Calls Tryd.prog 33 #[.slice A xs.length n, .func (.func 52) #[] #[.pointer (some ⟨Bs, 0, none⟩)]] w fun e w' => e = .returned (.bool (xs.any fun c => Go.bits .and .i64 c set == 0)) ∧ w = w' := by
 go_enter Tryd.func33, Tryd.ntmps33
 go_wp2_with (go_at_call 49; refine (fetch_has_i set Bs _ _ xs _ hr hn hs).mono ?_; rintro e w' ⟨rfl, rfl⟩)
 go_ret
 exact ⟨by rw [← firstAt_neg _ _ _ (Int.le_refl 0)]; rfl, rfl⟩
def fetch_tell.f (k : Nat) (all : List Int) (set : Int) (found : Bool) (best : List Int) (many : Int) : Option (Bool × List Int × Int) :=
 if all.any (fun c => Go.bits .and .i64 c set == 0) = true then some (found, best, many) else
  (fetch_list.f k set).bind fun l => if found = false then some (true, l, 1) else if (l.length : Int) < (best.length : Int) then some (true, l, 1) else
   if (l.length : Int) = (best.length : Int) then (slices_Compare_int_int.f k l best).bind fun c => if c < 0 then some (found, l, wrap64 (many + 1)) else some (found, best, wrap64 (many + 1)) else some (found, best, many)
structure TellS (NA : Nat) (w : World) (all : List Int) (found : Bool) (best : List Int) (many : Int) : Prop where
 ba : ∃ A c, w.heap[NA]? = some (.cells #[.slice A all.length c] 35 (0, 0)) ∧ Kd.R (Kd.int .i64) 3 w 0 (fun k => k < NA) (.slice A all.length c) all
 bb : ∃ v, w.heap[NA + 1]? = some (.cells #[v] 35 (0, 0)) ∧ Kd.R (Kd.int .i64) 3 w (NA + 4) (fun _ => True) v best
 bm : w.heap[NA + 2]? = some (.cells #[.int .i64 many] 3 (0, 0))
 bf : w.heap[NA + 3]? = some (.cells #[.bool found] 4 (0, 0))
theorem TellS.below {NA : Nat} {w w1 : World} {all : List Int} {found : Bool} {best : List Int} {many : Int} (h : TellS NA w all found best many) (hb : Below w.heap.size w w1) : TellS NA w1 all found best many := by
 obtain ⟨⟨A, c, h1, h2⟩, ⟨v, h3, h4⟩, h5, h6⟩ := h
 exact ⟨⟨A, c, blk_below h1 hb, Kd.R_below h2 hb⟩, ⟨v, blk_below h3 hb, Kd.R_below h4 hb⟩, blk_below h5 hb, blk_below h6 hb⟩
theorem TellS.put_best {NA : Nat} {w : World} {all : List Int} {found : Bool} {best : List Int} {many : Int} (h : TellS NA w all found best many) {v : Value} {l : List Int} (hv : Kd.R (Kd.int .i64) 3 w (NA + 4) (fun _ => True) v l) : TellS NA (w.setCell ⟨NA + 1, 0, none⟩ v) all found l many := by
 obtain ⟨⟨A, c, h1, h2⟩, ⟨v0, h3, h4⟩, h5, h6⟩ := h
 refine ⟨⟨A, c, blk_far h1 (by simp) _, Kd.R_far h2 (fun k hk => by show k ≠ NA + 1; omega) _⟩, ⟨v, blk_put h3 0 v rfl, ?_⟩, blk_far h5 (by simp) _, blk_far h6 (by simp) _⟩
 exact Kd.R_mono (Kd.R_far (Kd.R_bound hv) (fun k hk => by show k ≠ NA + 1; have := hk.2.1; omega) _) (fun _ _ => trivial)
theorem TellS.put_many {NA : Nat} {w : World} {all : List Int} {found : Bool} {best : List Int} {many : Int} (h : TellS NA w all found best many) (m : Int) : TellS NA (w.setCell ⟨NA + 2, 0, none⟩ (.int .i64 m)) all found best m := by
 obtain ⟨⟨A, c, h1, h2⟩, ⟨v0, h3, h4⟩, h5, h6⟩ := h
 refine ⟨⟨A, c, blk_far h1 (by simp) _, Kd.R_far h2 (fun k hk => by show k ≠ NA + 2; omega) _⟩, ⟨v0, blk_far h3 (by simp) _, ?_⟩, blk_put h5 0 _ rfl, blk_far h6 (by simp) _⟩
 exact Kd.R_mono (Kd.R_far (Kd.R_bound h4) (fun k hk => by show k ≠ NA + 2; have := hk.2.1; omega) _) (fun _ _ => trivial)
theorem TellS.put_found {NA : Nat} {w : World} {all : List Int} {found : Bool} {best : List Int} {many : Int} (h : TellS NA w all found best many) (f : Bool) : TellS NA (w.setCell ⟨NA + 3, 0, none⟩ (.bool f)) all f best many := by
 obtain ⟨⟨A, c, h1, h2⟩, ⟨v0, h3, h4⟩, h5, h6⟩ := h
 refine ⟨⟨A, c, blk_far h1 (by simp) _, Kd.R_far h2 (fun k hk => by show k ≠ NA + 3; omega) _⟩, ⟨v0, blk_far h3 (by simp) _, ?_⟩, blk_far h5 (by simp) _, blk_put h6 0 _ rfl⟩
 exact Kd.R_mono (Kd.R_far (Kd.R_bound h4) (fun k hk => by show k ≠ NA + 3; have := hk.2.1; omega) _) (fun _ _ => trivial)
theorem R_past {w : World} {N : Nat} {v : Value} {l : List Int} (h : Kd.R (Kd.int .i64) 3 w N (fun _ => True) v l) (j : Nat) (hj : j < N) (u : Value) : Kd.R (Kd.int .i64) 3 (w.setCell ⟨j, 0, none⟩ u) N (fun _ => True) v l :=
 Kd.R_mono (Kd.R_far (Kd.R_bound h) (fun k hk => by show k ≠ j; have := hk.2.1; omega) _) (fun _ _ => trivial)
theorem TellS.size {NA : Nat} {w : World} {all : List Int} {found : Bool} {best : List Int} {many : Int} (h : TellS NA w all found best many) : NA + 4 ≤ w.heap.size := blk_lt h.bf
theorem fetch_tell.calls (k NA : Nat) (all : List Int) (set : Int) (found : Bool) (best : List Int) (many : Int) (f2 : Bool) (b2 : List Int) (m2 : Int) (w : World) (hT : TellS NA w all found best many) (hn : all.length ≤ 9223372036854775807)
  (h : fetch_tell.f k all set found best many = some (f2, b2, m2)) :
  Calls Tryd.prog 51 #[.int .i64 set, .pointer (some ⟨NA, 0, none⟩), .pointer (some ⟨NA + 3, 0, none⟩), .pointer (some ⟨NA + 1, 0, none⟩), .pointer (some ⟨NA + 2, 0, none⟩)] w fun e w' => e = .returned (.tuple #[]) ∧ TellS NA w' all f2 b2 m2 ∧ Below NA w w' := by
 have hmf : ∀ (fn : Fn) (first cap : Array Value) (w : World), (Instr.makeFunc fn first cap).run Tryd.prog w = .ok (.func fn first cap) w := fun _ _ _ _ => rfl
 have hz := hT.size
 have hB0 : Below w.heap.size w (w.alloc (.cells #[.int .i64 set] 3)) := below_alloc (Below.refl _ _) _
 have hT0 := hT.below hB0
 have hs0 : (w.alloc (.cells #[.int .i64 set] 3)).cell? ⟨w.heap.size, 0, none⟩ = some (.int .i64 set) := (blk_cell (blk_new w (.cells #[.int .i64 set] 3)) 0).trans rfl
 obtain ⟨⟨A, c, h1, h2⟩, ⟨v0, h3, h4⟩, h5, h6⟩ := hT0
 have c1 : (w.alloc (.cells #[.int .i64 set] 3)).cell? ⟨NA, 0, none⟩ = some (.slice A all.length c) := (blk_cell h1 0).trans rfl
 have R1 := Aside0.mk (Kd.R_reads' h2).2.2
 unfold fetch_tell.f at h
 by_cases hany : all.any (fun c => Go.bits .and .i64 c set == 0) = true
 ·rw [if_pos hany] at h
  simp only [Option.some.injEq, Prod.mk.injEq] at h
  obtain ⟨rfl, rfl, rfl⟩ := h
  have HT := Aside0.mk (hT.below hB0)
  clear h2 h4 h1 h3 h5 h6 hT
  go_enter Tryd.func51, Tryd.ntmps51
  go_wp2_with (go_at_call 33; refine (fetch_has_a set w.heap.size _ _ all _ R1.out hn hs0).mono ?_; rw [hany]; rintro e w' ⟨rfl, rfl⟩)
  refine bodyPost_ret (results_none rfl _ _ _) rfl ?_
  exact ⟨rfl, HT.out, hB0.mono (by omega)⟩
 ·rw [if_neg hany] at h
  obtain ⟨l, hl, h⟩ := Option.bind_eq_some_iff.mp h
  have hany' : all.any (fun c => Go.bits .and .i64 c set == 0) = false := by simpa using hany
  have HT := Aside0.mk (hT.below hB0)
  have HL := Aside0.mk hl
  clear h2 h4 h1 h3 h5 h6 hT hany hl
  cases found
  ·rw [if_pos rfl] at h
   simp only [Option.some.injEq, Prod.mk.injEq] at h
   obtain ⟨rfl, rfl, rfl⟩ := h
   clear h
   go_enter Tryd.func51, Tryd.ntmps51
   go_wp2_with (go_at_call 33; refine (fetch_has_a set w.heap.size _ _ all _ R1.out hn hs0).mono ?_; rw [hany']; rintro e w' ⟨rfl, rfl⟩)
   refine (fetch_list.calls k set l _ HL.out).mono ?_
   rintro e w1 ⟨v1, rfl, ho, hb⟩
   have hT1 := HT.out.below hb
   obtain ⟨A2, d2, rfl⟩ := Kd.R_slice ho
   have HO := Aside0.mk (Kd.R_lower ho (show NA + 4 ≤ (w.alloc (.cells #[.int .i64 set] 3)).heap.size by simp; omega))
   have HT1 := Aside0.mk hT1
   have hB1 := Aside0.mk ((below_then hB0 hB0.size hb).mono (show NA ≤ w.heap.size by omega))
   obtain ⟨_, ⟨v3, k3, k4⟩, k5, k6⟩ := hT1
   obtain ⟨A3, d3, rfl⟩ := Kd.R_slice k4
   have H4 := Aside0.mk k4
   have e1 : w1.cell? ⟨NA + 1, 0, none⟩ = some (.slice A3 best.length d3) := (blk_cell k3 0).trans rfl
   have e2 : w1.cell? ⟨NA + 2, 0, none⟩ = some (.int .i64 many) := (blk_cell k5 0).trans rfl
   have e3 : w1.cell? ⟨NA + 3, 0, none⟩ = some (.bool false) := (blk_cell k6 0).trans rfl
   have g1 := blk_frozen k3 0
   have g2 := blk_frozen k5 0
   have g3 := blk_frozen k6 0
   clear ho k3 k4 k5 k6
   go_wp2
   first | go_end0 | ((try simp only [Exit.inBlock, Exit.then]); refine bodyPost_ret (results_none rfl _ _ _) rfl ?_)
   exact ⟨rfl, ((HT1.out.put_best HO.out).put_many 1).put_found true, ((hB1.out.setCell (by simp) _).setCell (by simp) _).setCell (by simp) _⟩
  ·rw [if_neg (by simp)] at h
   by_cases hlt : (l.length : Int) < (best.length : Int)
   ·rw [if_pos hlt] at h
    simp only [Option.some.injEq, Prod.mk.injEq] at h
    obtain ⟨rfl, rfl, rfl⟩ := h
    have b1 : decide ((l.length : Int) < (best.length : Int)) = true := decide_eq_true hlt
    have b2 : decide (l.length < best.length) = true := decide_eq_true (by omega)
    clear h hlt
    go_enter Tryd.func51, Tryd.ntmps51
    go_wp2_with (go_at_call 33; refine (fetch_has_a set w.heap.size _ _ all _ R1.out hn hs0).mono ?_; rw [hany']; rintro e w' ⟨rfl, rfl⟩)
    refine (fetch_list.calls k set l _ HL.out).mono ?_
    rintro e w1 ⟨v1, rfl, ho, hb⟩
    have hT1 := HT.out.below hb
    obtain ⟨A2, d2, rfl⟩ := Kd.R_slice ho
    have HO := Aside0.mk (Kd.R_lower ho (show NA + 4 ≤ (w.alloc (.cells #[.int .i64 set] 3)).heap.size by simp; omega))
    have HT1 := Aside0.mk hT1
    have hB1 := Aside0.mk ((below_then hB0 hB0.size hb).mono (show NA ≤ w.heap.size by omega))
    obtain ⟨_, ⟨v3, k3, k4⟩, k5, k6⟩ := hT1
    obtain ⟨A3, d3, rfl⟩ := Kd.R_slice k4
    have H4 := Aside0.mk k4
    have e1 : w1.cell? ⟨NA + 1, 0, none⟩ = some (.slice A3 best.length d3) := (blk_cell k3 0).trans rfl
    have e2 : w1.cell? ⟨NA + 2, 0, none⟩ = some (.int .i64 many) := (blk_cell k5 0).trans rfl
    have e3 : w1.cell? ⟨NA + 3, 0, none⟩ = some (.bool true) := (blk_cell k6 0).trans rfl
    have g1 := blk_frozen k3 0
    have g2 := blk_frozen k5 0
    have g3 := blk_frozen k6 0
    clear ho k3 k4 k5 k6
    go_wp2
    first | go_end0 | ((try simp only [Exit.inBlock, Exit.then]); refine bodyPost_ret (results_none rfl _ _ _) rfl ?_)
    exact ⟨rfl, ((HT1.out.put_best HO.out).put_many 1).put_found true, ((hB1.out.setCell (by simp) _).setCell (by simp) _).setCell (by simp) _⟩
   ·rw [if_neg hlt] at h
    have b1 : decide ((l.length : Int) < (best.length : Int)) = false := decide_eq_false hlt
    have b2 : decide (l.length < best.length) = false := decide_eq_false (by omega)
    by_cases heq : (l.length : Int) = (best.length : Int)
    ·rw [if_pos heq] at h
     obtain ⟨c2, hc, h⟩ := Option.bind_eq_some_iff.mp h
     have HC := Aside0.mk hc
     have b3 : ((l.length : Int) == (best.length : Int)) = true := by simpa using heq
     have b4 : (l.length == best.length) = true := by rw [beq_iff_eq]; omega
     clear hc hlt heq
     by_cases hc0 : c2 < 0
     ·rw [if_pos hc0] at h
      simp only [Option.some.injEq, Prod.mk.injEq] at h
      obtain ⟨rfl, rfl, rfl⟩ := h
      have b5 : decide (c2 < 0) = true := decide_eq_true hc0
      clear h hc0
      go_enter Tryd.func51, Tryd.ntmps51
      go_wp2_with (go_at_call 33; refine (fetch_has_a set w.heap.size _ _ all _ R1.out hn hs0).mono ?_; rw [hany']; rintro e w' ⟨rfl, rfl⟩)
      refine (fetch_list.calls k set l _ HL.out).mono ?_
      rintro e w1 ⟨v1, rfl, ho, hb⟩
      have hT1 := HT.out.below hb
      obtain ⟨A2, d2, rfl⟩ := Kd.R_slice ho
      have HO := Aside0.mk (Kd.R_lower ho (show NA + 4 ≤ (w.alloc (.cells #[.int .i64 set] 3)).heap.size by simp; omega))
      have HT1 := Aside0.mk hT1
      have hB1 := Aside0.mk ((below_then hB0 hB0.size hb).mono (show NA ≤ w.heap.size by omega))
      obtain ⟨_, ⟨v3, k3, k4⟩, k5, k6⟩ := hT1
      obtain ⟨A3, d3, rfl⟩ := Kd.R_slice k4
      have H4 := Aside0.mk k4
      have e1 : w1.cell? ⟨NA + 1, 0, none⟩ = some (.slice A3 best.length d3) := (blk_cell k3 0).trans rfl
      have e2 : w1.cell? ⟨NA + 2, 0, none⟩ = some (.int .i64 many) := (blk_cell k5 0).trans rfl
      have e3 : w1.cell? ⟨NA + 3, 0, none⟩ = some (.bool true) := (blk_cell k6 0).trans rfl
      have g1 := blk_frozen k3 0
      have g2 := blk_frozen k5 0
      have g3 := blk_frozen k6 0
      clear ho k3 k4 k5 k6
      have O2 := Aside0.mk (R_past HO.out (NA + 2) (by omega) (.int .i64 (wrap64 (many + 1))))
      have O4 := Aside0.mk (R_past H4.out (NA + 2) (by omega) (.int .i64 (wrap64 (many + 1))))
      go_wp2_with (go_at_call 54; refine (slices_Compare_int_int.calls k A2 d2 l A3 d3 best c2 _ (Kd.R_reads' O2.out).2.2 (Kd.R_reads' O2.out).2.1 (Kd.R_reads' O4.out).2.2 (Kd.R_reads' O4.out).2.1 HC.out).mono ?_; rintro e w2 ⟨rfl, ⟨nq, rfl⟩⟩)
      first | go_end0 | ((try simp only [Exit.inBlock, Exit.then]); refine bodyPost_ret (results_none rfl _ _ _) rfl ?_)
      exact ⟨rfl, (((HT1.out.put_many (wrap64 (many + 1))).below (pw_below_drewN (Below.refl _ _) nq)).put_best (Kd.R_drewN O2.out nq)), (pw_below_drewN (hB1.out.setCell (by simp) _) nq).setCell (by simp) _⟩
     ·rw [if_neg hc0] at h
      simp only [Option.some.injEq, Prod.mk.injEq] at h
      obtain ⟨rfl, rfl, rfl⟩ := h
      have b5 : decide (c2 < 0) = false := decide_eq_false hc0
      clear h hc0
      go_enter Tryd.func51, Tryd.ntmps51
      go_wp2_with (go_at_call 33; refine (fetch_has_a set w.heap.size _ _ all _ R1.out hn hs0).mono ?_; rw [hany']; rintro e w' ⟨rfl, rfl⟩)
      refine (fetch_list.calls k set l _ HL.out).mono ?_
      rintro e w1 ⟨v1, rfl, ho, hb⟩
      have hT1 := HT.out.below hb
      obtain ⟨A2, d2, rfl⟩ := Kd.R_slice ho
      have HO := Aside0.mk (Kd.R_lower ho (show NA + 4 ≤ (w.alloc (.cells #[.int .i64 set] 3)).heap.size by simp; omega))
      have HT1 := Aside0.mk hT1
      have hB1 := Aside0.mk ((below_then hB0 hB0.size hb).mono (show NA ≤ w.heap.size by omega))
      obtain ⟨_, ⟨v3, k3, k4⟩, k5, k6⟩ := hT1
      obtain ⟨A3, d3, rfl⟩ := Kd.R_slice k4
      have H4 := Aside0.mk k4
      have e1 : w1.cell? ⟨NA + 1, 0, none⟩ = some (.slice A3 best.length d3) := (blk_cell k3 0).trans rfl
      have e2 : w1.cell? ⟨NA + 2, 0, none⟩ = some (.int .i64 many) := (blk_cell k5 0).trans rfl
      have e3 : w1.cell? ⟨NA + 3, 0, none⟩ = some (.bool true) := (blk_cell k6 0).trans rfl
      have g1 := blk_frozen k3 0
      have g2 := blk_frozen k5 0
      have g3 := blk_frozen k6 0
      clear ho k3 k4 k5 k6
      have O2 := Aside0.mk (R_past HO.out (NA + 2) (by omega) (.int .i64 (wrap64 (many + 1))))
      have O4 := Aside0.mk (R_past H4.out (NA + 2) (by omega) (.int .i64 (wrap64 (many + 1))))
      go_wp2_with (go_at_call 54; refine (slices_Compare_int_int.calls k A2 d2 l A3 d3 best c2 _ (Kd.R_reads' O2.out).2.2 (Kd.R_reads' O2.out).2.1 (Kd.R_reads' O4.out).2.2 (Kd.R_reads' O4.out).2.1 HC.out).mono ?_; rintro e w2 ⟨rfl, ⟨nq, rfl⟩⟩)
      first | go_end0 | ((try simp only [Exit.inBlock, Exit.then]); refine bodyPost_ret (results_none rfl _ _ _) rfl ?_)
      exact ⟨rfl, ((HT1.out.put_many (wrap64 (many + 1))).below (pw_below_drewN (Below.refl _ _) nq)), pw_below_drewN (hB1.out.setCell (by simp) _) nq⟩
    ·rw [if_neg heq] at h
     simp only [Option.some.injEq, Prod.mk.injEq] at h
     obtain ⟨rfl, rfl, rfl⟩ := h
     have b3 : ((l.length : Int) == (best.length : Int)) = false := by rw [beq_eq_false_iff_ne]; exact heq
     have b4 : (l.length == best.length) = false := by rw [beq_eq_false_iff_ne]; omega
     clear h hlt heq
     go_enter Tryd.func51, Tryd.ntmps51
     go_wp2_with (go_at_call 33; refine (fetch_has_a set w.heap.size _ _ all _ R1.out hn hs0).mono ?_; rw [hany']; rintro e w' ⟨rfl, rfl⟩)
     refine (fetch_list.calls k set l _ HL.out).mono ?_
     rintro e w1 ⟨v1, rfl, ho, hb⟩
     have hT1 := HT.out.below hb
     obtain ⟨A2, d2, rfl⟩ := Kd.R_slice ho
     have HO := Aside0.mk (Kd.R_lower ho (show NA + 4 ≤ (w.alloc (.cells #[.int .i64 set] 3)).heap.size by simp; omega))
     have HT1 := Aside0.mk hT1
     have hB1 := Aside0.mk ((below_then hB0 hB0.size hb).mono (show NA ≤ w.heap.size by omega))
     obtain ⟨_, ⟨v3, k3, k4⟩, k5, k6⟩ := hT1
     obtain ⟨A3, d3, rfl⟩ := Kd.R_slice k4
     have H4 := Aside0.mk k4
     have e1 : w1.cell? ⟨NA + 1, 0, none⟩ = some (.slice A3 best.length d3) := (blk_cell k3 0).trans rfl
     have e2 : w1.cell? ⟨NA + 2, 0, none⟩ = some (.int .i64 many) := (blk_cell k5 0).trans rfl
     have e3 : w1.cell? ⟨NA + 3, 0, none⟩ = some (.bool true) := (blk_cell k6 0).trans rfl
     have g1 := blk_frozen k3 0
     have g2 := blk_frozen k5 0
     have g3 := blk_frozen k6 0
     clear ho k3 k4 k5 k6
     go_wp2
     first | go_end0 | ((try simp only [Exit.inBlock, Exit.then]); refine bodyPost_ret (results_none rfl _ _ _) rfl ?_)
     exact ⟨rfl, HT1.out, hB1.out⟩
def fetch_quarter_fewest.l1 : Nat → List Int → Int → Int → Bool → List Int → Int → Option (List Int × Int)
 | 0, _, _, _, _, _, _ => none
 | k + 1, all, lim, set, found, best, many => if set < lim then (fetch_tell.f k all set found best many).bind fun t => fetch_quarter_fewest.l1 k all lim (wrap64 (set + 1)) t.1 t.2.1 t.2.2 else some (best, many)
def fetch_quarter_fewest.l0 : Nat → Int → List S30 → List Int → List Int → Int → Option (List Int × Int)
 | 0, _, _, _, _, _ => none
 | k + 1, n, streets, cuts, all, i => if i < (cuts.length : Int) then (if 0 ≤ i then ((fetch_quarter_crossing.f k n streets (rd cuts i)).bind fun t => if all.length < 17592186044416 then fetch_quarter_fewest.l0 k n streets cuts (all ++ [t]) (wrap64 (i + 1)) else none) else none) else fetch_quarter_fewest.l1 k all (wrap64 (2 ^ min streets.length 64)) 0 false [] 0
def fetch_quarter_fewest.f (k : Nat) (n : Int) (streets : List S30) : Option (List Int × Int) := (fetch_quarter_cuts.f k n streets).bind fun cuts => fetch_quarter_fewest.l0 k n streets cuts [] 0
theorem TellS.start (w : World) (A : Option Addr) (c : Nat) (all : List Int) (ha : Kd.R (Kd.int .i64) 3 w 0 (fun k => k < w.heap.size) (.slice A all.length c) all) :
  TellS w.heap.size ((((w.alloc (.cells #[.slice A all.length c] 35)).alloc (.cells #[.slice none 0 0] 35)).alloc (.cells #[.int .i64 0] 3)).alloc (.cells #[.bool false] 4)) all false [] 0 := by
 have h1 := blk_new w (.cells #[.slice A all.length c] 35)
 have h2 := blk_new (w.alloc (.cells #[.slice A all.length c] 35)) (.cells #[.slice none 0 0] 35)
 have h3 := blk_new ((w.alloc (.cells #[.slice A all.length c] 35)).alloc (.cells #[.slice none 0 0] 35)) (.cells #[.int .i64 0] 3)
 have h4 := blk_new (((w.alloc (.cells #[.slice A all.length c] 35)).alloc (.cells #[.slice none 0 0] 35)).alloc (.cells #[.int .i64 0] 3)) (.cells #[.bool false] 4)
 simp only [World.size_alloc] at h2 h3 h4
 exact ⟨⟨A, c, blk_alloc (blk_alloc (blk_alloc h1 _) _) _, Kd.R_alloc (Kd.R_alloc (Kd.R_alloc (Kd.R_alloc ha _) _) _) _⟩, ⟨_, blk_alloc (blk_alloc h2 _) _, Kd.R_nil _ _ _ _ _⟩, blk_alloc h3 _, h4⟩
theorem fetch_finder.calls (A : Option Addr) (c : Nat) (all : List Int) (w : World) (ha : Kd.R (Kd.int .i64) 3 w 0 (fun _ => True) (.slice A all.length c) all) :
  Calls Tryd.prog 39 #[.slice A all.length c] w fun e w' => e = .returned (.tuple #[.func (.func 51) #[] #[.pointer (some ⟨w.heap.size, 0, none⟩), .pointer (some ⟨w.heap.size + 3, 0, none⟩), .pointer (some ⟨w.heap.size + 1, 0, none⟩), .pointer (some ⟨w.heap.size + 2, 0, none⟩)], .func (.func 55) #[] #[.pointer (some ⟨w.heap.size + 1, 0, none⟩), .pointer (some ⟨w.heap.size + 2, 0, none⟩)]]) ∧ TellS w.heap.size w' all false [] 0 ∧ Below w.heap.size w w' := by
 have hmf : ∀ (fn : Fn) (first cap : Array Value) (w : World), (Instr.makeFunc fn first cap).run Tryd.prog w = .ok (.func fn first cap) w := fun _ _ _ _ => rfl
 have HA := Aside0.mk (Kd.R_mono (Kd.R_bound ha) (ok' := fun k => k < w.heap.size) (fun k hk => hk.2.2.1))
 clear ha
 go_enter Tryd.func39, Tryd.ntmps39
 go_wp2
 go_ret2
 exact ⟨rfl, TellS.start w A c all HA.out, below_alloc (below_alloc (below_alloc (below_alloc (Below.refl _ _) _) _) _) _⟩
set_option maxHeartbeats 1000000 in
theorem fetch_quarter_fewest.calls (k : Nat) (a0_0 : Int) (A0_1 : Option Addr) (c0_1 : Nat) (l0_1 : List (S30)) (r1 : List Int) (r2 : Int) (w : World) (hr0_1 : Kd.C k30 w A0_1 l0_1.length l0_1) (hc0_1 : l0_1.length ≤ c0_1) (h : fetch_quarter_fewest.f k a0_0 l0_1 = some (r1, r2)) :
  Calls Tryd.prog 25 #[.agg #[.int .i64 a0_0, .slice A0_1 l0_1.length c0_1]] w fun e w' => ∃ v0_ : Value, e = .returned (.tuple #[v0_, .int .i64 r2]) ∧ Kd.R (Kd.int .i64) 3 w' w.heap.size (fun _ => True) v0_ r1 ∧ Below w.heap.size w w' := by
 have hmf : ∀ (fn : Fn) (first cap : Array Value) (w : World), (Instr.makeFunc fn first cap).run Tryd.prog w = .ok (.func fn first cap) w := fun _ _ _ _ => rfl
 have hu58 := Tryd.underlying63
 have HR := Aside0.mk hr0_1
 have HC := Aside0.mk hc0_1
 clear hr0_1 hc0_1
 obtain ⟨cuts, hcu, h⟩ := Option.bind_eq_some_iff.mp h
 have HCU := Aside0.mk hcu
 have H' := Aside0.mk h
 clear hcu h
 have hB0 := Aside0.mk (below_alloc (Below.refl w.heap.size w) (.cells #[.int .i64 a0_0, .slice A0_1 l0_1.length c0_1] 63))
 have hx0 : (w.alloc (.cells #[.int .i64 a0_0, .slice A0_1 l0_1.length c0_1] 63)).cell? ⟨w.heap.size, 0, none⟩ = some (.int .i64 a0_0) := (blk_cell (blk_new w (.cells #[.int .i64 a0_0, .slice A0_1 l0_1.length c0_1] 63)) 0).trans rfl
 have hx1 : (w.alloc (.cells #[.int .i64 a0_0, .slice A0_1 l0_1.length c0_1] 63)).cell? ⟨w.heap.size, 1, none⟩ = some (.slice A0_1 l0_1.length c0_1) := (blk_cell (blk_new w (.cells #[.int .i64 a0_0, .slice A0_1 l0_1.length c0_1] 63)) 1).trans rfl
 go_enter Tryd.func25, Tryd.ntmps25
 go_wp2_with fail
 refine (fetch_quarter_cuts.calls k a0_0 A0_1 c0_1 l0_1 cuts _ (Kd.C_below HR.out hB0.out) HC.out HCU.out).mono ?_
 rintro e w1 ⟨v1, rfl, ho, hb⟩
 obtain ⟨A2, d2, rfl⟩ := Kd.R_slice ho
 have HO := Aside0.mk (Kd.R_lower ho hB0.out.size)
 have HB := Aside0.mk (below_then hB0.out hB0.out.size hb)
 have BK := Aside0.mk (blk_below (blk_new w (.cells #[.int .i64 a0_0, .slice A0_1 l0_1.length c0_1] 63)) hb)
 clear ho hb hx0 hx1
 go_wp2_with fail
 go_loopg [4, 13] k (fun kq v4 v13 w' => ∃ (x4 : List Int) (x13 : Int), v13 = .int .i64 x13 ∧ Aside0 (fetch_quarter_fewest.l0 kq a0_0 l0_1 cuts x4 x13 = some (r1, r2)) ∧ Aside0 (kq ≤ k) ∧ Aside0 (Kd.R (Kd.int .i64) 3 w' w.heap.size (fun _ => True) v4 x4) ∧ Aside0 (Kd.R (Kd.int .i64) 3 w' w.heap.size (fun k_ => some k_ ≠ v4.ownBlock) (.slice A2 cuts.length d2) cuts) ∧ Aside0 (w'.heap[w.heap.size]? = some (.cells #[.int .i64 a0_0, (.slice A0_1 l0_1.length c0_1)] 63 (0, 0))) ∧ Aside0 (Below w.heap.size w w'))
 case atStart => exact ⟨[], 0, rfl, H', ⟨Nat.le_refl _⟩, ⟨Kd.R_nil _ _ _ _ _⟩, ⟨Kd.R_mono HO.out (fun _ _ => by simp [Value.ownBlock])⟩, BK, HB⟩
 case round =>
  clear H' HO HB BK
  obtain ⟨x4, x13, rfl, HA, HK1, HO4, HO, BK, HB⟩ := hrel
  cases gk with
  | zero => exact absurd HA.out (by simp [fetch_quarter_fewest.l0])
  | succ k1 =>
   have H := HA.out
   clear HA
   simp only [fetch_quarter_fewest.l0] at H
   by_cases c6 : x13 < (cuts.length : Int)
   ·rw [if_pos c6] at H
    have c6b0 : decide (x13 < (cuts.length : Int)) = true := decide_eq_true c6
    by_cases c7 : 0 ≤ x13
    ·rw [if_pos c7] at H
     obtain ⟨t, ht, H⟩ := Option.bind_eq_some_iff.mp H
     by_cases c9 : x4.length < 17592186044416
     ·rw [if_pos c9] at H
      have L9 := Aside0.mk c9
      have A7 := Aside0.mk ht
      have H' := Aside0.mk H
      obtain ⟨ad, e1, hx⟩ := Kd.at_int (Kd.R_reads' HO.out).2.2 x13 c7 c6
      cases e1
      have c7b := eq_true c7
      have c6b := eq_true c6
      have hx0 : wr.cell? ⟨w.heap.size, 0, none⟩ = some (.int .i64 a0_0) := (blk_cell BK.out 0).trans rfl
      have hx1 : wr.cell? ⟨w.heap.size, 1, none⟩ = some (.slice A0_1 l0_1.length c0_1) := (blk_cell BK.out 1).trans rfl
      clear c9 ht H c7 c6
      go_wp2_with fail
      refine (fetch_quarter_crossing.calls k1 a0_0 A0_1 c0_1 l0_1 (rd cuts x13) t _ (Kd.C_below HR.out HB.out) HC.out A7.out).mono ?_
      rintro e w2 ⟨rfl, hb⟩
      have HB2 := Aside0.mk (below_step HB.out hb)
      have BK2 := Aside0.mk (blk_below BK.out hb)
      have HO42 := Aside0.mk (Kd.R_below HO4.out hb)
      have HO2 := Aside0.mk (Kd.R_below HO.out hb)
      clear hb hx0 hx1 hx HB BK HO4 HO
      go_wp2_with ((with_reducible refine gate_builtin (b := .append) (xs := #[.tmp 17, .tmp 21]) rfl ?_); at_builtin; refine Kd.R_append (Kd.int .i64) (w0 := w) w.heap.size rfl (.tmp 17) (.tmp 21) 35 3 (.int .i64 0) 8 rfl Tryd.underlying35 info3 rfl (by decide) (by omega) u4 x4 t [.int .i64 t] (fun _ => True) (fun _ => False) rfl rfl ?aP (fun _ hk => hk.elim) ?aF ?aO ?aB ?aS ?aL ?_; (case aP => exact rfl); (case aB => exact HB2.out); (case aF => exact (fun _ _ => trivial)); (case aO => exact HO42.out); (case aS => exact below_size HB2.out); (case aL => have := L9.out; omega); intro v5 w5 ho hb hg hat; have HO5 := Aside0.mk ho; have HB5 := Aside0.mk hb; have BK5 := Aside0.mk (blk_grown BK2.out hg (Kd.R_ne HO42.out BK2.out (by decide))); have HOc := Aside0.mk (Kd.R_grown (Kd.R_bound HO2.out) hg (fun k hk => hk.1)); have HAt := Aside0.mk hat; clear ho hb hg hat)
      go_roundg k1
      case measure => have := HK1.out; omega
      case rel => exact ⟨_, _, rfl, H', ⟨by have := HK1.out; omega⟩, HO5, ⟨Kd.R_mono HOc.out (fun k_ hk => by rcases HAt.out with h | ⟨b, h, hle⟩; (· rw [h]; exact hk.1); (· rw [h]; intro he; injection he with he; have := hk.2.2.1; omega))⟩, BK5, HB5⟩
     ·rw [if_neg c9] at H
      exact absurd H (by simp)
    ·rw [if_neg c7] at H
     exact absurd H (by simp)
   ·rw [if_neg c6] at H
    have c6b0 : decide (x13 < (cuts.length : Int)) = false := decide_eq_false c6
    have H' := Aside0.mk H
    have hx0 : wr.cell? ⟨w.heap.size, 0, none⟩ = some (.int .i64 a0_0) := (blk_cell BK.out 0).trans rfl
    have hx1 : wr.cell? ⟨w.heap.size, 1, none⟩ = some (.slice A0_1 l0_1.length c0_1) := (blk_cell BK.out 1).trans rfl
    clear H c6
    obtain ⟨A4, d4, rfl⟩ := Kd.R_slice HO4.out
    have hn4 := Aside0.mk (Kd.C_max (Kd.R_reads' HO4.out).2.2)
    go_wp2_with fail
    refine (fetch_finder.calls A4 d4 x4 _ (Kd.R_lower HO4.out (Nat.zero_le _))).mono ?_
    rintro e w2 ⟨rfl, hT, hb⟩
    have HT := Aside0.mk hT
    have HB2 := Aside0.mk (below_step HB.out hb)
    have BK2 := blk_below BK.out hb
    have hlt := blk_lt BK.out
    have hy1 : w2.cell? ⟨w.heap.size, 1, none⟩ = some (.slice A0_1 l0_1.length c0_1) := (blk_cell BK2 1).trans rfl
    obtain ⟨NA, hNA⟩ : ∃ NA, NA = wr.heap.size := ⟨_, rfl⟩
    have HS := Aside0.mk HB.out.size
    rw [← hNA] at HT HS hlt ⊢
    clear hT hb hx0 hx1 HO BK BK2 HO4 hNA
    go_wp2
    go_loopg [33] k1 (fun kq v33 w' => ∃ (x33 : Int) (f : Bool) (b : List Int) (m : Int), v33 = .int .i64 x33 ∧ Aside0 (fetch_quarter_fewest.l1 kq x4 (wrap64 (2 ^ min l0_1.length 64)) x33 f b m = some (r1, r2)) ∧ Aside0 (kq ≤ k1) ∧ Aside0 (TellS NA w' x4 f b m) ∧ Aside0 (Below w.heap.size w w'))
    case atStart => exact ⟨0, false, [], 0, rfl, H', ⟨Nat.le_refl _⟩, HT, HB2⟩
    case round =>
     clear H' HT HB2 HB hy1
     obtain ⟨x33, f, b, m, rfl, HA, HK2, HT, HB⟩ := hrel
     cases gk with
     | zero => exact absurd HA.out (by simp [fetch_quarter_fewest.l1])
     | succ k2 =>
      have H := HA.out
      clear HA
      simp only [fetch_quarter_fewest.l1] at H
      by_cases c6 : x33 < wrap64 (2 ^ min l0_1.length 64)
      ·rw [if_pos c6] at H
       have c6b0 : decide (x33 < wrap64 (2 ^ min l0_1.length 64)) = true := decide_eq_true c6
       obtain ⟨⟨f2, b2, m2⟩, ht, H⟩ := Option.bind_eq_some_iff.mp H
       have H' := Aside0.mk H
       have A7 := Aside0.mk ht
       clear ht H c6
       go_wp2_with (go_at_call 51; refine (fetch_tell.calls k2 NA x4 x33 f b m f2 b2 m2 _ HT.out hn4.out A7.out).mono ?_; rintro e w3 ⟨rfl, hT3, hb3⟩; have HT3 := Aside0.mk hT3; have HB3 := Aside0.mk (HB.out.trans (hb3.mono HS.out)); clear hT3 hb3)
       go_roundg k2
       case measure => have := HK2.out; omega
       case rel => exact ⟨_, _, _, _, rfl, H', ⟨by have := HK2.out; omega⟩, HT3, HB3⟩
      ·rw [if_neg c6] at H
       have c6b0 : decide (x33 < wrap64 (2 ^ min l0_1.length 64)) = false := decide_eq_false c6
       simp only [Option.some.injEq, Prod.mk.injEq] at H
       obtain ⟨rfl, rfl⟩ := H
       have hT := HT.out
       obtain ⟨_, ⟨v3, h3, h4⟩, h5, h6⟩ := hT
       obtain ⟨A3, d3, rfl⟩ := Kd.R_slice h4
       have e1 : wr.cell? ⟨NA + 1, 0, none⟩ = some (.slice A3 b.length d3) := (blk_cell h3 0).trans rfl
       have e2 : wr.cell? ⟨NA + 2, 0, none⟩ = some (.int .i64 m) := (blk_cell h5 0).trans rfl
       have H4 := Aside0.mk (Kd.R_lower h4 (show w.heap.size ≤ NA + 4 by have := HS.out; omega))
       clear c6 h3 h4 h5 h6
       go_wp2
       repeat (go_quiet (fail); try go_wp2)
       go_ret2
       exact ⟨_, rfl, Kd.R_drewN H4.out _, pw_below_drewN HB.out _⟩
def fetch_Mend.f (k : Nat) (a0 : Int) (l1 : List (S30)) : Option (List Int × Int) := (fetch_read.f k a0 l1).bind fun bt208 => (if bt208.2.2 = 0 then ((fetch_quarter_fewest.f k bt208.1 bt208.2.1).bind fun bt214 => (some (bt214.1, 0))) else (some (([] : List Int), bt208.2.2)))
set_option maxHeartbeats 8000000 in
set_option maxRecDepth 100000 in
theorem fetch_Mend.calls (k : Nat) (a0 : Int) (A1 : Option Addr) (c1 : Nat) (l1 : List (S30)) (r1 : List Int) (r2 : Int) (w : World) (hr1 : Kd.C k30 w A1 l1.length l1) (hc1 : l1.length ≤ c1) (h : fetch_Mend.f k a0 l1 = some (r1, r2)) :
  Calls Tryd.prog 11 #[.int .i64 a0, .slice A1 l1.length c1] w fun e w' => ∃ v0_ : Value, e = .returned (.tuple #[v0_, .int .i64 r2]) ∧ Kd.R (Kd.int .i64) 3 w' w.heap.size (fun _ => True) v0_ r1 ∧ Below w.heap.size w w' := by
 have hu63 := Tryd.underlying63
 have HR1 := Aside0.mk hr1
 have HC1 := Aside0.mk hc1
 clear hr1 hc1
 have HB := Aside0.mk (Below.refl w.heap.size w)
 have H : ((fetch_read.f k a0 l1).bind fun bt208 => (if bt208.2.2 = 0 then ((fetch_quarter_fewest.f k bt208.1 bt208.2.1).bind fun bt214 => (some (bt214.1, 0))) else (some (([] : List Int), bt208.2.2)))) = some (r1, r2) := h
 clear h
 replace H := Option.bind_eq_some_iff.mp H
 obtain ⟨⟨t208, t209, t212⟩, A30, H⟩ := H
 replace H : (if t212 = 0 then ((fetch_quarter_fewest.f k t208 t209).bind fun bt214 => (some (bt214.1, 0))) else (some (([] : List Int), t212))) = some (r1, r2) := H
 have A3 := Aside0.mk A30
 clear A30
 by_cases c4 : t212 = 0
 ·rw [if_pos c4] at H
  have c4b0 : (t212 == 0) = true := beq_iff_eq.mpr c4
  have c4b1 : (t212 != 0) = false := bne_eq_false_iff_eq.mpr c4
  clear c4
  replace H := Option.bind_eq_some_iff.mp H
  obtain ⟨⟨t214, t217⟩, A50, H⟩ := H
  replace H : (some (t214, 0)) = some (r1, r2) := H
  have A5 := Aside0.mk A50
  clear A50
  simp only [Option.some.injEq, Prod.mk.injEq] at H
  obtain ⟨rfl, rfl⟩ := H
  go_enter Tryd.func11, Tryd.ntmps11
  go_wp2_with (first | ((with_reducible refine gate_callee (f := 24) rfl ?_); refine goesL_ (some 13) rfl rfl Tryd.func24 (by kernel_rfl) rfl #[.int .i64 a0, .slice A1 l1.length c1] rfl (by (try simp only [List.map_toArray, List.map_cons, List.map_nil]); first | done | rfl | (simp only [List.length_drop, List.length_take]; rfl)) ?_; (with_reducible refine (fetch_read.calls k a0 (fun k_ => k_ < w.heap.size) _ _ l1 t208 t209 t212 _ ?side1 A3.out).mono ?_); (case side1 => exact Kd.V_mk HC1.out (Kd.F_below (Kd.C_F k30_heap HR1.out) (by repeat (first | (with_reducible first | exact HB.out | apply below_alloc | apply pw_below_drewN | apply below_drew1) | exact HB.out)))); rintro e w6 ⟨v210, rfl, ho0, hb⟩; refine ⟨_, rfl, ?_⟩; have n0_ := Aside0.mk (Kd.V_lower (Kd.V_mono (ok' := fun k_ => True) ho0 (fun k_ hk_ => trivial)) (below_size (by repeat (first | (with_reducible first | exact HB.out | apply below_alloc | apply pw_below_drewN | apply below_drew1) | exact HB.out)))); have n1_ := Aside0.mk (below_step (by repeat (first | (with_reducible first | exact HB.out | apply below_alloc | apply pw_below_drewN | apply below_drew1) | exact HB.out)) hb); clear HB; have HO211 := n0_; have HB := n1_; clear n0_ n1_; (try clear hb); (try clear hb2); (try clear hk); (try clear hi); (try clear ho0)) | ((with_reducible refine gate_dst (N := 6) rfl ?_); refine box_event ?hg (N := 6) ?hd (cs := #[.int .i64 0, .slice none 0 0]) (t := 63) ?hr ?_; (case hd => rfl); (case hg => rfl); (case hr => first | (go_simp; done) | (go_simp; rfl)); intro gb213 hg w7 hbox hb; have n0_ := Aside0.mk (Kd.V_below (Kd.V_elderB (by (with_reducible repeat (first | apply Kd.V_alloc | apply Kd.V_drewN | apply Kd.V_drew)); exact HO211.out) gb213 (Nat.le_of_eq hg.symm)) hb); have n1_ := Aside0.mk (below_step (by repeat (first | (with_reducible first | exact HB.out | apply below_alloc | apply pw_below_drewN | apply below_drew1) | exact HB.out)) hb); have n2_ := Aside0.mk (hbox); have n3_ := Aside0.mk ((by rw [hg]; exact (below_size (by repeat (first | (with_reducible first | exact HB.out | apply below_alloc | apply pw_below_drewN | apply below_drew1) | exact HB.out))) : w.heap.size ≤ gb213)); have n4_ := Aside0.mk ((by rw [hg]; exact (below_size (by repeat (first | (with_reducible first | exact HB.out | apply below_alloc | apply pw_below_drewN | apply below_drew1) | exact HB.out))) : w.heap.size ≤ gb213)); clear HO211; clear HB; have HO211 := n0_; have HB := n1_; have BK213 := n2_; have GW213 := n3_; have GE213 := n4_; clear n0_ n1_ n2_ n3_ n4_; clear hb hbox hg; have hcz8_0 : w7.cell? ⟨gb213, 0, none⟩ = some (.int .i64 0) := (blk_cell BK213.out 0).trans rfl; have hcz8_1 : w7.cell? ⟨gb213, 1, none⟩ = some (.slice none 0 0) := (blk_cell BK213.out 1).trans rfl; have hfz8_0 := blk_frozen BK213.out 0; have hfz8_1 := blk_frozen BK213.out 1; obtain ⟨Ao9, co9, eo9⟩ := Kd.V_slice HO211.out; subst eo9) | ((with_reducible refine gate_callee (f := 25) rfl ?_); refine goesL_ (some 21) rfl rfl Tryd.func25 (by kernel_rfl) rfl #[.agg #[.int .i64 t208, .slice Ao9 t209.length co9]] rfl (by (try simp only [List.map_toArray, List.map_cons, List.map_nil]); first | done | rfl | (simp only [List.length_drop, List.length_take]; rfl)) ?_; (with_reducible refine (fetch_quarter_fewest.calls k t208 _ _ t209 t214 t217 _ ?side1 ?side2 A5.out).mono ?_); (case side1 => refine (Kd.V_reads' (e := 30) (base := w.heap.size) (ok := fun k_ => (True ∧ k_ ≠ gb213)) (n := t209.length) (c := co9) ?_).2.2; exact (by (with_reducible repeat (first | apply Kd.V_alloc | apply Kd.V_drewN | apply Kd.V_drew)); exact (Kd.V_mono (Kd.V_far (p := ⟨gb213, 1, none⟩) (Kd.V_far (p := ⟨gb213, 0, none⟩) (Kd.V_mono HO211.out (fun k_ hk => (⟨hk, hk.2⟩ : _ ∧ k_ ≠ gb213))) (fun _ hk => hk.2) (.int .i64 t208)) (fun _ hk => hk.2) (.slice Ao9 t209.length co9)) (fun _ h_ => h_.1)))); (case side2 => exact (Kd.V_reads' HO211.out).2.1); rintro e w10 ⟨v215, rfl, ho0, hb⟩; refine ⟨_, rfl, ?_⟩; have n0_ := Aside0.mk (Kd.V_elder' (by (with_reducible repeat (first | apply Kd.V_alloc | apply Kd.V_drewN | apply Kd.V_drew)); exact (Kd.V_mono (Kd.V_far (p := ⟨gb213, 1, none⟩) (Kd.V_far (p := ⟨gb213, 0, none⟩) (Kd.V_mono HO211.out (fun k_ hk => (⟨hk, hk.2⟩ : _ ∧ k_ ≠ gb213))) (fun _ hk => hk.2) (.int .i64 t208)) (fun _ hk => hk.2) (.slice Ao9 t209.length co9)) (fun _ h_ => h_.1))) (Kd.R_base ho0) hb); have n1_ := Aside0.mk (Kd.R_lower ho0 (below_size (by repeat (first | (with_reducible first | exact HB.out | apply below_alloc | apply pw_below_drewN | apply below_drew1 | refine below_set ?_ GE213.out) | exact HB.out)))); have n2_ := Aside0.mk (blk_below (g := gb213) (o := .cells #[.int .i64 t208, .slice Ao9 t209.length co9] 63 (0, 0)) (by (with_reducible repeat (first | refine blk_drewN ?_ _ | refine blk_drew ?_ | refine blk_alloc ?_ _)); refine blk_put (cs := #[.int .i64 t208, .slice none 0 0]) ?_ 1 _ rfl; (with_reducible repeat (first | refine blk_drewN ?_ _ | refine blk_drew ?_ | refine blk_alloc ?_ _)); refine blk_put (cs := #[.int .i64 0, .slice none 0 0]) ?_ 0 _ rfl; (with_reducible repeat (first | refine blk_drewN ?_ _ | refine blk_drew ?_ | refine blk_alloc ?_ _)); exact BK213.out) hb); have n3_ := Aside0.mk (below_step (by repeat (first | (with_reducible first | exact HB.out | apply below_alloc | apply pw_below_drewN | apply below_drew1 | refine below_set ?_ GE213.out) | exact HB.out)) hb); clear HO211; clear BK213; clear HB; have HO211 := n0_; have HO216 := n1_; have BK213 := n2_; have HB := n3_; clear n0_ n1_ n2_ n3_; (try clear hb); (try clear hb2); (try clear hk); (try clear hi); (try clear ho0)))
  go_ret2
  exact ⟨_, by first | rfl | (simp [errW_none, errW_some] <;> rfl) | (simp [*, errW_none, errW_some] <;> rfl), by (with_reducible repeat (first | apply Kd.R_alloc | apply Kd.R_drewN | apply Kd.R_drew)); exact HO216.out, by repeat (first | (with_reducible first | exact HB.out | apply below_alloc | apply pw_below_drewN | apply below_drew1 | refine below_set ?_ GE213.out) | exact HB.out)⟩
 ·rw [if_neg c4] at H
  have c4b0 : (t212 == 0) = false := beq_eq_false_iff_ne.mpr c4
  have c4b1 : (t212 != 0) = true := bne_iff_ne.mpr c4
  simp only [Option.some.injEq, Prod.mk.injEq] at H
  obtain ⟨rfl, rfl⟩ := H
  go_enter Tryd.func11, Tryd.ntmps11
  go_wp2_with (first | ((with_reducible refine gate_callee (f := 24) rfl ?_); refine goesL_ (some 13) rfl rfl Tryd.func24 (by kernel_rfl) rfl #[.int .i64 a0, .slice A1 l1.length c1] rfl (by (try simp only [List.map_toArray, List.map_cons, List.map_nil]); first | done | rfl | (simp only [List.length_drop, List.length_take]; rfl)) ?_; (with_reducible refine (fetch_read.calls k a0 (fun k_ => k_ < w.heap.size) _ _ l1 t208 t209 t212 _ ?side1 A3.out).mono ?_); (case side1 => exact Kd.V_mk HC1.out (Kd.F_below (Kd.C_F k30_heap HR1.out) (by repeat (first | (with_reducible first | exact HB.out | apply below_alloc | apply pw_below_drewN | apply below_drew1) | exact HB.out)))); rintro e w11 ⟨v210, rfl, ho0, hb⟩; refine ⟨_, rfl, ?_⟩; have n0_ := Aside0.mk (Kd.V_lower (Kd.V_mono (ok' := fun k_ => True) ho0 (fun k_ hk_ => trivial)) (below_size (by repeat (first | (with_reducible first | exact HB.out | apply below_alloc | apply pw_below_drewN | apply below_drew1) | exact HB.out)))); have n1_ := Aside0.mk (below_step (by repeat (first | (with_reducible first | exact HB.out | apply below_alloc | apply pw_below_drewN | apply below_drew1) | exact HB.out)) hb); clear HB; have HO211 := n0_; have HB := n1_; clear n0_ n1_; (try clear hb); (try clear hb2); (try clear hk); (try clear hi); (try clear ho0)) | ((with_reducible refine gate_dst (N := 6) rfl ?_); refine box_event ?hg (N := 6) ?hd (cs := #[.int .i64 0, .slice none 0 0]) (t := 63) ?hr ?_; (case hd => rfl); (case hg => rfl); (case hr => first | (go_simp; done) | (go_simp; rfl)); intro gb213 hg w12 hbox hb; have n0_ := Aside0.mk (Kd.V_below (Kd.V_elderB (by (with_reducible repeat (first | apply Kd.V_alloc | apply Kd.V_drewN | apply Kd.V_drew)); exact HO211.out) gb213 (Nat.le_of_eq hg.symm)) hb); have n1_ := Aside0.mk (below_step (by repeat (first | (with_reducible first | exact HB.out | apply below_alloc | apply pw_below_drewN | apply below_drew1) | exact HB.out)) hb); have n2_ := Aside0.mk (hbox); have n3_ := Aside0.mk ((by rw [hg]; exact (below_size (by repeat (first | (with_reducible first | exact HB.out | apply below_alloc | apply pw_below_drewN | apply below_drew1) | exact HB.out))) : w.heap.size ≤ gb213)); have n4_ := Aside0.mk ((by rw [hg]; exact (below_size (by repeat (first | (with_reducible first | exact HB.out | apply below_alloc | apply pw_below_drewN | apply below_drew1) | exact HB.out))) : w.heap.size ≤ gb213)); clear HO211; clear HB; have HO211 := n0_; have HB := n1_; have BK213 := n2_; have GW213 := n3_; have GE213 := n4_; clear n0_ n1_ n2_ n3_ n4_; clear hb hbox hg; have hcz13_0 : w12.cell? ⟨gb213, 0, none⟩ = some (.int .i64 0) := (blk_cell BK213.out 0).trans rfl; have hcz13_1 : w12.cell? ⟨gb213, 1, none⟩ = some (.slice none 0 0) := (blk_cell BK213.out 1).trans rfl; have hfz13_0 := blk_frozen BK213.out 0; have hfz13_1 := blk_frozen BK213.out 1; obtain ⟨Ao14, co14, eo14⟩ := Kd.V_slice HO211.out; subst eo14))
  go_ret2
  exact ⟨_, by first | rfl | (simp [errW_none, errW_some] <;> rfl) | (simp [*, errW_none, errW_some] <;> rfl), by first | exact Kd.R_nil _ _ _ _ _ | exact Kd.N_nil _ _ _ _ _ | exact Kd.V_nil _ _ _ _ _ | exact Kd.Q_nil _ _ _ _ _ | exact Kd.S_nil _ _ _ _ _, by repeat (first | (with_reducible first | exact HB.out | apply below_alloc | apply pw_below_drewN | apply below_drew1 | refine below_set ?_ GE213.out) | exact HB.out)⟩
end Go.Proofs.YtknecgmmpjggiaaDoor.OAll
