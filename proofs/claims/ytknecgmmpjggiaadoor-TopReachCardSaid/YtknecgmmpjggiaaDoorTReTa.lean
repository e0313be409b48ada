/- A part of the proof of 'topReach_holds', for every input, without a condition. -/
import Derived.Test.YtknecgmmpjggiaaDoorTReOAllx1
namespace Go.Proofs.YtknecgmmpjggiaaDoor.OAll
open Go.RowKit Go.Proofs.YtknecgmmpjggiaaDoorW.PrintWords Go.Proofs.YtknecgmmpjggiaaDoorW.PrintLast Go.Proofs.YtknecgmmpjggiaaDoorW.PrintMore
set_option linter.unusedVariables false
set_option linter.unusedSimpArgs false
structure S32 where
  f0 : Int
  f1 : Int
  f2 : Int
def z32 : S32 := ⟨0, 0, 0⟩
def k32 : Kd S32 := Kd.iso (Kd.pair (Kd.int .i64) (Kd.pair (Kd.int .i64) (Kd.int .i64))) (fun x : S32 => (x.f0, x.f1, x.f2))
theorem k32_open {w : World} {x : S32} {cs : List Value} (h : k32.K w x cs) : cs = [.int .i64 x.f0, .int .i64 x.f1, .int .i64 x.f2] := by
  obtain ⟨_, _, rfl, rfl, ⟨_, _, rfl, rfl, rfl⟩⟩ := h
  exact rfl
theorem k32_mkM (w : World) (base : Nat) (ok : Nat → Prop) (x : S32) : k32.M w base ok x [.int .i64 x.f0, .int .i64 x.f1, .int .i64 x.f2] := ⟨[.int .i64 x.f0], _, rfl, rfl, ⟨[.int .i64 x.f1], [.int .i64 x.f2], rfl, rfl, rfl⟩⟩
def rd_T32 (xs : List S32) (i : Int) : S32 := xs.getD i.toNat z32
theorem at_T32 {w : World} {A : Option Addr} {n : Nat} {xs : List S32} (h : Kd.C k32 w A n xs) (i : Int) (h0 : 0 ≤ i) (h1 : i < n) : ∃ ad, A = some ad ∧ w.cell? (ad.add (i.toNat * 3)) = some (.int .i64 (rd_T32 xs i).f0) ∧ w.cell? ⟨(ad.add (i.toNat * 3)).block, (ad.add (i.toNat * 3)).off + 1, none⟩ = some (.int .i64 (rd_T32 xs i).f1) ∧
    w.cell? ⟨(ad.add (i.toNat * 3)).block, (ad.add (i.toNat * 3)).off + 2, none⟩ = some (.int .i64 (rd_T32 xs i).f2) := by
  obtain ⟨ad, c, e, _, hK, hc0⟩ := Kd.C_get h z32 i h0 h1
  have hc : ∀ j u, c[j]? = some u → w.cell? (ad.add (i.toNat * 3 + j)) = some u := hc0
  obtain rfl := k32_open hK
  exact ⟨ad, e, hc 0 _ rfl, by rw [← add_field _ _ 1 (by omega)]; exact hc 1 _ rfl, by rw [← add_field _ _ 2 (by omega)]; exact hc 2 _ rfl⟩
structure Town (w : World) (B : Nat) (n : Nat) (A : Option Addr) (c : Nat) (ways : List S32) : Prop where
  cells : ∃ m, w.heap[B]? = some (.cells #[.int .i64 (n : Int), .slice A ways.length c, m] 78 (0, 0))
  C : Kd.C k32 w A ways.length ways
  c : ways.length ≤ c
theorem Town.below {w w1 : World} {B n : Nat} {A : Option Addr} {c : Nat} {ways : List S32} (h : Town w B n A c ways) (hb : Below w.heap.size w w1) : Town w1 B n A c ways := by
  obtain ⟨m, hm⟩ := h.cells
  exact ⟨⟨m, blk_below hm hb⟩, Kd.C_below h.C hb, h.c⟩
theorem Town.n0 {w : World} {B n : Nat} {A : Option Addr} {c : Nat} {ways : List S32} (h : Town w B n A c ways) : w.cell? ⟨B, 0, none⟩ = some (.int .i64 (n : Int)) := by
  obtain ⟨m, hm⟩ := h.cells
  exact (blk_cell hm 0).trans rfl
theorem Town.w1 {w : World} {B n : Nat} {A : Option Addr} {c : Nat} {ways : List S32} (h : Town w B n A c ways) : w.cell? ⟨B, 1, none⟩ = some (.slice A ways.length c) := by
  obtain ⟨m, hm⟩ := h.cells
  exact (blk_cell hm 1).trans rfl
theorem pow_cast' (n : Nat) : ((2 : Int) ^ n) = ((2 ^ n : Nat) : Int) := by push_cast; rfl
theorem pow_m1 {n : Nat} (h : n ≤ 7) : wrap64 (wrap64 ((2 : Int) ^ n) - 1) = ((2 ^ n - 1 : Nat) : Int) := by
  have h1 : 2 ^ n ≤ 2 ^ 7 := Nat.pow_le_pow_right (by omega) h
  have h2 : 1 ≤ 2 ^ n := Nat.one_le_two_pow
  rw [pow_cast']
  unfold wrap64
  omega
set_option maxRecDepth 100000 in
theorem town_everybody (B n : Nat) (A : Option Addr) (c : Nat) (ways : List S32) (w : World) (hT : Town w B n A c ways) (hn : n ≤ 7) :
    Calls Tryd.prog 41 #[.pointer (some ⟨B, 0, none⟩)] w fun e w' => e = .returned (.int .i64 ((2 ^ n - 1 : Nat) : Int)) ∧ w' = w := by
  have h0 := hT.n0
  have hu78 := Tryd.underlying78
  have hp := pow_m1 hn
  go_enter Tryd.func41, Tryd.ntmps41
  go_wp2
  go_ret
  exact ⟨by simp; exact hp, rfl⟩
def OkW (n : Nat) (ways : List S32) : Prop := ways.length ≤ 30 ∧ ∀ x ∈ ways, 0 ≤ x.f0 ∧ x.f0 < n ∧ 0 ≤ x.f1 ∧ x.f1 < n ∧ x.f0 ≠ x.f1 ∧ 0 ≤ x.f2 ∧ x.f2 ≤ 1000
theorem rd_T32_mem {ways : List S32} {i : Nat} (h : i < ways.length) : rd_T32 ways (i : Int) ∈ ways := by
  have : rd_T32 ways (i : Int) = ways[i] := by simp [rd_T32, List.getD_eq_getElem?_getD, h]
  rw [this]
  exact List.getElem_mem h
def entP (x : S32) (s : Nat) : Bool := !s.testBit x.f0.toNat && s.testBit x.f1.toNat
def entL (ways : List S32) (s : Nat) : Nat → List Int
  | 0 => []
  | i + 1 => entL ways s i ++ (if entP (rd_T32 ways (i : Int)) s then [(i : Int)] else [])
theorem entL_len (ways : List S32) (s : Nat) : ∀ i, (entL ways s i).length ≤ i
  | 0 => Nat.le_refl _
  | i + 1 => by
    have := entL_len ways s i
    rw [entL, List.length_append]
    split <;> simp <;> omega
theorem wraps_i64' (n : Int) (h₀ : 0 ≤ n) (h₁ : n < 2 ^ 63) : IntKind.i64.wrap n = n := by rw [IntKind.wrap_i64]; omega
theorem and_nat' (a b : Nat) (ha : a < 2 ^ 63) (hb : b < 2 ^ 63) : Go.bits .and .i64 (a : Int) (b : Int) = ((a &&& b : Nat) : Int) :=
  (bits_nat .i64 63 (by decide) wraps_i64' a b ha hb).1
theorem or_nat' (a b : Nat) (ha : a < 2 ^ 63) (hb : b < 2 ^ 63) : Go.bits .or .i64 (a : Int) (b : Int) = ((a ||| b : Nat) : Int) :=
  (bits_nat .i64 63 (by decide) wraps_i64' a b ha hb).2
theorem and_one' (a : Nat) (ha : a < 2 ^ 63) : Go.bits .and .i64 (a : Int) 1 = ((a % 2 : Nat) : Int) := by
  have := and_nat' a 1 ha (by decide)
  rw [Nat.and_one_is_mod] at this
  exact this
theorem bit_and' (a j : Nat) (ha : a < 2 ^ 63) : Go.bits .and .i64 ((a : Int) / 2 ^ j) 1 = if a.testBit j then 1 else 0 := by
  have e : ((a : Int) / 2 ^ j) = ((a / 2 ^ j : Nat) : Int) := by rw [pow_cast']; exact (Int.natCast_ediv _ _).symm
  rw [e, and_one' _ (Nat.lt_of_le_of_lt (Nat.div_le_self _ _) ha), Nat.testBit_eq_decide_div_mod_eq]
  rcases Nat.mod_two_eq_zero_or_one (a / 2 ^ j) with h | h <;> simp [h]
theorem bit_yes {a j : Nat} (ha : a < 2 ^ 63) (h : a.testBit j = true) : Go.bits .and .i64 ((a : Int) / 2 ^ j) 1 = 1 := by rw [bit_and' a j ha, if_pos h]
theorem bit_no {a j : Nat} (ha : a < 2 ^ 63) (h : a.testBit j = false) : Go.bits .and .i64 ((a : Int) / 2 ^ j) 1 = 0 := by rw [bit_and' a j ha, if_neg (by simp [h])]
set_option maxRecDepth 100000 in
set_option maxHeartbeats 4000000 in
theorem town_entering (B n : Nat) (A : Option Addr) (c : Nat) (ways : List S32) (s : Nat) (w : World) (hT : Town w B n A c ways) (hn : n ≤ 7) (ho : OkW n ways) (hs : s < 1024) :
    Calls Tryd.prog 42 #[.pointer (some ⟨B, 0, none⟩), .int .i64 (s : Int)] w fun e w' => ∃ v, e = .returned v ∧ Kd.R (Kd.int .i64) 3 w' w.heap.size (fun _ => True) v (entL ways s ways.length) ∧ Below w.heap.size w w' := by
  have h1 := hT.w1
  have hu78 := Tryd.underlying78
  have hu32 := Tryd.underlying32
  have HT := Aside0.mk hT
  have HO := Aside0.mk ho
  go_enter Tryd.func42, Tryd.ntmps42
  go_wp2
  go_loopg [5, 13] ways.length (fun kq v5 v13 w' => ∃ i : Nat, v13 = .int .i64 (i : Int) ∧ Aside0 (kq + i = ways.length) ∧ Aside0 (Kd.R (Kd.int .i64) 3 w' w.heap.size (fun _ => True) v5 (entL ways s i)) ∧ Aside0 (Below w.heap.size w w'))
  case atStart => exact ⟨0, rfl, ⟨rfl⟩, ⟨Kd.R_nil _ _ _ _ _⟩, ⟨Below.refl _ _⟩⟩
  case round =>
    clear h1
    obtain ⟨i, rfl, HI, HR, HB⟩ := hrel
    by_cases c1 : i < ways.length
    · have k1 : ((i : Int) < (ways.length : Int)) = True := eq_true (by omega)
      have k2 : decide ((i : Int) < (ways.length : Int)) = true := decide_eq_true (by omega)
      have p1 : ((0 : Int) ≤ (i : Int)) = True := eq_true (by omega)
      have hok := HO.out.2 _ (rd_T32_mem c1)
      obtain ⟨x, hx⟩ : ∃ x, x = rd_T32 ways (i : Int) := ⟨_, rfl⟩
      obtain ⟨ad, e0, x0, x1, x2⟩ := at_T32 (Kd.C_below HT.out.C HB.out) (i : Int) (by omega) (by omega)
      cases e0
      rw [← hx] at x0 x1 x2 hok
      obtain ⟨a, ha⟩ := Int.eq_ofNat_of_zero_le hok.1
      obtain ⟨b, hb⟩ := Int.eq_ofNat_of_zero_le hok.2.2.1
      rw [ha] at x0
      rw [hb] at x1
      rw [Int.toNat_natCast] at x0 x1 x2
      have HX := Aside0.mk (And.intro hx (And.intro ha hb))
      have C1 := Aside0.mk c1
      have hok' := hok
      rw [ha, hb] at hok'
      have m1 : min a 64 = a := by omega
      have m2 : min b 64 = b := by omega
      have hs' : s < 2 ^ 63 := by omega
      have e1 : wrap64 ((i : Int) + 1) = ((i + 1 : Nat) : Int) := by have := HO.out.1; unfold wrap64; omega
      have E1 := Aside0.mk e1
      clear hok' e1
      by_cases t1 : s.testBit a = true
      · have b1 := bit_yes hs' t1
        have hP : entL ways s (i + 1) = entL ways s i := by
          rw [entL, if_neg (by unfold entP; rw [← HX.out.1, HX.out.2.1, Int.toNat_natCast, t1]; simp), List.append_nil]
        have HP := Aside0.mk hP
        clear hx ha hb hok c1 t1 hs' hP
        go_wp2
        go_roundg (ways.length - (i + 1))
        case measure => have := HI.out; have := C1.out; omega
        case rel => exact ⟨i + 1, by rw [E1.out], ⟨by have := HI.out; have := C1.out; omega⟩, ⟨by rw [HP.out]; exact Kd.R_alloc HR.out _⟩, ⟨below_alloc HB.out _⟩⟩
      · have t1 := Bool.eq_false_iff.mpr t1
        have b1 := bit_no hs' t1
        by_cases t2 : s.testBit b = true
        · have b2 := bit_yes hs' t2
          have hP : entL ways s (i + 1) = entL ways s i ++ [(i : Int)] := by
            rw [entL, if_pos (by unfold entP; rw [← HX.out.1, HX.out.2.1, HX.out.2.2, Int.toNat_natCast, Int.toNat_natCast, t1, t2]; rfl)]
          have HP := Aside0.mk hP
          clear hx ha hb hok c1 t1 t2 hs' hP
          go_wp2_with ((with_reducible refine gate_builtin (b := .append) (xs := #[.tmp 32, .tmp 34]) rfl ?_); at_builtin; refine Kd.R_append (Kd.int .i64) (w0 := w) w.heap.size rfl (.tmp 32) (.tmp 34) 35 3 (.int .i64 0) 8 rfl Tryd.underlying35 info3 rfl (by decide) (by omega) u5 (entL ways s i) (i : Int) [.int .i64 (i : Int)] (fun _ => True) (fun _ => False) rfl (by rw [World.size_alloc]; rfl) ?aP (fun _ hk => hk.elim) ?aF ?aO ?aB ?aS ?aL ?_; (case aP => exact rfl); (case aB => exact below_alloc HB.out _); (case aF => exact (fun _ _ => trivial)); (case aO => exact Kd.R_alloc HR.out _); (case aS => exact below_size (below_alloc HB.out _)); (case aL => have := entL_len ways s i; have := HO.out.1; have := C1.out; omega); intro v1 w9 ho hb hg hat; have HR2 := Aside0.mk ho; have HB2 := Aside0.mk hb; clear ho hb hg hat)
          go_roundg (ways.length - (i + 1))
          case measure => have := HI.out; have := C1.out; omega
          case rel => exact ⟨i + 1, by rw [E1.out], ⟨by have := HI.out; have := C1.out; omega⟩, ⟨by rw [HP.out]; exact HR2.out⟩, HB2⟩
        · have t2 := Bool.eq_false_iff.mpr t2
          have b2 := bit_no hs' t2
          have hP : entL ways s (i + 1) = entL ways s i := by
            rw [entL, if_neg (by unfold entP; rw [← HX.out.1, HX.out.2.1, HX.out.2.2, Int.toNat_natCast, Int.toNat_natCast, t1, t2]; simp), List.append_nil]
          have HP := Aside0.mk hP
          clear hx ha hb hok c1 t1 t2 hs' hP
          go_wp2
          go_roundg (ways.length - (i + 1))
          case measure => have := HI.out; have := C1.out; omega
          case rel => exact ⟨i + 1, by rw [E1.out], ⟨by have := HI.out; have := C1.out; omega⟩, ⟨by rw [HP.out]; exact Kd.R_alloc HR.out _⟩, ⟨below_alloc HB.out _⟩⟩
    · have k1 : ((i : Int) < (ways.length : Int)) = False := eq_false (by omega)
      have k2 : decide ((i : Int) < (ways.length : Int)) = false := decide_eq_false (by omega)
      have C1 := Aside0.mk c1
      clear c1
      go_wp2
      go_ret
      have hi : ways.length = i := by have := HI.out; have := C1.out; omega
      exact ⟨_, rfl, by rw [hi]; exact HR.out, HB.out⟩
end Go.Proofs.YtknecgmmpjggiaaDoor.OAll
