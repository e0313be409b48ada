/- A part of the proof of 'topReach_holds', for every input, without a condition. -/
import Derived.Test.YtknecgmmpjggiaaDoorTReTl
import Derived.Test.YtknecgmmpjggiaaDoorTReOAllx5
namespace Go.Proofs.YtknecgmmpjggiaaDoor.OAll
open Go.RowKit Go.Proofs.YtknecgmmpjggiaaDoorW.PrintWords Go.Proofs.YtknecgmmpjggiaaDoorW.PrintLast Go.Proofs.YtknecgmmpjggiaaDoorW.PrintMore
set_option linter.unusedVariables false
set_option linter.unusedSimpArgs false
structure FiS (w0 : World) (B N O E : Nat) (n : Int) (w : World) (so : ByteArray) (eo : Int) : Prop where
  lo : Below B w0 w
  hN : B ≤ N
  hO : B ≤ O
  hE : B ≤ E
  ne1 : N ≠ O
  ne2 : N ≠ E
  ne3 : O ≠ E
  bn : w.heap[N]? = some (.cells #[.int .i64 n] 3 (0, 0))
  bo : w.heap[O]? = some (.cells #[.string so] 9 (0, 0))
  be : w.heap[E]? = some (.cells #[.int .i64 eo] 24 (0, 0))
theorem FiS.below {w0 : World} {B N O E : Nat} {n : Int} {w w1 : World} {so : ByteArray} {eo : Int} (h : FiS w0 B N O E n w so eo) (hb : Below w.heap.size w w1) : FiS w0 B N O E n w1 so eo :=
  ⟨h.lo.trans (hb.mono (Nat.le_trans h.hN (Nat.le_of_lt (blk_lt h.bn)))), h.hN, h.hO, h.hE, h.ne1, h.ne2, h.ne3, blk_below h.bn hb, blk_below h.bo hb, blk_below h.be hb⟩
theorem FiS.put {w0 : World} {B N O E : Nat} {n : Int} {w : World} {so : ByteArray} {eo : Int} (h : FiS w0 B N O E n w so eo) (s : ByteArray) (e : Int) :
    FiS w0 B N O E n ((w.setCell ⟨O, 0, none⟩ (.string s)).setCell ⟨E, 0, none⟩ (.int .i64 e)) s e :=
  ⟨(h.lo.setCell (p := ⟨O, 0, none⟩) h.hO _).setCell (p := ⟨E, 0, none⟩) h.hE _, h.hN, h.hO, h.hE, h.ne1, h.ne2, h.ne3,
    blk_far (blk_far h.bn h.ne1 _) h.ne2 _, blk_far (blk_put h.bo 0 _ rfl) h.ne3 _, blk_put (blk_far h.be (fun e => h.ne3 e.symm) _) 0 _ rfl⟩
end Go.Proofs.YtknecgmmpjggiaaDoor.OAll
