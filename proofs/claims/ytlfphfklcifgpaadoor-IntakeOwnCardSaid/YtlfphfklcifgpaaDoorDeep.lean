/-
  The table of parties, seen from within a drawn region; conditions: none.
-/
import Derived.Test.YtlfphfklcifgpaaDoorKeys
namespace Go.Proofs.YtlfphfklcifgpaaDoor
open Go.RowKit Go.Own

theorem Laid.deep {w W x : World} {B : Nat} (hL : Laid w) (hpos : 0 < w.heap.size) (h : Below w.heap.size w W) (hB : w.heap.size ≤ B) : Laid (Go.Own.later W B x) :=
  hL.below (h.trans ((later_below W B x).mono hB)) hpos
end Go.Proofs.YtlfphfklcifgpaaDoor
