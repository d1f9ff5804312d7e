/- Small words for walks whose worlds come one behind the other. No condition. -/
import Derived.Test.YtggonihjnipobaaDoorWf
namespace Go.Proofs.YtggonihjnipobaaDoor
open Go.RowKit
theorem chain {w W W' : World} (hb : Below W.heap.size W W') (hs : w.heap.size ≤ W.heap.size) (h : Below w.heap.size w W) : Below w.heap.size w W' := h.trans (hb.mono hs)
theorem nodrew {W w1 : World} (hb : Below W.drew.heap.size W.drew w1) : Below W.heap.size W w1 := ⟨hb.os, hb.tape, hb.output, hb.size, hb.block⟩
end Go.Proofs.YtggonihjnipobaaDoor
