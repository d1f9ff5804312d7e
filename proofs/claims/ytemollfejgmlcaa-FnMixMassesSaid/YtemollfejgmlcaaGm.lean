/- What a result's box, laid ahead of a call, holds behind it. No condition. -/
import Derived.Test.YtemollfejgmlcaaGl
namespace Go.Proofs.Ytemollfejgmlcaa
open Go.RowKit
/-- What a result's box, laid ahead of a call, holds behind it. -/
theorem boxfacts {W w1 : World} {T : TypeId} (hb : Below (W.alloc (.cells #[.int .i64 0, .slice none 0 0] T)).heap.size (W.alloc (.cells #[.int .i64 0, .slice none 0 0] T)) w1) :
    w1.cell? ⟨W.heap.size, 0, none⟩ = some (.int .i64 0) ∧ w1.cell? ⟨W.heap.size, 1, none⟩ = some (.slice none 0 0) ∧ w1.frozen? ⟨W.heap.size, 0, none⟩ = false ∧ w1.frozen? ⟨W.heap.size, 1, none⟩ = false ∧ W.heap.size < w1.heap.size :=
  ⟨(hb.cell (by simp)).trans (by go_simp), (hb.cell (by simp)).trans (by go_simp), (hb.frozen (by simp)).trans (by go_simp), (hb.frozen (by simp)).trans (by go_simp), by have := hb.size; simp at this; omega⟩
theorem nodrewG {W w1 : World} (hb : Below W.drew.heap.size W.drew w1) : Below W.heap.size W w1 := ⟨hb.os, hb.tape, hb.output, hb.size, hb.block⟩
end Go.Proofs.Ytemollfejgmlcaa
