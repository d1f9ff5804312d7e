/- Contracts of the draws of one and two fractions. Conditions: as stated. -/
import Derived.Test.YtemollfejgmlcaaWj
namespace Go.Proofs.Ytemollfejgmlcaa
open Go.RowKit

theorem gcell {W w' : World} {b g : Nat} (hg : W.grownBy w' (some g)) (hne : b ≠ g) (hlt : b < W.heap.size) : (∀ o, w'.cell? ⟨b, o, none⟩ = W.cell? ⟨b, o, none⟩) ∧ (∀ o, w'.frozen? ⟨b, o, none⟩ = W.frozen? ⟨b, o, none⟩) := by
  have e := hg.block b hlt (by intro e; injection e with e; omega)
  exact ⟨fun o => World.cell?_of_block (a := ⟨b, o, none⟩) e, fun o => frozen_of_block (a := ⟨b, o, none⟩) e⟩
theorem nodrew_grown {W w1 : World} {g : Nat} (h : W.drew.grownBy w1 (some g)) : W.grownBy w1 (some g) := ⟨h.os, h.tape, h.output, h.size, h.block⟩
theorem grown_drew {a w : World} {row : Option Nat} (h : a.grownBy w row) : a.grownBy w.drew row := ⟨h.os, h.tape, h.output, h.size, h.block⟩
end Go.Proofs.Ytemollfejgmlcaa
