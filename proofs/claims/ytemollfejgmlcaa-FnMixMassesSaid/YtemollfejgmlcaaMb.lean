/- Contracts of the laws' own helpers on masses. Conditions: as stated. -/
import Derived.Test.YtemollfejgmlcaaMa
namespace Go.Proofs.Ytemollfejgmlcaa
open Go.RowKit

theorem IsRow.setc {k : IntKind} {w : World} {a : Option Addr} {n c : Nat} {zs : List Int} (h : IsRow k w a n c zs) (p : Addr) (v : Value) (hp : ∀ b o, a = some ⟨b, o, none⟩ → b ≠ p.block) : IsRow k (w.setCell p v) a n c zs := by
  obtain ⟨h1, h2, h3, h4, h5⟩ := h
  refine ⟨h1, h2, h3, h4, fun hn => ?_⟩
  obtain ⟨b, o, e, hlt, hc⟩ := h5 hn
  refine ⟨b, o, e, by simpa [World.setCell] using hlt, fun i hi => ?_⟩
  rw [World.cell?_setCell_other _ _ _ _ (by intro e2; exact hp b o e (by first | exact congrArg Addr.block e2 | exact (congrArg Addr.block e2).symm))]
  exact hc i hi
theorem gtrans {a b c : World} {row : Option Nat} (h : a.grownBy b row) (k : b.grownBy c row) : a.grownBy c row :=
  ⟨k.os.trans h.os, k.tape.trans h.tape, k.output.trans h.output, Nat.le_trans h.size k.size, fun i hi hne => (k.block i (Nat.lt_of_lt_of_le hi h.size) hne).trans (h.block i hi hne)⟩
theorem gdrewN {a w : World} {row : Option Nat} (h : a.grownBy w row) (n : Nat) : a.grownBy (w.drewN n) row := ⟨h.os, h.tape, h.output, h.size, h.block⟩
/-- A store outside what is owned. -/
theorem Own.set {w : World} {B : Nat} {v : Value} {zs : List Int} (h : Own w B v zs) (p : Addr) (hp : ∀ g, v.ownBlock = some g → g ≠ p.block) (u : Value) : Own (w.setCell p u) B v zs := by
  rcases hv : v.ownBlock with _ | g
  · exact h.grown (grown_setCell (World.grownBy.refl w (some p.block)) p rfl u) (.inl hv)
  · exact h.grown (grown_setCell (World.grownBy.refl w (some p.block)) p rfl u) (.inr (by rw [hv]; intro e; injection e with e; exact hp g hv e))
end Go.Proofs.Ytemollfejgmlcaa
