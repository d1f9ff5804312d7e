/- Finite facts on sets of answers. No program here. No condition. -/
import Derived.Test.YtihbfhjfceabnaaPlainA
namespace Go.Proofs.Ytihbfhjfceabnaa
open Go.RowKit

theorem fin16 {Q : Int → Prop} [∀ a, Decidable (Q a)] (h : ∀ k : Fin 16, Q ((k.val : Nat) : Int)) {a : Int} (ha : 0 ≤ a ∧ a ≤ 15) : Q a := by
  have := h ⟨a.toNat, by omega⟩
  rwa [show ((a.toNat : Nat) : Int) = a by omega] at this
theorem fin16b {Q : Int → Int → Prop} (h : ∀ k j : Fin 16, Q ((k.val : Nat) : Int) ((j.val : Nat) : Int)) {a b : Int} (ha : 0 ≤ a ∧ a ≤ 15) (hb : 0 ≤ b ∧ b ≤ 15) : Q a b := by
  have := h ⟨a.toNat, by omega⟩ ⟨b.toNat, by omega⟩
  rwa [show ((a.toNat : Nat) : Int) = a by omega, show ((b.toNat : Nat) : Int) = b by omega] at this
/-- What FnSets asks of a set of a question. -/
def SetsLaw (s a : Int) : Prop := validB s a = true → otherI s (otherI s a) = a ∧ cntI a + cntI (otherI s a) = s ∧ hasB a (otherI s a) = (otherI s a == 0) ∧ sgnI a * sgnI (otherI s a) = sgnI (2 ^ s.toNat - 1)
instance (s a : Int) : Decidable (SetsLaw s a) := by unfold SetsLaw; infer_instance
theorem sets_law {s a : Int} (h : validB s a = true) : otherI s (otherI s a) = a ∧ cntI a + cntI (otherI s a) = s ∧ hasB a (otherI s a) = (otherI s a == 0) ∧ sgnI a * sgnI (otherI s a) = sgnI (2 ^ s.toNat - 1) := by
  obtain ⟨h1, h2⟩ := validB_of h
  have hr : 0 ≤ a ∧ a ≤ 15 := setB_of h1 (by simpa [setB] using h2)
  have : SetsLaw s a := by
    rcases four h1 with rfl | rfl | rfl | rfl
    · exact fin16 (Q := SetsLaw 1) (by decide +kernel) hr
    · exact fin16 (Q := SetsLaw 2) (by decide +kernel) hr
    · exact fin16 (Q := SetsLaw 3) (by decide +kernel) hr
    · exact fin16 (Q := SetsLaw 4) (by decide +kernel) hr
  exact this h
theorem cntI_range (a : Int) : -1 ≤ cntI a ∧ cntI a ≤ 4 := by
  have := @cnt_range a
  unfold cntI
  split <;> omega
theorem sgnI_range (a : Int) : -1 ≤ sgnI a ∧ sgnI a ≤ 1 := by
  unfold sgnI sgn
  split <;> omega
end Go.Proofs.Ytihbfhjfceabnaa
