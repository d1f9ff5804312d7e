/- Plain words of chapter 1: what its functions compute. No program here. No condition. -/
import Derived.Test.YtihbfhjfceabnaaMem
namespace Go.Proofs.Ytihbfhjfceabnaa
open Go.RowKit

/-- A number of answers. -/
def sizeB (x : Int) : Bool := decide (1 ≤ x ∧ x ≤ 4)
/-- A set of so many answers. -/
def setB (s a : Int) : Bool := decide (0 ≤ a ∧ a < 2 ^ s.toNat)
theorem sizeB_yes {x : Int} (h : 1 ≤ x ∧ x ≤ 4) : sizeB x = true := by simp [sizeB, h]
theorem sizeB_no {x : Int} (h : ¬ (1 ≤ x ∧ x ≤ 4)) : sizeB x = false := by simp only [sizeB, decide_eq_false_iff_not]; exact h
theorem sizeB_iff {x : Int} : sizeB x = true ↔ 1 ≤ x ∧ x ≤ 4 := by simp [sizeB]
theorem set4_yes {a : Int} (h : 0 ≤ a ∧ a ≤ 15) : setB 4 a = true := by simp [setB]; omega
theorem set4_no {a : Int} (h : ¬ (0 ≤ a ∧ a ≤ 15)) : setB 4 a = false := by
  simp only [setB, decide_eq_false_iff_not]
  intro k
  have : (2 : Int) ^ (4 : Int).toNat = 16 := by decide
  omega
theorem four {s : Int} (h : 1 ≤ s ∧ s ≤ 4) : s = 1 ∨ s = 2 ∨ s = 3 ∨ s = 4 := by omega
theorem setB_of {s a : Int} (h : 1 ≤ s ∧ s ≤ 4) (ha : setB s a = true) : 0 ≤ a ∧ a ≤ 15 := by
  simp only [setB, decide_eq_true_eq] at ha
  rcases four h with rfl | rfl | rfl | rfl <;> simp at ha <;> omega
theorem sixteen {a : Int} (h : 0 ≤ a ∧ a ≤ 15) : a = 0 ∨ a = 1 ∨ a = 2 ∨ a = 3 ∨ a = 4 ∨ a = 5 ∨ a = 6 ∨ a = 7 ∨ a = 8 ∨ a = 9 ∨ a = 10 ∨ a = 11 ∨ a = 12 ∨ a = 13 ∨ a = 14 ∨ a = 15 := by omega

/-- The letters of a set. -/
def txtL (a : Nat) : List UInt8 :=
  if a = 0 then [45] else (if a % 2 = 1 then [97] else []) ++ ((if a / 2 % 2 = 1 then [98] else []) ++ ((if a / 4 % 2 = 1 then [99] else []) ++ (if a / 8 % 2 = 1 then [100] else [])))
def txt (a : Int) : ByteArray := ⟨(txtL a.toNat).toArray⟩
/-- How many answers a set has. -/
def cnt (a : Int) : Int := a % 2 + (a / 2 % 2 + (a / 4 % 2 + a / 8 % 2))
def validB (s a : Int) : Bool := sizeB s && setB s a
def fmt (a : Int) : ByteArray := if setB 4 a then txt a else ByteArray.empty
def cntI (a : Int) : Int := if setB 4 a then cnt a else -1
def sgn (a : Int) : Int := 1 - 2 * (cnt a % 2)
def sgnI (a : Int) : Int := if setB 4 a then sgn a else 0
def otherI (s a : Int) : Int := if validB s a then 2 ^ s.toNat - 1 - a else -1
/-- b without the answers of a: the walk's own form. -/
def lessI (b a : Int) : Int := bits .andNot .i64 b a
def hasB (a b : Int) : Bool := setB 4 a && (setB 4 b && (lessI b a == 0))
theorem cnt_range {a : Int} : 0 ≤ cnt a ∧ cnt a ≤ 4 := by unfold cnt; omega
theorem validB_of {s a : Int} (h : validB s a = true) : (1 ≤ s ∧ s ≤ 4) ∧ (0 ≤ a ∧ a < 2 ^ s.toNat) := by
  simpa [validB, sizeB, setB] using h
theorem validB_mk {s a : Int} (h : 1 ≤ s ∧ s ≤ 4) (ha : 0 ≤ a ∧ a < 2 ^ s.toNat) : validB s a = true := by
  simp [validB, sizeB, setB, h, ha]
theorem setB4_iff {a : Int} : setB 4 a = true ↔ 0 ≤ a ∧ a ≤ 15 := by
  constructor
  · intro h
    exact setB_of (by omega) h
  · exact set4_yes
end Go.Proofs.Ytihbfhjfceabnaa
