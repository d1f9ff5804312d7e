/- Contract of the draw of a quotient; what FnFractional asks. Conditions: as stated. -/
import Derived.Test.YtggonihjnipobaaDoorWr
import Derived.Test.YtggonihjnipobaaDoorWg
import Derived.Test.YtggonihjnipobaaDoorWh
namespace Go.Proofs.YtggonihjnipobaaDoor
open Go.RowKit

theorem some_ne {a b o : Nat} (h : a ≠ b) : ∀ x y, some (⟨a, o, none⟩ : Addr) = some ⟨x, y, none⟩ → x ≠ b := by
  intro x y e
  injection e with e
  injection e with e1 e2
  omega
theorem sel_true (x : Int) : sel true x = x := rfl
theorem nal_facts {p q : Int} (h : nalB p q = true) : ∃ X Y, lowX p q = X ∧ lowY p q = Y ∧ fracB X Y = true ∧ X * q = p * Y ∧ (-1000000000 ≤ p ∧ p ≤ 1000000000) ∧ (-1000000000 ≤ q ∧ q ≤ 1000000000) ∧
    ((-1000000000 ≤ X ∧ X ≤ 1000000000) ∧ (1 ≤ Y ∧ Y ≤ 1000000000)) ∧
    (nalB (-p) (-q) = true ∧ lowX (-p) (-q) = X ∧ lowY (-p) (-q) = Y) ∧ (nalB (-p) q = true ∧ lowX (-p) q = -X ∧ lowY (-p) q = Y) ∧ divG [X, Y] = 1 := by
  simp only [nalB, Bool.and_eq_true, Bool.not_eq_true'] at h
  obtain ⟨hp, hq, h0, hl⟩ := h
  have hq0 : q ≠ 0 := by simpa using h0
  have hc := low_cross p q
  have hl2 : fracB (lowX p q) (lowY p q) = true := hl
  obtain ⟨⟨x1, x2⟩, ⟨y1, y2⟩, hg⟩ := fracB_iff.1 hl2
  have p1 : -1000000000 ≤ p ∧ p ≤ 1000000000 := by simpa [partB] using hp
  have q1 : -1000000000 ≤ q ∧ q ≤ 1000000000 := by simpa [partB] using hq
  refine ⟨lowX p q, lowY p q, rfl, rfl, hl2, hc, p1, q1, ⟨⟨x1, x2⟩, ⟨y1, y2⟩⟩, ?_, ?_, ?_⟩
  · obtain ⟨e1, e2, e3⟩ := lowB_of (a := -p) (b := -q) (x := lowX p q) (y := lowY p q) (by omega) hl2 (by rw [Int.mul_neg, hc, Int.neg_mul])
    refine ⟨?_, e1, e2⟩
    simp only [nalB, Bool.and_eq_true, Bool.not_eq_true', e3, and_true]
    refine ⟨by simp [partB]; omega, by simp [partB]; omega, by simpa using hq0⟩
  · have hf : fracB (-(lowX p q)) (lowY p q) = true := fracB_iff.2 ⟨by omega, by omega, by rw [Int.neg_gcd]; exact hg⟩
    obtain ⟨e1, e2, e3⟩ := lowB_of (a := -p) (b := q) (x := -(lowX p q)) (y := lowY p q) hq0 hf (by rw [Int.neg_mul, hc, Int.neg_mul])
    refine ⟨?_, e1, e2⟩
    simp only [nalB, Bool.and_eq_true, Bool.not_eq_true', e3, and_true]
    refine ⟨by simp [partB]; omega, hq, by simpa using hq0⟩
  · have := (divG_yes (zs := [lowX p q, lowY p q]) (by
      intro j hj
      match j with
      | 0 => simp [partB]; omega
      | 1 => simp [partB]; omega
      | k + 2 => exact absurd hj (by simp))).1
    rw [this, gcdL_two, hg]
    rfl
end Go.Proofs.YtggonihjnipobaaDoor
