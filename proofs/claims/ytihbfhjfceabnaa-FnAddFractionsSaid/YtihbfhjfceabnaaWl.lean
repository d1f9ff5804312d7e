/- What the drawn laws of fractions ask. No condition beyond those stated. -/
import Derived.Test.YtihbfhjfceabnaaWk
namespace Go.Proofs.Ytihbfhjfceabnaa
open Go.RowKit

theorem frac_neg {x y : Int} (h : fracB x y = true) : fracB (-x) y = true := by
  obtain ⟨h1, h2, h3⟩ := fracB_iff.1 h
  exact fracB_iff.2 ⟨by omega, h2, by rw [Int.neg_gcd]; exact h3⟩
theorem lowX_pos {N M : Int} (hM : 0 < M) : (0 < N → 0 < lowX N M) ∧ (N ≤ 0 → lowX N M ≤ 0) := by
  have hc := low_cross N M
  have hy := lowY_pos (a := N) (b := M) (by omega)
  refine ⟨fun hN => ?_, fun hN => ?_⟩
  · rcases Int.lt_or_le 0 (lowX N M) with h | h
    · exact h
    · have h1 : lowX N M * M ≤ 0 := Int.mul_nonpos_of_nonpos_of_nonneg h (by omega)
      have h2 : 0 < N * lowY N M := Int.mul_pos hN hy
      omega
  · rcases Int.lt_or_le 0 (lowX N M) with h | h
    · have h1 : 0 < lowX N M * M := Int.mul_pos h hM
      have h2 : N * lowY N M ≤ 0 := Int.mul_nonpos_of_nonpos_of_nonneg hN (by omega)
      omega
    · exact h
theorem less_cases {a b c d : Int} (h1 : fracB a b = true) (h2 : fracB c d = true) :
    (lessB a b c d = true ∧ lessB (-c) d (-a) b = true ∧ lessB c d a b = false ∧ 0 < lowX (c * b + -a * d) (d * b)) ∨
    (lessB a b c d = false ∧ lessB (-c) d (-a) b = false ∧ lessB c d a b = true ∧ lowX (c * b + -a * d) (d * b) ≤ 0) ∨
    ((c = a ∧ d = b) ∧ lessB a b c d = false ∧ lessB (-c) d (-a) b = false ∧ lessB c d a b = false ∧ lowX (c * b + -a * d) (d * b) ≤ 0) := by
  have hy1 := (fracB_iff.1 h1).2.1
  have hy2 := (fracB_iff.1 h2).2.1
  have hM : 0 < d * b := Int.mul_pos (by omega) (by omega)
  obtain ⟨p1, p2⟩ := lowX_pos (N := c * b + -a * d) hM
  have e1 : -c * b = -(c * b) := Int.neg_mul c b
  have e2 : -a * d = -(a * d) := Int.neg_mul a d
  have n1 := frac_neg h1
  have n2 := frac_neg h2
  rcases Int.lt_trichotomy (a * d) (c * b) with h | h | h
  · left
    refine ⟨by simp [lessB, h1, h2, h], ?_, ?_, p1 (by omega)⟩
    · simp only [lessB, n1, n2, Bool.true_and, decide_eq_true_eq]; omega
    · simp only [lessB, h1, h2, Bool.true_and, decide_eq_false_iff_not]; omega
  · right; right
    obtain ⟨e3, e4⟩ := same_frac h1 h2 h
    refine ⟨⟨e3.symm, e4.symm⟩, ?_, ?_, ?_, p2 (by omega)⟩
    · simp only [lessB, h1, h2, Bool.true_and, decide_eq_false_iff_not]; omega
    · simp only [lessB, n1, n2, Bool.true_and, decide_eq_false_iff_not]; omega
    · simp only [lessB, h1, h2, Bool.true_and, decide_eq_false_iff_not]; omega
  · right; left
    refine ⟨?_, ?_, ?_, p2 (by omega)⟩
    · simp only [lessB, h1, h2, Bool.true_and, decide_eq_false_iff_not]; omega
    · simp only [lessB, n1, n2, Bool.true_and, decide_eq_false_iff_not]; omega
    · simp only [lessB, h1, h2, Bool.true_and, decide_eq_true_eq]; omega
end Go.Proofs.Ytihbfhjfceabnaa
