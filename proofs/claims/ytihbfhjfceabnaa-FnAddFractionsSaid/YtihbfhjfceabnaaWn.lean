/- What FnAddFractions and FnTimesFractions ask. No condition beyond those stated. -/
import Derived.Test.YtihbfhjfceabnaaWl
namespace Go.Proofs.Ytihbfhjfceabnaa
open Go.RowKit

theorem cancel {x y z : Int} (hz : 0 < z) (h : x * z = y * z) : x = y := Int.eq_of_mul_eq_mul_right (by omega) h
theorem frac_pos {x y : Int} (h : fracB x y = true) : 0 < y := by have := (fracB_iff.1 h).2.1; omega
/-- The sum's own law, the result in lowest terms (X, Y). -/
theorem add_yes {a b c d : Int} (h : addB a b c d = true) : ∃ X Y, lowX (a * d + c * b) (b * d) = X ∧ lowY (a * d + c * b) (b * d) = Y ∧ fracB a b = true ∧ fracB c d = true ∧ fracB X Y = true ∧ X * (b * d) = (a * d + c * b) * Y := by
  simp only [addB, Bool.and_eq_true] at h
  exact ⟨_, _, rfl, rfl, h.1, h.2.1, h.2.2, low_cross _ _⟩
theorem add_back {a b c d X Y : Int} (h1 : fracB a b = true) (h2 : fracB c d = true) (h3 : fracB X Y = true) (hc : X * (b * d) = (a * d + c * b) * Y) :
    addB X Y (-c) d = true ∧ lowX (X * d + -c * Y) (Y * d) = a ∧ lowY (X * d + -c * Y) (Y * d) = b := by
  have p1 := frac_pos h2
  have p2 := frac_pos h3
  have hM : 0 < Y * d := Int.mul_pos p2 p1
  obtain ⟨e1, e2, e3⟩ := lowB_of (a := X * d + -c * Y) (b := Y * d) (x := a) (y := b) (by omega) h1 (by grind)
  refine ⟨?_, e1, e2⟩
  simp only [addB, h3, frac_neg h2, e3, Bool.and_self]
theorem add_turn {a b c d : Int} : addB c d a b = addB a b c d ∧ lowX (c * b + a * d) (d * b) = lowX (a * d + c * b) (b * d) ∧ lowY (c * b + a * d) (d * b) = lowY (a * d + c * b) (b * d) := by
  have e1 : c * b + a * d = a * d + c * b := Int.add_comm _ _
  have e2 : d * b = b * d := Int.mul_comm _ _
  refine ⟨?_, by rw [e1, e2], by rw [e1, e2]⟩
  unfold addB
  rw [e1, e2]
  cases fracB a b <;> cases fracB c d <;> simp
theorem add_assoc' {a b c d e k X Y P Q A1 A2 C1 C2 : Int} (hb : 0 < b) (hd : 0 < d) (hk : 0 < k) (hY : 0 < Y) (hQ : 0 < Q)
    (h1 : X * (b * d) = (a * d + c * b) * Y) (h2 : P * (d * k) = (c * k + e * d) * Q) (h3 : A1 * (Y * k) = (X * k + e * Y) * A2) (h4 : C1 * (b * Q) = (a * Q + P * b) * C2)
    (f1 : fracB A1 A2 = true) (f2 : fracB C1 C2 = true) : A1 = C1 ∧ A2 = C2 := by
  apply same_frac f1 f2
  have r1 : A1 * (b * d * k) = (a * d * k + c * b * k + e * b * d) * A2 := cancel hY (by grind)
  have r2 : C1 * (b * d * k) = (a * d * k + c * b * k + e * b * d) * C2 := cancel hQ (by grind)
  have hz : 0 < b * d * k := Int.mul_pos (Int.mul_pos hb hd) hk
  exact cancel hz (by grind)
theorem add_less {a b c d X Y : Int} (h1 : fracB a b = true) (h2 : fracB c d = true) (h3 : fracB X Y = true) (hc : X * (b * d) = (a * d + c * b) * Y) : lessB a b X Y = decide (0 < c) := by
  have p0 := frac_pos h1
  have p1 := frac_pos h2
  have p2 := frac_pos h3
  have e : (X * b - a * Y) * d = c * (b * Y) := by grind
  have hq : 0 < b * Y := Int.mul_pos p0 p2
  simp only [lessB, h1, h3, Bool.true_and]
  rcases Int.lt_or_le 0 c with h | h
  · have h5 : 0 < c * (b * Y) := Int.mul_pos h hq
    have h6 : 0 < X * b - a * Y := by
      rcases Int.lt_or_le 0 (X * b - a * Y) with h7 | h7
      · exact h7
      · have := Int.mul_nonpos_of_nonpos_of_nonneg h7 (Int.le_of_lt p1)
        omega
    rw [decide_eq_true h, decide_eq_true (by omega)]
  · have h5 : c * (b * Y) ≤ 0 := Int.mul_nonpos_of_nonpos_of_nonneg h (Int.le_of_lt hq)
    have h6 : X * b - a * Y ≤ 0 := by
      rcases Int.lt_or_le 0 (X * b - a * Y) with h7 | h7
      · have := Int.mul_pos h7 p1
        omega
      · exact h7
    rw [decide_eq_false (by omega), decide_eq_false (by omega)]
/-- The product's. -/
theorem times_yes {a b c d : Int} (h : timesB a b c d = true) : ∃ X Y, lowX (a * c) (b * d) = X ∧ lowY (a * c) (b * d) = Y ∧ fracB a b = true ∧ fracB c d = true ∧ fracB X Y = true ∧ X * (b * d) = (a * c) * Y := by
  simp only [timesB, Bool.and_eq_true] at h
  exact ⟨_, _, rfl, rfl, h.1, h.2.1, h.2.2, low_cross _ _⟩
theorem times_turn {a b c d : Int} : timesB c d a b = timesB a b c d ∧ lowX (c * a) (d * b) = lowX (a * c) (b * d) ∧ lowY (c * a) (d * b) = lowY (a * c) (b * d) := by
  have e1 : c * a = a * c := Int.mul_comm _ _
  have e2 : d * b = b * d := Int.mul_comm _ _
  refine ⟨?_, by rw [e1, e2], by rw [e1, e2]⟩
  unfold timesB
  rw [e1, e2]
  cases fracB a b <;> cases fracB c d <;> simp
theorem times_dist {a b c d e k X Y S T A1 A2 P Q C1 C2 : Int} (hb : 0 < b) (hd : 0 < d) (hk : 0 < k) (hY : 0 < Y) (hT : 0 < T) (hQ : 0 < Q)
    (h1 : X * (b * d) = (a * c) * Y) (h2 : S * (d * k) = (c * k + e * d) * T) (h3 : A1 * (b * T) = (a * S) * A2) (h4 : P * (b * k) = (a * e) * Q) (h5 : C1 * (Y * Q) = (X * Q + P * Y) * C2)
    (f1 : fracB A1 A2 = true) (f2 : fracB C1 C2 = true) : A1 = C1 ∧ A2 = C2 := by
  apply same_frac f1 f2
  have r1 : A1 * (b * d * k) = (a * (c * k + e * d)) * A2 := cancel hT (by grind)
  have hYQ : 0 < Y * Q := Int.mul_pos hY hQ
  have r2 : C1 * (b * d * k) = (a * (c * k + e * d)) * C2 := cancel hYQ (by grind)
  have hz : 0 < b * d * k := Int.mul_pos (Int.mul_pos hb hd) hk
  exact cancel hz (by grind)
theorem over_back {a b c d X Y : Int} (h1 : fracB a b = true) (h2 : fracB c d = true) (h3 : fracB X Y = true) (hc : X * (b * d) = (a * c) * Y) (h0 : c ≠ 0) :
    overB X Y c d = true ∧ lowX (X * d) (Y * c) = a ∧ lowY (X * d) (Y * c) = b := by
  have p2 := frac_pos h3
  have hM : Y * c ≠ 0 := Int.mul_ne_zero (by omega) h0
  obtain ⟨e1, e2, e3⟩ := lowB_of (a := X * d) (b := Y * c) (x := a) (y := b) hM h1 (by grind)
  refine ⟨?_, e1, e2⟩
  simp [overB, h3, h2, e3, h0]
theorem over_no {c d X Y : Int} (h0 : c = 0) : overB X Y c d = false := by
  subst h0
  cases h1 : fracB X Y <;> cases h2 : fracB 0 d <;> simp [overB, h1, h2]
end Go.Proofs.Ytihbfhjfceabnaa
