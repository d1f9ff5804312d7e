/- Plain words of chapter 2: exact fractions: lowest terms, their uniqueness, what sums and products do. No program here. No condition. -/
import Derived.Test.YtggonihjnipobaaDoorMem
namespace Go.Proofs.YtggonihjnipobaaDoor
open Go.RowKit

/-- A valid fraction. -/
def fracB (x y : Int) : Bool := decide (-1000000000 ≤ x ∧ x ≤ 1000000000 ∧ 1 ≤ y ∧ y ≤ 1000000000 ∧ Int.gcd x y = 1)
def partB (x : Int) : Bool := decide (-1000000000 ≤ x ∧ x ≤ 1000000000)
/-- What both numbers are divided by. -/
def dv (num den : Int) : Int := if den < 0 then -(Int.gcd num den : Int) else (Int.gcd num den : Int)
def lowX (num den : Int) : Int := num.tdiv (dv num den)
def lowY (num den : Int) : Int := den.tdiv (dv num den)
def lowB (num den : Int) : Bool := fracB (lowX num den) (lowY num den)
theorem fracB_iff {x y : Int} : fracB x y = true ↔ (-1000000000 ≤ x ∧ x ≤ 1000000000) ∧ (1 ≤ y ∧ y ≤ 1000000000) ∧ Int.gcd x y = 1 := by
  simp [fracB, and_assoc]

theorem gcd_pos_right {a b : Int} (h : b ≠ 0) : 0 < Int.gcd a b := by
  rcases Nat.eq_zero_or_pos (Int.gcd a b) with h0 | h0
  · exact absurd (Int.gcd_eq_zero_iff.1 h0).2 h
  · exact h0
theorem dv_dvd_left (a b : Int) : dv a b ∣ a := by
  unfold dv
  split
  · exact Int.neg_dvd.2 (Int.gcd_dvd_left ..)
  · exact Int.gcd_dvd_left ..
theorem dv_dvd_right (a b : Int) : dv a b ∣ b := by
  unfold dv
  split
  · exact Int.neg_dvd.2 (Int.gcd_dvd_right ..)
  · exact Int.gcd_dvd_right ..
theorem low_mul_x (a b : Int) : lowX a b * dv a b = a := Int.tdiv_mul_cancel (dv_dvd_left a b)
theorem low_mul_y (a b : Int) : lowY a b * dv a b = b := Int.tdiv_mul_cancel (dv_dvd_right a b)
theorem dv_abs (a b : Int) : (dv a b).natAbs = Int.gcd a b := by
  unfold dv
  split <;> simp
theorem dv_ne {a b : Int} (h : b ≠ 0) : dv a b ≠ 0 := by
  have := gcd_pos_right (a := a) h
  have e := dv_abs a b
  intro h0
  rw [h0] at e
  simp at e
  omega
theorem lowY_pos {a b : Int} (h : b ≠ 0) : 0 < lowY a b := by
  have hm := low_mul_y a b
  have hg := gcd_pos_right (a := a) h
  have hp : 0 < dv a b ∧ 0 < b ∨ dv a b < 0 ∧ b < 0 := by
    unfold dv
    split <;> omega
  rcases hp with ⟨h1, h2⟩ | ⟨h1, h2⟩
  · rcases Int.lt_or_le 0 (lowY a b) with h3 | h3
    · exact h3
    · have := Int.mul_nonpos_of_nonpos_of_nonneg h3 (Int.le_of_lt h1)
      omega
  · rcases Int.lt_or_le 0 (lowY a b) with h3 | h3
    · exact h3
    · have := Int.mul_nonneg_of_nonpos_of_nonpos h3 (Int.le_of_lt h1)
      omega
theorem low_gcd {a b : Int} (h : b ≠ 0) : Int.gcd (lowX a b) (lowY a b) = 1 := by
  have hg := gcd_pos_right (a := a) h
  have e : Int.gcd (lowX a b * dv a b) (lowY a b * dv a b) = Int.gcd (lowX a b) (lowY a b) * (dv a b).natAbs := Int.gcd_mul_right ..
  rw [low_mul_x, low_mul_y, dv_abs] at e
  rcases Nat.eq_zero_or_pos (Int.gcd (lowX a b) (lowY a b)) with h0 | h0
  · rw [h0] at e
    omega
  · have : 1 * Int.gcd a b = Int.gcd (lowX a b) (lowY a b) * Int.gcd a b := by omega
    exact (Nat.eq_of_mul_eq_mul_right hg this).symm
theorem low_cross (a b : Int) : lowX a b * b = a * lowY a b := by
  have hx := low_mul_x a b
  have hy := low_mul_y a b
  generalize lowX a b = x at *
  generalize lowY a b = y at *
  generalize dv a b = d at *
  subst hx hy
  rw [Int.mul_comm y d, ← Int.mul_assoc]

theorem red_unique {x y x' y' : Int} (hy : 0 < y) (hy' : 0 < y') (g : Int.gcd x y = 1) (g' : Int.gcd x' y' = 1) (h : x * y' = x' * y) : x = x' ∧ y = y' := by
  have d1 : y ∣ y' := by
    have : y ∣ x * y' := ⟨x', by rw [h, Int.mul_comm]⟩
    have h2 := Int.dvd_gcd_mul_iff_dvd_mul.2 this
    rw [Int.gcd_comm, g] at h2
    simpa using h2
  have d2 : y' ∣ y := by
    have : y' ∣ x' * y := ⟨x, by rw [← h, Int.mul_comm]⟩
    have h2 := Int.dvd_gcd_mul_iff_dvd_mul.2 this
    rw [Int.gcd_comm, g'] at h2
    simpa using h2
  have e : y = y' := Int.le_antisymm (Int.le_of_dvd hy' d1) (Int.le_of_dvd hy d2)
  subst e
  exact ⟨Int.eq_of_mul_eq_mul_right (by omega) h, rfl⟩
theorem low_eq {a b x y : Int} (h : b ≠ 0) (hy : 0 < y) (g : Int.gcd x y = 1) (hc : x * b = a * y) : lowX a b = x ∧ lowY a b = y := by
  refine red_unique (lowY_pos h) hy (low_gcd h) g ?_
  have h1 := low_cross a b
  generalize lowX a b = p at *
  generalize lowY a b = q at *
  refine Int.eq_of_mul_eq_mul_right h ?_
  grind
/-- A valid fraction is its own lowest terms. -/
theorem low_self {x y : Int} (h : fracB x y = true) : lowX x y = x ∧ lowY x y = y := by
  obtain ⟨_, hy, g⟩ := fracB_iff.1 h
  exact low_eq (by omega) (by omega) g rfl
theorem lowB_of {a b x y : Int} (h : b ≠ 0) (hf : fracB x y = true) (hc : x * b = a * y) : lowX a b = x ∧ lowY a b = y ∧ lowB a b = true := by
  obtain ⟨_, hy, g⟩ := fracB_iff.1 hf
  obtain ⟨e1, e2⟩ := low_eq h (by omega) g hc
  exact ⟨e1, e2, by unfold lowB; rw [e1, e2]; exact hf⟩
theorem same_frac {x y x' y' : Int} (h : fracB x y = true) (h' : fracB x' y' = true) (hc : x * y' = x' * y) : x = x' ∧ y = y' := by
  obtain ⟨_, hy, g⟩ := fracB_iff.1 h
  obtain ⟨_, hy', g'⟩ := fracB_iff.1 h'
  exact red_unique (by omega) (by omega) g g' hc
theorem prod_le {a b A B : Int} (h1 : -A ≤ a) (h2 : a ≤ A) (h3 : -B ≤ b) (h4 : b ≤ B) : -(A * B) ≤ a * b ∧ a * b ≤ A * B := by
  have hA : 0 ≤ A := by omega
  have hB : 0 ≤ B := by omega
  have h := Int.natAbs_mul a b
  have ha : a.natAbs ≤ A.toNat := by omega
  have hb : b.natAbs ≤ B.toNat := by omega
  have hm : (a * b).natAbs ≤ A.toNat * B.toNat := by rw [h]; exact Nat.mul_le_mul ha hb
  have hc : ((A.toNat * B.toNat : Nat) : Int) = A * B := by
    rw [Int.natCast_mul, Int.toNat_of_nonneg hA, Int.toNat_of_nonneg hB]
  omega
theorem gcd_step (d x : Int) : Int.gcd x (d.tmod x) = Int.gcd d x := by
  rw [Int.gcd_comm d x]
  unfold Int.gcd
  rw [Int.natAbs_tmod, Nat.gcd_comm x.natAbs (d.natAbs % x.natAbs), ← Nat.gcd_rec]
theorem tmod_abs_lt (d x : Int) (h : x ≠ 0) : (d.tmod x).natAbs < x.natAbs := by
  rw [Int.natAbs_tmod]
  exact Nat.mod_lt _ (by omega)
theorem gcd_zero (d : Int) : (Int.gcd d 0 : Int) = max d (-d) := by
  rw [Int.gcd_zero_right]
  omega
/-- The greatest divisor of a list. -/
def gcdL (zs : List Int) : Nat := zs.foldl (fun d x => Int.gcd (d : Int) x) 0
theorem gcdL_snoc (zs : List Int) (x : Int) : gcdL (zs ++ [x]) = Int.gcd (gcdL zs : Int) x := by simp [gcdL]
theorem gcdL_two (x y : Int) : gcdL [x, y] = Int.gcd x y := by
  show Int.gcd ((Int.gcd ((0 : Nat) : Int) x : Nat) : Int) y = Int.gcd x y
  unfold Int.gcd
  simp
/-- All numbers are small enough for exact sums of products. -/
def Small (x : Int) : Prop := -4611686018427387904 ≤ x ∧ x ≤ 4611686018427387904
end Go.Proofs.YtggonihjnipobaaDoor
