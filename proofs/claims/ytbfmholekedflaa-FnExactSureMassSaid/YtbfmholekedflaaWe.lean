/- Contracts of chapter 2: lowest terms and what is reckoned by them, the program's and the reference's. Conditions: as stated. -/
import Derived.Test.YtbfmholekedflaaWc
namespace Go.Proofs.Ytbfmholekedflaa
open Go.RowKit

/-- A number that is kept only if the flag says so. -/
def sel (b : Bool) (x : Int) : Int := if b then x else 0

theorem quo_small {a d : Int} (h : -4611686018427387904 ≤ a ∧ a ≤ 4611686018427387904) : IntKind.i64.wrap (a.tdiv d) = a.tdiv d := by
  have h1 : (a.tdiv d).natAbs ≤ a.natAbs := by
    rw [Int.natAbs_tdiv]
    exact Nat.div_le_self _ _
  exact IntWalk.i64_in _ (by omega)
theorem dv_neg {a b : Int} (h : b < 0) : dv a b = -(Int.gcd a b : Int) := by simp [dv, h]
theorem dv_pos {a b : Int} (h : ¬ b < 0) : dv a b = (Int.gcd a b : Int) := by simp [dv, h]
theorem gcd_small {a b : Int} (h : b ≠ 0) (hb : Small b) : 1 ≤ (Int.gcd a b : Int) ∧ (Int.gcd a b : Int) ≤ 4611686018427387904 := by
  have h1 := gcd_pos_right (a := a) h
  have h2 : Int.gcd a b ≤ b.natAbs := Nat.le_of_dvd (by omega) (Int.gcd_dvd_natAbs_right a b)
  unfold Small at hb
  omega

theorem tdiv_small {a : Int} {G : Nat} (h : -4611686018427387904 ≤ a ∧ a ≤ 4611686018427387904) : -4611686018427387904 ≤ a.tdiv (G : Int) ∧ a.tdiv (G : Int) ≤ 4611686018427387904 := by
  have h1 : (a.tdiv (G : Int)).natAbs ≤ a.natAbs := by
    rw [Int.natAbs_tdiv]
    exact Nat.div_le_self _ _
  omega
end Go.Proofs.Ytbfmholekedflaa
