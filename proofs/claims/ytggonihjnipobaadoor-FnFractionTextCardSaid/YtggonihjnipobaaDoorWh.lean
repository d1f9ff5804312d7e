/- Contracts of the greatest divisor of a list, the program's and the reference's. Conditions: as stated. -/
import Derived.Test.YtggonihjnipobaaDoorWc
namespace Go.Proofs.YtggonihjnipobaaDoor
open Go.RowKit

def divG (zs : List Int) : Int := if zs.all partB then (gcdL zs : Int) else -1
theorem divG_no {zs : List Int} {k : Nat} (h : k < zs.length) (hp : partB (zs.getD k 0) = false) : divG zs = -1 := by
  have e : zs.all partB = false := by
    rw [List.all_eq_false]
    refine ⟨zs.getD k 0, ?_, by rw [hp]; decide⟩
    rw [List.getD_eq_getElem?_getD, List.getElem?_eq_getElem h, Option.getD_some]
    exact List.getElem_mem h
  unfold divG
  rw [e]
  rfl
theorem divG_yes {zs : List Int} (h : ∀ j, j < zs.length → partB (zs.getD j 0) = true) : divG zs = (gcdL zs : Int) ∧ ∀ i, Small (zs.getD i 0) := by
  refine ⟨?_, fun i => ?_⟩
  · have e : zs.all partB = true := by
      rw [List.all_eq_true]
      intro x hx
      obtain ⟨i, hi, rfl⟩ := List.getElem_of_mem hx
      have := h i hi
      rwa [List.getD_eq_getElem?_getD, List.getElem?_eq_getElem hi, Option.getD_some] at this
    unfold divG
    rw [e]
    rfl
  · by_cases hi : i < zs.length
    · exact small_part (h i hi)
    · rw [List.getD_eq_getElem?_getD, List.getElem?_eq_none (by omega)]
      exact ⟨by simp, by simp⟩
theorem gcd_part {D : Nat} {x : Int} (hD : D ≤ 1000000000) (hx : partB x = true) : Int.gcd (D : Int) x ≤ 1000000000 := by
  by_cases h : x = 0
  · subst h
    simpa using hD
  · have := Nat.le_of_dvd (by omega) (Int.gcd_dvd_natAbs_right (D : Int) x)
    simp [partB] at hx
    omega
end Go.Proofs.YtggonihjnipobaaDoor
