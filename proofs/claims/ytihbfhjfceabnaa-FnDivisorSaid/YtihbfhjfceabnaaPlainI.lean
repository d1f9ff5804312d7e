/- What FnDivisor asks: all numbers divided by their greatest divisor have none but 1. No program here. No condition but those stated. -/
import Derived.Test.YtihbfhjfceabnaaWh
import Derived.Test.YtihbfhjfceabnaaPlainE
namespace Go.Proofs.Ytihbfhjfceabnaa
open Go.RowKit

theorem gcdL_scale (ys : List Int) (d : Nat) : gcdL (ys.map fun x => x * (d : Int)) = gcdL ys * d := by
  induction ys with
  | nil => simp [gcdL]
  | cons a t ih => rw [List.map_cons, gcdL_cons, gcdL_cons, ih, Int.natAbs_mul, Int.natAbs_natCast, Nat.gcd_mul_right]
theorem divG_parts {zs : List Int} (h : 1 ≤ divG zs) : (∀ x ∈ zs, -1000000000 ≤ x ∧ x ≤ 1000000000) ∧ divG zs = (gcdL zs : Int) ∧ divG zs ≤ 1000000000 := by
  unfold divG at h ⊢
  rcases hp : zs.all partB with _ | _
  · rw [hp] at h; simp at h
  · rw [hp] at h
    simp only [if_true] at h ⊢
    have hx : ∀ x ∈ zs, -1000000000 ≤ x ∧ x ≤ 1000000000 := fun x hx => by
      have := List.all_eq_true.1 hp x hx
      simpa [partB] using this
    refine ⟨hx, trivial, ?_⟩
    by_cases hz : ∀ x ∈ zs, x = 0
    · have := gcdL_zero_iff.2 hz; omega
    · obtain ⟨x, hm, hne⟩ : ∃ x, x ∈ zs ∧ x ≠ 0 := Classical.byContradiction fun hn => hz fun x hx => Classical.byContradiction fun h0 => hn ⟨x, hx, h0⟩
      have h1 := Int.le_of_dvd (b := (x.natAbs : Int)) (by omega) (Int.dvd_natAbs.2 (gcdL_dvd x hm))
      have h2 := hx x hm
      omega
def divL (zs : List Int) (d : Int) (k : Nat) : List Int := (zs.take k).map fun x => x.tdiv d
theorem divL_len (zs : List Int) (d : Int) (k : Nat) (h : k ≤ zs.length) : (divL zs d k).length = k := by simp [divL]; omega
theorem divL_succ {zs : List Int} {d : Int} {k : Nat} (h : k < zs.length) : divL zs d (k + 1) = divL zs d k ++ [(zs.getD k 0).tdiv d] := by
  unfold divL
  rw [take_snoc_int h, List.map_append]
  rfl
theorem tdiv_part {x d : Int} (hx : -1000000000 ≤ x ∧ x ≤ 1000000000) : -1000000000 ≤ x.tdiv d ∧ x.tdiv d ≤ 1000000000 := by
  have h : (x.tdiv d).natAbs ≤ x.natAbs := by rw [Int.natAbs_tdiv]; exact Nat.div_le_self _ _
  omega
theorem div_mod {zs : List Int} (h : 1 ≤ divG zs) : ∀ x ∈ zs, x.tmod (divG zs) = 0 := fun x hx => by
  rw [(divG_parts h).2.1]
  exact Int.tmod_eq_zero_of_dvd (gcdL_dvd x hx)
theorem div_one {zs : List Int} (h : 1 ≤ divG zs) : divG (divL zs (divG zs) zs.length) = 1 := by
  obtain ⟨hb, he, _⟩ := divG_parts h
  have hp : (divL zs (divG zs) zs.length).all partB = true := by
    rw [List.all_eq_true]
    intro y hy
    unfold divL at hy
    rw [List.take_length] at hy
    obtain ⟨x, hx, rfl⟩ := List.mem_map.1 hy
    have := tdiv_part (d := divG zs) (hb x hx)
    simpa [partB] using this
  have hs : (divL zs (divG zs) zs.length).map (fun x => x * (gcdL zs : Int)) = zs := by
    unfold divL
    rw [List.take_length, List.map_map]
    conv => rhs; rw [← List.map_id zs]
    refine List.map_congr_left fun x hx => ?_
    show x.tdiv (divG zs) * (gcdL zs : Int) = x
    rw [he]
    exact Int.tdiv_mul_cancel (gcdL_dvd x hx)
  have h1 := gcdL_scale (divL zs (divG zs) zs.length) (gcdL zs)
  rw [hs] at h1
  have h2 : gcdL (divL zs (divG zs) zs.length) = 1 := by
    have h3 : 0 < gcdL zs := by omega
    have : 1 * gcdL zs = gcdL (divL zs (divG zs) zs.length) * gcdL zs := by omega
    exact (Nat.eq_of_mul_eq_mul_right h3 this).symm
  unfold divG at *
  rw [hp, if_pos rfl]
  omega
theorem div_more {zs : List Int} (h : 1 ≤ divG zs) : divG (zs ++ [divG zs]) = divG zs := by
  obtain ⟨hb, he, hd⟩ := divG_parts h
  have hp : (zs ++ [divG zs]).all partB = true := by
    rw [List.all_eq_true]
    intro y hy
    rcases List.mem_append.1 hy with h1 | h1
    · have := hb y h1; simpa [partB] using this
    · rw [List.mem_singleton.1 h1]; simp only [partB, decide_eq_true_eq]; omega
  generalize hD : divG zs = D at *
  have e : divG (zs ++ [D]) = (gcdL (zs ++ [D]) : Int) := by unfold divG; rw [hp, if_pos rfl]
  rw [e, gcdL_snoc, ← he, Int.gcd_self]
  omega
end Go.Proofs.Ytihbfhjfceabnaa
