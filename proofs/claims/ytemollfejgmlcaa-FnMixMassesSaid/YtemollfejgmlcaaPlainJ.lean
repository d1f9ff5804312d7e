/- What FnKinds asks: the focal sets of a mass ascend; those of a nested mass each have the one before. No program here. No condition but those stated. -/
import Derived.Test.YtemollfejgmlcaaPlainE
namespace Go.Proofs.Ytemollfejgmlcaa
open Go.RowKit

theorem focal_sorted (zs : List Int) (k : Nat) : (focal zs k).Pairwise (· < ·) := by
  unfold focal
  rw [List.pairwise_map]
  refine List.Pairwise.imp (fun h => by omega) (List.Pairwise.filter _ List.pairwise_lt_range)
theorem focal_lt {zs : List Int} {n i j : Nat} (hij : i < j) (hj : j < (focal zs n).length) : (focal zs n).getD i 0 < (focal zs n).getD j 0 := by
  have h := List.pairwise_iff_getElem.1 (focal_sorted zs n) i j (by omega) hj hij
  rwa [List.getD_eq_getElem?_getD, List.getElem?_eq_getElem (by omega), List.getD_eq_getElem?_getD, List.getElem?_eq_getElem hj]
theorem focal_some {s : Int} {zs : List Int} (h : massB s zs = true) : 1 ≤ (focal zs zs.length).length := by
  rcases Nat.eq_zero_or_pos (focal zs zs.length).length with h0 | h0
  · exfalso
    have hw := (massB_of h).2.2.2.1
    have hz : ∀ x ∈ zs, x ≤ 0 := fun x hx => by
      obtain ⟨j, hj, e⟩ := List.getElem_of_mem hx
      by_cases hx0 : x = 0
      · omega
      · have := focal_of (zs := zs) (k := zs.length) hj (by rw [List.getD_eq_getElem?_getD, List.getElem?_eq_getElem hj]; show zs[j] ≠ 0; rw [e]; exact hx0)
        rw [List.length_eq_zero_iff.1 h0] at this
        cases this
    have := whole_le (M := 0) hz
    omega
  · exact h0
def compLaw (a b : Int) : Prop := compB a b = true → b < a → hasB a b = true ∧ cnt b < cnt a ∧ (oneB a && oneB b) = false
instance (a b : Int) : Decidable (compLaw a b) := by unfold compLaw; infer_instance
theorem comp_law {a b : Int} (ha : 0 ≤ a ∧ a ≤ 15) (hb : 0 ≤ b ∧ b ≤ 15) : compLaw a b := fin16b' (Q := compLaw) (by decide +kernel) ha hb
theorem cnt_le {s x : Int} (hs : 1 ≤ s ∧ s ≤ 4) (hx : 0 ≤ x ∧ x < 2 ^ s.toNat) : cnt x ≤ s := by
  unfold cnt
  rcases two_pow_cases hs with ⟨e, h⟩ | ⟨e, h⟩ | ⟨e, h⟩ | ⟨e, h⟩ <;> (rw [h] at hx; omega)
theorem kinds_step {s : Int} {zs : List Int} (h : massB s zs = true) (hn : nestedB s zs = true) {i j : Nat} (hij : i < j) (hj : j < (focal zs zs.length).length) :
    hasB ((focal zs zs.length).getD j 0) ((focal zs zs.length).getD i 0) = true ∧ cnt ((focal zs zs.length).getD i 0) < cnt ((focal zs zs.length).getD j 0) ∧ (oneB ((focal zs zs.length).getD j 0) && oneB ((focal zs zs.length).getD i 0)) = false := by
  have hl := massB_len h
  have r1 := focal_range (zs := zs) hl.2 hj
  have r2 := focal_range (zs := zs) hl.2 (show i < (focal zs zs.length).length by omega)
  unfold nestedB at hn
  rw [Bool.and_eq_true] at hn
  have h1 := List.all_eq_true.1 hn.2 _ (getD_mem hj)
  have h2 := List.all_eq_true.1 h1 _ (getD_mem (show i < (focal zs zs.length).length by omega))
  exact comp_law r1 r2 h2 (focal_lt hij hj)
theorem kinds_nested {s : Int} {zs : List Int} (h : massB s zs = true) (hn : nestedB s zs = true) : ((focal zs zs.length).length : Int) ≤ s + 1 := by
  have h1 := focal_some h
  have hk : ∀ k, k < (focal zs zs.length).length → (k : Int) ≤ cnt ((focal zs zs.length).getD k 0) := by
    intro k
    induction k with
    | zero => intro _; exact cnt_range.1
    | succ k ih =>
      intro hk
      have := ih (by omega)
      have := (kinds_step h hn (show k < k + 1 by omega) hk).2.1
      omega
  have h2 := hk ((focal zs zs.length).length - 1) (by omega)
  obtain ⟨j, hj, hlt⟩ := focal_get (zs := zs) (n := zs.length) (show (focal zs zs.length).length - 1 < (focal zs zs.length).length by omega)
  obtain ⟨hs, hN, _⟩ := massB_of h
  have h3 := cnt_le (x := (focal zs zs.length).getD ((focal zs zs.length).length - 1) 0) hs (by rw [hj, ← hN]; omega)
  omega
theorem kinds_chance {s : Int} {zs : List Int} (hc : chanceB s zs = true) : normalB s zs = true := by
  unfold chanceB at hc
  rw [Bool.and_eq_true] at hc
  unfold normalB
  rw [hc.1, Bool.true_and]
  rcases h0 : zs.getD 0 0 == 0 with _ | _
  · exfalso
    have hl := massB_len hc.1
    have := focal_of (zs := zs) (k := zs.length) (j := 0) (by omega) (by simpa using h0)
    have h1 := List.all_eq_true.1 hc.2 _ this
    exact absurd h1 (by decide)
  · rfl
theorem kinds_one {s : Int} {zs : List Int} (hc : chanceB s zs = true) (hn : nestedB s zs = true) : (focal zs zs.length).length = 1 := by
  have hm : massB s zs = true := by unfold chanceB at hc; rw [Bool.and_eq_true] at hc; exact hc.1
  have h1 := focal_some hm
  rcases Nat.lt_or_ge 1 (focal zs zs.length).length with h2 | h2
  · exfalso
    have h3 := (kinds_step hm hn (show 0 < 1 by omega) h2).2.2
    unfold chanceB at hc
    rw [Bool.and_eq_true] at hc
    have e1 := List.all_eq_true.1 hc.2 _ (getD_mem h2)
    have e0 := List.all_eq_true.1 hc.2 _ (getD_mem (show 0 < (focal zs zs.length).length by omega))
    rw [e1, e0] at h3
    cases h3
  · omega
theorem kinds_normal {s : Int} {zs : List Int} (hm : massB s zs = true) : normalB s zs = ((focal zs zs.length).getD 0 0 != 0) := by
  have h1 := focal_some hm
  have hl := massB_len hm
  have hr := focal_range (zs := zs) hl.2 (show 0 < (focal zs zs.length).length by omega)
  unfold normalB
  rw [hm, Bool.true_and]
  by_cases h0 : zs.getD 0 0 = 0
  · have hne : (focal zs zs.length).getD 0 0 ≠ 0 := by
      obtain ⟨j, e, _, hz⟩ := focal_mem _ (getD_mem (show 0 < (focal zs zs.length).length by omega))
      intro e0
      rw [e0] at e
      obtain rfl : j = 0 := by omega
      exact hz h0
    rw [h0]
    simpa using hne
  · have hm0 := focal_of (zs := zs) (k := zs.length) (j := 0) (by omega) h0
    obtain ⟨i, hi, e⟩ := List.getElem_of_mem hm0
    have e2 : (focal zs zs.length).getD i 0 = 0 := by rw [List.getD_eq_getElem?_getD, List.getElem?_eq_getElem hi]; simpa using e
    have hz : (focal zs zs.length).getD 0 0 = 0 := by
      rcases Nat.eq_zero_or_pos i with hi0 | hi0
      · rw [hi0] at e2; exact e2
      · have := focal_lt hi0 hi; omega
    have hb : (zs.getD 0 0 == 0) = false := by simpa using h0
    rw [hz, hb]
    rfl
end Go.Proofs.Ytemollfejgmlcaa
