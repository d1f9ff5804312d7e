/- Plain words of chapter 3: simple masses, means. No program here. No condition. -/
import Derived.Test.YtemollfejgmlcaaPlainE
namespace Go.Proofs.Ytemollfejgmlcaa
open Go.RowKit

theorem getD_range_map {N : Nat} (f : Nat → Int) {k : Nat} (h : k < N) : ((List.range N).map f).getD k 0 = f k := by
  rw [List.getD_eq_getElem?_getD, List.getElem?_map, List.getElem?_range h]
  rfl
theorem ext_getD {xs ys : List Int} (hl : xs.length = ys.length) (h : ∀ k, k < xs.length → xs.getD k 0 = ys.getD k 0) : xs = ys := by
  apply List.ext_getElem hl
  intro i h1 h2
  have := h i h1
  rwa [List.getD_eq_getElem?_getD, List.getElem?_eq_getElem h1, List.getD_eq_getElem?_getD, List.getElem?_eq_getElem h2] at this
theorem getD_set {xs : List Int} {i k : Nat} {v : Int} (hi : i < xs.length) : (xs.set i v).getD k 0 = if k = i then v else xs.getD k 0 := by
  rw [List.getD_eq_getElem?_getD, List.getElem?_set, List.getD_eq_getElem?_getD]
  by_cases h : i = k
  · subst h
    simp [hi]
  · rw [if_neg h, if_neg (fun e => h e.symm)]
theorem getD_replicate {N k : Nat} : (List.replicate N (0 : Int)).getD k 0 = 0 := by
  rw [List.getD_eq_getElem?_getD, List.getElem?_replicate]
  split <;> rfl
/-- The parts of a simple mass. -/
def simL (N a : Nat) (p q : Int) : List Int := (List.range N).map fun j => (if j = a then p else 0) + (if j = N - 1 then q - p else 0)
theorem simL_len (N a : Nat) (p q : Int) : (simL N a p q).length = N := by simp [simL]
theorem simL_get {N a k : Nat} {p q : Int} (h : k < N) : (simL N a p q).getD k 0 = (if k = a then p else 0) + (if k = N - 1 then q - p else 0) := by
  unfold simL
  rw [getD_range_map _ h]
theorem sim_impl {N a : Nat} {p q : Int} (ha : a < N) : ((List.replicate N (0 : Int)).set a p).set (N - 1) (((List.replicate N (0 : Int)).set a p).getD (N - 1) 0 + (q - p)) = simL N a p q := by
  apply ext_getD
  · simp [simL_len]
  · intro k hk
    have hk' : k < N := by simpa using hk
    rw [getD_set (by simp; omega), getD_set (by simp; omega), getD_set (by simp; omega), simL_get hk', getD_replicate, getD_replicate]
    by_cases h1 : k = N - 1
    · subst h1
      rw [if_pos rfl, if_pos rfl]
    · rw [if_neg h1, if_neg h1]
      split <;> omega
theorem sim_spec {N a : Nat} {p q : Int} (ha : a < N) : ((List.replicate N (0 : Int)).set (N - 1) (q - p)).set a (((List.replicate N (0 : Int)).set (N - 1) (q - p)).getD a 0 + p) = simL N a p q := by
  apply ext_getD
  · simp [simL_len]
  · intro k hk
    have hk' : k < N := by simpa using hk
    rw [getD_set (by simp; omega), getD_set (by simp; omega), getD_set (by simp; omega), simL_get hk', getD_replicate, getD_replicate]
    by_cases h1 : k = a
    · subst h1
      rw [if_pos rfl, if_pos rfl]
      omega
    · rw [if_neg h1, if_neg h1]
      omega
theorem shB_of {p q : Int} (h : shB p q = true) : (0 ≤ p ∧ p ≤ q) ∧ (1 ≤ q ∧ q ≤ 1000000000) ∧ Int.gcd p q = 1 := by
  unfold shB at h
  rw [Bool.and_eq_true] at h
  obtain ⟨h1, h2⟩ := h
  have h3 := fracB_iff.1 h1
  exact ⟨inB_iff.1 h2, h3.2.1, h3.2.2⟩
theorem simL_nns {N a : Nat} {p q : Int} (h : shB p q = true) : Nns (simL N a p q) := by
  obtain ⟨h1, h2, _⟩ := shB_of h
  intro x hx
  unfold simL at hx
  obtain ⟨j, _, rfl⟩ := List.mem_map.1 hx
  split <;> split <;> omega
/-- A simple mass. -/
def simZ (s a p q : Int) : List Int := simL ((2 : Int) ^ s.toNat).toNat a.toNat p q
def simB (s a p q : Int) : Bool := validB s a && (shB p q && madeB s (simZ s a p q))
/-- The parts of a mean of two masses. -/
def mixL (p q : Int) (zs ys : List Int) : List Int := (List.range zs.length).map fun k => p * zs.getD k 0 * whole ys + (q - p) * ys.getD k 0 * whole zs
def mixB (s : Int) (zs : List Int) (t : Int) (ys : List Int) (p q : Int) : Bool :=
  massB s zs && (massB t ys && ((s == t) && (shB p q && (decide (q ≤ 1000) && madeB s (mixL p q zs ys)))))
theorem mixL_len (p q : Int) (zs ys : List Int) : (mixL p q zs ys).length = zs.length := by simp [mixL]
theorem mixL_get {p q : Int} {zs ys : List Int} {k : Nat} (h : k < zs.length) : (mixL p q zs ys).getD k 0 = p * zs.getD k 0 * whole ys + (q - p) * ys.getD k 0 * whole zs := by
  unfold mixL
  rw [getD_range_map _ h]
theorem mul_range {a b A B : Int} (ha : 0 ≤ a ∧ a ≤ A) (hb : 0 ≤ b ∧ b ≤ B) : 0 ≤ a * b ∧ a * b ≤ A * B :=
  ⟨Int.mul_nonneg ha.1 hb.1, Int.mul_le_mul ha.2 hb.2 hb.1 (by omega)⟩
/-- All products that the mean reckons with stay small, in the program's order and in the reference's. -/
theorem mix_bounds {p q x y V W : Int} (hp : 0 ≤ p ∧ p ≤ q) (hq : q ≤ 1000) (hx : 0 ≤ x ∧ x ≤ 1000000) (hy : 0 ≤ y ∧ y ≤ 1000000) (hV : 0 ≤ V ∧ V ≤ 1000000) (hW : 0 ≤ W ∧ W ≤ 1000000) :
    (0 ≤ p * x ∧ p * x ≤ 1000000000) ∧ (0 ≤ p * x * W ∧ p * x * W ≤ 1000000000000000) ∧ (0 ≤ (q - p) * y ∧ (q - p) * y ≤ 1000000000) ∧ (0 ≤ (q - p) * y * V ∧ (q - p) * y * V ≤ 1000000000000000) ∧
    (0 ≤ x * W ∧ x * W ≤ 1000000000000) ∧ (0 ≤ y * V ∧ y * V ≤ 1000000000000) ∧ (x * W * p = p * x * W) ∧ (y * V * (q - p) = (q - p) * y * V) := by
  have h1 := mul_range (A := 1000) (B := 1000000) ⟨hp.1, by omega⟩ hx
  have h2 := mul_range (A := 1000000000) (B := 1000000) ⟨h1.1, by omega⟩ hW
  have h3 := mul_range (a := q - p) (A := 1000) (B := 1000000) ⟨by omega, by omega⟩ hy
  have h4 := mul_range (A := 1000000000) (B := 1000000) ⟨h3.1, by omega⟩ hV
  have h5 := mul_range (A := 1000000) (B := 1000000) hx hW
  have h6 := mul_range (A := 1000000) (B := 1000000) hy hV
  refine ⟨⟨h1.1, by omega⟩, ⟨h2.1, by omega⟩, ⟨h3.1, by omega⟩, ⟨h4.1, by omega⟩, ⟨h5.1, by omega⟩, ⟨h6.1, by omega⟩, ?_, ?_⟩
  · rw [Int.mul_comm (x * W) p, ← Int.mul_assoc]
  · rw [Int.mul_comm (y * V) (q - p), ← Int.mul_assoc]
theorem mass_get {s : Int} {zs : List Int} (h : massB s zs = true) (k : Nat) : 0 ≤ zs.getD k 0 ∧ zs.getD k 0 ≤ 1000000 := by
  rcases Nat.lt_or_ge k zs.length with hk | hk
  · exact partsB_get (massB_of h).2.2.1 hk
  · rw [List.getD_eq_getElem?_getD, List.getElem?_eq_none hk, Option.getD_none]
    omega
theorem mixL_nns {s t p q : Int} {zs ys : List Int} (h1 : massB s zs = true) (h2 : massB t ys = true) (h3 : shB p q = true) (h4 : q ≤ 1000) : Nns (mixL p q zs ys) := by
  have hw1 := (massB_of h1).2.2.2.1
  have hw2 := (massB_of h2).2.2.2.1
  obtain ⟨hp, _, _⟩ := shB_of h3
  intro x hx
  unfold mixL at hx
  obtain ⟨k, _, rfl⟩ := List.mem_map.1 hx
  have := mix_bounds (p := p) (q := q) hp h4 (mass_get h1 k) (mass_get h2 k) (V := whole zs) (W := whole ys) ⟨by omega, hw1.2⟩ ⟨by omega, hw2.2⟩
  omega
end Go.Proofs.Ytemollfejgmlcaa
