/- Contracts of chapter 1: subsets, the text of a set parsed. Conditions: as stated. -/
import Derived.Test.YtihbfhjfceabnaaWa
import Derived.Test.YtihbfhjfceabnaaWm
namespace Go.Proofs.Ytihbfhjfceabnaa
open Go.RowKit

/-- The sets below k whose answers are all in a. -/
def subs (a : Int) (k : Nat) : List Int := ((List.range k).map fun (j : Nat) => (j : Int)).filter fun b => lessI b a == 0
def sbs (a : Int) : List Int := if setB 4 a then subs a (a.toNat + 1) else []
theorem subs_succ (a : Int) (k : Nat) : subs a (k + 1) = subs a k ++ (if lessI (k : Int) a == 0 then [(k : Int)] else []) := by
  unfold subs
  rw [List.range_succ, List.map_append, List.filter_append]
  simp only [List.map_cons, List.map_nil, List.filter_cons, List.filter_nil]
theorem subs_yes {a : Int} {k : Nat} (h : (lessI (k : Int) a == 0) = true) : subs a (k + 1) = subs a k ++ [(k : Int)] := by rw [subs_succ, if_pos h]
theorem subs_no {a : Int} {k : Nat} (h : (lessI (k : Int) a == 0) = false) : subs a (k + 1) = subs a k := by rw [subs_succ, if_neg (by simp [h])]; simp
theorem subs_len (a : Int) (k : Nat) : (subs a k).length ≤ k := by
  unfold subs
  exact Nat.le_trans (List.length_filter_le _ _) (by simp)
theorem subs_fits {a : Int} {k : Nat} (hk : k ≤ 17) : ∀ x ∈ subs a k, Fits x := by
  intro x hx
  unfold subs at hx
  obtain ⟨j, hj, rfl⟩ := List.mem_map.1 (List.mem_filter.1 hx).1
  have := List.mem_range.1 hj
  unfold Fits
  omega

/-- No set below k has this text. -/
def NoTxt (s : ByteArray) (k : Nat) : Prop := ∀ j : Nat, j < k → fmt (j : Int) ≠ s
/-- The result of parsing. -/
def ParsePost (s : ByteArray) (w : World) (e : Ending) (w' : World) : Prop :=
  w = w' ∧ ((∃ a : Nat, a ≤ 15 ∧ fmt (a : Int) = s ∧ NoTxt s a ∧ e = .returned (.tuple #[.int .i64 (a : Int), .bool true])) ∨ (NoTxt s 16 ∧ e = .returned (.tuple #[.int .i64 0, .bool false])))
theorem NoTxt.next {s : ByteArray} {k : Nat} (h : NoTxt s k) (hk : fmt (k : Int) ≠ s) : NoTxt s (k + 1) := by
  intro j hj
  rcases Nat.lt_or_ge j k with h1 | h1
  · exact h j h1
  · have : j = k := by omega
    subst this
    exact hk
theorem fmt_in {a : Int} (h : 0 ≤ a ∧ a ≤ 15) : fmt a = txt a := by simp [fmt, set4_yes h]
end Go.Proofs.Ytihbfhjfceabnaa
