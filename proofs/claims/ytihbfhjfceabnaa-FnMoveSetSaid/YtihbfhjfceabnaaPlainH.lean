/- What FnMoveSet asks: moved answers can be moved back. No program here. No condition but those stated. -/
import Derived.Test.YtihbfhjfceabnaaWv
import Derived.Test.YtihbfhjfceabnaaPlainD
namespace Go.Proofs.Ytihbfhjfceabnaa
open Go.RowKit

/-- All lists of so many numbers below a bound. -/
def listsOf (s : Nat) : Nat → List (List Int)
  | 0 => [[]]
  | n + 1 => (listsOf s n).flatMap fun t => (List.range s).map fun x : Nat => (x : Int) :: t
theorem listsOf_mem {s : Nat} : ∀ {n : Nat} {ts : List Int}, ts.length = n → (∀ i, i < n → 0 ≤ ts.getD i 0 ∧ ts.getD i 0 < (s : Int)) → ts ∈ listsOf s n := by
  intro n
  induction n with
  | zero => intro ts hl _; rw [List.length_eq_zero_iff.1 hl]; exact List.mem_singleton.2 rfl
  | succ n ih =>
    intro ts hl h
    match ts, hl with
    | x :: t, hl =>
      refine List.mem_flatMap.2 ⟨t, ih (by simpa using hl) (fun i hi => by have := h (i + 1) (by omega); simpa using this), ?_⟩
      have h0 := h 0 (by omega)
      simp only [List.getD_cons_zero] at h0
      exact List.mem_map.2 ⟨x.toNat, List.mem_range.2 (by omega), by rw [Int.toNat_of_nonneg h0.1]⟩
/-- Where each answer came from. -/
def backL (ts : List Int) (n : Nat) : Nat → List Int
  | 0 => List.replicate n 0
  | k + 1 => (backL ts n k).set (ts.getD k 0).toNat (k : Int)
theorem backL_len (ts : List Int) (n k : Nat) : (backL ts n k).length = n := by
  induction k with
  | zero => simp [backL]
  | succ k ih => rw [backL, List.length_set, ih]
theorem backL_fits (ts : List Int) (n : Nat) : ∀ k, k ≤ n → ∀ x ∈ backL ts n k, 0 ≤ x ∧ x ≤ (n : Int) := by
  intro k
  induction k with
  | zero => intro _ x hx; have := List.eq_of_mem_replicate hx; omega
  | succ k ih =>
    intro hk x hx
    rcases List.mem_or_eq_of_mem_set hx with h | h
    · exact ih (by omega) x h
    · omega
def mvB (s : Int) (n : Nat) (ts : List Int) (a : Int) : Bool :=
  !movB s a n ts || (movB s (movI s a n ts) n (backL ts n n) && (movI s (movI s a n ts) n (backL ts n n) == a && (cntI (movI s a n ts) == cntI a && (movB s (otherI s a) n ts && movI s (otherI s a) n ts == otherI s (movI s a n ts)))))
def mvAll (n : Nat) : Bool := (listsOf n n).all fun ts => (List.range 16).all fun a => mvB (n : Int) n ts (a : Int)
theorem mv1 : mvAll 1 = true := by decide +kernel
theorem mv2 : mvAll 2 = true := by decide +kernel
theorem mv3 : mvAll 3 = true := by decide +kernel
theorem mv4 : mvAll 4 = true := by decide +kernel
theorem mov_law {s a : Int} {n : Nat} {ts : List Int} (hl : ts.length = n) (h : movB s a n ts = true) :
    movB s (movI s a n ts) n (backL ts n n) = true ∧ movI s (movI s a n ts) n (backL ts n n) = a ∧ cntI (movI s a n ts) = cntI a ∧ movI s (otherI s a) n ts = otherI s (movI s a n ts) := by
  have hm := h
  unfold movB at hm
  rw [Bool.and_eq_true] at hm
  obtain ⟨hs, ha⟩ := validB_of hm.1
  obtain ⟨hn, hr⟩ := ordI_range hm.2
  have hA : 0 ≤ a ∧ a ≤ 15 := setB_of hs (by simp [setB, ha])
  have hall : mvAll n = true := by
    rcases four hs with e | e | e | e
    · rw [show n = 1 by omega]; exact mv1
    · rw [show n = 2 by omega]; exact mv2
    · rw [show n = 3 by omega]; exact mv3
    · rw [show n = 4 by omega]; exact mv4
  have h1 := List.all_eq_true.1 hall ts (listsOf_mem hl (fun i hi => by rw [hn]; exact hr i hi))
  have h2 := List.all_eq_true.1 h1 a.toNat (List.mem_range.2 (by omega))
  rw [Int.toNat_of_nonneg hA.1, hn] at h2
  unfold mvB at h2
  rw [h] at h2
  simp only [Bool.not_true, Bool.false_or, Bool.and_eq_true, beq_iff_eq] at h2
  exact ⟨h2.1, h2.2.1, h2.2.2.1, h2.2.2.2.2⟩
end Go.Proofs.Ytihbfhjfceabnaa
